/- Over of the program and of the reference, both cases in one; the bounds of what it computes. -/
import Derived.Test.YtfgkgibomgcmpaaDoorOver
import Derived.Test.YtfgkgibomgcmpaaDoorRefOver
import Derived.Test.YtfgkgibomgcmpaaDoorImgPlain
namespace Go.Proofs.YtfgkgibomgcmpaaDoor
open Go.RowKit
set_option linter.unusedVariables false

def clx (p : Px) : Px := (cl p.1, cl p.2.1, cl p.2.2.1, cl p.2.2.2)
def ovC3 (m : Int) (p q : Px) : C3 := col3 m (cl p.1, cl p.2.1, cl p.2.2.1) (cl q.1, cl q.2.1, cl q.2.2.1)
/-- The pixel q over the pixel p. -/
def ovP (m : Int) (p q : Px) : Px :=
  if alU (cl p.2.2.2) (cl q.2.2.2) = 0 then (0, 0, 0, 0)
  else (ovC (cl p.1) (cl q.1) (ovC3 m p q).1 (cl p.2.2.2) (cl q.2.2.2), ovC (cl p.2.1) (cl q.2.1) (ovC3 m p q).2.1 (cl p.2.2.2) (cl q.2.2.2), ovC (cl p.2.2.1) (cl q.2.2.1) (ovC3 m p q).2.2 (cl p.2.2.2) (cl q.2.2.2), alU (cl p.2.2.2) (cl q.2.2.2))

theorem over_any (m : Int) (p q : Px) (w : World) :
    Calls Tryd.prog 17 #[.int .i64 m, pvx p, pvx q] w fun e w' => e = .returned (pvx (ovP m p q)) ∧ Below w.heap.size w w' := by
  obtain ⟨r, g, b, a⟩ := p
  obtain ⟨r', g', b', a'⟩ := q
  by_cases h : alU (cl a) (cl a') = 0
  · have e : ovP m (r, g, b, a) (r', g', b', a') = (0, 0, 0, 0) := if_pos h
    rw [e]
    exact over_zero m r g b a r' g' b' a' w h
  · have e : ovP m (r, g, b, a) (r', g', b', a') = _ := if_neg h
    rw [e]
    exact over_pos m r g b a r' g' b' a' w h

theorem refOver_any (m : Int) (p q : Px) (w : World) :
    Calls Tryd.prog 18 #[.int .i64 m, pvx p, pvx q] w fun e w' => e = .returned (pvx (ovP m p q)) ∧ Below w.heap.size w w' := by
  obtain ⟨r, g, b, a⟩ := p
  obtain ⟨r', g', b', a'⟩ := q
  by_cases h : alU (cl a) (cl a') = 0
  · have e : ovP m (r, g, b, a) (r', g', b', a') = (0, 0, 0, 0) := if_pos h
    rw [e]
    exact refOver_zero m r g b a r' g' b' a' w h
  · have e : ovP m (r, g, b, a) (r', g', b', a') = _ := if_neg h
    rw [e]
    exact refOver_pos m r g b a r' g' b' a' w h

theorem nU_le (b s m ba sa : Int) (hb : U b) (hs : U s) (hm : U m) (hba : U ba) (hsa : U sa) : 0 ≤ nU b s m ba sa ∧ nU b s m ba sa ≤ 65535 * dU ba sa := by
  unfold U at *
  have h1 := mul_u2 sa (65535 - ba) hsa (by omega)
  have h2 := mul_u2 ba (65535 - sa) hba (by omega)
  have h3 := mul_u2 sa ba hsa hba
  have e1 : nU b s m ba sa = s * (sa * (65535 - ba)) + b * (ba * (65535 - sa)) + m * (sa * ba) := by
    unfold nU
    rw [Int.mul_assoc s, Int.mul_assoc b, Int.mul_assoc m]
  have e2 : dU ba sa = sa * (65535 - ba) + ba * (65535 - sa) + sa * ba := by
    unfold dU
    rw [Int.mul_sub, Int.mul_sub, Int.mul_add, Int.mul_comm ba sa]
    omega
  rw [e1, e2]
  generalize sa * (65535 - ba) = x at *
  generalize ba * (65535 - sa) = y at *
  generalize sa * ba = z at *
  have a1 := Int.mul_nonneg hs.1 h1.1
  have a2 := Int.mul_nonneg hb.1 h2.1
  have a3 := Int.mul_nonneg hm.1 h3.1
  have b1 := Int.mul_le_mul_of_nonneg_right hs.2 h1.1
  have b2 := Int.mul_le_mul_of_nonneg_right hb.2 h2.1
  have b3 := Int.mul_le_mul_of_nonneg_right hm.2 h3.1
  omega
theorem ovC_u (b s m ba sa : Int) (hb : U b) (hs : U s) (hm : U m) (hba : U ba) (hsa : U sa) (hd : 0 < dU ba sa) : U (ovC b s m ba sa) := by
  have h := nU_le b s m ba sa hb hs hm hba hsa
  exact ⟨dv_nonneg _ _ hd h.1, dv_le _ _ _ hd h.2⟩
theorem u_top : U 65535 := ⟨by decide, by decide⟩
def Ux (p : Px) : Prop := U p.1 ∧ U p.2.1 ∧ U p.2.2.1 ∧ U p.2.2.2
theorem ovP_u (m : Int) (p q : Px) : Ux (ovP m p q) := by
  unfold ovP
  split
  · exact ⟨⟨by decide, by decide⟩, ⟨by decide, by decide⟩, ⟨by decide, by decide⟩, ⟨by decide, by decide⟩⟩
  · rename_i h
    have hd := alU_pos _ _ (cl_bd _) (cl_bd _) h
    have hc : U3 (ovC3 m p q) := col3_u _ _ _ ⟨cl_bd _, cl_bd _, cl_bd _⟩ ⟨cl_bd _, cl_bd _, cl_bd _⟩
    exact ⟨ovC_u _ _ _ _ _ (cl_bd _) (cl_bd _) hc.1 (cl_bd _) (cl_bd _) hd, ovC_u _ _ _ _ _ (cl_bd _) (cl_bd _) hc.2.1 (cl_bd _) (cl_bd _) hd, ovC_u _ _ _ _ _ (cl_bd _) (cl_bd _) hc.2.2 (cl_bd _) (cl_bd _) hd, alU_bd _ _ (cl_bd _) (cl_bd _)⟩
theorem ovP_zero (m : Int) (p q : Px) : 0 < (ovP m p q).2.2.2 ∨ ovP m p q = (0, 0, 0, 0) := by
  unfold ovP
  split
  · exact .inr rfl
  · rename_i h
    refine .inl ?_
    have := alU_bd (cl p.2.2.2) (cl q.2.2.2) (cl_bd _) (cl_bd _)
    show 0 < alU (cl p.2.2.2) (cl q.2.2.2)
    omega

theorem Blk.c7 {w : World} {b : Nat} {x0 x1 x2 x3 x4 x5 x6 : Value} {t : TypeId} (k : Blk w b (.cells #[x0, x1, x2, x3, x4, x5, x6] t (0, 0))) :
    w.cell? ⟨b, 0, none⟩ = some x0 ∧ w.cell? ⟨b, 1, none⟩ = some x1 ∧ w.cell? ⟨b, 2, none⟩ = some x2 ∧ w.cell? ⟨b, 3, none⟩ = some x3 ∧ w.cell? ⟨b, 4, none⟩ = some x4 ∧ w.cell? ⟨b, 5, none⟩ = some x5 ∧ w.cell? ⟨b, 6, none⟩ = some x6 :=
  ⟨cell_blk k rfl, cell_blk k rfl, cell_blk k rfl, cell_blk k rfl, cell_blk k rfl, cell_blk k rfl, cell_blk k rfl⟩
end Go.Proofs.YtfgkgibomgcmpaaDoor
