/- The functions of the modes of package blend, from two colors to one. -/
import Derived.Test.YtfgkgibomgcmpaaDoorColLum
import Derived.Test.YtfgkgibomgcmpaaDoorColRefLum
import Derived.Test.YtfgkgibomgcmpaaDoorBlendChan
import Derived.Test.YtfgkgibomgcmpaaDoorBlendRefChan
namespace Go.Proofs.YtfgkgibomgcmpaaDoor
open Go.RowKit
set_option linter.unusedVariables false
attribute [local go_sem] Oper.gAt gUponK

abbrev C3 := Int × Int × Int
def U3 (c : C3) : Prop := U c.1 ∧ U c.2.1 ∧ U c.2.2
abbrev cv3 (c : C3) : Value := cv c.1 c.2.1 c.2.2
def lum3 (c : C3) : Int := lumU c.1 c.2.1 c.2.2
def sat3 (c : C3) : Int := mx3 c.1 c.2.1 c.2.2 - mn3 c.1 c.2.1 c.2.2
def setSat3 (c : C3) (s : Int) : C3 := (ssC s (mn3 c.1 c.2.1 c.2.2) (mx3 c.1 c.2.1 c.2.2) c.1, ssC s (mn3 c.1 c.2.1 c.2.2) (mx3 c.1 c.2.1 c.2.2) c.2.1, ssC s (mn3 c.1 c.2.1 c.2.2) (mx3 c.1 c.2.1 c.2.2) c.2.2)
def lumSet3 (c : C3) (l : Int) : C3 := (slF c.1 c.2.1 c.2.2 l c.1, slF c.1 c.2.1 c.2.2 l c.2.1, slF c.1 c.2.1 c.2.2 l c.2.2)
theorem lum3_u (c : C3) (h : U3 c) : U (lum3 c) := lumU_bd _ _ _ h.1 h.2.1 h.2.2
theorem sat3_u (c : C3) (h : U3 c) : U (sat3 c) := by
  obtain ⟨h1, h2, h3⟩ := h
  unfold U at *
  unfold sat3 mx3 mn3
  omega
theorem setSat3_u (c : C3) (s : Int) (h : U3 c) (hs : U s) : U3 (setSat3 c s) := by
  have h1 : mn3 c.1 c.2.1 c.2.2 ≤ c.1 ∧ mn3 c.1 c.2.1 c.2.2 ≤ c.2.1 ∧ mn3 c.1 c.2.1 c.2.2 ≤ c.2.2 := by unfold mn3; omega
  have h2 : c.1 ≤ mx3 c.1 c.2.1 c.2.2 ∧ c.2.1 ≤ mx3 c.1 c.2.1 c.2.2 ∧ c.2.2 ≤ mx3 c.1 c.2.1 c.2.2 := by unfold mx3; omega
  exact ⟨ssC_bd _ _ _ _ hs h1.1 h2.1, ssC_bd _ _ _ _ hs h1.2.1 h2.2.1, ssC_bd _ _ _ _ hs h1.2.2 h2.2.2⟩
theorem lumSet3_u (c : C3) (l : Int) : U3 (lumSet3 c l) := ⟨slF_bd _ _ _ _ _, slF_bd _ _ _ _ _, slF_bd _ _ _ _ _⟩
/-- The blended color of two colors by a mode. -/
def col3 (m : Int) (b s : C3) : C3 :=
  if m = 14 then lumSet3 (setSat3 s (sat3 b)) (lum3 b) else if m = 15 then lumSet3 (setSat3 b (sat3 s)) (lum3 b) else if m = 16 then lumSet3 s (lum3 b) else if m = 17 then lumSet3 b (lum3 s)
  else (chU m b.1 s.1, chU m b.2.1 s.2.1, chU m b.2.2 s.2.2)
theorem col3_u (m : Int) (b s : C3) (hb : U3 b) (hs : U3 s) : U3 (col3 m b s) := by
  unfold col3
  split
  · exact lumSet3_u _ _
  · split
    · exact lumSet3_u _ _
    · split
      · exact lumSet3_u _ _
      · split
        · exact lumSet3_u _ _
        · exact ⟨chU_bd m _ _ hb.1 hs.1, chU_bd m _ _ hb.2.1 hs.2.1, chU_bd m _ _ hb.2.2 hs.2.2⟩

theorem lumC (c : C3) (w : World) (h : U3 c) : Calls Tryd.prog 68 #[cv3 c] w fun e w' => e = .returned (.int .i64 (lum3 c)) ∧ Below w.heap.size w w' := lum_any _ _ _ _ h.1 h.2.1 h.2.2
theorem satC (c : C3) (w : World) (h : U3 c) : Calls Tryd.prog 67 #[cv3 c] w fun e w' => e = .returned (.int .i64 (sat3 c)) ∧ Below w.heap.size w w' := sat_any _ _ _ _ h.1 h.2.1 h.2.2
theorem setSatC (c : C3) (s : Int) (w : World) (h : U3 c) (hs : U s) : Calls Tryd.prog 66 #[cv3 c, .int .i64 s] w fun e w' => e = .returned (cv3 (setSat3 c s)) ∧ Below w.heap.size w w' := setSat_any _ _ _ _ _ h.1 h.2.1 h.2.2 hs
theorem setLumC (c : C3) (l : Int) (w : World) (h : U3 c) (hl : U l) : Calls Tryd.prog 65 #[cv3 c, .int .i64 l] w fun e w' => e = .returned (cv3 (lumSet3 c l)) ∧ Below w.heap.size w w' := setLum_any _ _ _ _ _ h.1 h.2.1 h.2.2 hl
theorem refLumC (c : C3) (w : World) (h : U3 c) : Calls Tryd.prog 47 #[cv3 c] w fun e w' => e = .returned (.int .i64 (lum3 c)) ∧ Below w.heap.size w w' := reflum_any _ _ _ _ h.1 h.2.1 h.2.2
theorem refSatC (c : C3) (w : World) (h : U3 c) : Calls Tryd.prog 46 #[cv3 c] w fun e w' => e = .returned (.int .i64 (sat3 c)) ∧ Below w.heap.size w w' := refsat_any _ _ _ _ h.1 h.2.1 h.2.2
theorem refSetSatC (c : C3) (s : Int) (w : World) (h : U3 c) (hs : U s) : Calls Tryd.prog 45 #[cv3 c, .int .i64 s] w fun e w' => e = .returned (cv3 (setSat3 c s)) ∧ Below w.heap.size w w' := refsetSat_any _ _ _ _ _ h.1 h.2.1 h.2.2 hs
theorem refSetLumC (c : C3) (l : Int) (w : World) (h : U3 c) (hl : U l) : Calls Tryd.prog 44 #[cv3 c, .int .i64 l] w fun e w' => e = .returned (cv3 (lumSet3 c l)) ∧ Below w.heap.size w w' := refsetLum_any _ _ _ _ _ h.1 h.2.1 h.2.2 hl

set_option maxHeartbeats 400000 in
theorem fn14 (b s : C3) (w : World) (hb0 : U3 b) (hs : U3 s) :
    Calls Tryd.prog 64 #[cv3 b, cv3 s] w fun e w' => e = .returned (cv3 (col3 14 b s)) ∧ Below w.heap.size w w' := by
  have HS := setSat3_u s (sat3 b) hs (sat3_u b hb0)
  have HL := lum3_u b hb0
  have HB := sat3_u b hb0
  go_enter Tryd.func64, Tryd.ntmps64
  go_wp2
  refine name3 (fun W k1 k2 k3 hb => ?_)
  refine wp_region_grow 7 (fun w' => Below (World.heap W).size W w') (by kernel_rfl) (by kernel_rfl) (Below.refl _ _).drew ?_
  simp only [List.take_succ_cons, List.take_zero, List.drop_succ_cons, List.drop_zero]
  repeat (first | (apply wpG_on; rfl; (intro w' hS K hK; have hc0 := (k1.kept hS).c3; have hc1 := (k2.kept hS).c3; have hc2 := (k3.kept hS).c3; go_simp; (first | exact hK.out _ hS | (go_at_call 67; (with_reducible refine (satC b _ hb0).mono ?_); rintro e w'' ⟨rfl, hbb⟩; exact ⟨_, rfl, hK.out _ (hS.trans (hbb.mono hS.size))⟩) | (go_at_call 66; (with_reducible refine (setSatC s _ _ hs HB).mono ?_); rintro e w'' ⟨rfl, hbb⟩; exact ⟨_, rfl, hK.out _ (hS.trans (hbb.mono hS.size))⟩) | (go_at_call 68; (with_reducible refine (lumC b _ hb0).mono ?_); rintro e w'' ⟨rfl, hbb⟩; exact ⟨_, rfl, hK.out _ (hS.trans (hbb.mono hS.size))⟩) | (go_at_call 65; (with_reducible refine (setLumC _ _ _ HS HL).mono ?_); rintro e w'' ⟨rfl, hbb⟩; exact ⟨_, rfl, hK.out _ (hS.trans (hbb.mono hS.size))⟩))); simp only [Act.put, List.setIfInBounds_toArray, List.set_cons_succ, List.set_cons_zero]) | (apply wpG_off; rfl; simp only [Act.put, List.setIfInBounds_toArray, List.set_cons_succ, List.set_cons_zero]))
  apply wpG_nil
  intro W1 hS
  replace k1 := k1.kept hS
  replace k2 := k2.kept hS
  replace k3 := k3.kept hS
  replace hb := hb.trans (hS.mono hb.size)
  clear hS
  have c3 := k3.c3
  go_wp2
  refine end3 hb k3 (by omega) (fun w3 e => by simp [results, Tryd.results64, go_sem, e]) rfl (fun w3 hb3 => ⟨rfl, hb3⟩)

set_option maxHeartbeats 400000 in
theorem fn15 (b s : C3) (w : World) (hb0 : U3 b) (hs : U3 s) :
    Calls Tryd.prog 69 #[cv3 b, cv3 s] w fun e w' => e = .returned (cv3 (col3 15 b s)) ∧ Below w.heap.size w w' := by
  have HS := setSat3_u b (sat3 s) hb0 (sat3_u s hs)
  have HL := lum3_u b hb0
  have HB := sat3_u s hs
  go_enter Tryd.func69, Tryd.ntmps69
  go_wp2
  refine name3 (fun W k1 k2 k3 hb => ?_)
  refine wp_region_grow 7 (fun w' => Below (World.heap W).size W w') (by kernel_rfl) (by kernel_rfl) (Below.refl _ _).drew ?_
  simp only [List.take_succ_cons, List.take_zero, List.drop_succ_cons, List.drop_zero]
  repeat (first | (apply wpG_on; rfl; (intro w' hS K hK; have hc0 := (k1.kept hS).c3; have hc1 := (k2.kept hS).c3; have hc2 := (k3.kept hS).c3; go_simp; (first | exact hK.out _ hS | (go_at_call 67; (with_reducible refine (satC s _ hs).mono ?_); rintro e w'' ⟨rfl, hbb⟩; exact ⟨_, rfl, hK.out _ (hS.trans (hbb.mono hS.size))⟩) | (go_at_call 66; (with_reducible refine (setSatC b _ _ hb0 HB).mono ?_); rintro e w'' ⟨rfl, hbb⟩; exact ⟨_, rfl, hK.out _ (hS.trans (hbb.mono hS.size))⟩) | (go_at_call 68; (with_reducible refine (lumC b _ hb0).mono ?_); rintro e w'' ⟨rfl, hbb⟩; exact ⟨_, rfl, hK.out _ (hS.trans (hbb.mono hS.size))⟩) | (go_at_call 65; (with_reducible refine (setLumC _ _ _ HS HL).mono ?_); rintro e w'' ⟨rfl, hbb⟩; exact ⟨_, rfl, hK.out _ (hS.trans (hbb.mono hS.size))⟩))); simp only [Act.put, List.setIfInBounds_toArray, List.set_cons_succ, List.set_cons_zero]) | (apply wpG_off; rfl; simp only [Act.put, List.setIfInBounds_toArray, List.set_cons_succ, List.set_cons_zero]))
  apply wpG_nil
  intro W1 hS
  replace k1 := k1.kept hS
  replace k2 := k2.kept hS
  replace k3 := k3.kept hS
  replace hb := hb.trans (hS.mono hb.size)
  clear hS
  have c3 := k3.c3
  go_wp2
  refine end3 hb k3 (by omega) (fun w3 e => by simp [results, Tryd.results69, go_sem, e]) rfl (fun w3 hb3 => ⟨rfl, hb3⟩)

set_option maxHeartbeats 400000 in
theorem fn16 (b s : C3) (w : World) (hb0 : U3 b) (hs : U3 s) :
    Calls Tryd.prog 70 #[cv3 b, cv3 s] w fun e w' => e = .returned (cv3 (col3 16 b s)) ∧ Below w.heap.size w w' := by
  have HL := lum3_u b hb0
  go_enter Tryd.func70, Tryd.ntmps70
  go_wp2
  refine name3 (fun W k1 k2 k3 hb => ?_)
  refine wp_region_grow 4 (fun w' => Below (World.heap W).size W w') (by kernel_rfl) (by kernel_rfl) (Below.refl _ _).drew ?_
  simp only [List.take_succ_cons, List.take_zero, List.drop_succ_cons, List.drop_zero]
  repeat (first | (apply wpG_on; rfl; (intro w' hS K hK; have hc0 := (k1.kept hS).c3; have hc1 := (k2.kept hS).c3; have hc2 := (k3.kept hS).c3; go_simp; (first | exact hK.out _ hS | (go_at_call 68; (with_reducible refine (lumC b _ hb0).mono ?_); rintro e w'' ⟨rfl, hbb⟩; exact ⟨_, rfl, hK.out _ (hS.trans (hbb.mono hS.size))⟩) | (go_at_call 65; (with_reducible refine (setLumC s _ _ hs HL).mono ?_); rintro e w'' ⟨rfl, hbb⟩; exact ⟨_, rfl, hK.out _ (hS.trans (hbb.mono hS.size))⟩))); simp only [Act.put, List.setIfInBounds_toArray, List.set_cons_succ, List.set_cons_zero]) | (apply wpG_off; rfl; simp only [Act.put, List.setIfInBounds_toArray, List.set_cons_succ, List.set_cons_zero]))
  apply wpG_nil
  intro W1 hS
  replace k1 := k1.kept hS
  replace k2 := k2.kept hS
  replace k3 := k3.kept hS
  replace hb := hb.trans (hS.mono hb.size)
  clear hS
  have c3 := k3.c3
  go_wp2
  refine end3 hb k3 (by omega) (fun w3 e => by simp [results, Tryd.results70, go_sem, e]) rfl (fun w3 hb3 => ⟨rfl, hb3⟩)

set_option maxHeartbeats 400000 in
theorem fn17 (b s : C3) (w : World) (hb0 : U3 b) (hs : U3 s) :
    Calls Tryd.prog 71 #[cv3 b, cv3 s] w fun e w' => e = .returned (cv3 (col3 17 b s)) ∧ Below w.heap.size w w' := by
  have HL := lum3_u s hs
  go_enter Tryd.func71, Tryd.ntmps71
  go_wp2
  refine name3 (fun W k1 k2 k3 hb => ?_)
  refine wp_region_grow 4 (fun w' => Below (World.heap W).size W w') (by kernel_rfl) (by kernel_rfl) (Below.refl _ _).drew ?_
  simp only [List.take_succ_cons, List.take_zero, List.drop_succ_cons, List.drop_zero]
  repeat (first | (apply wpG_on; rfl; (intro w' hS K hK; have hc0 := (k1.kept hS).c3; have hc1 := (k2.kept hS).c3; have hc2 := (k3.kept hS).c3; go_simp; (first | exact hK.out _ hS | (go_at_call 68; (with_reducible refine (lumC s _ hs).mono ?_); rintro e w'' ⟨rfl, hbb⟩; exact ⟨_, rfl, hK.out _ (hS.trans (hbb.mono hS.size))⟩) | (go_at_call 65; (with_reducible refine (setLumC b _ _ hb0 HL).mono ?_); rintro e w'' ⟨rfl, hbb⟩; exact ⟨_, rfl, hK.out _ (hS.trans (hbb.mono hS.size))⟩))); simp only [Act.put, List.setIfInBounds_toArray, List.set_cons_succ, List.set_cons_zero]) | (apply wpG_off; rfl; simp only [Act.put, List.setIfInBounds_toArray, List.set_cons_succ, List.set_cons_zero]))
  apply wpG_nil
  intro W1 hS
  replace k1 := k1.kept hS
  replace k2 := k2.kept hS
  replace k3 := k3.kept hS
  replace hb := hb.trans (hS.mono hb.size)
  clear hS
  have c3 := k3.c3
  go_wp2
  refine end3 hb k3 (by omega) (fun w3 e => by simp [results, Tryd.results71, go_sem, e]) rfl (fun w3 hb3 => ⟨rfl, hb3⟩)

theorem chanU (m b s : Int) (w : World) (hb : U b) (hs : U s) : Calls Tryd.prog 12 #[.int .i64 m, .int .i64 b, .int .i64 s] w fun e w' => e = .returned (.int .i64 (chU m b s)) ∧ w = w' := by
  have c := channel_any m b s w
  rw [cl_id b hb.1 hb.2, cl_id s hs.1 hs.2] at c
  exact c
theorem refChanU (m b s : Int) (w : World) (hb : U b) (hs : U s) : Calls Tryd.prog 13 #[.int .i64 m, .int .i64 b, .int .i64 s] w fun e w' => e = .returned (.int .i64 (chU m b s)) ∧ Below w.heap.size w w' := by
  have c := refChannel_any m b s w
  rw [cl_id b hb.1 hb.2, cl_id s hs.1 hs.2] at c
  exact c
theorem col3_other (m : Int) (b s : C3) (h : m < 14 ∨ 17 < m) : col3 m b s = (chU m b.1 s.1, chU m b.2.1 s.2.1, chU m b.2.2 s.2.2) := by
  unfold col3
  repeat' rw [if_neg (by omega)]
end Go.Proofs.YtfgkgibomgcmpaaDoor
