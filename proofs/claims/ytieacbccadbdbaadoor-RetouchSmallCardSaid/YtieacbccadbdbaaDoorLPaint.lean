/- Several texts in one: PaintPlain, Painted. -/
import Derived.Test.YtieacbccadbdbaaDoorLBru
import Derived.Test.YtieacbccadbdbaaDoorLOver
import Derived.Test.YtieacbccadbdbaaDoorLMask
import Derived.Test.YtieacbccadbdbaaDoorLDyn
import Derived.Test.YtieacbccadbdbaaDoorLNum
import Derived.Deep.Cut

/- Strokes painted on images, plainly: the error of a mask, the coverage within a selection, the painted pixels. -/
namespace Go.Proofs.YtieacbccadbdbaaDoor
open Go.RowKit
set_option linter.unusedVariables false

theorem ichk_px {W H : Int} {ps : List Px} (h : ichk W H ps = 0) : (W = 0 ↔ H = 0) ∧ ∀ i, i < ps.length → pOk (pxAt ps i) = true := by
  unfold ichk at h
  split at h
  · cases h
  · refine ⟨by omega, fun i hi => ?_⟩
    have := ferr_zero _ _ _ h i (by omega) (by omega)
    unfold pbad at this
    split at this
    · assumption
    · cases this

/-- A pixel painted with a coverage. -/
def painted (B : Bru) (p : Px) (k : Int) : Px := if k = 0 then p else if B.er = true then fdP p (65535 - k) else ovP B.md p (fdP (B.r, B.g, B.b, B.a) k)
/-- The coverage of pixel i within the selection. -/
def kAt (B : Bru) (ds : List Dab) (W : Nat) (sw : Int) (zs : List Int) (i : Nat) : Int := if sw = 0 then cout B ds W i else dv (cl (cout B ds W i) * cl (zs.getD i 0)) 65535
theorem kAt_bd (B : Bru) (ds : List Dab) (W : Nat) (sw : Int) (zs : List Int) (i : Nat) : 0 ≤ kAt B ds W sw zs i ∧ kAt B ds W sw zs i ≤ 65535 := by
  unfold kAt
  split
  · exact cout_bd _ _ _ _
  · exact mulU_bd' _ _
def pxOut (B : Bru) (ds : List Dab) (W : Nat) (sw : Int) (zs : List Int) (ps : List Px) (i : Nat) : Px := painted B (pxAt ps i) (kAt B ds W sw zs i)
def pouts (B : Bru) (ds : List Dab) (W : Nat) (sw : Int) (zs : List Int) (ps : List Px) : List Px := (List.range ps.length).map (pxOut B ds W sw zs ps)
theorem pouts_len (B : Bru) (ds : List Dab) (W : Nat) (sw : Int) (zs : List Int) (ps : List Px) : (pouts B ds W sw zs ps).length = ps.length := by simp [pouts]
theorem pouts_at (B : Bru) (ds : List Dab) (W : Nat) (sw : Int) (zs : List Int) (ps : List Px) (i : Nat) (hi : i < ps.length) : pxAt (pouts B ds W sw zs ps) i = pxOut B ds W sw zs ps i := by simp [pxAt, pouts, List.getD, hi]
/-- The error of painting. -/
def perr (iw ih : Int) (ps : List Px) (B : Bru) (ls : List Smp) (mw mh : Int) (zs : List Int) : Int :=
  if ichk iw ih ps = 0 then if mchk mw mh zs = 0 then if (dabs B ls).2 = 0 then if mw ≠ 0 ∧ (mw ≠ iw ∨ mh ≠ ih) then 15 else 0 else (dabs B ls).2 else mchk mw mh zs else ichk iw ih ps
/-- What Paint gives: the image's size, the error, the image's pixels. -/
def PaintOut (iw ih : Int) (ps : List Px) (B : Bru) (ls : List Smp) (mw mh : Int) (zs : List Int) (Wm Hm E : Int) (qs : List Px) : Prop :=
  (ichk iw ih ps ≠ 0 ∧ Wm = 0 ∧ Hm = 0 ∧ E = ichk iw ih ps ∧ qs = []) ∨
  (ichk iw ih ps = 0 ∧ mchk mw mh zs ≠ 0 ∧ Wm = 0 ∧ Hm = 0 ∧ E = mchk mw mh zs ∧ qs = []) ∨
  (ichk iw ih ps = 0 ∧ mchk mw mh zs = 0 ∧ (dabs B ls).2 ≠ 0 ∧ Wm = 0 ∧ Hm = 0 ∧ E = (dabs B ls).2 ∧ qs = []) ∨
  (ichk iw ih ps = 0 ∧ mchk mw mh zs = 0 ∧ (dabs B ls).2 = 0 ∧ (mw ≠ 0 ∧ (mw ≠ iw ∨ mh ≠ ih)) ∧ Wm = 0 ∧ Hm = 0 ∧ E = 15 ∧ qs = []) ∨
  (ichk iw ih ps = 0 ∧ mchk mw mh zs = 0 ∧ (dabs B ls).2 = 0 ∧ ¬ (mw ≠ 0 ∧ (mw ≠ iw ∨ mh ≠ ih)) ∧ Wm = iw ∧ Hm = ih ∧ E = 0 ∧ qs = pouts B (dabs B ls).1 iw.toNat mw zs ps)
theorem paint_out (iw ih : Int) (ps : List Px) (B : Bru) (ls : List Smp) (mw mh : Int) (zs : List Int) : ∃ Wm Hm E qs, PaintOut iw ih ps B ls mw mh zs Wm Hm E qs := by
  by_cases h1 : ichk iw ih ps = 0
  · by_cases h2 : mchk mw mh zs = 0
    · by_cases h3 : (dabs B ls).2 = 0
      · by_cases h4 : mw ≠ 0 ∧ (mw ≠ iw ∨ mh ≠ ih)
        · exact ⟨0, 0, 15, [], .inr (.inr (.inr (.inl ⟨h1, h2, h3, h4, rfl, rfl, rfl, rfl⟩)))⟩
        · exact ⟨iw, ih, 0, _, .inr (.inr (.inr (.inr ⟨h1, h2, h3, h4, rfl, rfl, rfl, rfl⟩)))⟩
      · exact ⟨0, 0, _, [], .inr (.inr (.inl ⟨h1, h2, h3, rfl, rfl, rfl, rfl⟩))⟩
    · exact ⟨0, 0, _, [], .inr (.inl ⟨h1, h2, rfl, rfl, rfl, rfl⟩)⟩
  · exact ⟨0, 0, _, [], .inl ⟨h1, rfl, rfl, rfl, rfl⟩⟩
theorem kAt_no (B : Bru) (ds : List Dab) (W : Nat) (zs : List Int) (i : Nat) : kAt B ds W 0 zs i = cout B ds W i := if_pos rfl
theorem kAt_sel (B : Bru) (ds : List Dab) (W : Nat) {sw : Int} (zs : List Int) (i : Nat) (h : sw ≠ 0) : kAt B ds W sw zs i = dv (cl (cout B ds W i) * cl (zs.getD i 0)) 65535 := if_neg h
end Go.Proofs.YtieacbccadbdbaaDoor


/- A pixel painted with a coverage, by the program and by the reference. -/
namespace Go.Proofs.YtieacbccadbdbaaDoor
open Go.RowKit
set_option linter.unusedVariables false
attribute [local go_sem] Oper.gAt gUponK Oper.sAt stilK

theorem painted_0 (B : Bru) (p : Px) : painted B p 0 = p := if_pos rfl
theorem painted_e {B : Bru} (p : Px) {k : Int} (hk : k ≠ 0) (h : B.er = true) : painted B p k = fdP p (65535 - k) := by unfold painted; rw [if_neg hk, if_pos h]
theorem painted_o {B : Bru} (p : Px) {k : Int} (hk : k ≠ 0) (h : B.er = false) : painted B p k = ovP B.md p (fdP (B.r, B.g, B.b, B.a) k) := by unfold painted; rw [if_neg hk, h, if_neg (by decide)]
theorem pOk_cl {r g b a : Int} (h : pOk (r, g, b, a) = true) : cl r = r ∧ cl g = g ∧ cl b = b ∧ cl a = a := by
  have h := of_decide_eq_true h
  simp only at h
  omega


end Go.Proofs.YtieacbccadbdbaaDoor

