/- Retouching, plainly: the value of a selection, the pixel at a place, the pixels of a clone; the membrane of a healed rectangle. -/
import Derived.Test.YtieacbccadbdbaaDoorLPaint
namespace Go.Proofs.YtieacbccadbdbaaDoor
set_option linter.unusedVariables false

/-- The value of a selection at pixel k. -/
def selK (sw : Int) (zs : List Int) (k : Nat) : Int := if sw = 0 then 65535 else zs.getD k 0
/-- A pixel of an image, or the zero pixel if there is none. -/
def atP (W H : Nat) (ps : List Px) (x y : Int) : Px := if 0 ≤ x ∧ x < (W : Int) ∧ 0 ≤ y ∧ y < (H : Int) then pxAt ps (y * (W : Int) + x).toNat else (0, 0, 0, 0)
/-- The coverage of pixel k within the selection. -/
def retK (B : Bru) (ds : List Dab) (W : Nat) (sw : Int) (zs : List Int) (k : Nat) : Int := dv (cl (cout B ds W k) * cl (selK sw zs k)) 65535
theorem retK_bd (B : Bru) (ds : List Dab) (W : Nat) (sw : Int) (zs : List Int) (k : Nat) : 0 ≤ retK B ds W sw zs k ∧ retK B ds W sw zs k ≤ 65535 := mulU_bd' _ _
/-- The pixels of a clone. -/
def cloneAt (B : Bru) (ds : List Dab) (W H : Nat) (sw : Int) (zs : List Int) (ps : List Px) (ox oy : Int) (k : Nat) : Px :=
  if retK B ds W sw zs k = 0 then pxAt ps k else ovP B.md (pxAt ps k) (fdP (atP W H ps (((k % W : Nat) : Int) + ox) (((k / W : Nat) : Int) + oy)) (retK B ds W sw zs k))
def clones (B : Bru) (ds : List Dab) (W H : Nat) (sw : Int) (zs : List Int) (ps : List Px) (ox oy : Int) : List Px := (List.range ps.length).map (cloneAt B ds W H sw zs ps ox oy)
theorem clones_len (B : Bru) (ds : List Dab) (W H : Nat) (sw : Int) (zs : List Int) (ps : List Px) (ox oy : Int) : (clones B ds W H sw zs ps ox oy).length = ps.length := by simp [clones]
theorem clones_at (B : Bru) (ds : List Dab) (W H : Nat) (sw : Int) (zs : List Int) (ps : List Px) (ox oy : Int) (k : Nat) (hk : k < ps.length) : pxAt (clones B ds W H sw zs ps ox oy) k = cloneAt B ds W H sw zs ps ox oy k := by simp [pxAt, clones, List.getD, hk]
/-- What prepare gives: the error. -/
def prepE (iw ih : Int) (ps : List Px) (B : Bru) (ls : List Smp) (mw mh : Int) (zs : List Int) : Int :=
  if ichk iw ih ps = 0 then if mchk mw mh zs = 0 then if (dabs B ls).2 = 0 then if mw ≠ 0 ∧ (mw ≠ iw ∨ mh ≠ ih) then 15 else 0 else (dabs B ls).2 else mchk mw mh zs else ichk iw ih ps
theorem atP_in {W H : Nat} {ps : List Px} {x y : Int} (hx : 0 ≤ x) (hx2 : x < (W : Int)) (hy : 0 ≤ y) (hy2 : y < (H : Int)) : atP W H ps x y = pxAt ps (y * (W : Int) + x).toNat := if_pos ⟨hx, hx2, hy, hy2⟩
theorem atP_out {W H : Nat} {ps : List Px} {x y : Int} (h : ¬ (0 ≤ x ∧ x < (W : Int) ∧ 0 ≤ y ∧ y < (H : Int))) : atP W H ps x y = (0, 0, 0, 0) := if_neg h
theorem atP_idx {W H : Nat} {x y : Int} (hx : 0 ≤ x) (hx2 : x < (W : Int)) (hy : 0 ≤ y) (hy2 : y < (H : Int)) : 0 ≤ y * (W : Int) + x ∧ y * (W : Int) + x < (H : Int) * (W : Int) := by
  have h1 : 0 ≤ y * (W : Int) := Int.mul_nonneg hy (by omega)
  have h2 : (y + 1) * (W : Int) ≤ (H : Int) * (W : Int) := Int.mul_le_mul_of_nonneg_right (by omega) (by omega)
  rw [Int.add_mul] at h2
  omega

/-- One round of the membrane: a value inside becomes the mean of its four neighbors. -/
def onBorder (w h k : Nat) : Bool := decide (k % w = 0 ∨ k / w = 0 ∨ k % w = w - 1 ∨ k / w = h - 1)
def smooth (w h : Nat) (m : Nat → Int) (k : Nat) : Int := if onBorder w h k = true then m k else dv (m (k - 1) + m (k + 1) + m (k - w) + m (k + w)) 4
def smooths (w h : Nat) : Nat → (Nat → Int) → Nat → Int
  | 0, m => m
  | n + 1, m => smooth w h (smooths w h n m)
theorem smooths_succ (w h n : Nat) (m : Nat → Int) (k : Nat) : smooths w h (n + 1) m k = smooth w h (smooths w h n m) k := rfl
end Go.Proofs.YtieacbccadbdbaaDoor

