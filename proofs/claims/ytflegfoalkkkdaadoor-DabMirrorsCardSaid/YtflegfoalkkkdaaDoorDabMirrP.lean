/- DabMirrors: without an angle the coverage by a dab at the center of a pixel is symmetric, does not increase along a row, and a hard tip covers with the flow or not at all, within the law's own bounds. The package's table of sines is as its text lays it. -/
import Derived.Test.YtflegfoalkkkdaaDoorDabAwake
import Derived.Test.YtflegfoalkkkdaaDoorDabR
import Derived.Test.YtflegfoalkkkdaaDoorLOpen
import Derived.Test.YtflegfoalkkkdaaDoorLOpen
import Derived.Test.YtflegfoalkkkdaaDoorLDyn
import Derived.Test.YtflegfoalkkkdaaDoorLPlain
import Derived.Test.YtflegfoalkkkdaaDoorCards
import Derived.Test.YtflegfoalkkkdaaDoorTie
namespace Go.Proofs.YtflegfoalkkkdaaDoor.dabMirrors
open Go.ChangeShapes Go.WideShapes Go.ChangeAt Go.RowKit
set_option linter.unusedVariables false
attribute [local go_sem] Oper.gAt gUponK Oper.sAt stilK

theorem co_id (x : Int) (h : -16777216 ≤ x ∧ x ≤ 16777216) : co x = x := by unfold co; omega
theorem cc_id (x : Int) (h : -1048576 ≤ x ∧ x ≤ 1048576) : cc x = x := by unfold cc; omega
/-- The coverage at a distance of i and j pixels. -/
def mir (B : Bru) (sz fl i j : Int) : Int := if bchk B = 0 then if sz = 0 then 0 else cvF B.hd fl (cvR (256 * i) (cvZ (256 * j) B.rn) sz) else 0
abbrev ctr (size flow cx cy : Int) : Dab := ⟨16 * cx + 8, 16 * cy + 8, size, flow, 0⟩
theorem at_mir (B : Bru) (size flow cx cy i j : Int) (ha : B.an = 0) (hx : -524288 ≤ cx ∧ cx ≤ 524288) (hy : -524288 ≤ cy ∧ cy ≤ 524288) (hi : -262145 ≤ i ∧ i ≤ 262145) (hj : -262145 ≤ j ∧ j ≤ 262145) :
    dcov B (ctr size flow cx cy) (cx + i) (cy + j) = mir B (sz1 size) (cl flow) i j := by
  unfold dcov mir
  split
  · unfold lim cvr
    simp only
    rw [co_id (16 * cx + 8) (by omega), co_id (16 * cy + 8) (by omega), cc_id (cx + i) (by omega), cc_id (cy + j) (by omega), ha]
    rw [show 16 * (16 * (cx + i) + 8 - (16 * cx + 8)) = 256 * i by omega, show 16 * (16 * (cy + j) + 8 - (16 * cy + 8)) = 256 * j by omega]
    have e0 : (0 : Int) + 0 % 65536 = 0 := by decide
    rw [e0, tS_zero, tC_zero]
    have e1 : cvP (256 * i) (256 * j) 0 65536 = 256 * i := by
      unfold cvP
      rw [show 65536 * (256 * i) + 0 * (256 * j) = (256 * i) * 65536 by omega]
      exact dv_mul _ _ (by omega)
    have e2 : cvQ (256 * i) (256 * j) 0 65536 = 256 * j := by
      unfold cvQ
      rw [show 65536 * (256 * j) - 0 * (256 * i) = (256 * j) * 65536 by omega]
      exact dv_mul _ _ (by omega)
    rw [e1, e2]
  · rfl
theorem mir_x (B : Bru) (sz fl i j : Int) : mir B sz fl (-i) j = mir B sz fl i j := by
  unfold mir cvR
  rw [show 256 * (-i) = -(256 * i) by omega, hypot_neg]
theorem mir_y (B : Bru) (sz fl i j : Int) : mir B sz fl i (-j) = mir B sz fl i j := by
  unfold mir
  rw [show 256 * (-j) = -(256 * j) by omega, cvZ_neg]
theorem mir_t (B : Bru) (sz fl i j : Int) (hr : B.rn = 65535) (hi : 0 ≤ i) (hj : 0 ≤ j) : mir B sz fl j i = mir B sz fl i j := by
  unfold mir cvR
  rw [hr, cvZ_unit, cvZ_unit, show max (256 * i) (-(256 * i)) = 256 * i by omega, show max (256 * j) (-(256 * j)) = 256 * j by omega, hypot_comm]
theorem mir_le (B : Bru) (sz fl i j : Int) (hs : 0 ≤ sz) (hf : 0 ≤ fl ∧ fl ≤ 65535) (hi : 0 ≤ i ∧ i ≤ 262144) (hj : 0 ≤ j ∧ j ≤ 262144) : mir B sz fl (i + 1) j ≤ mir B sz fl i j := by
  unfold mir
  split
  · rename_i h0
    have hh := (bchk_ok h0).2.1
    have hr := (bchk_ok h0).2.2.2.2.1
    split
    · omega
    · refine cvF_anti _ _ _ _ hh.1 hf (dv_mono _ _ _ (by omega) ?_)
      have hz := cvZ_bd (256 * j) B.rn (by omega) hr.1
      have a1 := sq_le (256 * (i + 1)) 67109120 (by omega) (by omega)
      have a2 := sq_le (cvZ (256 * j) B.rn) 17179611137 (by omega) (by omega)
      have a3 : 256 * i * (256 * i) ≤ 256 * (i + 1) * (256 * (i + 1)) := Int.mul_le_mul (by omega) (by omega) (by omega) (by omega)
      have := hypot_mono (256 * i) (cvZ (256 * j) B.rn) (256 * (i + 1)) (cvZ (256 * j) B.rn) (by omega) (by omega)
      omega
  · omega
theorem mir_hard (B : Bru) (sz fl i j : Int) (hd : B.hd = 65535) : mir B sz fl i j = 0 ∨ mir B sz fl i j = fl := by
  unfold mir
  split
  · split
    · exact .inl rfl
    · unfold cvF
      rw [hd]
      split
      · exact .inr rfl
      · rw [if_pos (by omega)]
        exact .inl rfl
  · exact .inl rfl

end Go.Proofs.YtflegfoalkkkdaaDoor.dabMirrors
