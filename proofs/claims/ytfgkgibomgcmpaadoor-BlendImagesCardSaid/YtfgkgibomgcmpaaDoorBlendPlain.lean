/- Plain functions for blend modes of single channels; b and s are unit values. -/
import Derived.Test.YtfgkgibomgcmpaaDoorNumPlain
namespace Go.Proofs.YtfgkgibomgcmpaaDoor
set_option linter.unusedVariables false

def mulU (b s : Int) : Int := dv (b * s) 65535
def scrU (b s : Int) : Int := b + s - mulU b s
def hrdU (b s : Int) : Int := if 2 * s ≤ 65535 then mulU b (2 * s) else scrU b (2 * s - 65535)
def ddgU (b s : Int) : Int := if b = 0 then 0 else if s = 65535 then 65535 else min 65535 (dv (b * 65535) (65535 - s))
def sftU (b s : Int) : Int := cl (dv (b * ((65535 - 2 * s) * b + 2 * s * 65535)) 4294836225)
def excU (b s : Int) : Int := cl (b + s - dv (2 * b * s) 65535)
/-- The blended value of two unit values by a mode. -/
def chU (m b s : Int) : Int :=
  if m = 1 then mulU b s else if m = 2 then scrU b s else if m = 3 then hrdU s b else if m = 4 then min b s else if m = 5 then max b s
  else if m = 6 then ddgU b s else if m = 7 then 65535 - ddgU (65535 - b) (65535 - s) else if m = 8 then hrdU b s else if m = 9 then sftU b s
  else if m = 10 then max (b - s) (s - b) else if m = 11 then excU b s else if m = 12 then cl (b + s) else if m = 13 then cl (b - s) else s

theorem mulU_bd (b s : Int) (hb : 0 ≤ b ∧ b ≤ 65535) (hs : 0 ≤ s ∧ s ≤ 65535) : 0 ≤ mulU b s ∧ mulU b s ≤ b ∧ mulU b s ≤ s := by
  have h0 : 0 ≤ b * s := Int.mul_nonneg hb.1 hs.1
  have h1 : b * s ≤ b * 65535 := Int.mul_le_mul_of_nonneg_left hs.2 hb.1
  have h2 : b * s ≤ 65535 * s := Int.mul_le_mul_of_nonneg_right hb.2 hs.1
  exact ⟨dv_nonneg _ _ (by omega) h0, dv_le _ _ _ (by omega) h1, dv_le _ _ _ (by omega) (by omega)⟩
theorem mulU_comm (b s : Int) : mulU b s = mulU s b := by unfold mulU; rw [Int.mul_comm]
theorem scrU_bd (b s : Int) (hb : 0 ≤ b ∧ b ≤ 65535) (hs : 0 ≤ s ∧ s ≤ 65535) : b ≤ scrU b s ∧ s ≤ scrU b s ∧ scrU b s ≤ 65535 := by
  have h := mulU_bd b s hb hs
  refine ⟨by unfold scrU; omega, by unfold scrU; omega, ?_⟩
  have h1 : (b + s - 65535) * 65535 ≤ b * s := by
    have : 0 ≤ (65535 - b) * (65535 - s) := Int.mul_nonneg (by omega) (by omega)
    have e : (65535 - b) * (65535 - s) = 65535 * 65535 - 65535 * s - b * 65535 + b * s := by
      rw [Int.sub_mul, Int.mul_sub, Int.mul_sub]; omega
    omega
  have := dv_ge (b * s) 65535 (b + s - 65535) (by omega) h1
  unfold scrU mulU
  omega
theorem hrdU_bd (b s : Int) (hb : 0 ≤ b ∧ b ≤ 65535) (hs : 0 ≤ s ∧ s ≤ 65535) : 0 ≤ hrdU b s ∧ hrdU b s ≤ 65535 := by
  unfold hrdU
  split
  · have := mulU_bd b (2 * s) hb (by omega); omega
  · have := scrU_bd b (2 * s - 65535) hb (by omega); omega
theorem ddgU_bd (b s : Int) (hb : 0 ≤ b ∧ b ≤ 65535) (hs : 0 ≤ s ∧ s ≤ 65535) : 0 ≤ ddgU b s ∧ ddgU b s ≤ 65535 := by
  unfold ddgU
  split
  · omega
  · split
    · omega
    · have := dv_nonneg (b * 65535) (65535 - s) (by omega) (by omega)
      omega
theorem chU_bd (m b s : Int) (hb : 0 ≤ b ∧ b ≤ 65535) (hs : 0 ≤ s ∧ s ≤ 65535) : 0 ≤ chU m b s ∧ chU m b s ≤ 65535 := by
  have h1 := mulU_bd b s hb hs
  have h2 := scrU_bd b s hb hs
  have h3 := hrdU_bd s b hs hb
  have h4 := hrdU_bd b s hb hs
  have h5 := ddgU_bd b s hb hs
  have h6 := ddgU_bd (65535 - b) (65535 - s) (by omega) (by omega)
  have h7 : 0 ≤ sftU b s ∧ sftU b s ≤ 65535 := cl_bd _
  have h8 : 0 ≤ excU b s ∧ excU b s ≤ 65535 := cl_bd _
  have h9 := cl_bd (b + s)
  have h10 := cl_bd (b - s)
  unfold chU
  repeat' split
  all_goals omega
theorem soft_bd (b s : Int) (hb : 0 ≤ b ∧ b ≤ 65535) (hs : 0 ≤ s ∧ s ≤ 65535) :
    -4294836225 ≤ (65535 - 2 * s) * b ∧ (65535 - 2 * s) * b ≤ 4294836225 ∧ -1000000000000000 ≤ b * ((65535 - 2 * s) * b + 2 * s * 65535) ∧ b * ((65535 - 2 * s) * b + 2 * s * 65535) ≤ 1000000000000000 := by
  have h1 : (65535 - 2 * s) * b ≤ 65535 * 65535 := by
    have := Int.mul_le_mul (show 65535 - 2 * s ≤ 65535 by omega) hb.2 hb.1 (by omega)
    exact this
  have h2 : -(65535 * 65535) ≤ (65535 - 2 * s) * b := by
    have a := Int.mul_le_mul (show -(65535 - 2 * s) ≤ 65535 by omega) hb.2 hb.1 (by omega)
    rw [Int.neg_mul] at a
    omega
  generalize (65535 - 2 * s) * b = p at *
  have h3 : b * (p + 2 * s * 65535) ≤ 65535 * 12884508675 := by
    rcases Int.le_total 0 (p + 2 * s * 65535) with h | h
    · exact Int.mul_le_mul hb.2 (by omega) h (by omega)
    · have := Int.mul_nonpos_of_nonneg_of_nonpos hb.1 h
      omega
  have h4 : -(65535 * 4294836225) ≤ b * (p + 2 * s * 65535) := by
    have a : b * (-(p + 2 * s * 65535)) ≤ 65535 * 4294836225 := by
      rcases Int.le_total 0 (-(p + 2 * s * 65535)) with h | h
      · exact Int.mul_le_mul hb.2 (by omega) h (by omega)
      · have := Int.mul_nonpos_of_nonneg_of_nonpos hb.1 h
        omega
    rw [Int.mul_neg] at a
    omega
  omega
theorem exc_bd (b s : Int) (hb : 0 ≤ b ∧ b ≤ 65535) (hs : 0 ≤ s ∧ s ≤ 65535) :
    0 ≤ 2 * b * s ∧ 2 * b * s ≤ 8589672450 ∧ 0 ≤ dv (2 * b * s) 65535 ∧ dv (2 * b * s) 65535 ≤ 131070 := by
  have h0 : 0 ≤ 2 * b * s := Int.mul_nonneg (by omega) hs.1
  have h1 : 2 * b * s ≤ 131070 * 65535 := Int.mul_le_mul (by omega) hs.2 hs.1 (by omega)
  exact ⟨h0, by omega, dv_nonneg _ _ (by omega) h0, dv_le _ _ _ (by omega) h1⟩
end Go.Proofs.YtfgkgibomgcmpaaDoor
