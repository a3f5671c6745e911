/- Plain functions for package num. -/
namespace Go.Proofs.YtflegfoalkkkdaaDoor
set_option linter.unusedVariables false

/-- A number limited to a unit value. -/
def cl (x : Int) : Int := if x < 0 then 0 else if 65535 < x then 65535 else x
theorem cl_bd (x : Int) : 0 ≤ cl x ∧ cl x ≤ 65535 := by
  unfold cl
  repeat' split
  all_goals omega
theorem cl_id (x : Int) (h0 : 0 ≤ x) (h1 : x ≤ 65535) : cl x = x := by unfold cl; rw [if_neg (by omega), if_neg (by omega)]
theorem cl_cl (x : Int) : cl (cl x) = cl x := cl_id _ (cl_bd x).1 (cl_bd x).2
theorem cl_min (x : Int) : min 65535 (max x 0) = cl x := by
  unfold cl
  repeat' split
  all_goals omega

/-- a / b, rounded to the nearest integer, halves up (b is positive). -/
def dv (a b : Int) : Int := if b - a % b ≤ a % b then a / b + 1 else a / b
/-- What rounding means. -/
theorem dv_spec (a b : Int) (hb : 0 < b) : 2 * b * dv a b ≤ 2 * a + b ∧ 2 * a + b < 2 * b * dv a b + 2 * b := by
  have h1 := Int.emod_add_mul_ediv a b
  have h2 := Int.emod_nonneg a (Int.ne_of_gt hb)
  have h3 := Int.emod_lt_of_pos a hb
  unfold dv
  generalize a % b = r at *
  generalize a / b = q at *
  split
  · have : 2 * b * (q + 1) = 2 * (b * q) + 2 * b := by rw [Int.mul_add, Int.mul_assoc]; omega
    omega
  · have : 2 * b * q = 2 * (b * q) := Int.mul_assoc _ _ _
    omega
theorem dv_unique (a b q : Int) (hb : 0 < b) (h1 : 2 * b * q ≤ 2 * a + b) (h2 : 2 * a + b < 2 * b * q + 2 * b) : dv a b = q := by
  have h := dv_spec a b hb
  have hlt : ∀ x y : Int, 2 * b * x < 2 * b * (y + 1) → x < y + 1 := fun x y hh => Int.lt_of_mul_lt_mul_left hh (by omega)
  have e1 : 2 * b * (dv a b + 1) = 2 * b * dv a b + 2 * b := by rw [Int.mul_add]; omega
  have e2 : 2 * b * (q + 1) = 2 * b * q + 2 * b := by rw [Int.mul_add]; omega
  have := hlt q (dv a b) (by omega)
  have := hlt (dv a b) q (by omega)
  omega
theorem dv_mono (a c b : Int) (hb : 0 < b) (h : a ≤ c) : dv a b ≤ dv c b := by
  have h1 := dv_spec a b hb
  have h2 := dv_spec c b hb
  have e2 : 2 * b * (dv c b + 1) = 2 * b * dv c b + 2 * b := by rw [Int.mul_add]; omega
  have : dv a b < dv c b + 1 := Int.lt_of_mul_lt_mul_left (a := 2 * b) (by omega) (by omega)
  omega
theorem dv_mul (q b : Int) (hb : 0 < b) : dv (q * b) b = q := by
  apply dv_unique _ _ _ hb
  · have : 2 * b * q = 2 * (q * b) := by rw [Int.mul_assoc, Int.mul_comm b q]
    omega
  · have : 2 * b * q = 2 * (q * b) := by rw [Int.mul_assoc, Int.mul_comm b q]
    omega
theorem dv_nonneg (a b : Int) (hb : 0 < b) (h : 0 ≤ a) : 0 ≤ dv a b := by
  have := dv_mono 0 a b hb h
  have h0 := dv_mul 0 b hb
  simp at h0
  omega
theorem dv_le (a b m : Int) (hb : 0 < b) (h : a ≤ m * b) : dv a b ≤ m := by
  have := dv_mono a (m * b) b hb h
  rw [dv_mul m b hb] at this
  exact this
theorem dv_ge (a b m : Int) (hb : 0 < b) (h : m * b ≤ a) : m ≤ dv a b := by
  have := dv_mono (m * b) a b hb h
  rw [dv_mul m b hb] at this
  exact this

/-- Go's quotient and remainder of a negative number, held against rounding down. -/
theorem floor_neg (a b : Int) (hb : 0 < b) (ha : a < 0) : (a.tmod b = 0 → a.tdiv b = a / b) ∧ (a.tmod b ≠ 0 → a.tdiv b - 1 = a / b) := by
  have h1 := Int.mul_tdiv_add_tmod a b
  have h2 := Int.emod_add_mul_ediv a b
  have h3 := Int.emod_nonneg a (Int.ne_of_gt hb)
  have h4 := Int.emod_lt_of_pos a hb
  have h5 : -b < a.tmod b := by
    have := Int.lt_tmod_of_pos a hb
    omega
  have h6 : a.tmod b ≤ 0 := by
    have := Int.tmod_nonneg b (show 0 ≤ -a by omega)
    rw [Int.neg_tmod] at this
    omega
  generalize a.tmod b = r at *
  generalize a.tdiv b = q at *
  generalize a % b = r' at *
  generalize a / b = q' at *
  have key : b * (q - q') = r' - r := by rw [Int.mul_sub]; omega
  constructor
  · intro h
    have h7 : b * (q - q') < b * 1 := by omega
    have h8 : b * (-1) < b * (q - q') := by omega
    have := Int.lt_of_mul_lt_mul_left h7 (by omega)
    have := Int.lt_of_mul_lt_mul_left h8 (by omega)
    omega
  · intro h
    have h7 : b * (q - q') < b * 2 := by omega
    have h8 : b * 0 < b * (q - q') := by omega
    have := Int.lt_of_mul_lt_mul_left h7 (by omega)
    have := Int.lt_of_mul_lt_mul_left h8 (by omega)
    omega
theorem tdiv_bd (a b : Int) (hb : 0 < b) (ha : a < 0) : a ≤ a.tdiv b ∧ a.tdiv b ≤ 0 := by
  have h1 : (-a).tdiv b = (-a) / b := Int.tdiv_eq_ediv_of_nonneg (by omega)
  rw [Int.neg_tdiv] at h1
  have h2 : 0 ≤ (-a) / b := Int.ediv_nonneg (by omega) (by omega)
  have h3 : (-a) / b ≤ -a := Int.ediv_le_self b (by omega)
  omega
theorem ediv_bd (a b : Int) (hb : 0 < b) (h0 : 0 ≤ a) : 0 ≤ a / b ∧ a / b ≤ a :=
  ⟨Int.ediv_nonneg h0 (by omega), Int.ediv_le_self b h0⟩
/-- The parts of a rounded-down quotient, for any dividend. -/
theorem fl_bd (a b : Int) (hb : 0 < b) : b * (a / b) ≤ a ∧ a < b * (a / b) + b := by
  have h2 := Int.emod_add_mul_ediv a b
  have h3 := Int.emod_nonneg a (Int.ne_of_gt hb)
  have h4 := Int.emod_lt_of_pos a hb
  omega
theorem fl_sub (a b : Int) : a - b * (a / b) = a % b := by
  have h2 := Int.emod_add_mul_ediv a b
  omega
theorem fl_lo (a b : Int) (hb : 0 < b) : (if a < 0 then a else 0) ≤ a / b := by
  have h := fl_bd a b hb
  split
  · rename_i ha
    have h2 : b * a ≤ 1 * a := Int.mul_le_mul_of_nonpos_right (by omega) (by omega)
    have : b * a < b * (a / b + 1) := by rw [Int.mul_add]; omega
    have := Int.lt_of_mul_lt_mul_left this (by omega)
    omega
  · exact Int.ediv_nonneg (by omega) (by omega)
theorem fl_hi (a b : Int) (hb : 0 < b) : a / b ≤ (if a < 0 then 0 else a) := by
  split
  · rename_i ha
    have h := fl_bd a b hb
    have : b * (a / b) < b * 0 := by omega
    have := Int.lt_of_mul_lt_mul_left this (by omega)
    omega
  · exact Int.ediv_le_self b (by omega)
end Go.Proofs.YtflegfoalkkkdaaDoor
