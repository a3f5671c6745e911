/- Several texts in one: NumPlain, BlendPlain, ColPlain, OverPlain, CurvePlain, HypPlain, RandPlain, DynPlain, TurnPlain, GPlain, DabPlain, HypMax, DabBoxPlain. -/
import Derived.Laws.BitsAllLaws
import Derived.Laws.Bits64

/- Plain functions for package num. -/
namespace Go.Proofs.YtieacbccadbdbaaGreatDoor
set_option linter.unusedVariables false

/-- A number limited to a unit value. -/
def cl (x : Int) : Int := if x < 0 then 0 else if 65535 < x then 65535 else x
theorem cl_bd (x : Int) : 0 ≤ cl x ∧ cl x ≤ 65535 := by
  unfold cl
  repeat' split
  all_goals omega
theorem cl_id (x : Int) (h0 : 0 ≤ x) (h1 : x ≤ 65535) : cl x = x := by unfold cl; rw [if_neg (by omega), if_neg (by omega)]
theorem cl_cl (x : Int) : cl (cl x) = cl x := cl_id _ (cl_bd x).1 (cl_bd x).2
theorem cl_min (x : Int) : min 65535 (max x 0) = cl x := by
  unfold cl
  repeat' split
  all_goals omega

/-- a / b, rounded to the nearest integer, halves up (b is positive). -/
def dv (a b : Int) : Int := if b - a % b ≤ a % b then a / b + 1 else a / b
/-- What rounding means. -/
theorem dv_spec (a b : Int) (hb : 0 < b) : 2 * b * dv a b ≤ 2 * a + b ∧ 2 * a + b < 2 * b * dv a b + 2 * b := by
  have h1 := Int.emod_add_mul_ediv a b
  have h2 := Int.emod_nonneg a (Int.ne_of_gt hb)
  have h3 := Int.emod_lt_of_pos a hb
  unfold dv
  generalize a % b = r at *
  generalize a / b = q at *
  split
  · have : 2 * b * (q + 1) = 2 * (b * q) + 2 * b := by rw [Int.mul_add, Int.mul_assoc]; omega
    omega
  · have : 2 * b * q = 2 * (b * q) := Int.mul_assoc _ _ _
    omega
theorem dv_unique (a b q : Int) (hb : 0 < b) (h1 : 2 * b * q ≤ 2 * a + b) (h2 : 2 * a + b < 2 * b * q + 2 * b) : dv a b = q := by
  have h := dv_spec a b hb
  have hlt : ∀ x y : Int, 2 * b * x < 2 * b * (y + 1) → x < y + 1 := fun x y hh => Int.lt_of_mul_lt_mul_left hh (by omega)
  have e1 : 2 * b * (dv a b + 1) = 2 * b * dv a b + 2 * b := by rw [Int.mul_add]; omega
  have e2 : 2 * b * (q + 1) = 2 * b * q + 2 * b := by rw [Int.mul_add]; omega
  have := hlt q (dv a b) (by omega)
  have := hlt (dv a b) q (by omega)
  omega
theorem dv_mono (a c b : Int) (hb : 0 < b) (h : a ≤ c) : dv a b ≤ dv c b := by
  have h1 := dv_spec a b hb
  have h2 := dv_spec c b hb
  have e2 : 2 * b * (dv c b + 1) = 2 * b * dv c b + 2 * b := by rw [Int.mul_add]; omega
  have : dv a b < dv c b + 1 := Int.lt_of_mul_lt_mul_left (a := 2 * b) (by omega) (by omega)
  omega
theorem dv_mul (q b : Int) (hb : 0 < b) : dv (q * b) b = q := by
  apply dv_unique _ _ _ hb
  · have : 2 * b * q = 2 * (q * b) := by rw [Int.mul_assoc, Int.mul_comm b q]
    omega
  · have : 2 * b * q = 2 * (q * b) := by rw [Int.mul_assoc, Int.mul_comm b q]
    omega
theorem dv_nonneg (a b : Int) (hb : 0 < b) (h : 0 ≤ a) : 0 ≤ dv a b := by
  have := dv_mono 0 a b hb h
  have h0 := dv_mul 0 b hb
  simp at h0
  omega
theorem dv_le (a b m : Int) (hb : 0 < b) (h : a ≤ m * b) : dv a b ≤ m := by
  have := dv_mono a (m * b) b hb h
  rw [dv_mul m b hb] at this
  exact this
theorem dv_ge (a b m : Int) (hb : 0 < b) (h : m * b ≤ a) : m ≤ dv a b := by
  have := dv_mono (m * b) a b hb h
  rw [dv_mul m b hb] at this
  exact this

/-- Go's quotient and remainder of a negative number, held against rounding down. -/
theorem floor_neg (a b : Int) (hb : 0 < b) (ha : a < 0) : (a.tmod b = 0 → a.tdiv b = a / b) ∧ (a.tmod b ≠ 0 → a.tdiv b - 1 = a / b) := by
  have h1 := Int.mul_tdiv_add_tmod a b
  have h2 := Int.emod_add_mul_ediv a b
  have h3 := Int.emod_nonneg a (Int.ne_of_gt hb)
  have h4 := Int.emod_lt_of_pos a hb
  have h5 : -b < a.tmod b := by
    have := Int.lt_tmod_of_pos a hb
    omega
  have h6 : a.tmod b ≤ 0 := by
    have := Int.tmod_nonneg b (show 0 ≤ -a by omega)
    rw [Int.neg_tmod] at this
    omega
  generalize a.tmod b = r at *
  generalize a.tdiv b = q at *
  generalize a % b = r' at *
  generalize a / b = q' at *
  have key : b * (q - q') = r' - r := by rw [Int.mul_sub]; omega
  constructor
  · intro h
    have h7 : b * (q - q') < b * 1 := by omega
    have h8 : b * (-1) < b * (q - q') := by omega
    have := Int.lt_of_mul_lt_mul_left h7 (by omega)
    have := Int.lt_of_mul_lt_mul_left h8 (by omega)
    omega
  · intro h
    have h7 : b * (q - q') < b * 2 := by omega
    have h8 : b * 0 < b * (q - q') := by omega
    have := Int.lt_of_mul_lt_mul_left h7 (by omega)
    have := Int.lt_of_mul_lt_mul_left h8 (by omega)
    omega
theorem tdiv_bd (a b : Int) (hb : 0 < b) (ha : a < 0) : a ≤ a.tdiv b ∧ a.tdiv b ≤ 0 := by
  have h1 : (-a).tdiv b = (-a) / b := Int.tdiv_eq_ediv_of_nonneg (by omega)
  rw [Int.neg_tdiv] at h1
  have h2 : 0 ≤ (-a) / b := Int.ediv_nonneg (by omega) (by omega)
  have h3 : (-a) / b ≤ -a := Int.ediv_le_self b (by omega)
  omega
theorem ediv_bd (a b : Int) (hb : 0 < b) (h0 : 0 ≤ a) : 0 ≤ a / b ∧ a / b ≤ a :=
  ⟨Int.ediv_nonneg h0 (by omega), Int.ediv_le_self b h0⟩
/-- The parts of a rounded-down quotient, for any dividend. -/
theorem fl_bd (a b : Int) (hb : 0 < b) : b * (a / b) ≤ a ∧ a < b * (a / b) + b := by
  have h2 := Int.emod_add_mul_ediv a b
  have h3 := Int.emod_nonneg a (Int.ne_of_gt hb)
  have h4 := Int.emod_lt_of_pos a hb
  omega
theorem fl_sub (a b : Int) : a - b * (a / b) = a % b := by
  have h2 := Int.emod_add_mul_ediv a b
  omega
theorem fl_lo (a b : Int) (hb : 0 < b) : (if a < 0 then a else 0) ≤ a / b := by
  have h := fl_bd a b hb
  split
  · rename_i ha
    have h2 : b * a ≤ 1 * a := Int.mul_le_mul_of_nonpos_right (by omega) (by omega)
    have : b * a < b * (a / b + 1) := by rw [Int.mul_add]; omega
    have := Int.lt_of_mul_lt_mul_left this (by omega)
    omega
  · exact Int.ediv_nonneg (by omega) (by omega)
theorem fl_hi (a b : Int) (hb : 0 < b) : a / b ≤ (if a < 0 then 0 else a) := by
  split
  · rename_i ha
    have h := fl_bd a b hb
    have : b * (a / b) < b * 0 := by omega
    have := Int.lt_of_mul_lt_mul_left this (by omega)
    omega
  · exact Int.ediv_le_self b (by omega)
end Go.Proofs.YtieacbccadbdbaaGreatDoor


/- Plain functions for blend modes of single channels; b and s are unit values. -/
namespace Go.Proofs.YtieacbccadbdbaaGreatDoor
set_option linter.unusedVariables false

def mulU (b s : Int) : Int := dv (b * s) 65535
def scrU (b s : Int) : Int := b + s - mulU b s
def hrdU (b s : Int) : Int := if 2 * s ≤ 65535 then mulU b (2 * s) else scrU b (2 * s - 65535)
def ddgU (b s : Int) : Int := if b = 0 then 0 else if s = 65535 then 65535 else min 65535 (dv (b * 65535) (65535 - s))
def sftU (b s : Int) : Int := cl (dv (b * ((65535 - 2 * s) * b + 2 * s * 65535)) 4294836225)
def excU (b s : Int) : Int := cl (b + s - dv (2 * b * s) 65535)
/-- The blended value of two unit values by a mode. -/
def chU (m b s : Int) : Int :=
  if m = 1 then mulU b s else if m = 2 then scrU b s else if m = 3 then hrdU s b else if m = 4 then min b s else if m = 5 then max b s
  else if m = 6 then ddgU b s else if m = 7 then 65535 - ddgU (65535 - b) (65535 - s) else if m = 8 then hrdU b s else if m = 9 then sftU b s
  else if m = 10 then max (b - s) (s - b) else if m = 11 then excU b s else if m = 12 then cl (b + s) else if m = 13 then cl (b - s) else s

theorem mulU_bd (b s : Int) (hb : 0 ≤ b ∧ b ≤ 65535) (hs : 0 ≤ s ∧ s ≤ 65535) : 0 ≤ mulU b s ∧ mulU b s ≤ b ∧ mulU b s ≤ s := by
  have h0 : 0 ≤ b * s := Int.mul_nonneg hb.1 hs.1
  have h1 : b * s ≤ b * 65535 := Int.mul_le_mul_of_nonneg_left hs.2 hb.1
  have h2 : b * s ≤ 65535 * s := Int.mul_le_mul_of_nonneg_right hb.2 hs.1
  exact ⟨dv_nonneg _ _ (by omega) h0, dv_le _ _ _ (by omega) h1, dv_le _ _ _ (by omega) (by omega)⟩
theorem mulU_comm (b s : Int) : mulU b s = mulU s b := by unfold mulU; rw [Int.mul_comm]
theorem scrU_bd (b s : Int) (hb : 0 ≤ b ∧ b ≤ 65535) (hs : 0 ≤ s ∧ s ≤ 65535) : b ≤ scrU b s ∧ s ≤ scrU b s ∧ scrU b s ≤ 65535 := by
  have h := mulU_bd b s hb hs
  refine ⟨by unfold scrU; omega, by unfold scrU; omega, ?_⟩
  have h1 : (b + s - 65535) * 65535 ≤ b * s := by
    have : 0 ≤ (65535 - b) * (65535 - s) := Int.mul_nonneg (by omega) (by omega)
    have e : (65535 - b) * (65535 - s) = 65535 * 65535 - 65535 * s - b * 65535 + b * s := by
      rw [Int.sub_mul, Int.mul_sub, Int.mul_sub]; omega
    omega
  have := dv_ge (b * s) 65535 (b + s - 65535) (by omega) h1
  unfold scrU mulU
  omega
theorem hrdU_bd (b s : Int) (hb : 0 ≤ b ∧ b ≤ 65535) (hs : 0 ≤ s ∧ s ≤ 65535) : 0 ≤ hrdU b s ∧ hrdU b s ≤ 65535 := by
  unfold hrdU
  split
  · have := mulU_bd b (2 * s) hb (by omega); omega
  · have := scrU_bd b (2 * s - 65535) hb (by omega); omega
theorem ddgU_bd (b s : Int) (hb : 0 ≤ b ∧ b ≤ 65535) (hs : 0 ≤ s ∧ s ≤ 65535) : 0 ≤ ddgU b s ∧ ddgU b s ≤ 65535 := by
  unfold ddgU
  split
  · omega
  · split
    · omega
    · have := dv_nonneg (b * 65535) (65535 - s) (by omega) (by omega)
      omega
theorem chU_bd (m b s : Int) (hb : 0 ≤ b ∧ b ≤ 65535) (hs : 0 ≤ s ∧ s ≤ 65535) : 0 ≤ chU m b s ∧ chU m b s ≤ 65535 := by
  have h1 := mulU_bd b s hb hs
  have h2 := scrU_bd b s hb hs
  have h3 := hrdU_bd s b hs hb
  have h4 := hrdU_bd b s hb hs
  have h5 := ddgU_bd b s hb hs
  have h6 := ddgU_bd (65535 - b) (65535 - s) (by omega) (by omega)
  have h7 : 0 ≤ sftU b s ∧ sftU b s ≤ 65535 := cl_bd _
  have h8 : 0 ≤ excU b s ∧ excU b s ≤ 65535 := cl_bd _
  have h9 := cl_bd (b + s)
  have h10 := cl_bd (b - s)
  unfold chU
  repeat' split
  all_goals omega
theorem soft_bd (b s : Int) (hb : 0 ≤ b ∧ b ≤ 65535) (hs : 0 ≤ s ∧ s ≤ 65535) :
    -4294836225 ≤ (65535 - 2 * s) * b ∧ (65535 - 2 * s) * b ≤ 4294836225 ∧ -1000000000000000 ≤ b * ((65535 - 2 * s) * b + 2 * s * 65535) ∧ b * ((65535 - 2 * s) * b + 2 * s * 65535) ≤ 1000000000000000 := by
  have h1 : (65535 - 2 * s) * b ≤ 65535 * 65535 := by
    have := Int.mul_le_mul (show 65535 - 2 * s ≤ 65535 by omega) hb.2 hb.1 (by omega)
    exact this
  have h2 : -(65535 * 65535) ≤ (65535 - 2 * s) * b := by
    have a := Int.mul_le_mul (show -(65535 - 2 * s) ≤ 65535 by omega) hb.2 hb.1 (by omega)
    rw [Int.neg_mul] at a
    omega
  generalize (65535 - 2 * s) * b = p at *
  have h3 : b * (p + 2 * s * 65535) ≤ 65535 * 12884508675 := by
    rcases Int.le_total 0 (p + 2 * s * 65535) with h | h
    · exact Int.mul_le_mul hb.2 (by omega) h (by omega)
    · have := Int.mul_nonpos_of_nonneg_of_nonpos hb.1 h
      omega
  have h4 : -(65535 * 4294836225) ≤ b * (p + 2 * s * 65535) := by
    have a : b * (-(p + 2 * s * 65535)) ≤ 65535 * 4294836225 := by
      rcases Int.le_total 0 (-(p + 2 * s * 65535)) with h | h
      · exact Int.mul_le_mul hb.2 (by omega) h (by omega)
      · have := Int.mul_nonpos_of_nonneg_of_nonpos hb.1 h
        omega
    rw [Int.mul_neg] at a
    omega
  omega
theorem exc_bd (b s : Int) (hb : 0 ≤ b ∧ b ≤ 65535) (hs : 0 ≤ s ∧ s ≤ 65535) :
    0 ≤ 2 * b * s ∧ 2 * b * s ≤ 8589672450 ∧ 0 ≤ dv (2 * b * s) 65535 ∧ dv (2 * b * s) 65535 ≤ 131070 := by
  have h0 : 0 ≤ 2 * b * s := Int.mul_nonneg (by omega) hs.1
  have h1 : 2 * b * s ≤ 131070 * 65535 := Int.mul_le_mul (by omega) hs.2 hs.1 (by omega)
  exact ⟨h0, by omega, dv_nonneg _ _ (by omega) h0, dv_le _ _ _ (by omega) h1⟩
end Go.Proofs.YtieacbccadbdbaaGreatDoor


/- Plain functions for colors of three channels. -/
namespace Go.Proofs.YtieacbccadbdbaaGreatDoor
set_option linter.unusedVariables false

def U (x : Int) : Prop := 0 ≤ x ∧ x ≤ 65535
def lumU (a b c : Int) : Int := dv (30 * a + 59 * b + 11 * c) 100
theorem lumU_bd (a b c : Int) (ha : U a) (hb : U b) (hc : U c) : U (lumU a b c) := by
  unfold U at *
  exact ⟨dv_nonneg _ _ (by omega) (by omega), dv_le _ _ _ (by omega) (by omega)⟩
def mn3 (a b c : Int) : Int := min (min a b) c
def mx3 (a b c : Int) : Int := max (max a b) c
/-- One channel of a color with another saturation. -/
def ssC (s n x c : Int) : Int := if x = n then 0 else dv ((c - n) * s) (x - n)
theorem ssC_bd (s n x c : Int) (hs : U s) (h1 : n ≤ c) (h2 : c ≤ x) : U (ssC s n x c) := by
  unfold U at *
  unfold ssC
  split
  · omega
  · have a1 : 0 ≤ (c - n) * s := Int.mul_nonneg (by omega) hs.1
    have a2 : (c - n) * s ≤ (x - n) * s := Int.mul_le_mul_of_nonneg_right (by omega) hs.1
    have a3 := dv_nonneg _ (x - n) (by omega) a1
    have a4 := dv_le ((c - n) * s) (x - n) s (by omega) (by rw [Int.mul_comm s]; exact a2)
    omega
def slA (n l c : Int) : Int := l + dv ((c - l) * l) (l - n)
def slB (x l c : Int) : Int := l + dv ((c - l) * (65535 - l)) (x - l)
/-- One channel of a color with another luminosity. -/
def slC (n x l c : Int) : Int := cl (if 65535 < x then slB x l (if n < 0 then slA n l c else c) else (if n < 0 then slA n l c else c))
/-- One channel v of the color (a, b, c) with the luminosity l. -/
def slF (a b c l v : Int) : Int := slC (mn3 (a + (l - lumU a b c)) (b + (l - lumU a b c)) (c + (l - lumU a b c))) (mx3 (a + (l - lumU a b c)) (b + (l - lumU a b c)) (c + (l - lumU a b c))) l (v + (l - lumU a b c))
theorem slF_eq (a b c l v : Int) : slF a b c l v = cl (if 65535 < mx3 (a + (l - lumU a b c)) (b + (l - lumU a b c)) (c + (l - lumU a b c)) then slB (mx3 (a + (l - lumU a b c)) (b + (l - lumU a b c)) (c + (l - lumU a b c))) l (if mn3 (a + (l - lumU a b c)) (b + (l - lumU a b c)) (c + (l - lumU a b c)) < 0 then slA (mn3 (a + (l - lumU a b c)) (b + (l - lumU a b c)) (c + (l - lumU a b c))) l (v + (l - lumU a b c)) else v + (l - lumU a b c)) else (if mn3 (a + (l - lumU a b c)) (b + (l - lumU a b c)) (c + (l - lumU a b c)) < 0 then slA (mn3 (a + (l - lumU a b c)) (b + (l - lumU a b c)) (c + (l - lumU a b c))) l (v + (l - lumU a b c)) else v + (l - lumU a b c))) := rfl
theorem slF_bd (a b c l v : Int) : U (slF a b c l v) := cl_bd _
theorem cdv_abs (a b : Int) (hb : 0 < b) (M : Int) (h1 : -M ≤ a) (h2 : a ≤ M) (hM : 0 ≤ M) : -M ≤ dv a b ∧ dv a b ≤ M := by
  have e1 : a ≤ M * b := by
    have := Int.mul_le_mul_of_nonneg_left (show 1 ≤ b by omega) hM
    omega
  have e2 : -M * b ≤ a := by
    have := Int.mul_le_mul_of_nonneg_left (show 1 ≤ b by omega) hM
    rw [Int.neg_mul]
    omega
  exact ⟨dv_ge _ _ _ hb e2, dv_le _ _ _ hb e1⟩
theorem prod_bd (a b A : Int) (h1 : -A ≤ a) (h2 : a ≤ A) (hb : 0 ≤ b ∧ b ≤ 65535) (hA : 0 ≤ A) : -(A * 65535) ≤ a * b ∧ a * b ≤ A * 65535 := by
  have h3 : a * b ≤ A * b := Int.mul_le_mul_of_nonneg_right h2 hb.1
  have h4 : A * b ≤ A * 65535 := Int.mul_le_mul_of_nonneg_left hb.2 hA
  have h5 : -A * b ≤ a * b := Int.mul_le_mul_of_nonneg_right h1 hb.1
  rw [Int.neg_mul] at h5
  omega
/-- The bounds of the two steps. -/
theorem slA_bd (n l c : Int) (hl : 0 ≤ l ∧ l ≤ 65535) (hn : n < 0) (h1 : -65535 ≤ c) (h2 : c ≤ 131070) :
    -12884508675 ≤ (c - l) * l ∧ (c - l) * l ≤ 12884508675 ∧ -12884508675 ≤ dv ((c - l) * l) (l - n) ∧ dv ((c - l) * l) (l - n) ≤ 12884508675 := by
  have b1 := prod_bd (c - l) l 196605 (by omega) (by omega) hl (by omega)
  have b2 := cdv_abs ((c - l) * l) (l - n) (by omega) 12884508675 (by omega) (by omega) (by omega)
  omega
theorem slB_bd (x l c : Int) (hl : 0 ≤ l ∧ l ≤ 65535) (hx : 65535 < x) (h1 : -12884508675 ≤ c) (h2 : c ≤ 12884574210) :
    -1000000000000000 ≤ (c - l) * (65535 - l) ∧ (c - l) * (65535 - l) ≤ 1000000000000000 ∧ -1000000000000000 ≤ dv ((c - l) * (65535 - l)) (x - l) ∧ dv ((c - l) * (65535 - l)) (x - l) ≤ 1000000000000000 := by
  have b1 := prod_bd (c - l) (65535 - l) 12884574210 (by omega) (by omega) (by omega) (by omega)
  have b2 := cdv_abs ((c - l) * (65535 - l)) (x - l) (by omega) 1000000000000000 (by omega) (by omega) (by omega)
  omega
end Go.Proofs.YtieacbccadbdbaaGreatDoor


/- Plain functions for compositing a pixel over another one. -/
namespace Go.Proofs.YtieacbccadbdbaaGreatDoor
set_option linter.unusedVariables false

def dU (ba sa : Int) : Int := 65535 * (sa + ba) - sa * ba
def nU (b s m ba sa : Int) : Int := s * sa * (65535 - ba) + b * ba * (65535 - sa) + m * sa * ba
def ovC (b s m ba sa : Int) : Int := dv (nU b s m ba sa) (dU ba sa)
def alU (ba sa : Int) : Int := dv (dU ba sa) 65535
theorem mul_u2 (a b : Int) (ha : 0 ≤ a ∧ a ≤ 65535) (hb : 0 ≤ b ∧ b ≤ 65535) : 0 ≤ a * b ∧ a * b ≤ 4294836225 := by
  have h1 : a * b ≤ 65535 * 65535 := Int.mul_le_mul ha.2 hb.2 hb.1 (by omega)
  exact ⟨Int.mul_nonneg ha.1 hb.1, by omega⟩
theorem mul_u3 (a b c : Int) (ha : 0 ≤ a ∧ a ≤ 65535) (hb : 0 ≤ b ∧ b ≤ 65535) (hc : 0 ≤ c ∧ c ≤ 65535) : 0 ≤ a * b * c ∧ a * b * c ≤ 281462092005375 := by
  have h := mul_u2 a b ha hb
  have h1 : a * b * c ≤ 4294836225 * 65535 := Int.mul_le_mul h.2 hc.2 hc.1 (by omega)
  exact ⟨Int.mul_nonneg h.1 hc.1, by omega⟩
theorem dU_bd (ba sa : Int) (h1 : 0 ≤ ba ∧ ba ≤ 65535) (h2 : 0 ≤ sa ∧ sa ≤ 65535) : 0 ≤ dU ba sa ∧ dU ba sa ≤ 4294836225 := by
  have e : dU ba sa = 65535 * 65535 - (65535 - sa) * (65535 - ba) := by
    unfold dU
    rw [Int.sub_mul, Int.mul_sub, Int.mul_sub, Int.mul_add]
    omega
  have h := mul_u2 (65535 - sa) (65535 - ba) (by omega) (by omega)
  omega
theorem alU_bd (ba sa : Int) (h1 : 0 ≤ ba ∧ ba ≤ 65535) (h2 : 0 ≤ sa ∧ sa ≤ 65535) : 0 ≤ alU ba sa ∧ alU ba sa ≤ 65535 := by
  have h := dU_bd ba sa h1 h2
  exact ⟨dv_nonneg _ _ (by omega) h.1, dv_le _ _ _ (by omega) (by omega)⟩
theorem alU_pos (ba sa : Int) (h1 : 0 ≤ ba ∧ ba ≤ 65535) (h2 : 0 ≤ sa ∧ sa ≤ 65535) (h : alU ba sa ≠ 0) : 0 < dU ba sa := by
  have hd := dU_bd ba sa h1 h2
  rcases Int.lt_or_le 0 (dU ba sa) with h3 | h3
  · exact h3
  · exfalso
    apply h
    have e : dU ba sa = 0 := by omega
    unfold alU
    rw [e]
    rfl
end Go.Proofs.YtieacbccadbdbaaGreatDoor


/- Plain functions for curves: what Check and At come to. -/
namespace Go.Proofs.YtieacbccadbdbaaGreatDoor
set_option linter.unusedVariables false

/-- The first of n errors from the index i on, or 0. -/
def ferr (f : Nat → Int) : Nat → Nat → Int
  | 0, _ => 0
  | m + 1, i => if f i = 0 then ferr f m (i + 1) else f i
theorem ferr_go (f : Nat → Int) (n k : Nat) (h : k < n) (h0 : f k = 0) : ferr f (n - k) k = ferr f (n - (k + 1)) (k + 1) := by
  rw [show n - k = (n - (k + 1)) + 1 from by omega]
  show (if f k = 0 then _ else _) = _
  rw [if_pos h0]
theorem ferr_at (f : Nat → Int) (n k : Nat) (h : k < n) (h0 : f k ≠ 0) : ferr f (n - k) k = f k := by
  rw [show n - k = (n - (k + 1)) + 1 from by omega]
  show (if f k = 0 then _ else _) = _
  rw [if_neg h0]
theorem ferr_end (f : Nat → Int) (n : Nat) : ferr f (n - n) n = 0 := by rw [Nat.sub_self]; rfl
theorem ferr_zero (f : Nat → Int) : ∀ (m i : Nat), ferr f m i = 0 → ∀ j, i ≤ j → j < i + m → f j = 0
  | 0, i, _, j, h1, h2 => by omega
  | m + 1, i, h, j, h1, h2 => by
    have h' : (if f i = 0 then ferr f m (i + 1) else f i) = 0 := h
    by_cases h0 : f i = 0
    · rw [if_pos h0] at h'
      by_cases hj : j = i
      · rw [hj]; exact h0
      · exact ferr_zero f m (i + 1) h' j (by omega) (by omega)
    · rw [if_neg h0] at h'
      exact absurd h' h0
theorem ferr_of (f : Nat → Int) : ∀ (m i : Nat), (∀ j, i ≤ j → j < i + m → f j = 0) → ferr f m i = 0
  | 0, i, _ => rfl
  | m + 1, i, h => by
    show (if f i = 0 then ferr f m (i + 1) else f i) = 0
    rw [if_pos (h i (by omega) (by omega))]
    exact ferr_of f m (i + 1) (fun j h1 h2 => h j (by omega) (by omega))
theorem ferr_congr (f g : Nat → Int) : ∀ (m i : Nat), (∀ j, i ≤ j → j < i + m → f j = g j) → ferr f m i = ferr g m i
  | 0, i, _ => rfl
  | m + 1, i, h => by
    show (if f i = 0 then ferr f m (i + 1) else f i) = (if g i = 0 then ferr g m (i + 1) else g i)
    rw [h i (by omega) (by omega), ferr_congr f g m (i + 1) (fun j h1 h2 => h j (by omega) (by omega))]

abbrev Knots := List (Int × Int)
def kX (ks : Knots) (i : Nat) : Int := (ks.getD i (0, 0)).1
def kY (ks : Knots) (i : Nat) : Int := (ks.getD i (0, 0)).2
def kbad (ks : Knots) (i : Nat) : Int :=
  if kX ks i ≠ cl (kX ks i) then 2 else if kY ks i ≠ cl (kY ks i) then 2 else if 0 < i ∧ kX ks i ≤ kX ks (i - 1) then 24 else 0
def kchk (ks : Knots) : Int := if ks.length < 2 then 1 else if 16 < ks.length then 3 else ferr (kbad ks) (ks.length - 0) 0
theorem cl_iff (x : Int) : x = cl x ↔ 0 ≤ x ∧ x ≤ 65535 := by
  constructor
  · intro h; have := cl_bd x; omega
  · intro h; exact (cl_id x h.1 h.2).symm
/-- What a curve that is in order is good for. -/
theorem kchk_ok (ks : Knots) (h : kchk ks = 0) : 2 ≤ ks.length ∧ ks.length ≤ 16 ∧ (∀ i, i < ks.length → 0 ≤ kX ks i ∧ kX ks i ≤ 65535 ∧ 0 ≤ kY ks i ∧ kY ks i ≤ 65535) ∧ (∀ i, 0 < i → i < ks.length → kX ks (i - 1) < kX ks i) := by
  unfold kchk at h
  split at h
  · omega
  · split at h
    · omega
    · have h0 := ferr_zero _ _ _ h
      refine ⟨by omega, by omega, fun i hi => ?_, fun i h1 hi => ?_⟩
      · have := h0 i (by omega) (by omega)
        unfold kbad at this
        by_cases c1 : kX ks i ≠ cl (kX ks i)
        · rw [if_pos c1] at this; omega
        · rw [if_neg c1] at this
          by_cases c2 : kY ks i ≠ cl (kY ks i)
          · rw [if_pos c2] at this; omega
          · have c1' := (cl_iff _).1 (Decidable.not_not.1 c1)
            have c2' := (cl_iff _).1 (Decidable.not_not.1 c2)
            exact ⟨c1'.1, c1'.2, c2'.1, c2'.2⟩
      · have := h0 i (by omega) (by omega)
        unfold kbad at this
        by_cases c1 : kX ks i ≠ cl (kX ks i)
        · rw [if_pos c1] at this; omega
        · rw [if_neg c1] at this
          by_cases c2 : kY ks i ≠ cl (kY ks i)
          · rw [if_pos c2] at this; omega
          · rw [if_neg c2] at this
            by_cases c3 : 0 < i ∧ kX ks i ≤ kX ks (i - 1)
            · rw [if_pos c3] at this; omega
            · omega

/-- The value between the knots i - 1 and i. -/
def kmid (ks : Knots) (x : Int) (i : Nat) : Int := kY ks (i - 1) + dv ((kY ks i - kY ks (i - 1)) * (x - kX ks (i - 1))) (kX ks i - kX ks (i - 1))
def kfrom (ks : Knots) (x : Int) : Nat → Nat → Int
  | 0, _ => kY ks (ks.length - 1)
  | m + 1, i => if x < kX ks i then kmid ks x i else kfrom ks x m (i + 1)
def kval (ks : Knots) (x : Int) : Int := if x ≤ kX ks 0 then kY ks 0 else kfrom ks x (ks.length - 1) 1
def kat (ks : Knots) (x : Int) : Int := if kchk ks = 0 then kval ks x else cl x
theorem kfrom_go (ks : Knots) (x : Int) (n k : Nat) (h : k < n) (h0 : ¬ x < kX ks k) : kfrom ks x (n - k) k = kfrom ks x (n - (k + 1)) (k + 1) := by
  rw [show n - k = (n - (k + 1)) + 1 from by omega]
  show (if _ then _ else _) = _
  rw [if_neg h0]
theorem kfrom_at (ks : Knots) (x : Int) (n k : Nat) (h : k < n) (h0 : x < kX ks k) : kfrom ks x (n - k) k = kmid ks x k := by
  rw [show n - k = (n - (k + 1)) + 1 from by omega]
  show (if _ then _ else _) = _
  rw [if_pos h0]
theorem kfrom_end (ks : Knots) (x : Int) (n : Nat) : kfrom ks x (n - n) n = kY ks (ks.length - 1) := by rw [Nat.sub_self]; rfl
theorem abs_mul_bd (a b A B : Int) (ha1 : -A ≤ a) (ha2 : a ≤ A) (hb1 : 0 ≤ b) (hb2 : b ≤ B) (hA : 0 ≤ A) : -(A * B) ≤ a * b ∧ a * b ≤ A * B := by
  have h1 : a * b ≤ A * b := Int.mul_le_mul_of_nonneg_right ha2 hb1
  have h2 : A * b ≤ A * B := Int.mul_le_mul_of_nonneg_left hb2 hA
  have h3 : -A * b ≤ a * b := Int.mul_le_mul_of_nonneg_right ha1 hb1
  rw [Int.neg_mul] at h3
  omega
/-- What the interpolation needs: the product's bound, the quotient's. -/
theorem kmid_bd (p q x y0 y1 : Int) (h1 : 0 ≤ y0) (h2 : y0 ≤ 65535) (h3 : 0 ≤ y1) (h4 : y1 ≤ 65535) (hp : 0 ≤ p) (hq : q ≤ 65535) (hx : p ≤ x) (hx2 : x < q) :
    -4294836225 ≤ (y1 - y0) * (x - p) ∧ (y1 - y0) * (x - p) ≤ 4294836225 ∧ -65535 ≤ dv ((y1 - y0) * (x - p)) (q - p) ∧ dv ((y1 - y0) * (x - p)) (q - p) ≤ 65535 := by
  have b1 := abs_mul_bd (y1 - y0) (x - p) 65535 65535 (by omega) (by omega) (by omega) (by omega) (by omega)
  have b2 := abs_mul_bd (y1 - y0) (x - p) 65535 (q - p) (by omega) (by omega) (by omega) (by omega) (by omega)
  refine ⟨by omega, by omega, dv_ge _ _ _ (by omega) (by rw [Int.neg_mul]; exact b2.1), dv_le _ _ _ (by omega) b2.2⟩
end Go.Proofs.YtieacbccadbdbaaGreatDoor


/- Plain functions for package num: the length of a vector, bit by bit. -/
namespace Go.Proofs.YtieacbccadbdbaaGreatDoor
set_option linter.unusedVariables false

/-- The bit that is tried in round k. -/
def bitAt (k : Nat) : Nat := 9223372036854775808 / 2 ^ k
theorem bitAt_succ (k : Nat) : bitAt (k + 1) = bitAt k / 2 := by
  unfold bitAt
  rw [Nat.pow_succ, Nat.div_div_eq_div_mul]
theorem bitAt_pow (k : Nat) (h : k ≤ 63) : bitAt k = 2 ^ (63 - k) := by
  unfold bitAt
  rw [show (9223372036854775808 : Nat) = 2 ^ 63 from by decide, Nat.pow_div h (by decide)]
theorem bitAt_pos (k : Nat) (h : k < 64) : 0 < bitAt k := by
  rw [bitAt_pow k (by omega)]
  exact Nat.two_pow_pos _
theorem bitAt_le (k : Nat) : bitAt k ≤ 9223372036854775808 := Nat.div_le_self _ _
theorem bitAt_end : bitAt 64 = 0 := by decide

/-- The root after k rounds. -/
def hyp (N : Nat) : Nat → Nat
  | 0 => 0
  | k + 1 => if (hyp N k + bitAt k) * (hyp N k + bitAt k) ≤ N then hyp N k + bitAt k else hyp N k
theorem hyp_succ (N k : Nat) : hyp N (k + 1) = if (hyp N k + bitAt k) * (hyp N k + bitAt k) ≤ N then hyp N k + bitAt k else hyp N k := rfl
theorem hyp_sq (N : Nat) : ∀ k, hyp N k * hyp N k ≤ N
  | 0 => by simp [hyp]
  | k + 1 => by
    rw [hyp_succ]
    split
    · assumption
    · exact hyp_sq N k
theorem hyp_mod (N : Nat) : ∀ k, k ≤ 64 → ∃ m, hyp N k = m * 2 ^ (64 - k) ∧ m < 2 ^ k
  | 0, _ => ⟨0, by simp [hyp], by decide⟩
  | k + 1, h => by
    obtain ⟨m, hm, hl⟩ := hyp_mod N k (by omega)
    have e : (2 : Nat) ^ (64 - k) = 2 * 2 ^ (64 - (k + 1)) := by
      rw [show 64 - k = (64 - (k + 1)) + 1 from by omega, Nat.pow_succ, Nat.mul_comm]
    have eb : bitAt k = 2 ^ (64 - (k + 1)) := by rw [bitAt_pow k (by omega)]; congr 1; omega
    have e2 : (2 : Nat) ^ (k + 1) = 2 * 2 ^ k := by rw [Nat.pow_succ, Nat.mul_comm]
    rw [hyp_succ]
    split
    · refine ⟨2 * m + 1, ?_, by omega⟩
      rw [hm, eb, e, Nat.add_mul, Nat.mul_comm 2 m, Nat.mul_assoc]
      omega
    · refine ⟨2 * m, ?_, by omega⟩
      rw [hm, e, Nat.mul_comm 2 m, Nat.mul_assoc]
theorem hyp_lt (N k : Nat) (h : k < 64) : hyp N k + bitAt k < 18446744073709551616 := by
  obtain ⟨m, hm, hl⟩ := hyp_mod N k (by omega)
  have e : (2 : Nat) ^ (64 - k) = 2 * bitAt k := by
    rw [bitAt_pow k (by omega), show 64 - k = (63 - k) + 1 from by omega, Nat.pow_succ, Nat.mul_comm]
  have hp := bitAt_pos k h
  have h2 : (m + 1) * 2 ^ (64 - k) ≤ 2 ^ k * 2 ^ (64 - k) := Nat.mul_le_mul_right _ hl
  have h3 : (2 : Nat) ^ k * 2 ^ (64 - k) = 18446744073709551616 := by
    rw [← Nat.pow_add, show k + (64 - k) = 64 from by omega]
  rw [h3, Nat.add_mul, ← hm, e] at h2
  omega
theorem hyp_or (N k : Nat) (h : k < 64) : hyp N k ||| bitAt k = hyp N k + bitAt k := by
  obtain ⟨m, hm, hl⟩ := hyp_mod N k (by omega)
  have e : (2 : Nat) ^ (64 - k) = 2 ^ (63 - k) * 2 := by
    rw [show 64 - k = (63 - k) + 1 from by omega, Nat.pow_succ]
  refine nat_join (64 - k) _ _ ?_ ?_
  · rw [hm]; exact Nat.mul_mod_left _ _
  · rw [bitAt_pow k (by omega), e]
    have := Nat.two_pow_pos (63 - k)
    omega
/-- The length of a vector, rounded down. -/
def hypot (x y : Int) : Int := (hyp (x * x + y * y).toNat 64 : Nat)
theorem hypot_nonneg (x y : Int) : 0 ≤ hypot x y := by unfold hypot; omega
theorem hypot_le (x y m : Int) (hm : 0 ≤ m) (h : x * x + y * y ≤ m * m) : hypot x y ≤ m := by
  have h1 := hyp_sq (x * x + y * y).toNat 64
  unfold hypot
  generalize hyp (x * x + y * y).toNat 64 = r at *
  have hx : 0 ≤ x * x := by rcases Int.le_total 0 x with h | h; exact Int.mul_nonneg h h; exact Int.mul_nonneg_of_nonpos_of_nonpos h h
  have hy : 0 ≤ y * y := by rcases Int.le_total 0 y with h | h; exact Int.mul_nonneg h h; exact Int.mul_nonneg_of_nonpos_of_nonpos h h
  have h2 : (r : Int) * r ≤ m * m := by
    have : ((r * r : Nat) : Int) ≤ x * x + y * y := by omega
    rw [Int.natCast_mul] at this
    omega
  rcases Int.lt_or_le m r with h3 | h3
  · have : m * m < (r : Int) * r := by
      have a1 : m * m ≤ m * r := Int.mul_le_mul_of_nonneg_left (by omega) hm
      have a2 : m * r < (r : Int) * r := Int.mul_lt_mul_of_pos_right h3 (by omega)
      omega
    omega
  · exact h3
end Go.Proofs.YtieacbccadbdbaaGreatDoor


/- Plain functions for package random: the mixing, the numbers at a place, and the rounds that undo the mixing. -/
namespace Go.Proofs.YtieacbccadbdbaaGreatDoor
open Go
set_option linter.unusedVariables false

def mixI (x : Int) : Int :=
  let z1 := IntKind.u64.wrap (bits .xor .u64 x (x / 1073741824) * 13787848793156543929)
  let z2 := IntKind.u64.wrap (bits .xor .u64 z1 (z1 / 134217728) * 10723151780598845931)
  bits .xor .u64 z2 (z2 / 2147483648)
def seedI (a b c : Int) : Int :=
  bits .xor .u64 (bits .xor .u64 (IntKind.u64.wrap a) (IntKind.u64.wrap (IntKind.u64.wrap b * 11400714819323198485))) (IntKind.u64.wrap (IntKind.u64.wrap c * 14029467366897019727))
def atI (a b c : Int) : Int := mixI (seedI a b c) / 4294967296 % 4294967296

theorem bits_bd (a b : Int) : 0 ≤ bits .xor .u64 a b ∧ bits .xor .u64 a b < 18446744073709551616 := by
  unfold bits; simp only [IntKind.wrap_u64]; omega
theorem at_bd (a b c : Int) : 0 ≤ atI a b c ∧ atI a b c < 4294967296 := by unfold atI; omega

def belowI (a b c n : Int) : Int := if n < 1 then 0 else if n ≤ 2147483648 then atI a b c * n / 4294967296 else atI a b c * 2147483648 / 4294967296

theorem at_mul_bd (a b c n : Int) (h : 1 ≤ n) (h' : n ≤ 2147483648) : 0 ≤ atI a b c * n ∧ atI a b c * n ≤ 9223372034707292160 := by
  have hb := at_bd a b c
  have h1 : atI a b c * n ≤ 4294967295 * n := Int.mul_le_mul_of_nonneg_right (by omega) (by omega)
  exact ⟨Int.mul_nonneg hb.1 (by omega), by omega⟩

theorem below_bd (a b c n : Int) (h : 1 ≤ n) : 0 ≤ belowI a b c n ∧ belowI a b c n < n := by
  have hb := at_bd a b c
  unfold belowI
  rw [if_neg (by omega)]
  split
  · have h1 : atI a b c * n ≤ 4294967295 * n := Int.mul_le_mul_of_nonneg_right (by omega) (by omega)
    have h2 : 0 ≤ atI a b c * n := Int.mul_nonneg hb.1 (by omega)
    omega
  · omega
end Go.Proofs.YtieacbccadbdbaaGreatDoor


/- Plain functions for brush dynamics. -/
namespace Go.Proofs.YtieacbccadbdbaaGreatDoor
set_option linter.unusedVariables false

abbrev Dyns := List (Int × Int × Knots)
def dT (ds : Dyns) (i : Nat) : Int := (ds.getD i (0, 0, [])).1
def dS (ds : Dyns) (i : Nat) : Int := (ds.getD i (0, 0, [])).2.1
def dC (ds : Dyns) (i : Nat) : Knots := (ds.getD i (0, 0, [])).2.2
def dbad (ds : Dyns) (i : Nat) : Int :=
  if dT ds i < 1 then 8 else if 4 < dT ds i then 8 else if dS ds i < 1 then 8 else if 5 < dS ds i then 8 else kchk (dC ds i)
def dchk (ds : Dyns) : Int := if 8 < ds.length then 3 else ferr (dbad ds) (ds.length - 0) 0

/-- A coordinate, a time, limited. -/
def co (n : Int) : Int := min 16777216 (max n (-16777216))
def tm (n : Int) : Int := min 1073741824 (max n 0)
theorem co_bd (n : Int) : -16777216 ≤ co n ∧ co n ≤ 16777216 := by unfold co; omega
theorem tm_bd (n : Int) : 0 ≤ tm n ∧ tm n ≤ 1073741824 := by unfold tm; omega
def spd (ax ay at_ bx by_ bt : Int) : Int :=
  if tm bt - tm at_ ≤ 0 then 0 else cl (dv (hypot (co bx - co ax) (co by_ - co ay) * 65535) (64 * (tm bt - tm at_)))
theorem sq_le (x B : Int) (h1 : -B ≤ x) (h2 : x ≤ B) : x * x ≤ B * B := by
  rcases Int.le_total 0 x with h | h
  · exact Int.mul_le_mul h2 h2 h (by omega)
  · have := Int.mul_le_mul (show -x ≤ B by omega) (show -x ≤ B by omega) (by omega) (by omega)
    rw [Int.neg_mul_neg] at this
    exact this
theorem hyp_bd (x y B : Int) (hx1 : -B ≤ x) (hx2 : x ≤ B) (hy1 : -B ≤ y) (hy2 : y ≤ B) : 0 ≤ hypot x y ∧ hypot x y ≤ 2 * B := by
  refine ⟨hypot_nonneg _ _, hypot_le _ _ _ (by omega) ?_⟩
  have h1 := sq_le x B hx1 hx2
  have h2 := sq_le y B hy1 hy2
  have h3 : 0 ≤ B * B := Int.mul_nonneg (by omega) (by omega)
  have e : 2 * B * (2 * B) = 4 * (B * B) := by rw [Int.mul_assoc, Int.mul_comm B, Int.mul_assoc]; omega
  omega

/-- The value of a source (of a sample's pressure and tilt). -/
def src (kind p t speed index seed : Int) : Int :=
  if kind = 1 then cl p else if kind = 2 then cl t else if kind = 3 then cl speed else if kind = 4 then atI seed index 1 / 65537
  else if kind = 5 then 65535 - min 65535 (1024 * min 64 (max index 0)) else 0
theorem src_bd (kind p t speed index seed : Int) : 0 ≤ src kind p t speed index seed ∧ src kind p t speed index seed ≤ 65535 := by
  have h1 := cl_bd p
  have h2 := cl_bd t
  have h3 := cl_bd speed
  have h4 := at_bd seed index 1
  unfold src
  repeat' split
  all_goals omega

def dstep (ds : Dyns) (target : Int) (f : Int → Int) (i : Nat) (v : Int) : Int :=
  if dT ds i = target then dv (cl v * cl (kat (dC ds i) (f (dS ds i)))) 65535 else v
def dfrom (ds : Dyns) (target : Int) (f : Int → Int) : Nat → Nat → Int → Int
  | 0, _, v => v
  | m + 1, i, v => dfrom ds target f m (i + 1) (dstep ds target f i v)
def dvalue (ds : Dyns) (target : Int) (f : Int → Int) : Int := if dchk ds = 0 then dfrom ds target f (ds.length - 0) 0 65535 else 65535
theorem dfrom_go (ds : Dyns) (target : Int) (f : Int → Int) (n k : Nat) (v : Int) (h : k < n) : dfrom ds target f (n - k) k v = dfrom ds target f (n - (k + 1)) (k + 1) (dstep ds target f k v) := by
  rw [show n - k = (n - (k + 1)) + 1 from by omega]
  rfl
theorem dfrom_end (ds : Dyns) (target : Int) (f : Int → Int) (n : Nat) (v : Int) : dfrom ds target f (n - n) n v = v := by rw [Nat.sub_self]; rfl
theorem mulU_bd' (a b : Int) : 0 ≤ dv (cl a * cl b) 65535 ∧ dv (cl a * cl b) 65535 ≤ 65535 := by
  have ha := cl_bd a
  have hb := cl_bd b
  have h1 : 0 ≤ cl a * cl b := Int.mul_nonneg ha.1 hb.1
  have h2 : cl a * cl b ≤ 65535 * 65535 := Int.mul_le_mul ha.2 hb.2 hb.1 (by omega)
  exact ⟨dv_nonneg _ _ (by omega) h1, dv_le _ _ _ (by omega) h2⟩
theorem dstep_bd (ds : Dyns) (target : Int) (f : Int → Int) (i : Nat) (v : Int) (h : 0 ≤ v ∧ v ≤ 65535) : 0 ≤ dstep ds target f i v ∧ dstep ds target f i v ≤ 65535 := by
  unfold dstep
  split
  · exact mulU_bd' _ _
  · exact h
end Go.Proofs.YtieacbccadbdbaaGreatDoor


/- The sines, plainly: a table, between whose entries straight lines lie. -/
namespace Go.Proofs.YtieacbccadbdbaaGreatDoor
set_option linter.unusedVariables false

def sinTab : List Int := [0, 1608, 3216, 4821, 6424, 8022, 9616, 11204, 12785, 14359, 15924, 17479, 19024, 20557, 22078, 23586, 25080, 26558, 28020, 29466, 30893, 32303, 33692, 35062, 36410, 37736, 39040, 40320, 41576, 42806, 44011, 45190, 46341, 47464, 48559, 49624, 50660, 51665, 52639, 53581, 54491, 55368, 56212, 57022, 57798, 58538, 59244, 59914, 60547, 61145, 61705, 62228, 62714, 63162, 63572, 63944, 64277, 64571, 64827, 65043, 65220, 65358, 65457, 65516, 65536]
def sT (i : Nat) : Int := sinTab.getD i 0
theorem sT_ok : ∀ i, i < 64 → 0 ≤ sT i ∧ sT i ≤ sT (i + 1) ∧ sT (i + 1) ≤ 65536 := by decide
theorem sT_bd (i : Nat) (h : i < 65) : 0 ≤ sT i ∧ sT i ≤ 65536 := by
  by_cases h1 : i < 64
  · have := sT_ok i h1; omega
  · obtain rfl : i = 64 := by omega
    decide
/-- The sine of an angle of up to a quarter. -/
def qtr (u : Int) : Int := if u = 16384 then 65536 else sT (u / 256).toNat + dv ((sT ((u / 256).toNat + 1) - sT (u / 256).toNat) * (u - 256 * (u / 256))) 256
theorem qtr_in (u : Int) (h0 : 0 ≤ u) (h1 : u < 16384) : 0 ≤ (sT ((u / 256).toNat + 1) - sT (u / 256).toNat) * (u - 256 * (u / 256)) ∧ (sT ((u / 256).toNat + 1) - sT (u / 256).toNat) * (u - 256 * (u / 256)) ≤ (sT ((u / 256).toNat + 1) - sT (u / 256).toNat) * 256 := by
  have hi : (u / 256).toNat < 64 := by omega
  have := sT_ok _ hi
  exact ⟨Int.mul_nonneg (by omega) (by omega), Int.mul_le_mul_of_nonneg_left (by omega) (by omega)⟩
theorem qtr_bd (u : Int) (h0 : 0 ≤ u) (h1 : u ≤ 16384) : 0 ≤ qtr u ∧ qtr u ≤ 65536 := by
  unfold qtr
  split
  · omega
  · have hi : (u / 256).toNat < 64 := by omega
    have h := sT_ok _ hi
    have hq := qtr_in u h0 (by omega)
    have a1 := dv_nonneg _ 256 (by omega) hq.1
    have a2 := dv_le _ 256 (sT ((u / 256).toNat + 1) - sT (u / 256).toNat) (by omega) hq.2
    omega
def sinA (a : Int) : Int := if a < 16384 then qtr a else if a < 32768 then qtr (16384 - (a - 16384)) else if a < 49152 then -qtr (a - 32768) else -qtr (16384 - (a - 49152))
theorem sinA_bd (a : Int) (h0 : 0 ≤ a) (h1 : a < 65536) : -65536 ≤ sinA a ∧ sinA a ≤ 65536 := by
  unfold sinA
  split
  · have := qtr_bd a h0 (by omega); omega
  · split
    · have := qtr_bd (16384 - (a - 16384)) (by omega) (by omega); omega
    · split
      · have := qtr_bd (a - 32768) (by omega) (by omega); omega
      · have := qtr_bd (16384 - (a - 49152)) (by omega) (by omega); omega
/-- Sine and cosine of an angle. -/
def tS (a : Int) : Int := sinA (a % 65536)
def tC (a : Int) : Int := sinA ((a % 65536 + 16384) % 65536)
theorem tS_def (a : Int) : tS a = sinA (a % 65536) := rfl
theorem tC_def (a : Int) : tC a = sinA ((a % 65536 + 16384) % 65536) := rfl
theorem tS_bd (a : Int) : -65536 ≤ tS a ∧ tS a ≤ 65536 := sinA_bd _ (by omega) (by omega)
theorem tC_bd (a : Int) : -65536 ≤ tC a ∧ tC a ≤ 65536 := sinA_bd _ (by omega) (by omega)
theorem tS_zero : tS 0 = 0 := by decide +kernel
theorem tC_zero : tC 0 = 65536 := by decide +kernel
end Go.Proofs.YtieacbccadbdbaaGreatDoor


/- Plain functions for gradients: positions. -/
namespace Go.Proofs.YtieacbccadbdbaaGreatDoor
set_option linter.unusedVariables false

def cc (x : Int) : Int := min 1048576 (max x (-1048576))
theorem cc_bd (x : Int) : -1048576 ≤ cc x ∧ cc x ≤ 1048576 := by unfold cc; omega
end Go.Proofs.YtieacbccadbdbaaGreatDoor


/- Brushes and dabs, plainly. -/
namespace Go.Proofs.YtieacbccadbdbaaGreatDoor
set_option linter.unusedVariables false

structure Bru where
  (sz hd rn fl op sp an sc md r g b a sd : Int)
  ds : Dyns
  er : Bool
structure Dab where
  (x y sz fl an : Int)
def inB (x lo hi : Int) : Bool := decide (lo ≤ x ∧ x ≤ hi)
def pxOk (r g b a : Int) : Bool := decide (r = cl r ∧ g = cl g ∧ b = cl b ∧ a = cl a)
/-- The error of a brush. -/
def bchk (B : Bru) : Int :=
  if (inB B.sz 1 1024 && (inB B.hd 0 65535 && (inB B.fl 0 65535 && (inB B.op 0 65535 && (inB B.rn 4096 65535 && (inB B.sp 1 1000 && (inB B.an 0 65535 && inB B.sc 0 1000))))))) = true then
    if inB B.md 0 17 = true then if (pxOk B.r B.g B.b B.a && inB B.sd 0 1073741824) = true then dchk B.ds else 2 else 8 else 2
theorem bchk_def (B : Bru) : bchk B = (if (inB B.sz 1 1024 && (inB B.hd 0 65535 && (inB B.fl 0 65535 && (inB B.op 0 65535 && (inB B.rn 4096 65535 && (inB B.sp 1 1000 && (inB B.an 0 65535 && inB B.sc 0 1000))))))) = true then
    if inB B.md 0 17 = true then if (pxOk B.r B.g B.b B.a && inB B.sd 0 1073741824) = true then dchk B.ds else 2 else 8 else 2) := rfl
theorem bchk_ok {B : Bru} (h : bchk B = 0) : (1 ≤ B.sz ∧ B.sz ≤ 1024) ∧ (0 ≤ B.hd ∧ B.hd ≤ 65535) ∧ (0 ≤ B.fl ∧ B.fl ≤ 65535) ∧ (0 ≤ B.op ∧ B.op ≤ 65535) ∧ (4096 ≤ B.rn ∧ B.rn ≤ 65535) ∧ (1 ≤ B.sp ∧ B.sp ≤ 1000) ∧ (0 ≤ B.an ∧ B.an ≤ 65535) ∧ (0 ≤ B.sc ∧ B.sc ≤ 1000) ∧ (0 ≤ B.md ∧ B.md ≤ 17) ∧ (B.r = cl B.r ∧ B.g = cl B.g ∧ B.b = cl B.b ∧ B.a = cl B.a) ∧ (0 ≤ B.sd ∧ B.sd ≤ 1073741824) ∧ dchk B.ds = 0 := by
  unfold bchk inB pxOk at h
  repeat' split at h
  · rename_i h1 h2 h3
    simp only [Bool.and_eq_true, decide_eq_true_eq] at h1 h2 h3
    exact ⟨h1.1, h1.2.1, h1.2.2.1, h1.2.2.2.1, h1.2.2.2.2.1, h1.2.2.2.2.2.1, h1.2.2.2.2.2.2.1, h1.2.2.2.2.2.2.2, h2, h3.1, h3.2, h⟩
  all_goals cases h
/-- A size, limited; a dab, limited. -/
def sz1 (n : Int) : Int := min 1024 (max n 0)
theorem sz1_bd (n : Int) : 0 ≤ sz1 n ∧ sz1 n ≤ 1024 := by unfold sz1; omega
def lim (d : Dab) : Dab := ⟨co d.x, co d.y, sz1 d.sz, cl d.fl, d.an % 65536⟩
def dOk (d : Dab) : Bool := decide (d.x = co d.x ∧ d.y = co d.y ∧ d.sz = sz1 d.sz ∧ d.fl = cl d.fl ∧ d.an = d.an % 65536)
theorem dOk_lim {d : Dab} (h : dOk d = true) : lim d = d := by
  have h := of_decide_eq_true h
  cases d
  simp only [lim, Dab.mk.injEq]
  exact ⟨h.1.symm, h.2.1.symm, h.2.2.1.symm, h.2.2.2.1.symm, h.2.2.2.2.symm⟩
/-- The pixels of a dab. -/
def bxLo (x h : Int) : Int := max ((x - h) / 16) (-1048576)
def bxHi (x h : Int) : Int := min ((x + h) / 16) 1048575
def boxL (x y sz : Int) : Int × Int × Int × Int :=
  if bxHi x ((sz + 1) / 2) < bxLo x ((sz + 1) / 2) ∨ bxHi y ((sz + 1) / 2) < bxLo y ((sz + 1) / 2) then (0, 0, 0, 0)
  else (bxLo x ((sz + 1) / 2), bxLo y ((sz + 1) / 2), bxHi x ((sz + 1) / 2) - bxLo x ((sz + 1) / 2) + 1, bxHi y ((sz + 1) / 2) - bxLo y ((sz + 1) / 2) + 1)
def dbox (d : Dab) : Int × Int × Int × Int := boxL (co d.x) (co d.y) (sz1 d.sz)
/-- The distance of a place from the center of a dab, and what is covered there. -/
def cvP (u v s c : Int) : Int := dv (c * u + s * v) 65536
def cvQ (u v s c : Int) : Int := dv (c * v - s * u) 65536
def cvZ (q rn : Int) : Int := dv (65535 * max q (-q)) rn
def cvR (p z sz : Int) : Int := dv (65535 * hypot p z) (8 * sz)
def cvF (hd fl r : Int) : Int := if r ≤ hd then fl else if 65535 ≤ r then 0 else dv (fl * (65535 - r)) (65535 - hd)
def cvr (B : Bru) (d : Dab) (x y : Int) : Int :=
  if d.sz = 0 then 0 else
    cvF B.hd d.fl (cvR (cvP (16 * (16 * x + 8 - d.x)) (16 * (16 * y + 8 - d.y)) (tS (B.an + d.an)) (tC (B.an + d.an)))
      (cvZ (cvQ (16 * (16 * x + 8 - d.x)) (16 * (16 * y + 8 - d.y)) (tS (B.an + d.an)) (tC (B.an + d.an))) B.rn) d.sz)
def dcov (B : Bru) (d : Dab) (x y : Int) : Int := if bchk B = 0 then cvr B (lim d) (cc x) (cc y) else 0
theorem absmul (a b A B : Int) (h1 : -A ≤ a) (h2 : a ≤ A) (h3 : -B ≤ b) (h4 : b ≤ B) : -(A * B) ≤ a * b ∧ a * b ≤ A * B := by
  have e : ∀ p q : Int, 0 ≤ p → p ≤ A → 0 ≤ q → q ≤ B → 0 ≤ p * q ∧ p * q ≤ A * B := fun p q a1 a2 a3 a4 => ⟨Int.mul_nonneg a1 a3, Int.mul_le_mul a2 a4 a3 (by omega)⟩
  rcases Int.le_total 0 a with ha | ha <;> rcases Int.le_total 0 b with hb | hb
  · have := e a b ha h2 hb h4; omega
  · have := e a (-b) ha h2 (by omega) (by omega); rw [Int.mul_neg] at this; omega
  · have := e (-a) b (by omega) (by omega) hb h4; rw [Int.neg_mul] at this; omega
  · have := e (-a) (-b) (by omega) (by omega) (by omega) (by omega); rw [Int.neg_mul_neg] at this; omega
theorem rot_in (u v s c : Int) (hu : -536871040 ≤ u ∧ u ≤ 536871040) (hv : -536871040 ≤ v ∧ v ≤ 536871040) (hs : -65536 ≤ s ∧ s ≤ 65536) (hc : -65536 ≤ c ∧ c ≤ 65536) :
    (-35184380477440 ≤ c * u ∧ c * u ≤ 35184380477440) ∧ (-35184380477440 ≤ s * v ∧ s * v ≤ 35184380477440) := by
  have a1 := absmul c u 65536 536871040 (by omega) (by omega) (by omega) (by omega)
  have a2 := absmul s v 65536 536871040 (by omega) (by omega) (by omega) (by omega)
  omega
theorem dv_abs (a b M : Int) (hb : 0 < b) (h1 : -(M * b) ≤ a) (h2 : a ≤ M * b) : -M ≤ dv a b ∧ dv a b ≤ M :=
  ⟨dv_ge _ _ _ hb (by rw [Int.neg_mul]; exact h1), dv_le _ _ _ hb h2⟩
theorem cvP_bd (u v s c : Int) (hu : -536871040 ≤ u ∧ u ≤ 536871040) (hv : -536871040 ≤ v ∧ v ≤ 536871040) (hs : -65536 ≤ s ∧ s ≤ 65536) (hc : -65536 ≤ c ∧ c ≤ 65536) : -1073742080 ≤ cvP u v s c ∧ cvP u v s c ≤ 1073742080 := by
  have a := rot_in u v s c hu hv hs hc
  exact dv_abs _ _ _ (by omega) (by omega) (by omega)
theorem cvQ_bd (u v s c : Int) (hu : -536871040 ≤ u ∧ u ≤ 536871040) (hv : -536871040 ≤ v ∧ v ≤ 536871040) (hs : -65536 ≤ s ∧ s ≤ 65536) (hc : -65536 ≤ c ∧ c ≤ 65536) : -1073742080 ≤ cvQ u v s c ∧ cvQ u v s c ≤ 1073742080 := by
  have a := rot_in v u s c hv hu hs hc
  exact dv_abs _ _ _ (by omega) (by omega) (by omega)
theorem cvZ_bd (q rn : Int) (hq : -1073742080 ≤ q ∧ q ≤ 1073742080) (hr : 4096 ≤ rn) : 0 ≤ cvZ q rn ∧ cvZ q rn ≤ 17179611137 := by
  refine ⟨dv_nonneg _ _ (by omega) (by omega), dv_le _ _ _ (by omega) ?_⟩
  have := Int.mul_le_mul_of_nonneg_left hr (show (0 : Int) ≤ 17179611137 by omega)
  omega
theorem cvH_bd (p z : Int) (hp : -1073742080 ≤ p ∧ p ≤ 1073742080) (hz : 0 ≤ z ∧ z ≤ 17179611137) : 0 ≤ hypot p z ∧ hypot p z ≤ 34359222274 :=
  hyp_bd p z 17179611137 (by omega) (by omega) (by omega) (by omega)
theorem cvR_bd (p z sz : Int) (hs : 0 < sz) : 0 ≤ cvR p z sz := by
  have := hypot_nonneg p z
  exact dv_nonneg _ _ (by omega) (by omega)
theorem cvF_in (hd fl r : Int) (h0 : 0 ≤ hd) (h1 : hd < r) (h2 : r < 65535) (hf : 0 ≤ fl ∧ fl ≤ 65535) : 0 ≤ fl * (65535 - r) ∧ fl * (65535 - r) ≤ fl * (65535 - hd) ∧ fl * (65535 - hd) ≤ 4294836225 := by
  refine ⟨Int.mul_nonneg hf.1 (by omega), Int.mul_le_mul_of_nonneg_left (by omega) hf.1, ?_⟩
  have := Int.mul_le_mul hf.2 (show 65535 - hd ≤ 65535 by omega) (by omega) (by omega)
  omega
theorem cvF_bd (hd fl r : Int) (h0 : 0 ≤ hd) (hf : 0 ≤ fl ∧ fl ≤ 65535) : 0 ≤ cvF hd fl r ∧ cvF hd fl r ≤ fl := by
  unfold cvF
  split
  · omega
  · split
    · omega
    · have h := cvF_in hd fl r h0 (by omega) (by omega) hf
      exact ⟨dv_nonneg _ _ (by omega) h.1, dv_le _ _ _ (by omega) h.2.1⟩
theorem cvr_bd (B : Bru) (d : Dab) (x y : Int) (h0 : 0 ≤ B.hd) (hf : 0 ≤ d.fl ∧ d.fl ≤ 65535) : 0 ≤ cvr B d x y ∧ cvr B d x y ≤ d.fl := by
  unfold cvr
  split
  · omega
  · exact cvF_bd _ _ _ h0 hf
end Go.Proofs.YtieacbccadbdbaaGreatDoor


/- The length of a vector is the greatest number whose square is not too great; so it grows with the vector. -/
namespace Go.Proofs.YtieacbccadbdbaaGreatDoor
set_option linter.unusedVariables false

theorem hyp_up (N : Nat) (hN : N < 340282366920938463463374607431768211456) (k : Nat) : k ≤ 64 → N < (hyp N k + 2 ^ (64 - k)) * (hyp N k + 2 ^ (64 - k)) := by
  induction k with
  | zero =>
    intro _
    have e : hyp N 0 = 0 := rfl
    have e2 : (2 : Nat) ^ (64 - 0) = 18446744073709551616 := by decide
    rw [e, e2]
    omega
  | succ k ih =>
    intro hk
    have ih := ih (by omega)
    have hb := bitAt_pow k (by omega)
    rw [hyp_succ]
    have e : (2 : Nat) ^ (64 - k) = 2 ^ (63 - k) + 2 ^ (63 - k) := by
      rw [show 64 - k = (63 - k) + 1 by omega, Nat.pow_succ]; omega
    rw [show 64 - (k + 1) = 63 - k by omega]
    rw [e, ← hb] at ih
    rw [← hb]
    generalize hyp N k = r at *
    generalize bitAt k = c at *
    split
    · rw [Nat.add_assoc]
      exact ih
    · rename_i hlt
      exact Nat.lt_of_not_le hlt
theorem hyp_max (N : Nat) (hN : N < 340282366920938463463374607431768211456) : N < (hyp N 64 + 1) * (hyp N 64 + 1) := hyp_up N hN 64 (Nat.le_refl _)
theorem hyp_mono (N M : Nat) (hM : M < 340282366920938463463374607431768211456) (h : N ≤ M) : hyp N 64 ≤ hyp M 64 := by
  have h1 := hyp_sq N 64
  have h2 := hyp_max M hM
  rcases Nat.lt_or_ge (hyp M 64) (hyp N 64) with h3 | h3
  · have := Nat.mul_le_mul h3 h3
    have e : (hyp M 64).succ * (hyp M 64).succ = (hyp M 64 + 1) * (hyp M 64 + 1) := rfl
    omega
  · exact h3
theorem hypot_mono (x y x' y' : Int) (hB : x' * x' + y' * y' ≤ 4611686018427387904 * 4611686018427387904) (h : x * x + y * y ≤ x' * x' + y' * y') : hypot x y ≤ hypot x' y' := by
  unfold hypot
  have := hyp_mono (x * x + y * y).toNat (x' * x' + y' * y').toNat (by omega) (by omega)
  omega
theorem hypot_sqs {x y x' y' : Int} (h : x * x + y * y = x' * x' + y' * y') : hypot x y = hypot x' y' := by unfold hypot; rw [h]
theorem hypot_neg (x y : Int) : hypot (-x) y = hypot x y := hypot_sqs (by rw [Int.neg_mul_neg])
theorem hypot_comm (x y : Int) : hypot x y = hypot y x := hypot_sqs (Int.add_comm _ _)
/-- What a length of at most m says of the vector. -/
theorem hypot_ge (x y m : Int) (hm : 0 ≤ m) (hB : x * x + y * y ≤ 4611686018427387904 * 4611686018427387904) (h : hypot x y ≤ m) : x * x + y * y < (m + 1) * (m + 1) := by
  have h1 := hyp_max (x * x + y * y).toNat (by omega)
  unfold hypot at h
  generalize hyp (x * x + y * y).toNat 64 = r at *
  have h2 : (r + 1) * (r + 1) ≤ (m.toNat + 1) * (m.toNat + 1) := Nat.mul_le_mul (by omega) (by omega)
  have h3 : (((m.toNat + 1) * (m.toNat + 1) : Nat) : Int) = (m + 1) * (m + 1) := by
    rw [Int.natCast_mul, Int.natCast_add, Int.toNat_of_nonneg hm]
    rfl
  generalize (m + 1) * (m + 1) = T at *
  omega

theorem cvZ_neg (q rn : Int) : cvZ (-q) rn = cvZ q rn := by
  unfold cvZ
  rw [show max (-q) (- -q) = max q (-q) by omega]
theorem cvZ_unit (q : Int) : cvZ q 65535 = max q (-q) := by
  unfold cvZ
  rw [Int.mul_comm]
  exact dv_mul _ _ (by omega)
/-- More distance, less coverage. -/
theorem cvF_anti (hd fl r r' : Int) (h0 : 0 ≤ hd) (hf : 0 ≤ fl ∧ fl ≤ 65535) (h : r ≤ r') : cvF hd fl r' ≤ cvF hd fl r := by
  have b := cvF_bd hd fl r' h0 hf
  have b2 := cvF_bd hd fl r h0 hf
  by_cases h1 : r ≤ hd
  · have : cvF hd fl r = fl := if_pos h1
    omega
  · by_cases h2 : 65535 ≤ r'
    · have : cvF hd fl r' = 0 := by unfold cvF; rw [if_neg (by omega), if_pos h2]
      omega
    · unfold cvF
      rw [if_neg (by omega), if_neg h2, if_neg h1, if_neg (by omega)]
      exact dv_mono _ _ _ (by omega) (Int.mul_le_mul_of_nonneg_left (by omega) hf.1)
end Go.Proofs.YtieacbccadbdbaaGreatDoor


/- What is covered lies in the box, plainly. -/
namespace Go.Proofs.YtieacbccadbdbaaGreatDoor
set_option linter.unusedVariables false

theorem tab_sq : ∀ i, i < 64 → 4189624381 ≤ sT i * sT i + sT (63 - i) * sT (63 - i) := by decide
theorem qtr_ge (u : Int) (i : Nat) (hi : i < 64) (h : u / 256 = i) : sT i ≤ qtr u := by
  unfold qtr
  split
  · have := sT_bd i (by omega); omega
  · have hq := qtr_in u (by omega) (by omega)
    rw [h] at hq ⊢
    simp only [Int.toNat_natCast] at hq ⊢
    have := dv_nonneg _ 256 (by omega) hq.1
    omega
theorem sqge (a b : Int) (h0 : 0 ≤ a) (h : a ≤ b) : a * a ≤ b * b := Int.mul_le_mul h h h0 (by omega)
theorem qtr_sq (u : Int) (h0 : 0 ≤ u) (h1 : u ≤ 16384) : 4189624381 ≤ qtr u * qtr u + qtr (16384 - u) * qtr (16384 - u) := by
  have n1 : 0 ≤ qtr u * qtr u := by have := qtr_bd u h0 h1; exact Int.mul_nonneg this.1 this.1
  have n2 : 0 ≤ qtr (16384 - u) * qtr (16384 - u) := by have := qtr_bd (16384 - u) (by omega) (by omega); exact Int.mul_nonneg this.1 this.1
  have e : qtr 16384 = 65536 := by decide +kernel
  by_cases c1 : u = 16384
  · subst c1
    rw [e] at n1 ⊢
    omega
  · by_cases c2 : u = 0
    · subst c2
      rw [show (16384 : Int) - 0 = 16384 from rfl, e] at n2 ⊢
      omega
    · obtain ⟨i, hi⟩ : ∃ i : Nat, u / 256 = i := ⟨(u / 256).toNat, by omega⟩
      have hl : i < 64 := by omega
      have a1 := qtr_ge u i hl hi
      have t := tab_sq i hl
      have b1 := sT_bd i (by omega)
      have b2 := sT_bd (63 - i) (by omega)
      have s1 := sqge _ _ b1.1 a1
      have a2 : sT (63 - i) ≤ qtr (16384 - u) := by
        by_cases c3 : u % 256 = 0
        · have g := qtr_ge (16384 - u) (64 - i) (by omega) (by omega)
          have o := sT_ok (63 - i) (by omega)
          rw [show 63 - i + 1 = 64 - i by omega] at o
          omega
        · exact qtr_ge (16384 - u) (63 - i) (by omega) (by omega)
      have s2 := sqge _ _ b2.1 a2
      omega
theorem trig_sq (a : Int) : 4189624381 ≤ tC a * tC a + tS a * tS a := by
  unfold tC tS
  have r0 : 0 ≤ a % 65536 ∧ a % 65536 < 65536 := by omega
  generalize a % 65536 = r at *
  rcases (by omega : r < 16384 ∨ (16384 ≤ r ∧ r < 32768) ∨ (32768 ≤ r ∧ r < 49152) ∨ 49152 ≤ r) with c | c | c | c
  · have e1 : sinA r = qtr r := by unfold sinA; rw [if_pos c]
    have e2 : sinA ((r + 16384) % 65536) = qtr (16384 - r) := by
      rw [show (r + 16384) % 65536 = r + 16384 by omega]; unfold sinA; rw [if_neg (by omega), if_pos (by omega), show 16384 - (r + 16384 - 16384) = 16384 - r by omega]
    rw [e1, e2, Int.add_comm]
    exact qtr_sq r r0.1 (by omega)
  · have e1 : sinA r = qtr (16384 - (r - 16384)) := by unfold sinA; rw [if_neg (by omega), if_pos c.2]
    have e2 : sinA ((r + 16384) % 65536) = -qtr (r - 16384) := by
      rw [show (r + 16384) % 65536 = r + 16384 by omega]; unfold sinA; rw [if_neg (by omega), if_neg (by omega), if_pos (by omega), show r + 16384 - 32768 = r - 16384 by omega]
    rw [e1, e2, Int.neg_mul_neg]
    exact qtr_sq (r - 16384) (by omega) (by omega)
  · have e1 : sinA r = -qtr (r - 32768) := by unfold sinA; rw [if_neg (by omega), if_neg (by omega), if_pos c.2]
    have e2 : sinA ((r + 16384) % 65536) = -qtr (16384 - (r - 32768)) := by
      rw [show (r + 16384) % 65536 = r + 16384 by omega]; unfold sinA; rw [if_neg (by omega), if_neg (by omega), if_neg (by omega), show 16384 - (r + 16384 - 49152) = 16384 - (r - 32768) by omega]
    rw [e1, e2, Int.neg_mul_neg, Int.neg_mul_neg, Int.add_comm]
    exact qtr_sq (r - 32768) (by omega) (by omega)
  · have e1 : sinA r = -qtr (16384 - (r - 49152)) := by unfold sinA; rw [if_neg (by omega), if_neg (by omega), if_neg (by omega)]
    have e2 : sinA ((r + 16384) % 65536) = qtr (r - 49152) := by
      rw [show (r + 16384) % 65536 = r - 49152 by omega]; unfold sinA; rw [if_pos (by omega)]
    rw [e1, e2, Int.neg_mul_neg]
    exact qtr_sq (r - 49152) (by omega) (by omega)

/-- No vector is so much longer than its turned and rounded form. -/
theorem nogo (N G T : Int) (hN : 4189624381 ≤ N) (h1 : 1 ≤ T) (h2 : T ≤ 8193) (h0 : 0 ≤ G) (hG : G * G ≤ N * (T * T)) (h : N * (T + 125) ≤ 65536 * G) : False := by
  have hp : 0 ≤ N * (T + 125) := Int.mul_nonneg (by omega) (by omega)
  have a := Int.mul_le_mul h h hp (by omega)
  have e1 : N * (T + 125) * (N * (T + 125)) = N * (N * ((T + 125) * (T + 125))) := by
    rw [Int.mul_assoc, Int.mul_left_comm (T + 125) N (T + 125)]
  have e2 : 65536 * G * (65536 * G) = 4294967296 * (G * G) := by
    rw [Int.mul_assoc, Int.mul_left_comm G 65536 G]
    omega
  rw [e1, e2] at a
  have b : N * (N * ((T + 125) * (T + 125))) ≤ N * (4294967296 * (T * T)) := by
    rw [Int.mul_left_comm N 4294967296 (T * T)]
    omega
  have c : N * ((T + 125) * (T + 125)) ≤ 4294967296 * (T * T) := Int.le_of_mul_le_mul_left b (by omega)
  have q : 0 ≤ (T + 125) * (T + 125) := Int.mul_nonneg (by omega) (by omega)
  have d := Int.mul_le_mul_of_nonneg_right hN q
  have e3 : (T + 125) * (T + 125) = T * T + 250 * T + 15625 := by
    rw [Int.add_mul, Int.mul_add, Int.mul_add]
    omega
  rw [e3] at c d
  have f : T * T ≤ 8193 * T := Int.mul_le_mul_of_nonneg_right h2 (by omega)
  omega
theorem iabs (a : Int) : ∃ A : Int, 0 ≤ A ∧ (A = a ∨ A = -a) ∧ A * A = a * a := by
  rcases Int.le_total 0 a with h | h
  · exact ⟨a, h, .inl rfl, rfl⟩
  · exact ⟨-a, by omega, .inr rfl, Int.neg_mul_neg a a⟩
/-- One side of it: u, turned by c and s into p and q, rounded. -/
theorem turn_bd (u c s p' q' p q T : Int) (hN : 4189624381 ≤ c * c + s * s) (hc : -65536 ≤ c ∧ c ≤ 65536) (hs : -65536 ≤ s ∧ s ≤ 65536) (hT : 1 ≤ T ∧ T ≤ 8193)
    (hu : (c * c + s * s) * u = c * p' - s * q') (hp : -32768 ≤ p' - 65536 * p ∧ p' - 65536 * p ≤ 32768) (hq : -32768 ≤ q' - 65536 * q ∧ q' - 65536 * q ≤ 32768) (hM : p * p + q * q ≤ T * T) : -(T + 126) ≤ u ∧ u ≤ T + 126 := by
  obtain ⟨e, he⟩ : ∃ e, e = p' - 65536 * p := ⟨_, rfl⟩
  obtain ⟨f, hf⟩ : ∃ f, f = q' - 65536 * q := ⟨_, rfl⟩
  obtain rfl : p' = 65536 * p + e := by omega
  obtain rfl : q' = 65536 * q + f := by omega
  rw [← he] at hp
  rw [← hf] at hq
  clear he hf
  have b1 := absmul c e 65536 32768 (by omega) (by omega) (by omega) (by omega)
  have b2 := absmul s f 65536 32768 (by omega) (by omega) (by omega) (by omega)
  have x1 : c * (65536 * p + e) = 65536 * (c * p) + c * e := by rw [Int.mul_add, Int.mul_left_comm]
  have x2 : s * (65536 * q + f) = 65536 * (s * q) + s * f := by rw [Int.mul_add, Int.mul_left_comm]
  rw [x1, x2] at hu
  obtain ⟨G, g0, g1, g2⟩ := iabs (c * p - s * q)
  have hG : G * G ≤ (c * c + s * s) * (T * T) := by
    have i : (c * c + s * s) * (p * p + q * q) = (c * p - s * q) * (c * p - s * q) + (c * q + s * p) * (c * q + s * p) := by
      simp only [Int.add_mul, Int.mul_add, Int.sub_mul, Int.mul_sub]
      have j1 : c * c * (p * p) = c * p * (c * p) := by rw [Int.mul_assoc, Int.mul_left_comm c p p, ← Int.mul_assoc]
      have j2 : s * s * (q * q) = s * q * (s * q) := by rw [Int.mul_assoc, Int.mul_left_comm s q q, ← Int.mul_assoc]
      have j3 : c * c * (q * q) = c * q * (c * q) := by rw [Int.mul_assoc, Int.mul_left_comm c q q, ← Int.mul_assoc]
      have j4 : s * s * (p * p) = s * p * (s * p) := by rw [Int.mul_assoc, Int.mul_left_comm s p p, ← Int.mul_assoc]
      have j5 : c * q * (s * p) = c * p * (s * q) := by rw [Int.mul_assoc, Int.mul_assoc, Int.mul_left_comm q s p, Int.mul_left_comm p s q, Int.mul_comm q p]
      have j6 : s * p * (c * q) = s * q * (c * p) := by rw [Int.mul_comm (s * p), j5, Int.mul_comm]
      omega
    have n : 0 ≤ (c * q + s * p) * (c * q + s * p) := by
      obtain ⟨A, a0, a1, a2⟩ := iabs (c * q + s * p)
      rw [← a2]; exact Int.mul_nonneg a0 a0
    have m := Int.mul_le_mul_of_nonneg_left hM (show 0 ≤ c * c + s * s by omega)
    rw [g2]
    omega
  obtain ⟨A, a0, a1, _⟩ := iabs u
  rcases Int.lt_or_le A (T + 127) with h | h
  · omega
  · exfalso
    generalize c * c + s * s = N at *
    have m1 := Int.mul_le_mul_of_nonneg_left h (show 0 ≤ N by omega)
    rw [show T + 127 = (T + 125) + 2 by omega, Int.mul_add] at m1
    refine nogo N G T hN hT.1 hT.2 g0 hG ?_
    have m2 : N * A = N * u ∨ N * A = -(N * u) := by
      rcases a1 with rfl | rfl
      · exact .inl rfl
      · exact .inr (Int.mul_neg _ _)
    omega

theorem dv_near (a b : Int) (hb : 0 < b) : -b ≤ 2 * (a - b * dv a b) ∧ 2 * (a - b * dv a b) ≤ b := by
  have h := dv_spec a b hb
  have e : 2 * b * dv a b = 2 * (b * dv a b) := Int.mul_assoc _ _ _
  omega
theorem hyp_small (H sz : Int) (hs : 1 ≤ sz ∧ sz ≤ 1024) (h0 : 0 ≤ H) (h : dv (65535 * H) (8 * sz) ≤ 65535) : H ≤ 8 * sz := by
  have d := (dv_spec (65535 * H) (8 * sz) (by omega)).2
  have m := Int.mul_le_mul_of_nonneg_left h (show (0 : Int) ≤ 2 * (8 * sz) by omega)
  omega
theorem geo (u v s c rn sz : Int) (hN : 4189624381 ≤ c * c + s * s) (hc : -65536 ≤ c ∧ c ≤ 65536) (hs : -65536 ≤ s ∧ s ≤ 65536) (hz : 1 ≤ sz ∧ sz ≤ 1024) (hr : 4096 ≤ rn ∧ rn ≤ 65535)
    (hu : -536871040 ≤ u ∧ u ≤ 536871040) (hv : -536871040 ≤ v ∧ v ≤ 536871040) (h : cvR (cvP u v s c) (cvZ (cvQ u v s c) rn) sz ≤ 65535) : (-(8 * sz + 127) ≤ u ∧ u ≤ 8 * sz + 127) ∧ (-(8 * sz + 127) ≤ v ∧ v ≤ 8 * sz + 127) := by
  have bp := cvP_bd u v s c hu hv hs hc
  have bq := cvQ_bd u v s c hu hv hs hc
  have bz := cvZ_bd (cvQ u v s c) rn bq hr.1
  have np := dv_near (c * u + s * v) 65536 (by omega)
  have nq := dv_near (c * v - s * u) 65536 (by omega)
  have ep : dv (c * u + s * v) 65536 = cvP u v s c := rfl
  have eq' : dv (c * v - s * u) 65536 = cvQ u v s c := rfl
  rw [ep] at np
  rw [eq'] at nq
  have zq : max (cvQ u v s c) (-cvQ u v s c) ≤ cvZ (cvQ u v s c) rn := by
    refine dv_ge _ _ _ (by omega) ?_
    rw [Int.mul_comm]
    exact Int.mul_le_mul_of_nonneg_right hr.2 (by omega)
  generalize cvP u v s c = p at *
  generalize cvQ u v s c = q at *
  generalize cvZ q rn = z at *
  have hh := hyp_small (hypot p z) sz hz (hypot_nonneg _ _) h
  have q1 := sq_le p 1073742080 bp.1 bp.2
  have q2 := sq_le z 17179611137 (by omega) bz.2
  have hg := hypot_ge p z (8 * sz) (by omega) (by omega) hh
  have q3 := sq_le q z (by omega) (by omega)
  have hM : p * p + q * q ≤ (8 * sz + 1) * (8 * sz + 1) := by omega
  have r1 := turn_bd u c s (c * u + s * v) (c * v - s * u) p q (8 * sz + 1) hN hc hs (by omega) (by
    rw [Int.mul_add, Int.mul_sub, Int.add_mul, Int.mul_assoc, Int.mul_assoc, Int.mul_left_comm s c v]; omega) (by omega) (by omega) hM
  have r2 := turn_bd v c (-s) (c * v - s * u) (c * u + s * v) q p (8 * sz + 1) (by rw [Int.neg_mul_neg]; exact hN) hc (by omega) (by omega) (by
    rw [Int.neg_mul_neg, Int.neg_mul, Int.mul_add, Int.mul_sub, Int.add_mul, Int.mul_assoc, Int.mul_assoc, Int.mul_left_comm s c u]; omega) (by omega) (by omega) (by omega)
  omega
def hasR (X Y W H x y : Int) : Prop := X ≤ x ∧ x < X + W ∧ Y ≤ y ∧ y < Y + H
theorem box_side (x lx sz : Int) (hx : -1048576 ≤ x ∧ x < 1048576) (hl : -16777216 ≤ lx ∧ lx ≤ 16777216) (hz : 1 ≤ sz ∧ sz ≤ 1024) (h : -(8 * sz + 127) ≤ 16 * (16 * x + 8 - lx) ∧ 16 * (16 * x + 8 - lx) ≤ 8 * sz + 127) :
    bxLo lx ((sz + 1) / 2) ≤ x ∧ x ≤ bxHi lx ((sz + 1) / 2) := by
  unfold bxLo bxHi
  omega
theorem in_box (B : Bru) (d : Dab) (x y : Int) (hx : -1048576 ≤ x ∧ x < 1048576) (hy : -1048576 ≤ y ∧ y < 1048576) (h : dcov B d x y ≠ 0) :
    (-1048576 ≤ (dbox d).1 ∧ (dbox d).1 ≤ 1048576 ∧ 0 ≤ (dbox d).2.2.1 ∧ (dbox d).2.2.1 ≤ 1048576 - (dbox d).1) ∧ (-1048576 ≤ (dbox d).2.1 ∧ (dbox d).2.1 ≤ 1048576 ∧ 0 ≤ (dbox d).2.2.2 ∧ (dbox d).2.2.2 ≤ 1048576 - (dbox d).2.1) ∧ hasR (dbox d).1 (dbox d).2.1 (dbox d).2.2.1 (dbox d).2.2.2 x y := by
  unfold dcov at h
  split at h
  · rename_i h0
    have hb := bchk_ok h0
    have cx : cc x = x := by unfold cc; omega
    have cy : cc y = y := by unfold cc; omega
    rw [cx, cy] at h
    unfold cvr at h
    have lx := co_bd d.x
    have ly := co_bd d.y
    have ls := sz1_bd d.sz
    have ex : (lim d).x = co d.x := rfl
    have ey : (lim d).y = co d.y := rfl
    have es : (lim d).sz = sz1 d.sz := rfl
    rw [ex, ey, es] at h
    split at h
    · exact absurd rfl h
    · rename_i hz
      generalize (lim d).an = an at *
      have hN := trig_sq (B.an + an)
      have tc := tC_bd (B.an + an)
      have ts := tS_bd (B.an + an)
      generalize tS (B.an + an) = s at *
      generalize tC (B.an + an) = c at *
      have hr : cvR (cvP (16 * (16 * x + 8 - co d.x)) (16 * (16 * y + 8 - co d.y)) s c) (cvZ (cvQ (16 * (16 * x + 8 - co d.x)) (16 * (16 * y + 8 - co d.y)) s c) B.rn) (sz1 d.sz) ≤ 65535 := by
        unfold cvF at h
        split at h
        · omega
        · split at h
          · exact absurd rfl h
          · omega
      have g := geo _ _ s c B.rn (sz1 d.sz) hN tc ts (by omega) hb.2.2.2.2.1 (by omega) (by omega) hr
      have a1 := box_side x (co d.x) (sz1 d.sz) hx lx (by omega) g.1
      have a2 := box_side y (co d.y) (sz1 d.sz) hy ly (by omega) g.2
      have e : dbox d = (bxLo (co d.x) ((sz1 d.sz + 1) / 2), bxLo (co d.y) ((sz1 d.sz + 1) / 2), bxHi (co d.x) ((sz1 d.sz + 1) / 2) - bxLo (co d.x) ((sz1 d.sz + 1) / 2) + 1, bxHi (co d.y) ((sz1 d.sz + 1) / 2) - bxLo (co d.y) ((sz1 d.sz + 1) / 2) + 1) := by
        unfold dbox boxL
        rw [if_neg (by omega)]
      have u1 : -1048576 ≤ bxLo (co d.x) ((sz1 d.sz + 1) / 2) ∧ bxLo (co d.x) ((sz1 d.sz + 1) / 2) ≤ 1048576 := by unfold bxLo; omega
      have u2 : -1048576 ≤ bxLo (co d.y) ((sz1 d.sz + 1) / 2) ∧ bxLo (co d.y) ((sz1 d.sz + 1) / 2) ≤ 1048576 := by unfold bxLo; omega
      have v1 : bxHi (co d.x) ((sz1 d.sz + 1) / 2) ≤ 1048575 := by unfold bxHi; omega
      have v2 : bxHi (co d.y) ((sz1 d.sz + 1) / 2) ≤ 1048575 := by unfold bxHi; omega
      rw [e]
      unfold hasR
      simp only
      omega
  · exact absurd rfl h
theorem dcov_bd (B : Bru) (d : Dab) (x y : Int) : 0 ≤ dcov B d x y ∧ (0 < dcov B d x y → dcov B d x y ≤ d.fl) := by
  unfold dcov
  split
  · rename_i h0
    have hb := bchk_ok h0
    have := cvr_bd B (lim d) (cc x) (cc y) hb.2.1.1 (cl_bd d.fl)
    have e : (lim d).fl = cl d.fl := rfl
    rw [e] at this
    refine ⟨this.1, fun h => ?_⟩
    have c : cl d.fl ≤ d.fl ∨ cl d.fl = 0 := by rw [← cl_min]; omega
    omega
  · omega
end Go.Proofs.YtieacbccadbdbaaGreatDoor

