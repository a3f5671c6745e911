/- Plain functions for gradients: positions. -/
import Derived.Test.YtflegfoalkkkdaaDoorHypPlain
import Derived.Test.YtflegfoalkkkdaaDoorNumPlain
namespace Go.Proofs.YtflegfoalkkkdaaDoor
set_option linter.unusedVariables false

/-- Div, with 0 for a division by 0. -/
def adv (a b : Int) : Int := if b = 0 then 0 else dv a b
def gabs (x : Int) : Int := max x (-x)
theorem gabs_bd (x M : Int) (h1 : -M ≤ x) (h2 : x ≤ M) : 0 ≤ gabs x ∧ gabs x ≤ M := by unfold gabs; omega
/-- The angle of a slope from 0 to One. -/
def eig (z : Int) : Int := dv (z * (536870912 + 2848 * (65536 - z))) 4294967296
theorem eig_in (z : Int) (h0 : 0 ≤ z) (h1 : z ≤ 65536) : 0 ≤ z * (536870912 + 2848 * (65536 - z)) ∧ z * (536870912 + 2848 * (65536 - z)) ≤ 65536 * 723517440 := by
  have a := Int.mul_le_mul h1 (show 536870912 + 2848 * (65536 - z) ≤ 723517440 by omega) (by omega) (by omega)
  exact ⟨Int.mul_nonneg h0 (by omega), a⟩
theorem eig_bd (z : Int) (h0 : 0 ≤ z) (h1 : z ≤ 65536) : 0 ≤ eig z ∧ eig z ≤ 16384 := by
  have h := eig_in z h0 h1
  exact ⟨dv_nonneg _ _ (by omega) h.1, dv_le _ _ _ (by omega) (by omega)⟩
theorem slope_bd (p q : Int) (hp : 0 < p) (h0 : 0 ≤ q) (h1 : q ≤ p) : 0 ≤ dv (q * 65536) p ∧ dv (q * 65536) p ≤ 65536 := by
  refine ⟨dv_nonneg _ _ hp (by omega), dv_le _ _ _ hp ?_⟩
  have := Int.mul_le_mul_of_nonneg_right h1 (show (0 : Int) ≤ 65536 by omega)
  rw [Int.mul_comm 65536 p]
  exact this
def angH (p q : Int) : Int := if p = 0 ∧ q = 0 then 0 else if q ≤ p then eig (dv (q * 65536) p) else 16384 - eig (dv (p * 65536) q)
theorem angH_bd (p q : Int) (hp : 0 ≤ p) (hq : 0 ≤ q) : 0 ≤ angH p q ∧ angH p q ≤ 16384 := by
  unfold angH
  split
  · omega
  · split
    · have := slope_bd p q (by omega) hq (by omega)
      exact eig_bd _ this.1 this.2
    · have := slope_bd q p (by omega) hp (by omega)
      have := eig_bd _ this.1 this.2
      omega
/-- The angle of a direction. -/
def ang (dx dy : Int) : Int :=
  if 0 ≤ dx ∧ 0 ≤ dy then angH (gabs dx) (gabs dy) else if 0 ≤ dy then 32768 - angH (gabs dx) (gabs dy) else if dx < 0 then 32768 + angH (gabs dx) (gabs dy) else (65536 - angH (gabs dx) (gabs dy)) % 65536
theorem ang_bd (dx dy : Int) : 0 ≤ ang dx dy ∧ ang dx dy ≤ 65536 := by
  have h := angH_bd (gabs dx) (gabs dy) (by unfold gabs; omega) (by unfold gabs; omega)
  unfold ang
  repeat' split
  all_goals omega
/-- The unit value that a spread gives to a position. -/
def fol (s t : Int) : Int := if s = 1 then t % 65536 else if s = 2 then (if 65535 < t % 131072 then 131071 - t % 131072 else t % 131072) else cl t
theorem fol_bd (s t : Int) : 0 ≤ fol s t ∧ fol s t ≤ 65535 := by
  have := cl_bd t
  unfold fol
  repeat' split
  all_goals omega
/-- The position before the spread is applied. -/
def plc (kind p0 p1 p2 p3 dx dy : Int) : Int :=
  if kind = 1 then adv (65535 * (dx * (p2 - p0) + dy * (p3 - p1))) ((p2 - p0) * (p2 - p0) + (p3 - p1) * (p3 - p1))
  else if kind = 2 then (if 0 < p2 then dv (65535 * hypot (16 * dx) (16 * dy)) (16 * p2) else 65535)
  else if kind = 3 then (ang dx dy - p2) % 65536
  else (if 0 < p2 then dv (65535 * (gabs dx + gabs dy)) p2 else 65535)
theorem mulB (a b A B : Int) (h1 : -A ≤ a) (h2 : a ≤ A) (h3 : -B ≤ b) (h4 : b ≤ B) (hA : 0 ≤ A) : -(A * B) ≤ a * b ∧ a * b ≤ A * B := by
  have hB : 0 ≤ B := by omega
  rcases Int.le_total 0 a with ha | ha
  · have u := Int.mul_le_mul_of_nonneg_left h4 ha
    have l := Int.mul_le_mul_of_nonneg_left h3 ha
    have m := Int.mul_le_mul_of_nonneg_right h2 hB
    rw [Int.mul_neg] at l
    omega
  · have u := Int.mul_le_mul_of_nonpos_left ha h4
    have l := Int.mul_le_mul_of_nonpos_left ha h3
    have m := Int.mul_le_mul_of_nonneg_right h1 hB
    rw [Int.mul_neg] at l
    rw [Int.neg_mul] at m
    omega
theorem adv_abs (a b M : Int) (hb : 0 ≤ b) (h1 : -M ≤ a) (h2 : a ≤ M) (hM : 0 ≤ M) : -M ≤ adv a b ∧ adv a b ≤ M := by
  unfold adv
  split
  · omega
  · have hb' : 0 < b := by omega
    have e := Int.mul_le_mul_of_nonneg_left (show 1 ≤ b by omega) hM
    exact ⟨dv_ge _ _ _ hb' (by rw [Int.neg_mul]; omega), dv_le _ _ _ hb' (by omega)⟩
theorem mul_self_nonneg' (x : Int) : 0 ≤ x * x := by rcases Int.le_total 0 x with h | h; exact Int.mul_nonneg h h; exact Int.mul_nonneg_of_nonpos_of_nonpos h h
theorem hypot_ub (x y M : Int) (h1 : -M ≤ x) (h2 : x ≤ M) (h3 : -M ≤ y) (h4 : y ≤ M) (hM : 0 ≤ M) : 0 ≤ hypot x y ∧ hypot x y ≤ 2 * M := by
  refine ⟨hypot_nonneg x y, hypot_le x y (2 * M) (by omega) ?_⟩
  have a := mulB x x M M h1 h2 h1 h2 hM
  have b := mulB y y M M h3 h4 h3 h4 hM
  have c := mul_self_nonneg' M
  have e : 2 * M * (2 * M) = 4 * (M * M) := by rw [Int.mul_assoc, Int.mul_left_comm M 2 M]; omega
  rw [e]
  omega
def cc (x : Int) : Int := min 1048576 (max x (-1048576))
theorem cc_bd (x : Int) : -1048576 ≤ cc x ∧ cc x ≤ 1048576 := by unfold cc; omega
end Go.Proofs.YtflegfoalkkkdaaDoor
