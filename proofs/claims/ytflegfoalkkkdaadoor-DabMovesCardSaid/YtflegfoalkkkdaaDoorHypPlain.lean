/- Plain functions for package num: the length of a vector, bit by bit. -/
import Derived.Laws.BitsAllLaws
namespace Go.Proofs.YtflegfoalkkkdaaDoor
set_option linter.unusedVariables false

/-- The bit that is tried in round k. -/
def bitAt (k : Nat) : Nat := 9223372036854775808 / 2 ^ k
theorem bitAt_succ (k : Nat) : bitAt (k + 1) = bitAt k / 2 := by
  unfold bitAt
  rw [Nat.pow_succ, Nat.div_div_eq_div_mul]
theorem bitAt_pow (k : Nat) (h : k ≤ 63) : bitAt k = 2 ^ (63 - k) := by
  unfold bitAt
  rw [show (9223372036854775808 : Nat) = 2 ^ 63 from by decide, Nat.pow_div h (by decide)]
theorem bitAt_pos (k : Nat) (h : k < 64) : 0 < bitAt k := by
  rw [bitAt_pow k (by omega)]
  exact Nat.two_pow_pos _
theorem bitAt_le (k : Nat) : bitAt k ≤ 9223372036854775808 := Nat.div_le_self _ _
theorem bitAt_end : bitAt 64 = 0 := by decide

/-- The root after k rounds. -/
def hyp (N : Nat) : Nat → Nat
  | 0 => 0
  | k + 1 => if (hyp N k + bitAt k) * (hyp N k + bitAt k) ≤ N then hyp N k + bitAt k else hyp N k
theorem hyp_succ (N k : Nat) : hyp N (k + 1) = if (hyp N k + bitAt k) * (hyp N k + bitAt k) ≤ N then hyp N k + bitAt k else hyp N k := rfl
theorem hyp_sq (N : Nat) : ∀ k, hyp N k * hyp N k ≤ N
  | 0 => by simp [hyp]
  | k + 1 => by
    rw [hyp_succ]
    split
    · assumption
    · exact hyp_sq N k
theorem hyp_mod (N : Nat) : ∀ k, k ≤ 64 → ∃ m, hyp N k = m * 2 ^ (64 - k) ∧ m < 2 ^ k
  | 0, _ => ⟨0, by simp [hyp], by decide⟩
  | k + 1, h => by
    obtain ⟨m, hm, hl⟩ := hyp_mod N k (by omega)
    have e : (2 : Nat) ^ (64 - k) = 2 * 2 ^ (64 - (k + 1)) := by
      rw [show 64 - k = (64 - (k + 1)) + 1 from by omega, Nat.pow_succ, Nat.mul_comm]
    have eb : bitAt k = 2 ^ (64 - (k + 1)) := by rw [bitAt_pow k (by omega)]; congr 1; omega
    have e2 : (2 : Nat) ^ (k + 1) = 2 * 2 ^ k := by rw [Nat.pow_succ, Nat.mul_comm]
    rw [hyp_succ]
    split
    · refine ⟨2 * m + 1, ?_, by omega⟩
      rw [hm, eb, e, Nat.add_mul, Nat.mul_comm 2 m, Nat.mul_assoc]
      omega
    · refine ⟨2 * m, ?_, by omega⟩
      rw [hm, e, Nat.mul_comm 2 m, Nat.mul_assoc]
theorem hyp_lt (N k : Nat) (h : k < 64) : hyp N k + bitAt k < 18446744073709551616 := by
  obtain ⟨m, hm, hl⟩ := hyp_mod N k (by omega)
  have e : (2 : Nat) ^ (64 - k) = 2 * bitAt k := by
    rw [bitAt_pow k (by omega), show 64 - k = (63 - k) + 1 from by omega, Nat.pow_succ, Nat.mul_comm]
  have hp := bitAt_pos k h
  have h2 : (m + 1) * 2 ^ (64 - k) ≤ 2 ^ k * 2 ^ (64 - k) := Nat.mul_le_mul_right _ hl
  have h3 : (2 : Nat) ^ k * 2 ^ (64 - k) = 18446744073709551616 := by
    rw [← Nat.pow_add, show k + (64 - k) = 64 from by omega]
  rw [h3, Nat.add_mul, ← hm, e] at h2
  omega
theorem hyp_or (N k : Nat) (h : k < 64) : hyp N k ||| bitAt k = hyp N k + bitAt k := by
  obtain ⟨m, hm, hl⟩ := hyp_mod N k (by omega)
  have e : (2 : Nat) ^ (64 - k) = 2 ^ (63 - k) * 2 := by
    rw [show 64 - k = (63 - k) + 1 from by omega, Nat.pow_succ]
  refine nat_join (64 - k) _ _ ?_ ?_
  · rw [hm]; exact Nat.mul_mod_left _ _
  · rw [bitAt_pow k (by omega), e]
    have := Nat.two_pow_pos (63 - k)
    omega
/-- The length of a vector, rounded down. -/
def hypot (x y : Int) : Int := (hyp (x * x + y * y).toNat 64 : Nat)
theorem hypot_nonneg (x y : Int) : 0 ≤ hypot x y := by unfold hypot; omega
theorem hypot_le (x y m : Int) (hm : 0 ≤ m) (h : x * x + y * y ≤ m * m) : hypot x y ≤ m := by
  have h1 := hyp_sq (x * x + y * y).toNat 64
  unfold hypot
  generalize hyp (x * x + y * y).toNat 64 = r at *
  have hx : 0 ≤ x * x := by rcases Int.le_total 0 x with h | h; exact Int.mul_nonneg h h; exact Int.mul_nonneg_of_nonpos_of_nonpos h h
  have hy : 0 ≤ y * y := by rcases Int.le_total 0 y with h | h; exact Int.mul_nonneg h h; exact Int.mul_nonneg_of_nonpos_of_nonpos h h
  have h2 : (r : Int) * r ≤ m * m := by
    have : ((r * r : Nat) : Int) ≤ x * x + y * y := by omega
    rw [Int.natCast_mul] at this
    omega
  rcases Int.lt_or_le m r with h3 | h3
  · have : m * m < (r : Int) * r := by
      have a1 : m * m ≤ m * r := Int.mul_le_mul_of_nonneg_left (by omega) hm
      have a2 : m * r < (r : Int) * r := Int.mul_lt_mul_of_pos_right h3 (by omega)
      omega
    omega
  · exact h3
end Go.Proofs.YtflegfoalkkkdaaDoor
