/- Plain functions for package random: the mixing, the numbers at a place, and the rounds that undo the mixing. -/
import Derived.Laws.Bits64
namespace Go.Proofs.YtflegfoalkkkdaaDoor
open Go
set_option linter.unusedVariables false

def mixI (x : Int) : Int :=
  let z1 := IntKind.u64.wrap (bits .xor .u64 x (x / 1073741824) * 13787848793156543929)
  let z2 := IntKind.u64.wrap (bits .xor .u64 z1 (z1 / 134217728) * 10723151780598845931)
  bits .xor .u64 z2 (z2 / 2147483648)
def seedI (a b c : Int) : Int :=
  bits .xor .u64 (bits .xor .u64 (IntKind.u64.wrap a) (IntKind.u64.wrap (IntKind.u64.wrap b * 11400714819323198485))) (IntKind.u64.wrap (IntKind.u64.wrap c * 14029467366897019727))
def atI (a b c : Int) : Int := mixI (seedI a b c) / 4294967296 % 4294967296

theorem wrap_bd (x : Int) : 0 ≤ IntKind.u64.wrap x ∧ IntKind.u64.wrap x < 18446744073709551616 := by
  rw [IntKind.wrap_u64]; omega
theorem bits_bd (a b : Int) : 0 ≤ bits .xor .u64 a b ∧ bits .xor .u64 a b < 18446744073709551616 := by
  unfold bits; simp only [IntKind.wrap_u64]; omega
theorem mix_bd (x : Int) : 0 ≤ mixI x ∧ mixI x < 18446744073709551616 := bits_bd _ _
theorem seed_bd (a b c : Int) : 0 ≤ seedI a b c ∧ seedI a b c < 18446744073709551616 := bits_bd _ _
theorem at_bd (a b c : Int) : 0 ≤ atI a b c ∧ atI a b c < 4294967296 := by unfold atI; omega

def belowI (a b c n : Int) : Int := if n < 1 then 0 else if n ≤ 2147483648 then atI a b c * n / 4294967296 else atI a b c * 2147483648 / 4294967296

theorem at_mul_bd (a b c n : Int) (h : 1 ≤ n) (h' : n ≤ 2147483648) : 0 ≤ atI a b c * n ∧ atI a b c * n ≤ 9223372034707292160 := by
  have hb := at_bd a b c
  have h1 : atI a b c * n ≤ 4294967295 * n := Int.mul_le_mul_of_nonneg_right (by omega) (by omega)
  exact ⟨Int.mul_nonneg hb.1 (by omega), by omega⟩

/-- One round of 'unshift': it halves what is still wrong. -/
def unsh (z s : Int) : Nat → Int
  | 0 => z
  | k + 1 => bits .xor .u64 z (unsh z s k / s)
def invr (a : Int) : Nat → Int
  | 0 => a
  | k + 1 => IntKind.u64.wrap (invr a k * IntKind.u64.wrap (2 - IntKind.u64.wrap (a * invr a k)))
theorem unsh_bd (z s : Int) (h0 : 0 ≤ z) (h1 : z < 18446744073709551616) : ∀ k, 0 ≤ unsh z s k ∧ unsh z s k < 18446744073709551616
  | 0 => ⟨h0, h1⟩
  | _ + 1 => bits_bd _ _
theorem invr_bd (z : Int) (h0 : 0 ≤ z) (h1 : z < 18446744073709551616) : ∀ k, 0 ≤ invr z k ∧ invr z k < 18446744073709551616
  | 0 => ⟨h0, h1⟩
  | _ + 1 => wrap_bd _
theorem xor_shift_step (X n m : Nat) : (X ^^^ X >>> n) ^^^ ((X ^^^ X >>> m) >>> n) = X ^^^ X >>> (m + n) := by
  rw [Nat.shiftRight_xor_distrib, ← Nat.shiftRight_add]
  apply Nat.eq_of_testBit_eq
  intro i
  simp only [Nat.testBit_xor]
  cases X.testBit i <;> cases (X >>> n).testBit i <;> cases (X >>> (m+n)).testBit i <;> rfl
theorem unsh_nat (X n : Nat) (hX : X < 18446744073709551616) : ∀ k, unsh (bits .xor .u64 (X : Int) ((X : Int) / ((2 ^ n : Nat) : Int))) ((2 ^ n : Nat) : Int) k = ((X ^^^ X >>> (n * (k + 1)) : Nat) : Int) := by
  have e0 : bits .xor .u64 (X : Int) ((X : Int) / ((2 ^ n : Nat) : Int)) = ((X ^^^ X >>> n : Nat) : Int) := by
    rw [xorShift_u64 X _ hX, Nat.shiftRight_eq_div_pow]
  intro k
  rw [e0]
  induction k with
  | zero => simp [unsh]
  | succ k ih =>
    have hlt : ∀ m, X ^^^ X >>> m < 18446744073709551616 := fun m => by
      have h : X ^^^ X >>> m < 2 ^ 64 := Nat.xor_lt_two_pow (by omega) (Nat.lt_of_le_of_lt (Nat.shiftRight_le X m) (by omega))
      omega
    rw [unsh, ih, ← Int.natCast_ediv, ← Nat.shiftRight_eq_div_pow, bits_xor_u64_nat _ _ (hlt _) (Nat.lt_of_le_of_lt (Nat.shiftRight_le _ _) (hlt _)), xor_shift_step]
    rfl
theorem unsh_undo (X : Nat) (n : Nat) (hn : 16 ≤ n) (hX : X < 18446744073709551616) : unsh (bits .xor .u64 (X : Int) ((X : Int) / ((2 ^ n : Nat) : Int))) ((2 ^ n : Nat) : Int) 3 = (X : Int) := by
  rw [unsh_nat X n hX 3]
  have h0 : X >>> (n * (3 + 1)) = 0 := by
    rw [Nat.shiftRight_eq_div_pow]
    apply Nat.div_eq_of_lt
    have : 2 ^ 64 ≤ 2 ^ (n * (3 + 1)) := Nat.pow_le_pow_right (by omega) (by omega)
    omega
  rw [h0, Nat.xor_zero]
theorem unsh_int (x s : Int) (n : Nat) (hs : s = ((2 ^ n : Nat) : Int)) (hn : 16 ≤ n) (h0 : 0 ≤ x) (h1 : x < 18446744073709551616) : unsh (bits .xor .u64 x (x / s)) s 3 = x := by
  obtain ⟨X, rfl⟩ := Int.eq_ofNat_of_zero_le h0
  rw [hs]; exact unsh_undo X n hn (by omega)
theorem wrap_undo (y C D : Int) (h : C * D % 18446744073709551616 = 1) (h0 : 0 ≤ y) (h1 : y < 18446744073709551616) : IntKind.u64.wrap (IntKind.u64.wrap (y * C) * D) = y := by
  rw [IntKind.wrap_u64, IntKind.wrap_u64, Int.mul_emod (y * C % 18446744073709551616) D, Int.emod_emod, ← Int.mul_emod, Int.mul_assoc, Int.mul_emod, h, Int.mul_one, Int.emod_emod]
  omega
def unmixI (z : Int) : Int :=
  unsh (IntKind.u64.wrap (unsh (IntKind.u64.wrap (unsh z 2147483648 3 * invr 10723151780598845931 5)) 134217728 3 * invr 13787848793156543929 5)) 1073741824 3
theorem unmix_mix (x : Int) (h0 : 0 ≤ x) (h1 : x < 18446744073709551616) : unmixI (mixI x) = x := by
  unfold unmixI mixI
  simp only []
  rw [unsh_int _ 2147483648 31 (by decide) (by decide) (wrap_bd _).1 (wrap_bd _).2]
  rw [wrap_undo _ _ _ (by decide +kernel) (bits_bd _ _).1 (bits_bd _ _).2]
  rw [unsh_int _ 134217728 27 (by decide) (by decide) (wrap_bd _).1 (wrap_bd _).2]
  rw [wrap_undo _ _ _ (by decide +kernel) (bits_bd _ _).1 (bits_bd _ _).2]
  rw [unsh_int _ 1073741824 30 (by decide) (by decide) h0 h1]
theorem below_zero (a b c n : Int) (h : n < 1) : belowI a b c n = 0 := by unfold belowI; rw [if_pos h]
theorem below_bd (a b c n : Int) (h : 1 ≤ n) : 0 ≤ belowI a b c n ∧ belowI a b c n < n := by
  have hb := at_bd a b c
  unfold belowI
  rw [if_neg (by omega)]
  split
  · have h1 : atI a b c * n ≤ 4294967295 * n := Int.mul_le_mul_of_nonneg_right (by omega) (by omega)
    have h2 : 0 ≤ atI a b c * n := Int.mul_nonneg hb.1 (by omega)
    omega
  · omega
theorem below_nonneg (a b c n : Int) : 0 ≤ belowI a b c n := by
  by_cases h : n < 1
  · rw [below_zero _ _ _ _ h]; exact Int.le_refl _
  · exact (below_bd a b c n (by omega)).1
theorem below_mono (a b c n m : Int) (h : n ≤ m) : belowI a b c n ≤ belowI a b c m := by
  by_cases h1 : n < 1
  · rw [below_zero _ _ _ _ h1]; exact below_nonneg _ _ _ _
  · have hb := at_bd a b c
    have h2 : atI a b c * n ≤ atI a b c * m := Int.mul_le_mul_of_nonneg_left h hb.1
    have hn : ∀ k : Int, 1 ≤ k → k ≤ 2147483648 → belowI a b c k = atI a b c * k / 4294967296 := fun k h h' => by
      unfold belowI; rw [if_neg (by omega), if_pos h']
    have hm : ∀ k : Int, ¬ k ≤ 2147483648 → belowI a b c k = atI a b c * 2147483648 / 4294967296 := fun k h => by
      unfold belowI; rw [if_neg (by omega), if_neg h]
    by_cases h3 : m ≤ 2147483648
    · rw [hn n (by omega) (by omega), hn m (by omega) h3]; omega
    · rw [hm m h3]
      by_cases h4 : n ≤ 2147483648
      · have h5 : atI a b c * n ≤ atI a b c * 2147483648 := Int.mul_le_mul_of_nonneg_left h4 hb.1
        rw [hn n (by omega) h4]; omega
      · rw [hm n h4]; exact Int.le_refl _
end Go.Proofs.YtflegfoalkkkdaaDoor
