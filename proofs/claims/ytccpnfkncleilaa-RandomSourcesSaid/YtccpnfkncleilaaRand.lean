/- The walks of package random and of its reference: each function returns what the plain functions of the text RandPlain compute. -/
import Derived.Test.YtccpnfkncleilaaRows
import Derived.Test.YtccpnfkncleilaaKit
import Derived.Test.YtccpnfkncleilaaRandPlain
namespace Go.Proofs.Ytccpnfkncleilaa
open Go.RowKit
set_option linter.unusedVariables false

set_option maxHeartbeats 400000 in
theorem at_any (a b c : Int) (w : World) :
    Calls Try.prog 9 #[.int .i64 a, .int .i64 b, .int .i64 c] w fun e w' => e = .returned (.int .u32 (atI a b c)) ∧ w = w' := by
  go_enter Try.func9, Try.ntmps9
  go_wp2
  go_ret
  exact ⟨rfl, rfl⟩

set_option maxHeartbeats 400000 in
theorem mix_any (x : Int) (w : World) (_h0 : 0 ≤ x) (_h1 : x < 18446744073709551616) :
    Calls Try.prog 8 #[.int .u64 x] w fun e w' => e = .returned (.int .u64 (mixI x)) ∧ w = w' := by
  go_enter Try.func8, Try.ntmps8
  go_wp2
  go_ret
  exact ⟨rfl, rfl⟩

set_option maxHeartbeats 400000 in
theorem refAt_any (a b c : Int) (w : World) :
    Calls Try.prog 12 #[.int .i64 a, .int .i64 b, .int .i64 c] w fun e w' => e = .returned (.int .u32 (atI a b c)) ∧ w = w' := by
  go_enter Try.func12, Try.ntmps12
  go_wp2_with (go_at_call 8; refine (mix_any _ _ (bits_bd _ _).1 (bits_bd _ _).2).mono ?_; rintro e w' ⟨rfl, rfl⟩)
  go_ret
  exact ⟨rfl, rfl⟩

set_option maxHeartbeats 400000 in
theorem unit_any (a b c : Int) (w : World) :
    Calls Try.prog 13 #[.int .i64 a, .int .i64 b, .int .i64 c] w fun e w' => e = .returned (.int .i64 (atI a b c / 65537)) ∧ w = w' := by
  have hb := at_bd a b c
  go_enter Try.func13, Try.ntmps13
  go_wp2_with (go_at_call 9; refine (at_any _ _ _ _).mono ?_; rintro e w' ⟨rfl, rfl⟩)
  go_ret
  exact ⟨rfl, rfl⟩

set_option maxHeartbeats 400000 in
theorem refUnit_any (a b c : Int) (w : World) :
    Calls Try.prog 14 #[.int .i64 a, .int .i64 b, .int .i64 c] w fun e w' => e = .returned (.int .i64 (atI a b c / 65537)) ∧ w = w' := by
  have hb := at_bd a b c
  go_enter Try.func14, Try.ntmps14
  go_wp2_with (go_at_call 12; refine (refAt_any _ _ _ _).mono ?_; rintro e w' ⟨rfl, rfl⟩)
  go_ret
  exact ⟨rfl, rfl⟩

set_option maxHeartbeats 400000 in
theorem below_any (a b c n : Int) (w : World) :
    Calls Try.prog 15 #[.int .i64 a, .int .i64 b, .int .i64 c, .int .i64 n] w fun e w' => e = .returned (.int .i64 (belowI a b c n)) ∧ w = w' := by
  have hb := at_bd a b c
  by_cases h : n < 1
  · go_enter Try.func15, Try.ntmps15
    go_wp2
    go_ret
    exact ⟨ret_int (by unfold belowI; rw [if_pos (by omega)]), rfl⟩
  · by_cases h2 : n ≤ 2147483648
    · have hm := at_mul_bd a b c n (by omega) h2
      go_enter Try.func15, Try.ntmps15
      go_wp2_with (go_at_call 9; refine (at_any _ _ _ _).mono ?_; rintro e w' ⟨rfl, rfl⟩)
      go_ret
      exact ⟨ret_int (by unfold belowI; rw [if_neg (by omega), if_pos (by omega)]), rfl⟩
    · go_enter Try.func15, Try.ntmps15
      go_wp2_with (go_at_call 9; refine (at_any _ _ _ _).mono ?_; rintro e w' ⟨rfl, rfl⟩)
      go_ret
      exact ⟨ret_int (by unfold belowI; rw [if_neg (by omega), if_neg (by omega)]), rfl⟩

set_option maxHeartbeats 400000 in
theorem refBelow_any (a b c n : Int) (w : World) :
    Calls Try.prog 16 #[.int .i64 a, .int .i64 b, .int .i64 c, .int .i64 n] w fun e w' => e = .returned (.int .i64 (belowI a b c n)) ∧ w = w' := by
  have hb := at_bd a b c
  by_cases h : n < 1
  · go_enter Try.func16, Try.ntmps16
    go_wp2
    go_ret
    exact ⟨ret_int (by unfold belowI; rw [if_pos (by omega)]), rfl⟩
  · by_cases h2 : n ≤ 2147483648
    · have hm := at_mul_bd a b c n (by omega) h2
      go_enter Try.func16, Try.ntmps16
      go_wp2_with (go_at_call 12; refine (refAt_any _ _ _ _).mono ?_; rintro e w' ⟨rfl, rfl⟩)
      go_ret
      exact ⟨ret_int (by unfold belowI; rw [if_neg (by omega), if_pos (by omega)]), rfl⟩
    · go_enter Try.func16, Try.ntmps16
      go_wp2_with (go_at_call 12; refine (refAt_any _ _ _ _).mono ?_; rintro e w' ⟨rfl, rfl⟩)
      go_ret
      exact ⟨ret_int (by unfold belowI; rw [if_neg (by omega), if_neg (by omega)]), rfl⟩

set_option maxHeartbeats 400000 in
theorem inverse_any (a : Int) (w : World) (h0 : 0 ≤ a) (h1 : a < 18446744073709551616) :
    Calls Try.prog 24 #[.int .u64 a] w fun e w' => e = .returned (.int .u64 (invr a 5)) ∧ w = w' := by
  go_enter Try.func24, Try.ntmps24
  go_wp2
  go_loop [3, 4] (fun x i => ∃ k : Nat, k ≤ 5 ∧ i = .int .i64 k ∧ x = .int .u64 (invr a k)) (fun _ i => 5 - (intOf i).toNat)
  case atStart => exact ⟨0, Nat.zero_le _, rfl, rfl⟩
  case round =>
    obtain ⟨k, hk, rfl, rfl⟩ := hrel
    by_cases hlt : k < 5
    · go_wp2
      go_round
      case rel => exact ⟨k + 1, by omega, by go_num, rfl⟩
      case measure => simp [intOf]; omega
    · obtain rfl : k = 5 := by omega
      go_wp2
      go_ret
      exact ⟨rfl, rfl⟩

set_option maxHeartbeats 400000 in
theorem unshift_any (z n : Int) (w : World) (h0 : 0 ≤ z) (h1 : z < 18446744073709551616) (hn : 22 ≤ n) (hn' : n ≤ 31) :
    Calls Try.prog 23 #[.int .u64 z, .int .i64 n] w fun e w' => e = .returned (.int .u64 (unsh z (2 ^ n.toNat) 3)) ∧ w = w' := by
  go_enter Try.func23, Try.ntmps23
  go_wp2
  go_loop [5, 6] (fun x i => ∃ (k : Nat) (j : Int), k ≤ 3 ∧ j = k * n ∧ i = .int .i64 j ∧ x = .int .u64 (unsh z (2 ^ n.toNat) k)) (fun _ i => (100 - intOf i).toNat)
  case atStart => exact ⟨0, 0, by omega, by simp, rfl, rfl⟩
  case round =>
    obtain ⟨k, j, hk, hj, rfl, rfl⟩ := hrel
    have hj2 : (k = 0 ∧ j = 0) ∨ (k = 1 ∧ j = n) ∨ (k = 2 ∧ j = 2 * n) ∨ (k = 3 ∧ j = 3 * n) := by
      obtain rfl | rfl | rfl | rfl : k = 0 ∨ k = 1 ∨ k = 2 ∨ k = 3 := by omega
      all_goals simp at hj; omega
    have hb1 : 0 ≤ j := by omega
    have hb2 : j ≤ 93 := by omega
    have hb3 : k < 3 → j ≤ 62 := by omega
    have hb4 : k = 3 → 66 ≤ j := by omega
    have HJ := Lib.hid hj
    clear hj hj2
    by_cases hlt : k < 3
    · have hb5 := hb3 hlt
      clear hb3 hb4
      go_wp2
      go_round
      case rel => exact ⟨k + 1, j + n, by omega, by rw [HJ.out]; push_cast; rw [Int.add_mul]; omega, rfl, rfl⟩
      case measure => simp [intOf]; omega
    · have hb5 := hb4 (by omega)
      obtain rfl : k = 3 := by omega
      clear hb3 hb4
      go_wp2
      go_ret
      exact ⟨rfl, rfl⟩
end Go.Proofs.Ytccpnfkncleilaa
