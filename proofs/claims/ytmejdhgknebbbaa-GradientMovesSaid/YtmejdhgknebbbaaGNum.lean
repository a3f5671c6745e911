/- The small functions of package gradient and of its reference: absolute values, remainders, angles, spreads. -/
import Derived.Test.YtmejdhgknebbbaaNumW
import Derived.Lib.MinMax
namespace Go.Proofs.Ytmejdhgknebbbaa
open Go.RowKit
set_option linter.unusedVariables false

theorem mod_pos (n m : Int) (hm : 0 < m) : (n.tmod m + m).tmod m = n % m := by
  have h1 := Int.tmod_lt_of_pos n hm
  have h2 : -m < n.tmod m := by
    have := Int.tmod_lt_of_pos (-n) hm
    rw [Int.neg_tmod] at this
    omega
  rw [Int.tmod_eq_emod_of_nonneg (by omega), Int.add_emod_right]
  have e := Int.mul_tdiv_add_tmod n m
  have h3 : n % m = (m * n.tdiv m + n.tmod m) % m := by rw [e]
  rw [h3, Int.mul_add_emod_self_left]
theorem tmod_bd (n m : Int) (hm : 0 < m) : -m < n.tmod m ∧ n.tmod m < m := by
  have h1 := Int.tmod_lt_of_pos n hm
  have := Int.tmod_lt_of_pos (-n) hm
  rw [Int.neg_tmod] at this
  omega

set_option maxHeartbeats 400000 in
theorem gabs_any (x : Int) (w : World) (h1 : -9223372036854775807 ≤ x) (h2 : x ≤ 9223372036854775807) :
    Calls Try.prog 51 #[.int .i64 x] w fun e w' => e = .returned (.int .i64 (gabs x)) ∧ w = w' := by
  go_enter Try.func51, Try.ntmps51
  go_wp2
  go_ret
  exact ⟨ret_int rfl, rfl⟩

set_option maxHeartbeats 400000 in
theorem refGabs_any (x : Int) (w : World) (h1 : -9223372036854775807 ≤ x) (h2 : x ≤ 9223372036854775807) :
    Calls Try.prog 55 #[.int .i64 x] w fun e w' => e = .returned (.int .i64 (gabs x)) ∧ w = w' := by
  by_cases h : x < 0
  · go_enter Try.func55, Try.ntmps55
    go_wp2
    go_ret
    exact ⟨ret_int (by unfold gabs; omega), rfl⟩
  · go_enter Try.func55, Try.ntmps55
    go_wp2
    go_ret
    exact ⟨ret_int (by unfold gabs; omega), rfl⟩

set_option maxHeartbeats 400000 in
theorem modulo_any (n m : Int) (w : World) (hm : 0 < m) (hm2 : m ≤ 1048576) (h1 : -8000000000000000000 ≤ n) (h2 : n ≤ 8000000000000000000) :
    Calls Try.prog 49 #[.int .i64 n, .int .i64 m] w fun e w' => e = .returned (.int .i64 (n % m)) ∧ w = w' := by
  have hb := tmod_bd n m hm
  have HM := Lib.hid (mod_pos n m hm)
  generalize hq : n.tmod m = q at *
  have hne : (m == 0) = false := by simp; omega
  go_enter Try.func49, Try.ntmps49
  go_wp2
  go_ret
  exact ⟨ret_int (by rw [← Int.tmod_eq_emod_of_nonneg (by omega)]; exact HM.out), rfl⟩

set_option maxHeartbeats 400000 in
theorem mod_any (n m : Int) (w : World) (hm : 0 < m) (hm2 : m ≤ 1048576) (h1 : -8000000000000000000 ≤ n) (h2 : n ≤ 8000000000000000000) :
    Calls Try.prog 35 #[.int .i64 n, .int .i64 m] w fun e w' => e = .returned (.int .i64 (n % m)) ∧ Below w.heap.size w w' := by
  have hs := fl_sub n m
  have hf := fl_bd n m hm
  have h6 := Int.emod_nonneg n (Int.ne_of_gt hm)
  have h7 := Int.emod_lt_of_pos n hm
  go_enter Try.func35, Try.ntmps35
  have HS := Lib.hid hs
  clear hs
  go_wp2_with fail
  refine (refFloorw_any _ _ _ hm (by omega) h1 h2).mono ?_
  rintro e w' ⟨rfl, k, rfl⟩
  go_wp2_with fail
  go_ret
  exact ⟨ret_int HS.out, belowN (Below.refl _ _) _⟩

set_option maxHeartbeats 400000 in
theorem eighth_any (z : Int) (w : World) (h0 : 0 ≤ z) (h1 : z ≤ 65536) :
    Calls Try.prog 63 #[.int .i64 z] w fun e w' => e = .returned (.int .i64 (eig z)) ∧ w = w' := by
  have h := eig_in z h0 h1
  go_enter Try.func63, Try.ntmps63
  go_wp2_with fail
  refine (div_any _ _ _ (by omega) (by omega) (by omega) (by omega)).mono ?_
  rintro e w' ⟨rfl, rfl⟩
  go_wp2_with fail
  go_ret
  exact ⟨ret_int rfl, rfl⟩

set_option maxHeartbeats 400000 in
theorem refEighth_any (z : Int) (w : World) (h0 : 0 ≤ z) (h1 : z ≤ 65536) :
    Calls Try.prog 66 #[.int .i64 z] w fun e w' => e = .returned (.int .i64 (eig z)) ∧ Below w.heap.size w w' := by
  have h := eig_in z h0 h1
  go_enter Try.func66, Try.ntmps66
  go_wp2_with fail
  refine (refDiv_new _ _ _ (by omega) (by omega) (by omega) (by omega)).mono ?_
  rintro e w' ⟨rfl, hb⟩
  go_wp2_with fail
  go_ret
  exact ⟨ret_int rfl, hb⟩
end Go.Proofs.Ytmejdhgknebbbaa
