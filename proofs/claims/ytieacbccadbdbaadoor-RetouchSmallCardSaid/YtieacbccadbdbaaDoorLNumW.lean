/- Several texts in one: NumW, GNum. -/
import Derived.Test.YtieacbccadbdbaaDoorLNum
import Derived.Test.YtieacbccadbdbaaDoorLPlain
import Derived.Lib.MinMax

/- Floor and Div for numerators of up to 8 * 10^18 (printed by genwide.py). -/
namespace Go.Proofs.YtieacbccadbdbaaDoor
open Go.RowKit
set_option linter.unusedVariables false

set_option maxHeartbeats 400000 in
theorem floorw_any (a b : Int) (w : World) (hb : 0 < b) (hb2 : b ≤ 1152921504606846976) (ha1 : -8000000000000000000 ≤ a) (ha2 : a ≤ 8000000000000000000) :
    Calls Tryd.prog 43 #[.int .i64 a, .int .i64 b] w fun e w' => e = .returned (.int .i64 (a / b)) ∧ w = w' := by
  have d2 : decide (b < 0) = false := by simp; omega
  by_cases h0 : 0 ≤ a
  · have d1 : decide (a < 0) = false := by simp; omega
    go_enter Tryd.func43, Tryd.ntmps43
    go_wp2
    all_goals go_ret
    all_goals exact ⟨rfl, rfl⟩
  · have d1 : decide (a < 0) = true := by simp; omega
    have hf := floor_neg a b hb (by omega)
    have hq := tdiv_bd a b hb (by omega)
    by_cases hr : a.tmod b = 0
    · have r2 : (a.tmod b != 0) = false := by simp [hr]
      have HQ := Lib.hid (hf.1 hr)
      clear hf hr
      go_enter Tryd.func43, Tryd.ntmps43
      go_wp2
      go_ret
      exact ⟨ret_int HQ.out, rfl⟩
    · have r2 : (a.tmod b != 0) = true := by simp [hr]
      have HQ := Lib.hid (hf.2 hr)
      clear hf hr
      go_enter Tryd.func43, Tryd.ntmps43
      go_wp2
      go_ret
      exact ⟨ret_int HQ.out, rfl⟩

set_option maxHeartbeats 400000 in
theorem divw_any (a b : Int) (w : World) (hb : 0 < b) (hb2 : b ≤ 1152921504606846976) (ha1 : -8000000000000000000 ≤ a) (ha2 : a ≤ 8000000000000000000) :
    Calls Tryd.prog 16 #[.int .i64 a, .int .i64 b] w fun e w' => e = .returned (.int .i64 (dv a b)) ∧ w = w' := by
  have h1 := fl_bd a b hb
  have h2 := fl_lo a b hb
  have h3 := fl_hi a b hb
  have h4 : -8000000000000000000 ≤ a / b := by split at h2 <;> omega
  have h5 : a / b ≤ 8000000000000000000 := by split at h3 <;> omega
  have h6 := Int.emod_nonneg a (Int.ne_of_gt hb)
  have h7 := Int.emod_lt_of_pos a hb
  have HS := Lib.hid (fl_sub a b)
  have HD : Hid (dv a b = if b - a % b ≤ a % b then a / b + 1 else a / b) := rfl
  have h8 : -9223372036854775808 ≤ b * (a / b) := by omega
  have h9 : b * (a / b) ≤ 8000000000000000000 := by omega
  have g1 : 0 ≤ a - b * (a / b) := by omega
  have g2 : a - b * (a / b) < b := by omega
  clear h2 h3
  by_cases hr : b - (a - b * (a / b)) ≤ a - b * (a / b)
  · go_enter Tryd.func16, Tryd.ntmps16
    go_wp2_with fail
    refine (floorw_any _ _ _ hb hb2 ha1 ha2).mono ?_
    rintro e w' ⟨rfl, rfl⟩
    go_wp2_with fail
    go_ret
    exact ⟨ret_int (by rw [HD.out, if_pos (by rw [← HS.out]; omega)]), rfl⟩
  · go_enter Tryd.func16, Tryd.ntmps16
    go_wp2_with fail
    refine (floorw_any _ _ _ hb hb2 ha1 ha2).mono ?_
    rintro e w' ⟨rfl, rfl⟩
    go_wp2_with fail
    go_ret
    exact ⟨ret_int (by rw [HD.out, if_neg (by rw [← HS.out]; omega)]), rfl⟩



set_option maxHeartbeats 400000 in
theorem adv_any (a b : Int) (w : World) (hb : 0 ≤ b) (hb2 : b ≤ 1152921504606846976) (ha1 : -8000000000000000000 ≤ a) (ha2 : a ≤ 8000000000000000000) :
    Calls Tryd.prog 16 #[.int .i64 a, .int .i64 b] w fun e w' => e = .returned (.int .i64 (adv a b)) ∧ w = w' := by
  by_cases h : b = 0
  · subst h
    have e : adv a 0 = 0 := rfl
    rw [e]
    go_enter Tryd.func16, Tryd.ntmps16
    go_wp2
    go_ret
    exact ⟨rfl, rfl⟩
  · have e : adv a b = dv a b := if_neg h
    rw [e]
    exact divw_any a b w (by omega) hb2 ha1 ha2

end Go.Proofs.YtieacbccadbdbaaDoor


/- The small functions of package gradient and of its reference: absolute values, remainders, angles, spreads. -/
namespace Go.Proofs.YtieacbccadbdbaaDoor
open Go.RowKit
set_option linter.unusedVariables false

theorem mod_pos (n m : Int) (hm : 0 < m) : (n.tmod m + m).tmod m = n % m := by
  have h1 := Int.tmod_lt_of_pos n hm
  have h2 : -m < n.tmod m := by
    have := Int.tmod_lt_of_pos (-n) hm
    rw [Int.neg_tmod] at this
    omega
  rw [Int.tmod_eq_emod_of_nonneg (by omega), Int.add_emod_right]
  have e := Int.mul_tdiv_add_tmod n m
  have h3 : n % m = (m * n.tdiv m + n.tmod m) % m := by rw [e]
  rw [h3, Int.mul_add_emod_self_left]
theorem tmod_bd (n m : Int) (hm : 0 < m) : -m < n.tmod m ∧ n.tmod m < m := by
  have h1 := Int.tmod_lt_of_pos n hm
  have := Int.tmod_lt_of_pos (-n) hm
  rw [Int.neg_tmod] at this
  omega






end Go.Proofs.YtieacbccadbdbaaDoor

