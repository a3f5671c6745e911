/- Several texts in one: Num, NumRef, Rand. -/
import Derived.Test.YtieacbccadbdbaaDoorLKit
import Derived.Test.YtieacbccadbdbaaDoorLPlain
import Derived.Test.YtieacbccadbdbaaDoorRows

/- The walks of package num (clamping, rounding division, products of unit values) and of its reference. -/
namespace Go.Proofs.YtieacbccadbdbaaDoor
open Go.RowKit
set_option linter.unusedVariables false

set_option maxHeartbeats 400000 in
theorem clamp_any (x lo hi : Int) (w : World) :
    Calls Tryd.prog 15 #[.int .i64 x, .int .i64 lo, .int .i64 hi] w fun e w' => e = .returned (.int .i64 (min hi (max x lo))) ∧ w = w' := by
  go_enter Tryd.func15, Tryd.ntmps15
  go_wp2
  all_goals go_ret
  all_goals refine ⟨ret_int ?_, rfl⟩
  all_goals omega

set_option maxHeartbeats 400000 in
theorem unit_n (x : Int) (w : World) :
    Calls Tryd.prog 58 #[.int .i64 x] w fun e w' => e = .returned (.int .i64 (cl x)) ∧ w = w' := by
  go_enter Tryd.func58, Tryd.ntmps58
  go_wp2_with fail
  refine (clamp_any _ _ _ _).mono ?_
  rintro e w' ⟨rfl, rfl⟩
  go_wp2_with fail
  go_ret
  exact ⟨ret_int (cl_min x), rfl⟩

set_option maxHeartbeats 400000 in
theorem unit_p (x : Int) (w : World) :
    Calls Tryd.prog 67 #[.int .i64 x] w fun e w' => e = .returned (.int .i64 (cl x)) ∧ w = w' := by
  go_enter Tryd.func67, Tryd.ntmps67
  go_wp2_with fail
  refine (clamp_any _ _ _ _).mono ?_
  rintro e w' ⟨rfl, rfl⟩
  go_wp2_with fail
  go_ret
  exact ⟨ret_int (cl_min x), rfl⟩

set_option maxHeartbeats 400000 in
theorem floor_any (a b : Int) (w : World) (hb : 0 < b) (hb2 : b ≤ 4611686018427387904) (ha1 : -4611686018427387904 ≤ a) (ha2 : a ≤ 4611686018427387904) :
    Calls Tryd.prog 43 #[.int .i64 a, .int .i64 b] w fun e w' => e = .returned (.int .i64 (a / b)) ∧ w = w' := by
  have d2 : decide (b < 0) = false := by simp; omega
  by_cases h0 : 0 ≤ a
  · have d1 : decide (a < 0) = false := by simp; omega
    go_enter Tryd.func43, Tryd.ntmps43
    go_wp2
    all_goals go_ret
    all_goals exact ⟨rfl, rfl⟩
  · have d1 : decide (a < 0) = true := by simp; omega
    have hf := floor_neg a b hb (by omega)
    have hq := tdiv_bd a b hb (by omega)
    by_cases hr : a.tmod b = 0
    · have r2 : (a.tmod b != 0) = false := by simp [hr]
      have HQ := Lib.hid (hf.1 hr)
      clear hf hr
      go_enter Tryd.func43, Tryd.ntmps43
      go_wp2
      go_ret
      exact ⟨ret_int HQ.out, rfl⟩
    · have r2 : (a.tmod b != 0) = true := by simp [hr]
      have HQ := Lib.hid (hf.2 hr)
      clear hf hr
      go_enter Tryd.func43, Tryd.ntmps43
      go_wp2
      go_ret
      exact ⟨ret_int HQ.out, rfl⟩

set_option maxHeartbeats 400000 in
theorem div_any (a b : Int) (w : World) (hb : 0 < b) (hb2 : b ≤ 4611686018427387904) (ha1 : -4611686018427387904 ≤ a) (ha2 : a ≤ 4611686018427387904) :
    Calls Tryd.prog 16 #[.int .i64 a, .int .i64 b] w fun e w' => e = .returned (.int .i64 (dv a b)) ∧ w = w' := by
  have h1 := fl_bd a b hb
  have h2 := fl_lo a b hb
  have h3 := fl_hi a b hb
  have h4 : -4611686018427387904 ≤ a / b := by split at h2 <;> omega
  have h5 : a / b ≤ 4611686018427387904 := by split at h3 <;> omega
  have h6 := Int.emod_nonneg a (Int.ne_of_gt hb)
  have h7 := Int.emod_lt_of_pos a hb
  have HS := Lib.hid (fl_sub a b)
  have HD : Hid (dv a b = if b - a % b ≤ a % b then a / b + 1 else a / b) := rfl
  have h8 : -9223372036854775808 ≤ b * (a / b) := by omega
  have h9 : b * (a / b) ≤ 4611686018427387904 := by omega
  have g1 : 0 ≤ a - b * (a / b) := by omega
  have g2 : a - b * (a / b) < b := by omega
  clear h2 h3
  by_cases hr : b - (a - b * (a / b)) ≤ a - b * (a / b)
  · go_enter Tryd.func16, Tryd.ntmps16
    go_wp2_with fail
    refine (floor_any _ _ _ hb hb2 ha1 ha2).mono ?_
    rintro e w' ⟨rfl, rfl⟩
    go_wp2_with fail
    go_ret
    exact ⟨ret_int (by rw [HD.out, if_pos (by rw [← HS.out]; omega)]), rfl⟩
  · go_enter Tryd.func16, Tryd.ntmps16
    go_wp2_with fail
    refine (floor_any _ _ _ hb hb2 ha1 ha2).mono ?_
    rintro e w' ⟨rfl, rfl⟩
    go_wp2_with fail
    go_ret
    exact ⟨ret_int (by rw [HD.out, if_neg (by rw [← HS.out]; omega)]), rfl⟩

theorem mul_unit_bd (x y : Int) (h0 : 0 ≤ x) (h1 : x ≤ 65535) (h2 : 0 ≤ y) (h3 : y ≤ 65535) : 0 ≤ x * y ∧ x * y ≤ 4294836225 := by
  have a := Int.mul_le_mul h1 h3 h2 (by omega)
  exact ⟨Int.mul_nonneg h0 h2, by omega⟩

set_option maxHeartbeats 400000 in
theorem mul_any (a b : Int) (w : World) :
    Calls Tryd.prog 25 #[.int .i64 a, .int .i64 b] w fun e w' => e = .returned (.int .i64 (dv (cl a * cl b) 65535)) ∧ w = w' := by
  have ha := cl_bd a
  have hb := cl_bd b
  have hm := mul_unit_bd _ _ ha.1 ha.2 hb.1 hb.2
  go_enter Tryd.func25, Tryd.ntmps25
  go_wp2_with fail
  refine (unit_n _ _).mono ?_
  rintro e w' ⟨rfl, rfl⟩
  go_wp2_with fail
  refine (unit_n _ _).mono ?_
  rintro e w' ⟨rfl, rfl⟩
  go_wp2_with fail
  refine (div_any _ _ _ (by omega) (by omega) (by omega) (by omega)).mono ?_
  rintro e w' ⟨rfl, rfl⟩
  go_wp2_with fail
  go_ret
  exact ⟨rfl, rfl⟩

set_option maxHeartbeats 400000 in
theorem quo_any (a b : Int) (w : World) (hb0 : 0 < cl b) :
    Calls Tryd.prog 85 #[.int .i64 a, .int .i64 b] w fun e w' => e = .returned (.int .i64 (min 65535 (dv (cl a * 65535) (cl b)))) ∧ w = w' := by
  have ha := cl_bd a
  have hb := cl_bd b
  go_enter Tryd.func85, Tryd.ntmps85
  go_wp2_with fail
  refine (unit_n _ _).mono ?_
  rintro e w' ⟨rfl, rfl⟩
  go_wp2_with fail
  refine (unit_n _ _).mono ?_
  rintro e w' ⟨rfl, rfl⟩
  go_wp2_with fail
  refine (div_any _ _ _ (by omega) (by omega) (by omega) (by omega)).mono ?_
  rintro e w' ⟨rfl, rfl⟩
  go_wp2_with fail
  all_goals go_ret
  all_goals exact ⟨ret_int (by omega), rfl⟩
end Go.Proofs.YtieacbccadbdbaaDoor


/- The walks of the reference of package num. -/
namespace Go.Proofs.YtieacbccadbdbaaDoor
open Go.RowKit
set_option linter.unusedVariables false









end Go.Proofs.YtieacbccadbdbaaDoor


/- The walks of package random and of its reference: each function returns what the plain functions of the text RandPlain compute. -/
namespace Go.Proofs.YtieacbccadbdbaaDoor
open Go.RowKit
set_option linter.unusedVariables false

set_option maxHeartbeats 400000 in
theorem at_any (a b c : Int) (w : World) :
    Calls Tryd.prog 90 #[.int .i64 a, .int .i64 b, .int .i64 c] w fun e w' => e = .returned (.int .u32 (atI a b c)) ∧ w = w' := by
  go_enter Tryd.func90, Tryd.ntmps90
  go_wp2
  go_ret
  exact ⟨rfl, rfl⟩



set_option maxHeartbeats 400000 in
theorem unit_any (a b c : Int) (w : World) :
    Calls Tryd.prog 103 #[.int .i64 a, .int .i64 b, .int .i64 c] w fun e w' => e = .returned (.int .i64 (atI a b c / 65537)) ∧ w = w' := by
  have hb := at_bd a b c
  go_enter Tryd.func103, Tryd.ntmps103
  go_wp2_with (go_at_call 90; refine (at_any _ _ _ _).mono ?_; rintro e w' ⟨rfl, rfl⟩)
  go_ret
  exact ⟨rfl, rfl⟩


set_option maxHeartbeats 400000 in
theorem below_any (a b c n : Int) (w : World) :
    Calls Tryd.prog 77 #[.int .i64 a, .int .i64 b, .int .i64 c, .int .i64 n] w fun e w' => e = .returned (.int .i64 (belowI a b c n)) ∧ w = w' := by
  have hb := at_bd a b c
  by_cases h : n < 1
  · go_enter Tryd.func77, Tryd.ntmps77
    go_wp2
    go_ret
    exact ⟨ret_int (by unfold belowI; rw [if_pos (by omega)]), rfl⟩
  · by_cases h2 : n ≤ 2147483648
    · have hm := at_mul_bd a b c n (by omega) h2
      go_enter Tryd.func77, Tryd.ntmps77
      go_wp2_with (go_at_call 90; refine (at_any _ _ _ _).mono ?_; rintro e w' ⟨rfl, rfl⟩)
      go_ret
      exact ⟨ret_int (by unfold belowI; rw [if_neg (by omega), if_pos (by omega)]), rfl⟩
    · go_enter Tryd.func77, Tryd.ntmps77
      go_wp2_with (go_at_call 90; refine (at_any _ _ _ _).mono ?_; rintro e w' ⟨rfl, rfl⟩)
      go_ret
      exact ⟨ret_int (by unfold belowI; rw [if_neg (by omega), if_neg (by omega)]), rfl⟩



end Go.Proofs.YtieacbccadbdbaaDoor

