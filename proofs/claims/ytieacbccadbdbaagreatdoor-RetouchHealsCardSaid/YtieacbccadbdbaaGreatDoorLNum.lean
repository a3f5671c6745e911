/- Several texts in one: Num, NumRef, Rand. -/
import Derived.Test.YtieacbccadbdbaaGreatDoorLKit
import Derived.Test.YtieacbccadbdbaaGreatDoorLPlain
import Derived.Test.YtieacbccadbdbaaGreatDoorRows

/- The walks of package num (clamping, rounding division, products of unit values) and of its reference. -/
namespace Go.Proofs.YtieacbccadbdbaaGreatDoor
open Go.RowKit
set_option linter.unusedVariables false

set_option maxHeartbeats 400000 in
theorem clamp_any (x lo hi : Int) (w : World) :
    Calls Tryz.prog 91 #[.int .i64 x, .int .i64 lo, .int .i64 hi] w fun e w' => e = .returned (.int .i64 (min hi (max x lo))) ∧ w = w' := by
  go_enter Tryz.func91, Tryz.ntmps91
  go_wp2
  all_goals go_ret
  all_goals refine ⟨ret_int ?_, rfl⟩
  all_goals omega

set_option maxHeartbeats 400000 in
theorem unit_n (x : Int) (w : World) :
    Calls Tryz.prog 62 #[.int .i64 x] w fun e w' => e = .returned (.int .i64 (cl x)) ∧ w = w' := by
  go_enter Tryz.func62, Tryz.ntmps62
  go_wp2_with fail
  refine (clamp_any _ _ _ _).mono ?_
  rintro e w' ⟨rfl, rfl⟩
  go_wp2_with fail
  go_ret
  exact ⟨ret_int (cl_min x), rfl⟩

set_option maxHeartbeats 400000 in
theorem unit_p (x : Int) (w : World) :
    Calls Tryz.prog 79 #[.int .i64 x] w fun e w' => e = .returned (.int .i64 (cl x)) ∧ w = w' := by
  go_enter Tryz.func79, Tryz.ntmps79
  go_wp2_with fail
  refine (clamp_any _ _ _ _).mono ?_
  rintro e w' ⟨rfl, rfl⟩
  go_wp2_with fail
  go_ret
  exact ⟨ret_int (cl_min x), rfl⟩

set_option maxHeartbeats 400000 in
theorem floor_any (a b : Int) (w : World) (hb : 0 < b) (hb2 : b ≤ 4611686018427387904) (ha1 : -4611686018427387904 ≤ a) (ha2 : a ≤ 4611686018427387904) :
    Calls Tryz.prog 73 #[.int .i64 a, .int .i64 b] w fun e w' => e = .returned (.int .i64 (a / b)) ∧ w = w' := by
  have d2 : decide (b < 0) = false := by simp; omega
  by_cases h0 : 0 ≤ a
  · have d1 : decide (a < 0) = false := by simp; omega
    go_enter Tryz.func73, Tryz.ntmps73
    go_wp2
    all_goals go_ret
    all_goals exact ⟨rfl, rfl⟩
  · have d1 : decide (a < 0) = true := by simp; omega
    have hf := floor_neg a b hb (by omega)
    have hq := tdiv_bd a b hb (by omega)
    by_cases hr : a.tmod b = 0
    · have r2 : (a.tmod b != 0) = false := by simp [hr]
      have HQ := Lib.hid (hf.1 hr)
      clear hf hr
      go_enter Tryz.func73, Tryz.ntmps73
      go_wp2
      go_ret
      exact ⟨ret_int HQ.out, rfl⟩
    · have r2 : (a.tmod b != 0) = true := by simp [hr]
      have HQ := Lib.hid (hf.2 hr)
      clear hf hr
      go_enter Tryz.func73, Tryz.ntmps73
      go_wp2
      go_ret
      exact ⟨ret_int HQ.out, rfl⟩

set_option maxHeartbeats 400000 in
theorem div_any (a b : Int) (w : World) (hb : 0 < b) (hb2 : b ≤ 4611686018427387904) (ha1 : -4611686018427387904 ≤ a) (ha2 : a ≤ 4611686018427387904) :
    Calls Tryz.prog 61 #[.int .i64 a, .int .i64 b] w fun e w' => e = .returned (.int .i64 (dv a b)) ∧ w = w' := by
  have h1 := fl_bd a b hb
  have h2 := fl_lo a b hb
  have h3 := fl_hi a b hb
  have h4 : -4611686018427387904 ≤ a / b := by split at h2 <;> omega
  have h5 : a / b ≤ 4611686018427387904 := by split at h3 <;> omega
  have h6 := Int.emod_nonneg a (Int.ne_of_gt hb)
  have h7 := Int.emod_lt_of_pos a hb
  have HS := Lib.hid (fl_sub a b)
  have HD : Hid (dv a b = if b - a % b ≤ a % b then a / b + 1 else a / b) := rfl
  have h8 : -9223372036854775808 ≤ b * (a / b) := by omega
  have h9 : b * (a / b) ≤ 4611686018427387904 := by omega
  have g1 : 0 ≤ a - b * (a / b) := by omega
  have g2 : a - b * (a / b) < b := by omega
  clear h2 h3
  by_cases hr : b - (a - b * (a / b)) ≤ a - b * (a / b)
  · go_enter Tryz.func61, Tryz.ntmps61
    go_wp2_with fail
    refine (floor_any _ _ _ hb hb2 ha1 ha2).mono ?_
    rintro e w' ⟨rfl, rfl⟩
    go_wp2_with fail
    go_ret
    exact ⟨ret_int (by rw [HD.out, if_pos (by rw [← HS.out]; omega)]), rfl⟩
  · go_enter Tryz.func61, Tryz.ntmps61
    go_wp2_with fail
    refine (floor_any _ _ _ hb hb2 ha1 ha2).mono ?_
    rintro e w' ⟨rfl, rfl⟩
    go_wp2_with fail
    go_ret
    exact ⟨ret_int (by rw [HD.out, if_neg (by rw [← HS.out]; omega)]), rfl⟩

theorem mul_unit_bd (x y : Int) (h0 : 0 ≤ x) (h1 : x ≤ 65535) (h2 : 0 ≤ y) (h3 : y ≤ 65535) : 0 ≤ x * y ∧ x * y ≤ 4294836225 := by
  have a := Int.mul_le_mul h1 h3 h2 (by omega)
  exact ⟨Int.mul_nonneg h0 h2, by omega⟩

set_option maxHeartbeats 400000 in
theorem mul_any (a b : Int) (w : World) :
    Calls Tryz.prog 17 #[.int .i64 a, .int .i64 b] w fun e w' => e = .returned (.int .i64 (dv (cl a * cl b) 65535)) ∧ w = w' := by
  have ha := cl_bd a
  have hb := cl_bd b
  have hm := mul_unit_bd _ _ ha.1 ha.2 hb.1 hb.2
  go_enter Tryz.func17, Tryz.ntmps17
  go_wp2_with fail
  refine (unit_n _ _).mono ?_
  rintro e w' ⟨rfl, rfl⟩
  go_wp2_with fail
  refine (unit_n _ _).mono ?_
  rintro e w' ⟨rfl, rfl⟩
  go_wp2_with fail
  refine (div_any _ _ _ (by omega) (by omega) (by omega) (by omega)).mono ?_
  rintro e w' ⟨rfl, rfl⟩
  go_wp2_with fail
  go_ret
  exact ⟨rfl, rfl⟩

set_option maxHeartbeats 400000 in
theorem quo_any (a b : Int) (w : World) (hb0 : 0 < cl b) :
    Calls Tryz.prog 124 #[.int .i64 a, .int .i64 b] w fun e w' => e = .returned (.int .i64 (min 65535 (dv (cl a * 65535) (cl b)))) ∧ w = w' := by
  have ha := cl_bd a
  have hb := cl_bd b
  go_enter Tryz.func124, Tryz.ntmps124
  go_wp2_with fail
  refine (unit_n _ _).mono ?_
  rintro e w' ⟨rfl, rfl⟩
  go_wp2_with fail
  refine (unit_n _ _).mono ?_
  rintro e w' ⟨rfl, rfl⟩
  go_wp2_with fail
  refine (div_any _ _ _ (by omega) (by omega) (by omega) (by omega)).mono ?_
  rintro e w' ⟨rfl, rfl⟩
  go_wp2_with fail
  all_goals go_ret
  all_goals exact ⟨ret_int (by omega), rfl⟩
end Go.Proofs.YtieacbccadbdbaaGreatDoor


/- The walks of the reference of package num. -/
namespace Go.Proofs.YtieacbccadbdbaaGreatDoor
open Go.RowKit
set_option linter.unusedVariables false

set_option maxHeartbeats 400000 in
theorem refClamp_any (x lo hi : Int) (w : World) :
    Calls Tryz.prog 83 #[.int .i64 x, .int .i64 lo, .int .i64 hi] w fun e w' => e = .returned (.int .i64 (min hi (max x lo))) ∧ w = w' := by
  go_enter Tryz.func83, Tryz.ntmps83
  go_wp2
  all_goals go_ret
  all_goals refine ⟨ret_int ?_, rfl⟩
  all_goals omega

set_option maxHeartbeats 400000 in
theorem refFloor_any (a b : Int) (w : World) (hb : 0 < b) (hb2 : b ≤ 4611686018427387904) (ha1 : -4611686018427387904 ≤ a) (ha2 : a ≤ 4611686018427387904) :
    Calls Tryz.prog 80 #[.int .i64 a, .int .i64 b] w fun e w' => e = .returned (.int .i64 (a / b)) ∧ ∃ n, w' = w.drewN n := by
  have d2 : decide (b < 0) = false := by simp; omega
  by_cases h0 : 0 ≤ a
  · have d1 : decide (a % b < 0) = false := by
      have := Int.emod_nonneg a (Int.ne_of_gt hb)
      simp; omega
    go_enter Tryz.func80, Tryz.ntmps80
    go_wp2
    go_quiet (fail)
    go_wp2
    all_goals go_ret
    all_goals exact ⟨rfl, ⟨_, rfl⟩⟩
  · have hf := floor_neg a b hb (by omega)
    have hq := tdiv_bd a b hb (by omega)
    have h6 : a.tmod b ≤ 0 := by
      have := Int.tmod_nonneg b (show 0 ≤ -a by omega)
      rw [Int.neg_tmod] at this
      omega
    by_cases hr : a.tmod b = 0
    · have r2 : (a.tmod b != 0) = false := by simp [hr]
      have HQ := Lib.hid (hf.1 hr)
      clear hf hr
      go_enter Tryz.func80, Tryz.ntmps80
      go_wp2
      go_quiet (fail)
      go_wp2
      go_ret
      exact ⟨ret_int HQ.out, ⟨_, rfl⟩⟩
    · have r2 : (a.tmod b != 0) = true := by simp [hr]
      have d1 : decide (a.tmod b < 0) = true := by simp; omega
      have HQ := Lib.hid (hf.2 hr)
      clear hf hr
      go_enter Tryz.func80, Tryz.ntmps80
      go_wp2
      go_quiet (fail)
      go_wp2
      go_ret
      exact ⟨ret_int HQ.out, ⟨_, rfl⟩⟩

set_option maxHeartbeats 400000 in
theorem refAbs_pos (a : Int) (w : World) (h0 : 0 ≤ a) (h1 : a ≤ 9223372036854775807) :
    Calls Tryz.prog 108 #[.int .i64 a] w fun e w' => e = .returned (.int .u64 a) ∧ w = w' := by
  go_enter Tryz.func108, Tryz.ntmps108
  go_wp2
  go_ret
  exact ⟨rfl, rfl⟩

set_option maxHeartbeats 400000 in
theorem refDiv_any (a b : Int) (w : World) (hb : 0 < b) (hb2 : b ≤ 4611686018427387904) (ha1 : -4611686018427387904 ≤ a) (ha2 : a ≤ 4611686018427387904) :
    Calls Tryz.prog 67 #[.int .i64 a, .int .i64 b] w fun e w' => e = .returned (.int .i64 (dv a b)) ∧ ∃ n, w' = w.drewN n := by
  have h1 := fl_bd a b hb
  have h2 := fl_lo a b hb
  have h3 := fl_hi a b hb
  have h4 : -4611686018427387904 ≤ a / b := by split at h2 <;> omega
  have h5 : a / b ≤ 4611686018427387904 := by split at h3 <;> omega
  have h6 := Int.emod_nonneg a (Int.ne_of_gt hb)
  have h7 := Int.emod_lt_of_pos a hb
  have HS := Lib.hid (fl_sub a b)
  have HD : Hid (dv a b = if b - a % b ≤ a % b then a / b + 1 else a / b) := rfl
  have h8 : -9223372036854775808 ≤ b * (a / b) := by omega
  have h9 : b * (a / b) ≤ 4611686018427387904 := by omega
  have g1 : 0 ≤ a - b * (a / b) := by omega
  have g2 : a - b * (a / b) < b := by omega
  clear h2 h3
  by_cases hr : b - (a - b * (a / b)) ≤ a - b * (a / b)
  · go_enter Tryz.func67, Tryz.ntmps67
    go_wp2_with fail
    refine (refFloor_any _ _ _ hb hb2 ha1 ha2).mono ?_
    rintro e w' ⟨rfl, n, rfl⟩
    go_wp2_with fail
    refine (refAbs_pos _ _ (by omega) (by omega)).mono ?_
    rintro e w' ⟨rfl, rfl⟩
    go_wp2_with fail
    refine (refAbs_pos _ _ (by omega) (by omega)).mono ?_
    rintro e w' ⟨rfl, rfl⟩
    go_wp2_with fail
    go_ret
    exact ⟨ret_int (by rw [HD.out, if_pos (by rw [← HS.out]; omega)]), ⟨_, rfl⟩⟩
  · go_enter Tryz.func67, Tryz.ntmps67
    go_wp2_with fail
    refine (refFloor_any _ _ _ hb hb2 ha1 ha2).mono ?_
    rintro e w' ⟨rfl, n, rfl⟩
    go_wp2_with fail
    refine (refAbs_pos _ _ (by omega) (by omega)).mono ?_
    rintro e w' ⟨rfl, rfl⟩
    go_wp2_with fail
    refine (refAbs_pos _ _ (by omega) (by omega)).mono ?_
    rintro e w' ⟨rfl, rfl⟩
    go_wp2_with fail
    go_ret
    exact ⟨ret_int (by rw [HD.out, if_neg (by rw [← HS.out]; omega)]), ⟨_, rfl⟩⟩

/-- The same, where only that nothing old has changed is wanted. -/
theorem refDiv_new (a b : Int) (w : World) (hb : 0 < b) (hb2 : b ≤ 4611686018427387904) (ha1 : -4611686018427387904 ≤ a) (ha2 : a ≤ 4611686018427387904) :
    Calls Tryz.prog 67 #[.int .i64 a, .int .i64 b] w fun e w' => e = .returned (.int .i64 (dv a b)) ∧ Below w.heap.size w w' :=
  (refDiv_any a b w hb hb2 ha1 ha2).mono fun _ _ ⟨h, n, hn⟩ => ⟨h, by rw [hn]; exact belowN (Below.refl _ _) n⟩

set_option maxHeartbeats 400000 in
theorem refUnit_n (x : Int) (w : World) :
    Calls Tryz.prog 68 #[.int .i64 x] w fun e w' => e = .returned (.int .i64 (cl x)) ∧ w = w' := by
  go_enter Tryz.func68, Tryz.ntmps68
  go_wp2_with fail
  refine (refClamp_any _ _ _ _).mono ?_
  rintro e w' ⟨rfl, rfl⟩
  go_wp2_with fail
  go_ret
  exact ⟨ret_int (cl_min x), rfl⟩

set_option maxHeartbeats 400000 in
theorem refMul_any (a b : Int) (w : World) :
    Calls Tryz.prog 24 #[.int .i64 a, .int .i64 b] w fun e w' => e = .returned (.int .i64 (dv (cl a * cl b) 65535)) ∧ ∃ n, w' = w.drewN n := by
  have ha := cl_bd a
  have hb := cl_bd b
  have hm := mul_unit_bd _ _ ha.1 ha.2 hb.1 hb.2
  go_enter Tryz.func24, Tryz.ntmps24
  go_wp2_with fail
  refine (refUnit_n _ _).mono ?_
  rintro e w' ⟨rfl, rfl⟩
  go_wp2_with fail
  refine (refUnit_n _ _).mono ?_
  rintro e w' ⟨rfl, rfl⟩
  go_wp2_with fail
  refine (refDiv_any _ _ _ (by omega) (by omega) (by omega) (by omega)).mono ?_
  rintro e w' ⟨rfl, n, rfl⟩
  go_wp2_with fail
  go_ret
  exact ⟨rfl, n, rfl⟩


set_option maxHeartbeats 400000 in
theorem refQuo_any (a b : Int) (w : World) (hb0 : 0 < cl b) :
    Calls Tryz.prog 168 #[.int .i64 a, .int .i64 b] w fun e w' => e = .returned (.int .i64 (min 65535 (dv (cl a * 65535) (cl b)))) ∧ ∃ n, w' = w.drewN n := by
  have ha := cl_bd a
  have hb := cl_bd b
  have hz : (cl b == 0) = false := by simp; omega
  go_enter Tryz.func168, Tryz.ntmps168
  go_wp2_with fail
  refine (refUnit_n _ _).mono ?_
  rintro e w' ⟨rfl, rfl⟩
  go_wp2_with fail
  refine (refUnit_n _ _).mono ?_
  rintro e w' ⟨rfl, rfl⟩
  go_wp2_with fail
  refine (refUnit_n _ _).mono ?_
  rintro e w' ⟨rfl, rfl⟩
  go_wp2_with fail
  refine (refDiv_any _ _ _ (by omega) (by omega) (by omega) (by omega)).mono ?_
  rintro e w' ⟨rfl, n, rfl⟩
  go_wp2_with fail
  all_goals go_ret
  all_goals exact ⟨ret_int (by omega), n, rfl⟩
end Go.Proofs.YtieacbccadbdbaaGreatDoor


/- The walks of package random and of its reference: each function returns what the plain functions of the text RandPlain compute. -/
namespace Go.Proofs.YtieacbccadbdbaaGreatDoor
open Go.RowKit
set_option linter.unusedVariables false

set_option maxHeartbeats 400000 in
theorem at_any (a b c : Int) (w : World) :
    Calls Tryz.prog 161 #[.int .i64 a, .int .i64 b, .int .i64 c] w fun e w' => e = .returned (.int .u32 (atI a b c)) ∧ w = w' := by
  go_enter Tryz.func161, Tryz.ntmps161
  go_wp2
  go_ret
  exact ⟨rfl, rfl⟩

set_option maxHeartbeats 400000 in
theorem mix_any (x : Int) (w : World) (_h0 : 0 ≤ x) (_h1 : x < 18446744073709551616) :
    Calls Tryz.prog 177 #[.int .u64 x] w fun e w' => e = .returned (.int .u64 (mixI x)) ∧ w = w' := by
  go_enter Tryz.func177, Tryz.ntmps177
  go_wp2
  go_ret
  exact ⟨rfl, rfl⟩

set_option maxHeartbeats 400000 in
theorem refAt_any (a b c : Int) (w : World) :
    Calls Tryz.prog 167 #[.int .i64 a, .int .i64 b, .int .i64 c] w fun e w' => e = .returned (.int .u32 (atI a b c)) ∧ w = w' := by
  go_enter Tryz.func167, Tryz.ntmps167
  go_wp2_with (go_at_call 177; refine (mix_any _ _ (bits_bd _ _).1 (bits_bd _ _).2).mono ?_; rintro e w' ⟨rfl, rfl⟩)
  go_ret
  exact ⟨rfl, rfl⟩

set_option maxHeartbeats 400000 in
theorem unit_any (a b c : Int) (w : World) :
    Calls Tryz.prog 174 #[.int .i64 a, .int .i64 b, .int .i64 c] w fun e w' => e = .returned (.int .i64 (atI a b c / 65537)) ∧ w = w' := by
  have hb := at_bd a b c
  go_enter Tryz.func174, Tryz.ntmps174
  go_wp2_with (go_at_call 161; refine (at_any _ _ _ _).mono ?_; rintro e w' ⟨rfl, rfl⟩)
  go_ret
  exact ⟨rfl, rfl⟩

set_option maxHeartbeats 400000 in
theorem refUnit_any (a b c : Int) (w : World) :
    Calls Tryz.prog 176 #[.int .i64 a, .int .i64 b, .int .i64 c] w fun e w' => e = .returned (.int .i64 (atI a b c / 65537)) ∧ w = w' := by
  have hb := at_bd a b c
  go_enter Tryz.func176, Tryz.ntmps176
  go_wp2_with (go_at_call 167; refine (refAt_any _ _ _ _).mono ?_; rintro e w' ⟨rfl, rfl⟩)
  go_ret
  exact ⟨rfl, rfl⟩

set_option maxHeartbeats 400000 in
theorem below_any (a b c n : Int) (w : World) :
    Calls Tryz.prog 129 #[.int .i64 a, .int .i64 b, .int .i64 c, .int .i64 n] w fun e w' => e = .returned (.int .i64 (belowI a b c n)) ∧ w = w' := by
  have hb := at_bd a b c
  by_cases h : n < 1
  · go_enter Tryz.func129, Tryz.ntmps129
    go_wp2
    go_ret
    exact ⟨ret_int (by unfold belowI; rw [if_pos (by omega)]), rfl⟩
  · by_cases h2 : n ≤ 2147483648
    · have hm := at_mul_bd a b c n (by omega) h2
      go_enter Tryz.func129, Tryz.ntmps129
      go_wp2_with (go_at_call 161; refine (at_any _ _ _ _).mono ?_; rintro e w' ⟨rfl, rfl⟩)
      go_ret
      exact ⟨ret_int (by unfold belowI; rw [if_neg (by omega), if_pos (by omega)]), rfl⟩
    · go_enter Tryz.func129, Tryz.ntmps129
      go_wp2_with (go_at_call 161; refine (at_any _ _ _ _).mono ?_; rintro e w' ⟨rfl, rfl⟩)
      go_ret
      exact ⟨ret_int (by unfold belowI; rw [if_neg (by omega), if_neg (by omega)]), rfl⟩

set_option maxHeartbeats 400000 in
theorem refBelow_any (a b c n : Int) (w : World) :
    Calls Tryz.prog 147 #[.int .i64 a, .int .i64 b, .int .i64 c, .int .i64 n] w fun e w' => e = .returned (.int .i64 (belowI a b c n)) ∧ w = w' := by
  have hb := at_bd a b c
  by_cases h : n < 1
  · go_enter Tryz.func147, Tryz.ntmps147
    go_wp2
    go_ret
    exact ⟨ret_int (by unfold belowI; rw [if_pos (by omega)]), rfl⟩
  · by_cases h2 : n ≤ 2147483648
    · have hm := at_mul_bd a b c n (by omega) h2
      go_enter Tryz.func147, Tryz.ntmps147
      go_wp2_with (go_at_call 167; refine (refAt_any _ _ _ _).mono ?_; rintro e w' ⟨rfl, rfl⟩)
      go_ret
      exact ⟨ret_int (by unfold belowI; rw [if_neg (by omega), if_pos (by omega)]), rfl⟩
    · go_enter Tryz.func147, Tryz.ntmps147
      go_wp2_with (go_at_call 167; refine (refAt_any _ _ _ _).mono ?_; rintro e w' ⟨rfl, rfl⟩)
      go_ret
      exact ⟨ret_int (by unfold belowI; rw [if_neg (by omega), if_neg (by omega)]), rfl⟩


end Go.Proofs.YtieacbccadbdbaaGreatDoor

