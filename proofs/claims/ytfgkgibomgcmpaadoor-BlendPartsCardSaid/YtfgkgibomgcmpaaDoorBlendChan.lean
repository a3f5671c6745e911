/- The walks of the channels of package blend. -/
import Derived.Test.YtfgkgibomgcmpaaDoorNum
import Derived.Test.YtfgkgibomgcmpaaDoorBlendPlain
import Derived.Lib.MinMax
namespace Go.Proofs.YtfgkgibomgcmpaaDoor
open Go.RowKit
set_option linter.unusedVariables false

set_option maxHeartbeats 400000 in
theorem unit_b (x : Int) (w : World) :
    Calls Tryd.prog 32 #[.int .i64 x] w fun e w' => e = .returned (.int .i64 (cl x)) ∧ w = w' := by
  go_enter Tryd.func32, Tryd.ntmps32
  go_wp2_with fail
  refine (clamp_any _ _ _ _).mono ?_
  rintro e w' ⟨rfl, rfl⟩
  go_wp2_with fail
  go_ret
  exact ⟨ret_int (cl_min x), rfl⟩

set_option maxHeartbeats 400000 in
theorem mulU_any (a b : Int) (w : World) (ha : 0 ≤ a ∧ a ≤ 65535) (hb : 0 ≤ b ∧ b ≤ 65535) :
    Calls Tryd.prog 33 #[.int .i64 a, .int .i64 b] w fun e w' => e = .returned (.int .i64 (mulU a b)) ∧ w = w' := by
  have c := mul_any a b w
  rw [cl_id a ha.1 ha.2, cl_id b hb.1 hb.2] at c
  exact c

set_option maxHeartbeats 400000 in
theorem dodge_any (b s : Int) (w : World) (hb : 0 ≤ b ∧ b ≤ 65535) (hs : 0 ≤ s ∧ s ≤ 65535) :
    Calls Tryd.prog 34 #[.int .i64 b, .int .i64 s] w fun e w' => e = .returned (.int .i64 (ddgU b s)) ∧ w = w' := by
  by_cases h0 : b = 0
  · have E : Hid (ddgU b s = 0) := by show _ = _; unfold ddgU; rw [if_pos h0]
    subst h0
    go_enter Tryd.func34, Tryd.ntmps34
    go_wp2_with fail
    go_ret
    exact ⟨ret_int E.out.symm, rfl⟩
  · have z0 : (b == 0) = false := by simpa using h0
    by_cases h1 : s = 65535
    · have E : Hid (ddgU b s = 65535) := by show _ = _; unfold ddgU; rw [if_neg h0, if_pos h1]
      clear h0
      subst h1
      go_enter Tryd.func34, Tryd.ntmps34
      go_wp2_with fail
      go_ret
      exact ⟨ret_int E.out.symm, rfl⟩
    · have z1 : (s == 65535) = false := by simpa using h1
      have E : Hid (ddgU b s = min 65535 (dv (b * 65535) (65535 - s))) := by show _ = _; unfold ddgU; rw [if_neg h0, if_neg h1]
      have C : ∀ w : World, Calls Tryd.prog 58 #[.int .i64 b, .int .i64 (65535 - s)] w fun e w' => e = .returned (.int .i64 (min 65535 (dv (b * 65535) (65535 - s)))) ∧ w = w' := fun w => by
        have c := quo_any b (65535 - s) w (by rw [cl_id _ (by omega) (by omega)]; omega)
        rw [cl_id b hb.1 hb.2, cl_id (65535 - s) (by omega) (by omega)] at c
        exact c
      have HC := Lib.hid C
      clear C h0 h1
      go_enter Tryd.func34, Tryd.ntmps34
      go_wp2_with fail
      refine (HC.out _).mono ?_
      rintro e w' ⟨rfl, rfl⟩
      go_wp2_with fail
      go_ret
      exact ⟨ret_int E.out.symm, rfl⟩

set_option maxRecDepth 100000 in
set_option maxHeartbeats 1000000 in
theorem channel1 (b s : Int) (w : World) :
    Calls Tryd.prog 12 #[.int .i64 1, .int .i64 b, .int .i64 s] w fun e w' => e = .returned (.int .i64 (chU 1 (cl b) (cl s))) ∧ w = w' := by
  have hb := cl_bd b
  have hs := cl_bd s
  generalize hB : cl b = B at *
  generalize hS : cl s = S at *
  have HB := Lib.hid hB
  have HS := Lib.hid hS
  clear hB hS
  go_enter Tryd.func12, Tryd.ntmps12
  go_wp2_with fail
  refine (unit_b _ _).mono ?_
  rintro e w' ⟨rfl, rfl⟩
  rw [HB.out]
  go_wp2_with fail
  refine (unit_b _ _).mono ?_
  rintro e w' ⟨rfl, rfl⟩
  rw [HS.out]
  go_wp2_with fail
  refine (mulU_any _ _ _ hb hs).mono ?_
  rintro e w' ⟨rfl, rfl⟩
  go_wp2_with fail
  go_ret
  exact ⟨rfl, rfl⟩

set_option maxRecDepth 100000 in
set_option maxHeartbeats 1000000 in
theorem channel2 (b s : Int) (w : World) :
    Calls Tryd.prog 12 #[.int .i64 2, .int .i64 b, .int .i64 s] w fun e w' => e = .returned (.int .i64 (chU 2 (cl b) (cl s))) ∧ w = w' := by
  have hb := cl_bd b
  have hs := cl_bd s
  generalize hB : cl b = B at *
  generalize hS : cl s = S at *
  have HB := Lib.hid hB
  have HS := Lib.hid hS
  clear hB hS
  have hm := mulU_bd B S hb hs
  go_enter Tryd.func12, Tryd.ntmps12
  go_wp2_with fail
  refine (unit_b _ _).mono ?_
  rintro e w' ⟨rfl, rfl⟩
  rw [HB.out]
  go_wp2_with fail
  refine (unit_b _ _).mono ?_
  rintro e w' ⟨rfl, rfl⟩
  rw [HS.out]
  go_wp2_with fail
  refine (mulU_any _ _ _ hb hs).mono ?_
  rintro e w' ⟨rfl, rfl⟩
  go_wp2_with fail
  go_ret
  exact ⟨rfl, rfl⟩

set_option maxRecDepth 100000 in
set_option maxHeartbeats 1000000 in
theorem channel3 (b s : Int) (w : World) :
    Calls Tryd.prog 12 #[.int .i64 3, .int .i64 b, .int .i64 s] w fun e w' => e = .returned (.int .i64 (chU 3 (cl b) (cl s))) ∧ w = w' := by
  have hb := cl_bd b
  have hs := cl_bd s
  generalize hB : cl b = B at *
  generalize hS : cl s = S at *
  have HB := Lib.hid hB
  have HS := Lib.hid hS
  clear hB hS
  by_cases hc : 2 * B ≤ 65535
  · have E : Hid (hrdU S B = mulU S (2 * B)) := by show _ = _; unfold hrdU; rw [if_pos hc]
    go_enter Tryd.func12, Tryd.ntmps12
    go_wp2_with fail
    refine (unit_b _ _).mono ?_
    rintro e w' ⟨rfl, rfl⟩
    rw [HB.out]
    go_wp2_with fail
    refine (unit_b _ _).mono ?_
    rintro e w' ⟨rfl, rfl⟩
    rw [HS.out]
    go_wp2_with fail
    refine (mulU_any _ _ _ hs (by omega)).mono ?_
    rintro e w' ⟨rfl, rfl⟩
    go_wp2_with fail
    go_ret
    exact ⟨ret_int E.out.symm, rfl⟩
  · have E : Hid (hrdU S B = scrU S (2 * B - 65535)) := by show _ = _; unfold hrdU; rw [if_neg hc]
    have hm := mulU_bd S (2 * B - 65535) hs (by omega)
    go_enter Tryd.func12, Tryd.ntmps12
    go_wp2_with fail
    refine (unit_b _ _).mono ?_
    rintro e w' ⟨rfl, rfl⟩
    rw [HB.out]
    go_wp2_with fail
    refine (unit_b _ _).mono ?_
    rintro e w' ⟨rfl, rfl⟩
    rw [HS.out]
    go_wp2_with fail
    refine (mulU_any _ _ _ hs (by omega)).mono ?_
    rintro e w' ⟨rfl, rfl⟩
    go_wp2_with fail
    go_ret
    exact ⟨ret_int (by show _ = hrdU _ _; rw [E.out]; rfl), rfl⟩

set_option maxRecDepth 100000 in
set_option maxHeartbeats 1000000 in
theorem channel4 (b s : Int) (w : World) :
    Calls Tryd.prog 12 #[.int .i64 4, .int .i64 b, .int .i64 s] w fun e w' => e = .returned (.int .i64 (chU 4 (cl b) (cl s))) ∧ w = w' := by
  have hb := cl_bd b
  have hs := cl_bd s
  generalize hB : cl b = B at *
  generalize hS : cl s = S at *
  have HB := Lib.hid hB
  have HS := Lib.hid hS
  clear hB hS
  go_enter Tryd.func12, Tryd.ntmps12
  go_wp2_with fail
  refine (unit_b _ _).mono ?_
  rintro e w' ⟨rfl, rfl⟩
  rw [HB.out]
  go_wp2_with fail
  refine (unit_b _ _).mono ?_
  rintro e w' ⟨rfl, rfl⟩
  rw [HS.out]
  go_wp2_with fail
  go_ret
  exact ⟨rfl, rfl⟩

set_option maxRecDepth 100000 in
set_option maxHeartbeats 1000000 in
theorem channel5 (b s : Int) (w : World) :
    Calls Tryd.prog 12 #[.int .i64 5, .int .i64 b, .int .i64 s] w fun e w' => e = .returned (.int .i64 (chU 5 (cl b) (cl s))) ∧ w = w' := by
  have hb := cl_bd b
  have hs := cl_bd s
  generalize hB : cl b = B at *
  generalize hS : cl s = S at *
  have HB := Lib.hid hB
  have HS := Lib.hid hS
  clear hB hS
  go_enter Tryd.func12, Tryd.ntmps12
  go_wp2_with fail
  refine (unit_b _ _).mono ?_
  rintro e w' ⟨rfl, rfl⟩
  rw [HB.out]
  go_wp2_with fail
  refine (unit_b _ _).mono ?_
  rintro e w' ⟨rfl, rfl⟩
  rw [HS.out]
  go_wp2_with fail
  go_ret
  exact ⟨rfl, rfl⟩

set_option maxRecDepth 100000 in
set_option maxHeartbeats 1000000 in
theorem channel6 (b s : Int) (w : World) :
    Calls Tryd.prog 12 #[.int .i64 6, .int .i64 b, .int .i64 s] w fun e w' => e = .returned (.int .i64 (chU 6 (cl b) (cl s))) ∧ w = w' := by
  have hb := cl_bd b
  have hs := cl_bd s
  generalize hB : cl b = B at *
  generalize hS : cl s = S at *
  have HB := Lib.hid hB
  have HS := Lib.hid hS
  clear hB hS
  go_enter Tryd.func12, Tryd.ntmps12
  go_wp2_with fail
  refine (unit_b _ _).mono ?_
  rintro e w' ⟨rfl, rfl⟩
  rw [HB.out]
  go_wp2_with fail
  refine (unit_b _ _).mono ?_
  rintro e w' ⟨rfl, rfl⟩
  rw [HS.out]
  go_wp2_with fail
  refine (dodge_any _ _ _ hb hs).mono ?_
  rintro e w' ⟨rfl, rfl⟩
  go_wp2_with fail
  go_ret
  exact ⟨rfl, rfl⟩

set_option maxRecDepth 100000 in
set_option maxHeartbeats 1000000 in
theorem channel7 (b s : Int) (w : World) :
    Calls Tryd.prog 12 #[.int .i64 7, .int .i64 b, .int .i64 s] w fun e w' => e = .returned (.int .i64 (chU 7 (cl b) (cl s))) ∧ w = w' := by
  have hb := cl_bd b
  have hs := cl_bd s
  generalize hB : cl b = B at *
  generalize hS : cl s = S at *
  have HB := Lib.hid hB
  have HS := Lib.hid hS
  clear hB hS
  have hm := ddgU_bd (65535 - B) (65535 - S) (by omega) (by omega)
  go_enter Tryd.func12, Tryd.ntmps12
  go_wp2_with fail
  refine (unit_b _ _).mono ?_
  rintro e w' ⟨rfl, rfl⟩
  rw [HB.out]
  go_wp2_with fail
  refine (unit_b _ _).mono ?_
  rintro e w' ⟨rfl, rfl⟩
  rw [HS.out]
  go_wp2_with fail
  refine (dodge_any _ _ _ (by omega) (by omega)).mono ?_
  rintro e w' ⟨rfl, rfl⟩
  go_wp2_with fail
  go_ret
  exact ⟨rfl, rfl⟩

set_option maxRecDepth 100000 in
set_option maxHeartbeats 1000000 in
theorem channel8 (b s : Int) (w : World) :
    Calls Tryd.prog 12 #[.int .i64 8, .int .i64 b, .int .i64 s] w fun e w' => e = .returned (.int .i64 (chU 8 (cl b) (cl s))) ∧ w = w' := by
  have hb := cl_bd b
  have hs := cl_bd s
  generalize hB : cl b = B at *
  generalize hS : cl s = S at *
  have HB := Lib.hid hB
  have HS := Lib.hid hS
  clear hB hS
  by_cases hc : 2 * S ≤ 65535
  · have E : Hid (hrdU B S = mulU B (2 * S)) := by show _ = _; unfold hrdU; rw [if_pos hc]
    go_enter Tryd.func12, Tryd.ntmps12
    go_wp2_with fail
    refine (unit_b _ _).mono ?_
    rintro e w' ⟨rfl, rfl⟩
    rw [HB.out]
    go_wp2_with fail
    refine (unit_b _ _).mono ?_
    rintro e w' ⟨rfl, rfl⟩
    rw [HS.out]
    go_wp2_with fail
    refine (mulU_any _ _ _ hb (by omega)).mono ?_
    rintro e w' ⟨rfl, rfl⟩
    go_wp2_with fail
    go_ret
    exact ⟨ret_int E.out.symm, rfl⟩
  · have E : Hid (hrdU B S = scrU B (2 * S - 65535)) := by show _ = _; unfold hrdU; rw [if_neg hc]
    have hm := mulU_bd B (2 * S - 65535) hb (by omega)
    go_enter Tryd.func12, Tryd.ntmps12
    go_wp2_with fail
    refine (unit_b _ _).mono ?_
    rintro e w' ⟨rfl, rfl⟩
    rw [HB.out]
    go_wp2_with fail
    refine (unit_b _ _).mono ?_
    rintro e w' ⟨rfl, rfl⟩
    rw [HS.out]
    go_wp2_with fail
    refine (mulU_any _ _ _ hb (by omega)).mono ?_
    rintro e w' ⟨rfl, rfl⟩
    go_wp2_with fail
    go_ret
    exact ⟨ret_int (by show _ = hrdU _ _; rw [E.out]; rfl), rfl⟩

set_option maxRecDepth 100000 in
set_option maxHeartbeats 1000000 in
theorem channel9 (b s : Int) (w : World) :
    Calls Tryd.prog 12 #[.int .i64 9, .int .i64 b, .int .i64 s] w fun e w' => e = .returned (.int .i64 (chU 9 (cl b) (cl s))) ∧ w = w' := by
  have hb := cl_bd b
  have hs := cl_bd s
  generalize hB : cl b = B at *
  generalize hS : cl s = S at *
  have HB := Lib.hid hB
  have HS := Lib.hid hS
  clear hB hS
  obtain ⟨m1, m2, m3, m4⟩ := soft_bd B S hb hs
  go_enter Tryd.func12, Tryd.ntmps12
  go_wp2_with fail
  refine (unit_b _ _).mono ?_
  rintro e w' ⟨rfl, rfl⟩
  rw [HB.out]
  go_wp2_with fail
  refine (unit_b _ _).mono ?_
  rintro e w' ⟨rfl, rfl⟩
  rw [HS.out]
  go_wp2_with fail
  refine (div_any _ _ _ (by omega) (by omega) (by omega) (by omega)).mono ?_
  rintro e w' ⟨rfl, rfl⟩
  go_wp2_with fail
  refine (unit_b _ _).mono ?_
  rintro e w' ⟨rfl, rfl⟩
  go_wp2_with fail
  go_ret
  exact ⟨rfl, rfl⟩

set_option maxRecDepth 100000 in
set_option maxHeartbeats 1000000 in
theorem channel10 (b s : Int) (w : World) :
    Calls Tryd.prog 12 #[.int .i64 10, .int .i64 b, .int .i64 s] w fun e w' => e = .returned (.int .i64 (chU 10 (cl b) (cl s))) ∧ w = w' := by
  have hb := cl_bd b
  have hs := cl_bd s
  generalize hB : cl b = B at *
  generalize hS : cl s = S at *
  have HB := Lib.hid hB
  have HS := Lib.hid hS
  clear hB hS
  go_enter Tryd.func12, Tryd.ntmps12
  go_wp2_with fail
  refine (unit_b _ _).mono ?_
  rintro e w' ⟨rfl, rfl⟩
  rw [HB.out]
  go_wp2_with fail
  refine (unit_b _ _).mono ?_
  rintro e w' ⟨rfl, rfl⟩
  rw [HS.out]
  go_wp2_with fail
  go_ret
  exact ⟨rfl, rfl⟩

set_option maxRecDepth 100000 in
set_option maxHeartbeats 1000000 in
theorem channel11 (b s : Int) (w : World) :
    Calls Tryd.prog 12 #[.int .i64 11, .int .i64 b, .int .i64 s] w fun e w' => e = .returned (.int .i64 (chU 11 (cl b) (cl s))) ∧ w = w' := by
  have hb := cl_bd b
  have hs := cl_bd s
  generalize hB : cl b = B at *
  generalize hS : cl s = S at *
  have HB := Lib.hid hB
  have HS := Lib.hid hS
  clear hB hS
  obtain ⟨m1, m2, m3, m4⟩ := exc_bd B S hb hs
  go_enter Tryd.func12, Tryd.ntmps12
  go_wp2_with fail
  refine (unit_b _ _).mono ?_
  rintro e w' ⟨rfl, rfl⟩
  rw [HB.out]
  go_wp2_with fail
  refine (unit_b _ _).mono ?_
  rintro e w' ⟨rfl, rfl⟩
  rw [HS.out]
  go_wp2_with fail
  refine (div_any _ _ _ (by omega) (by omega) (by omega) (by omega)).mono ?_
  rintro e w' ⟨rfl, rfl⟩
  go_wp2_with fail
  refine (unit_b _ _).mono ?_
  rintro e w' ⟨rfl, rfl⟩
  go_wp2_with fail
  go_ret
  exact ⟨rfl, rfl⟩

set_option maxRecDepth 100000 in
set_option maxHeartbeats 1000000 in
theorem channel12 (b s : Int) (w : World) :
    Calls Tryd.prog 12 #[.int .i64 12, .int .i64 b, .int .i64 s] w fun e w' => e = .returned (.int .i64 (chU 12 (cl b) (cl s))) ∧ w = w' := by
  have hb := cl_bd b
  have hs := cl_bd s
  generalize hB : cl b = B at *
  generalize hS : cl s = S at *
  have HB := Lib.hid hB
  have HS := Lib.hid hS
  clear hB hS
  go_enter Tryd.func12, Tryd.ntmps12
  go_wp2_with fail
  refine (unit_b _ _).mono ?_
  rintro e w' ⟨rfl, rfl⟩
  rw [HB.out]
  go_wp2_with fail
  refine (unit_b _ _).mono ?_
  rintro e w' ⟨rfl, rfl⟩
  rw [HS.out]
  go_wp2_with fail
  refine (unit_b _ _).mono ?_
  rintro e w' ⟨rfl, rfl⟩
  go_wp2_with fail
  go_ret
  exact ⟨rfl, rfl⟩

set_option maxRecDepth 100000 in
set_option maxHeartbeats 1000000 in
theorem channel13 (b s : Int) (w : World) :
    Calls Tryd.prog 12 #[.int .i64 13, .int .i64 b, .int .i64 s] w fun e w' => e = .returned (.int .i64 (chU 13 (cl b) (cl s))) ∧ w = w' := by
  have hb := cl_bd b
  have hs := cl_bd s
  generalize hB : cl b = B at *
  generalize hS : cl s = S at *
  have HB := Lib.hid hB
  have HS := Lib.hid hS
  clear hB hS
  go_enter Tryd.func12, Tryd.ntmps12
  go_wp2_with fail
  refine (unit_b _ _).mono ?_
  rintro e w' ⟨rfl, rfl⟩
  rw [HB.out]
  go_wp2_with fail
  refine (unit_b _ _).mono ?_
  rintro e w' ⟨rfl, rfl⟩
  rw [HS.out]
  go_wp2_with fail
  refine (unit_b _ _).mono ?_
  rintro e w' ⟨rfl, rfl⟩
  go_wp2_with fail
  go_ret
  exact ⟨ret_int (by show cl (B + -S) = cl (B - S); rw [Int.sub_eq_add_neg]), rfl⟩

theorem chU_other (m b s : Int) (h : m < 1 ∨ 13 < m) : chU m b s = s := by
  unfold chU
  repeat' rw [if_neg (by omega)]

set_option maxRecDepth 100000 in
set_option maxHeartbeats 1000000 in
theorem channelN (m b s : Int) (w : World) (h : m < 1 ∨ 13 < m) :
    Calls Tryd.prog 12 #[.int .i64 m, .int .i64 b, .int .i64 s] w fun e w' => e = .returned (.int .i64 (chU m (cl b) (cl s))) ∧ w = w' := by
  have E := Lib.hid (chU_other m (cl b) (cl s) h)
  have g1 : (m == 1) = false := by simpa using (show m ≠ 1 by omega)
  have g2 : (m == 2) = false := by simpa using (show m ≠ 2 by omega)
  have g3 : (m == 3) = false := by simpa using (show m ≠ 3 by omega)
  have g4 : (m == 4) = false := by simpa using (show m ≠ 4 by omega)
  have g5 : (m == 5) = false := by simpa using (show m ≠ 5 by omega)
  have g6 : (m == 6) = false := by simpa using (show m ≠ 6 by omega)
  have g7 : (m == 7) = false := by simpa using (show m ≠ 7 by omega)
  have g8 : (m == 8) = false := by simpa using (show m ≠ 8 by omega)
  have g9 : (m == 9) = false := by simpa using (show m ≠ 9 by omega)
  have g10 : (m == 10) = false := by simpa using (show m ≠ 10 by omega)
  have g11 : (m == 11) = false := by simpa using (show m ≠ 11 by omega)
  have g12 : (m == 12) = false := by simpa using (show m ≠ 12 by omega)
  have g13 : (m == 13) = false := by simpa using (show m ≠ 13 by omega)
  clear h
  go_enter Tryd.func12, Tryd.ntmps12
  go_wp2_with fail
  refine (unit_b _ _).mono ?_
  rintro e w' ⟨rfl, rfl⟩
  go_wp2_with fail
  refine (unit_b _ _).mono ?_
  rintro e w' ⟨rfl, rfl⟩
  go_wp2_with fail
  go_ret
  exact ⟨ret_int E.out.symm, rfl⟩

theorem channel_any (m b s : Int) (w : World) :
    Calls Tryd.prog 12 #[.int .i64 m, .int .i64 b, .int .i64 s] w fun e w' => e = .returned (.int .i64 (chU m (cl b) (cl s))) ∧ w = w' := by
  by_cases h : m < 1 ∨ 13 < m
  · exact channelN m b s w h
  · obtain rfl | rfl | rfl | rfl | rfl | rfl | rfl | rfl | rfl | rfl | rfl | rfl | rfl : m = 1 ∨ m = 2 ∨ m = 3 ∨ m = 4 ∨ m = 5 ∨ m = 6 ∨ m = 7 ∨ m = 8 ∨ m = 9 ∨ m = 10 ∨ m = 11 ∨ m = 12 ∨ m = 13 := by omega
    · exact channel1 b s w
    · exact channel2 b s w
    · exact channel3 b s w
    · exact channel4 b s w
    · exact channel5 b s w
    · exact channel6 b s w
    · exact channel7 b s w
    · exact channel8 b s w
    · exact channel9 b s w
    · exact channel10 b s w
    · exact channel11 b s w
    · exact channel12 b s w
    · exact channel13 b s w
end Go.Proofs.YtfgkgibomgcmpaaDoor
