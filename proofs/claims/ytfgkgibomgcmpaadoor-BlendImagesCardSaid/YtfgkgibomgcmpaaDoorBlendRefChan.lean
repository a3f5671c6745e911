/- The walks of the channels of the reference of package blend. -/
import Derived.Test.YtfgkgibomgcmpaaDoorNumRef
import Derived.Test.YtfgkgibomgcmpaaDoorBlendPlain
import Derived.Lib.MinMax
namespace Go.Proofs.YtfgkgibomgcmpaaDoor
open Go.RowKit
set_option linter.unusedVariables false

theorem drewNew {P : Program} {f : FuncId} {args : Array Value} {w : World} {v : Value} (h : Calls P f args w fun e w' => e = .returned v ∧ ∃ n, w' = w.drewN n) : Calls P f args w fun e w' => e = .returned v ∧ Below w.heap.size w w' :=
  h.mono fun _ _ ⟨h1, n, hn⟩ => ⟨h1, by rw [hn]; exact belowN (Below.refl _ _) n⟩

theorem refMulU (a b : Int) (w : World) (ha : 0 ≤ a ∧ a ≤ 65535) (hb : 0 ≤ b ∧ b ≤ 65535) :
    Calls Tryd.prog 36 #[.int .i64 a, .int .i64 b] w fun e w' => e = .returned (.int .i64 (mulU a b)) ∧ Below w.heap.size w w' := by
  have c := drewNew (refMul_any a b w)
  rw [cl_id a ha.1 ha.2, cl_id b hb.1 hb.2] at c
  exact c
theorem refQuoU (a b : Int) (w : World) (ha : 0 ≤ a ∧ a ≤ 65535) (hb : 0 < b ∧ b ≤ 65535) :
    Calls Tryd.prog 60 #[.int .i64 a, .int .i64 b] w fun e w' => e = .returned (.int .i64 (min 65535 (dv (a * 65535) b))) ∧ Below w.heap.size w w' := by
  have c := drewNew (refQuo_any a b w (by rw [cl_id b (by omega) hb.2]; exact hb.1))
  rw [cl_id a ha.1 ha.2, cl_id b (by omega) hb.2] at c
  exact c

set_option maxHeartbeats 400000 in
theorem refScreen (b s : Int) (w : World) (hb : 0 ≤ b ∧ b ≤ 65535) (hs : 0 ≤ s ∧ s ≤ 65535) :
    Calls Tryd.prog 37 #[.int .i64 b, .int .i64 s] w fun e w' => e = .returned (.int .i64 (scrU b s)) ∧ Below w.heap.size w w' := by
  have hm := mulU_bd b s hb hs
  go_enter Tryd.func37, Tryd.ntmps37
  go_wp2_with fail
  refine (refMulU _ _ _ hb hs).mono ?_
  rintro e w1 ⟨rfl, hB⟩
  go_wp2_with fail
  go_ret
  exact ⟨rfl, hB⟩

set_option maxHeartbeats 400000 in
theorem refHard (b s : Int) (w : World) (hb : 0 ≤ b ∧ b ≤ 65535) (hs : 0 ≤ s ∧ s ≤ 65535) :
    Calls Tryd.prog 38 #[.int .i64 b, .int .i64 s] w fun e w' => e = .returned (.int .i64 (hrdU b s)) ∧ Below w.heap.size w w' := by
  by_cases hc : 2 * s ≤ 65535
  · have E : Hid (hrdU b s = mulU b (2 * s)) := by show _ = _; unfold hrdU; rw [if_pos hc]
    go_enter Tryd.func38, Tryd.ntmps38
    go_wp2_with fail
    refine (refMulU _ _ _ hb (by omega)).mono ?_
    rintro e w1 ⟨rfl, hB⟩
    go_wp2_with fail
    go_ret
    exact ⟨ret_int E.out.symm, hB⟩
  · have E : Hid (hrdU b s = scrU b (2 * s - 65535)) := by show _ = _; unfold hrdU; rw [if_neg hc]
    go_enter Tryd.func38, Tryd.ntmps38
    go_wp2_with fail
    refine (refScreen _ _ _ hb (by omega)).mono ?_
    rintro e w1 ⟨rfl, hB⟩
    go_wp2_with fail
    go_ret
    exact ⟨ret_int E.out.symm, hB⟩

set_option maxHeartbeats 400000 in
theorem refDodge (b s : Int) (w : World) (hb : 0 ≤ b ∧ b ≤ 65535) (hs : 0 ≤ s ∧ s ≤ 65535) :
    Calls Tryd.prog 39 #[.int .i64 b, .int .i64 s] w fun e w' => e = .returned (.int .i64 (ddgU b s)) ∧ Below w.heap.size w w' := by
  by_cases h0 : b = 0
  · have E : Hid (ddgU b s = 0) := by show _ = _; unfold ddgU; rw [if_pos h0]
    subst h0
    go_enter Tryd.func39, Tryd.ntmps39
    go_wp2_with fail
    go_ret
    exact ⟨ret_int E.out.symm, Below.refl _ _⟩
  · have z0 : (b == 0) = false := by simpa using h0
    by_cases h1 : s = 65535
    · have E : Hid (ddgU b s = 65535) := by show _ = _; unfold ddgU; rw [if_neg h0, if_pos h1]
      clear h0
      subst h1
      go_enter Tryd.func39, Tryd.ntmps39
      go_wp2_with fail
      go_ret
      exact ⟨ret_int E.out.symm, Below.refl _ _⟩
    · have z1 : (s == 65535) = false := by simpa using h1
      have E : Hid (ddgU b s = min 65535 (dv (b * 65535) (65535 - s))) := by show _ = _; unfold ddgU; rw [if_neg h0, if_neg h1]
      have f1 : 0 < 65535 - s ∧ 65535 - s ≤ 65535 := by omega
      clear h0 h1
      go_enter Tryd.func39, Tryd.ntmps39
      go_wp2_with fail
      refine (refQuoU _ _ _ hb f1).mono ?_
      rintro e w1 ⟨rfl, hB⟩
      go_wp2_with fail
      go_ret
      exact ⟨ret_int E.out.symm, hB⟩

theorem burn_eq (b s : Int) (hb : 0 ≤ b ∧ b ≤ 65535) (hs : 0 ≤ s ∧ s ≤ 65535) :
    (b = 65535 → 65535 - ddgU (65535 - b) (65535 - s) = 65535) ∧ (b ≠ 65535 → s = 0 → 65535 - ddgU (65535 - b) (65535 - s) = 0) ∧ (b ≠ 65535 → s ≠ 0 → 65535 - ddgU (65535 - b) (65535 - s) = 65535 - min 65535 (dv ((65535 - b) * 65535) s)) := by
  refine ⟨fun h => ?_, fun h1 h2 => ?_, fun h1 h2 => ?_⟩
  · subst h; rfl
  · subst h2; unfold ddgU; rw [if_neg (by omega), if_pos (by omega)]; rfl
  · unfold ddgU; rw [if_neg (by omega), if_neg (by omega), show 65535 - (65535 - s) = s from by omega]

set_option maxHeartbeats 400000 in
theorem refBurn (b s : Int) (w : World) (hb : 0 ≤ b ∧ b ≤ 65535) (hs : 0 ≤ s ∧ s ≤ 65535) :
    Calls Tryd.prog 40 #[.int .i64 b, .int .i64 s] w fun e w' => e = .returned (.int .i64 (65535 - ddgU (65535 - b) (65535 - s))) ∧ Below w.heap.size w w' := by
  have H := Lib.hid (burn_eq b s hb hs)
  by_cases h0 : b = 65535
  · have E : Hid (65535 - ddgU (65535 - b) (65535 - s) = 65535) := H.out.1 h0
    generalize ddgU (65535 - b) (65535 - s) = d at *
    subst h0
    go_enter Tryd.func40, Tryd.ntmps40
    go_wp2_with fail
    go_ret
    exact ⟨ret_int E.out.symm, Below.refl _ _⟩
  · have z0 : (b == 65535) = false := by simpa using h0
    by_cases h1 : s = 0
    · have E : Hid (65535 - ddgU (65535 - b) (65535 - s) = 0) := H.out.2.1 h0 h1
      generalize ddgU (65535 - b) (65535 - s) = d at *
      clear h0
      subst h1
      go_enter Tryd.func40, Tryd.ntmps40
      go_wp2_with fail
      go_ret
      exact ⟨ret_int E.out.symm, Below.refl _ _⟩
    · have z1 : (s == 0) = false := by simpa using h1
      have E : Hid (65535 - ddgU (65535 - b) (65535 - s) = 65535 - min 65535 (dv ((65535 - b) * 65535) s)) := H.out.2.2 h0 h1
      have f1 : 0 < s ∧ s ≤ 65535 := by omega
      have f2 : 0 ≤ 65535 - b ∧ 65535 - b ≤ 65535 := by omega
      have hq := dv_nonneg ((65535 - b) * 65535) s f1.1 (by omega)
      generalize ddgU (65535 - b) (65535 - s) = d at *
      clear h0 h1 H
      go_enter Tryd.func40, Tryd.ntmps40
      go_wp2_with fail
      refine (refQuoU _ _ _ f2 f1).mono ?_
      rintro e w1 ⟨rfl, hB⟩
      generalize dv ((65535 - b) * 65535) s = q at *
      go_wp2_with fail
      go_ret
      exact ⟨ret_int E.out.symm, hB⟩

set_option maxRecDepth 100000 in
set_option maxHeartbeats 1000000 in
theorem refChannel1 (b s : Int) (w : World) :
    Calls Tryd.prog 13 #[.int .i64 1, .int .i64 b, .int .i64 s] w fun e w' => e = .returned (.int .i64 (chU 1 (cl b) (cl s))) ∧ Below w.heap.size w w' := by
  have hb := cl_bd b
  have hs := cl_bd s
  generalize hB : cl b = B at *
  generalize hS : cl s = S at *
  have HB := Lib.hid hB
  have HS := Lib.hid hS
  clear hB hS
  go_enter Tryd.func13, Tryd.ntmps13
  go_wp2_with fail
  refine (refUnit_n _ _).mono ?_
  rintro e w' ⟨rfl, rfl⟩
  rw [HB.out]
  go_wp2_with fail
  refine (refUnit_n _ _).mono ?_
  rintro e w' ⟨rfl, rfl⟩
  rw [HS.out]
  go_wp2_with fail
  refine (refMulU _ _ _ hb hs).mono ?_
  rintro e w1 ⟨rfl, hB⟩
  go_wp2_with fail
  go_ret
  exact ⟨rfl, hB⟩

set_option maxRecDepth 100000 in
set_option maxHeartbeats 1000000 in
theorem refChannel2 (b s : Int) (w : World) :
    Calls Tryd.prog 13 #[.int .i64 2, .int .i64 b, .int .i64 s] w fun e w' => e = .returned (.int .i64 (chU 2 (cl b) (cl s))) ∧ Below w.heap.size w w' := by
  have hb := cl_bd b
  have hs := cl_bd s
  generalize hB : cl b = B at *
  generalize hS : cl s = S at *
  have HB := Lib.hid hB
  have HS := Lib.hid hS
  clear hB hS
  go_enter Tryd.func13, Tryd.ntmps13
  go_wp2_with fail
  refine (refUnit_n _ _).mono ?_
  rintro e w' ⟨rfl, rfl⟩
  rw [HB.out]
  go_wp2_with fail
  refine (refUnit_n _ _).mono ?_
  rintro e w' ⟨rfl, rfl⟩
  rw [HS.out]
  go_wp2_with fail
  refine (refScreen _ _ _ hb hs).mono ?_
  rintro e w1 ⟨rfl, hB⟩
  go_wp2_with fail
  go_ret
  exact ⟨rfl, hB⟩

set_option maxRecDepth 100000 in
set_option maxHeartbeats 1000000 in
theorem refChannel3 (b s : Int) (w : World) :
    Calls Tryd.prog 13 #[.int .i64 3, .int .i64 b, .int .i64 s] w fun e w' => e = .returned (.int .i64 (chU 3 (cl b) (cl s))) ∧ Below w.heap.size w w' := by
  have hb := cl_bd b
  have hs := cl_bd s
  generalize hB : cl b = B at *
  generalize hS : cl s = S at *
  have HB := Lib.hid hB
  have HS := Lib.hid hS
  clear hB hS
  go_enter Tryd.func13, Tryd.ntmps13
  go_wp2_with fail
  refine (refUnit_n _ _).mono ?_
  rintro e w' ⟨rfl, rfl⟩
  rw [HB.out]
  go_wp2_with fail
  refine (refUnit_n _ _).mono ?_
  rintro e w' ⟨rfl, rfl⟩
  rw [HS.out]
  go_wp2_with fail
  refine (refHard _ _ _ hs hb).mono ?_
  rintro e w1 ⟨rfl, hB⟩
  go_wp2_with fail
  go_ret
  exact ⟨rfl, hB⟩

set_option maxRecDepth 100000 in
set_option maxHeartbeats 1000000 in
theorem refChannel4 (b s : Int) (w : World) :
    Calls Tryd.prog 13 #[.int .i64 4, .int .i64 b, .int .i64 s] w fun e w' => e = .returned (.int .i64 (chU 4 (cl b) (cl s))) ∧ Below w.heap.size w w' := by
  have hb := cl_bd b
  have hs := cl_bd s
  generalize hB : cl b = B at *
  generalize hS : cl s = S at *
  have HB := Lib.hid hB
  have HS := Lib.hid hS
  clear hB hS
  go_enter Tryd.func13, Tryd.ntmps13
  go_wp2_with fail
  refine (refUnit_n _ _).mono ?_
  rintro e w' ⟨rfl, rfl⟩
  rw [HB.out]
  go_wp2_with fail
  refine (refUnit_n _ _).mono ?_
  rintro e w' ⟨rfl, rfl⟩
  rw [HS.out]
  go_wp2_with fail
  go_ret
  exact ⟨rfl, Below.refl _ _⟩

set_option maxRecDepth 100000 in
set_option maxHeartbeats 1000000 in
theorem refChannel5 (b s : Int) (w : World) :
    Calls Tryd.prog 13 #[.int .i64 5, .int .i64 b, .int .i64 s] w fun e w' => e = .returned (.int .i64 (chU 5 (cl b) (cl s))) ∧ Below w.heap.size w w' := by
  have hb := cl_bd b
  have hs := cl_bd s
  generalize hB : cl b = B at *
  generalize hS : cl s = S at *
  have HB := Lib.hid hB
  have HS := Lib.hid hS
  clear hB hS
  go_enter Tryd.func13, Tryd.ntmps13
  go_wp2_with fail
  refine (refUnit_n _ _).mono ?_
  rintro e w' ⟨rfl, rfl⟩
  rw [HB.out]
  go_wp2_with fail
  refine (refUnit_n _ _).mono ?_
  rintro e w' ⟨rfl, rfl⟩
  rw [HS.out]
  go_wp2_with fail
  go_ret
  exact ⟨rfl, Below.refl _ _⟩

set_option maxRecDepth 100000 in
set_option maxHeartbeats 1000000 in
theorem refChannel6 (b s : Int) (w : World) :
    Calls Tryd.prog 13 #[.int .i64 6, .int .i64 b, .int .i64 s] w fun e w' => e = .returned (.int .i64 (chU 6 (cl b) (cl s))) ∧ Below w.heap.size w w' := by
  have hb := cl_bd b
  have hs := cl_bd s
  generalize hB : cl b = B at *
  generalize hS : cl s = S at *
  have HB := Lib.hid hB
  have HS := Lib.hid hS
  clear hB hS
  go_enter Tryd.func13, Tryd.ntmps13
  go_wp2_with fail
  refine (refUnit_n _ _).mono ?_
  rintro e w' ⟨rfl, rfl⟩
  rw [HB.out]
  go_wp2_with fail
  refine (refUnit_n _ _).mono ?_
  rintro e w' ⟨rfl, rfl⟩
  rw [HS.out]
  go_wp2_with fail
  refine (refDodge _ _ _ hb hs).mono ?_
  rintro e w1 ⟨rfl, hB⟩
  go_wp2_with fail
  go_ret
  exact ⟨rfl, hB⟩

set_option maxRecDepth 100000 in
set_option maxHeartbeats 1000000 in
theorem refChannel7 (b s : Int) (w : World) :
    Calls Tryd.prog 13 #[.int .i64 7, .int .i64 b, .int .i64 s] w fun e w' => e = .returned (.int .i64 (chU 7 (cl b) (cl s))) ∧ Below w.heap.size w w' := by
  have hb := cl_bd b
  have hs := cl_bd s
  generalize hB : cl b = B at *
  generalize hS : cl s = S at *
  have HB := Lib.hid hB
  have HS := Lib.hid hS
  clear hB hS
  go_enter Tryd.func13, Tryd.ntmps13
  go_wp2_with fail
  refine (refUnit_n _ _).mono ?_
  rintro e w' ⟨rfl, rfl⟩
  rw [HB.out]
  go_wp2_with fail
  refine (refUnit_n _ _).mono ?_
  rintro e w' ⟨rfl, rfl⟩
  rw [HS.out]
  go_wp2_with fail
  refine (refBurn _ _ _ hb hs).mono ?_
  rintro e w1 ⟨rfl, hB⟩
  go_wp2_with fail
  go_ret
  exact ⟨rfl, hB⟩

set_option maxRecDepth 100000 in
set_option maxHeartbeats 1000000 in
theorem refChannel8 (b s : Int) (w : World) :
    Calls Tryd.prog 13 #[.int .i64 8, .int .i64 b, .int .i64 s] w fun e w' => e = .returned (.int .i64 (chU 8 (cl b) (cl s))) ∧ Below w.heap.size w w' := by
  have hb := cl_bd b
  have hs := cl_bd s
  generalize hB : cl b = B at *
  generalize hS : cl s = S at *
  have HB := Lib.hid hB
  have HS := Lib.hid hS
  clear hB hS
  go_enter Tryd.func13, Tryd.ntmps13
  go_wp2_with fail
  refine (refUnit_n _ _).mono ?_
  rintro e w' ⟨rfl, rfl⟩
  rw [HB.out]
  go_wp2_with fail
  refine (refUnit_n _ _).mono ?_
  rintro e w' ⟨rfl, rfl⟩
  rw [HS.out]
  go_wp2_with fail
  refine (refHard _ _ _ hb hs).mono ?_
  rintro e w1 ⟨rfl, hB⟩
  go_wp2_with fail
  go_ret
  exact ⟨rfl, hB⟩

set_option maxRecDepth 100000 in
set_option maxHeartbeats 1000000 in
theorem refChannel9 (b s : Int) (w : World) :
    Calls Tryd.prog 13 #[.int .i64 9, .int .i64 b, .int .i64 s] w fun e w' => e = .returned (.int .i64 (chU 9 (cl b) (cl s))) ∧ Below w.heap.size w w' := by
  have hb := cl_bd b
  have hs := cl_bd s
  generalize hB : cl b = B at *
  generalize hS : cl s = S at *
  have HB := Lib.hid hB
  have HS := Lib.hid hS
  clear hB hS
  obtain ⟨m1, m2, m3, m4⟩ := soft_bd B S hb hs
  go_enter Tryd.func13, Tryd.ntmps13
  go_wp2_with fail
  refine (refUnit_n _ _).mono ?_
  rintro e w' ⟨rfl, rfl⟩
  rw [HB.out]
  go_wp2_with fail
  refine (refUnit_n _ _).mono ?_
  rintro e w' ⟨rfl, rfl⟩
  rw [HS.out]
  go_wp2_with fail
  refine (refDiv_new _ _ _ (by omega) (by omega) (by omega) (by omega)).mono ?_
  rintro e w1 ⟨rfl, hB⟩
  go_wp2_with fail
  refine (refUnit_n _ _).mono ?_
  rintro e w' ⟨rfl, rfl⟩
  go_wp2_with fail
  go_ret
  exact ⟨rfl, hB⟩

set_option maxRecDepth 100000 in
set_option maxHeartbeats 1000000 in
theorem refChannel10 (b s : Int) (w : World) :
    Calls Tryd.prog 13 #[.int .i64 10, .int .i64 b, .int .i64 s] w fun e w' => e = .returned (.int .i64 (chU 10 (cl b) (cl s))) ∧ Below w.heap.size w w' := by
  have hb := cl_bd b
  have hs := cl_bd s
  generalize hB : cl b = B at *
  generalize hS : cl s = S at *
  have HB := Lib.hid hB
  have HS := Lib.hid hS
  clear hB hS
  go_enter Tryd.func13, Tryd.ntmps13
  go_wp2_with fail
  refine (refUnit_n _ _).mono ?_
  rintro e w' ⟨rfl, rfl⟩
  rw [HB.out]
  go_wp2_with fail
  refine (refUnit_n _ _).mono ?_
  rintro e w' ⟨rfl, rfl⟩
  rw [HS.out]
  go_wp2_with fail
  go_ret
  exact ⟨ret_int (by show max B S - min B S = max (B - S) (S - B); omega), Below.refl _ _⟩

set_option maxRecDepth 100000 in
set_option maxHeartbeats 1000000 in
theorem refChannel11 (b s : Int) (w : World) :
    Calls Tryd.prog 13 #[.int .i64 11, .int .i64 b, .int .i64 s] w fun e w' => e = .returned (.int .i64 (chU 11 (cl b) (cl s))) ∧ Below w.heap.size w w' := by
  have hb := cl_bd b
  have hs := cl_bd s
  generalize hB : cl b = B at *
  generalize hS : cl s = S at *
  have HB := Lib.hid hB
  have HS := Lib.hid hS
  clear hB hS
  obtain ⟨m1, m2, m3, m4⟩ := exc_bd B S hb hs
  go_enter Tryd.func13, Tryd.ntmps13
  go_wp2_with fail
  refine (refUnit_n _ _).mono ?_
  rintro e w' ⟨rfl, rfl⟩
  rw [HB.out]
  go_wp2_with fail
  refine (refUnit_n _ _).mono ?_
  rintro e w' ⟨rfl, rfl⟩
  rw [HS.out]
  go_wp2_with fail
  refine (refDiv_new _ _ _ (by omega) (by omega) (by omega) (by omega)).mono ?_
  rintro e w1 ⟨rfl, hB⟩
  go_wp2_with fail
  refine (refUnit_n _ _).mono ?_
  rintro e w' ⟨rfl, rfl⟩
  go_wp2_with fail
  go_ret
  exact ⟨rfl, hB⟩

set_option maxRecDepth 100000 in
set_option maxHeartbeats 1000000 in
theorem refChannel12 (b s : Int) (w : World) :
    Calls Tryd.prog 13 #[.int .i64 12, .int .i64 b, .int .i64 s] w fun e w' => e = .returned (.int .i64 (chU 12 (cl b) (cl s))) ∧ Below w.heap.size w w' := by
  have hb := cl_bd b
  have hs := cl_bd s
  generalize hB : cl b = B at *
  generalize hS : cl s = S at *
  have HB := Lib.hid hB
  have HS := Lib.hid hS
  clear hB hS
  go_enter Tryd.func13, Tryd.ntmps13
  go_wp2_with fail
  refine (refUnit_n _ _).mono ?_
  rintro e w' ⟨rfl, rfl⟩
  rw [HB.out]
  go_wp2_with fail
  refine (refUnit_n _ _).mono ?_
  rintro e w' ⟨rfl, rfl⟩
  rw [HS.out]
  go_wp2_with fail
  refine (refUnit_n _ _).mono ?_
  rintro e w' ⟨rfl, rfl⟩
  go_wp2_with fail
  go_ret
  exact ⟨rfl, Below.refl _ _⟩

set_option maxRecDepth 100000 in
set_option maxHeartbeats 1000000 in
theorem refChannel13 (b s : Int) (w : World) :
    Calls Tryd.prog 13 #[.int .i64 13, .int .i64 b, .int .i64 s] w fun e w' => e = .returned (.int .i64 (chU 13 (cl b) (cl s))) ∧ Below w.heap.size w w' := by
  have hb := cl_bd b
  have hs := cl_bd s
  generalize hB : cl b = B at *
  generalize hS : cl s = S at *
  have HB := Lib.hid hB
  have HS := Lib.hid hS
  clear hB hS
  go_enter Tryd.func13, Tryd.ntmps13
  go_wp2_with fail
  refine (refUnit_n _ _).mono ?_
  rintro e w' ⟨rfl, rfl⟩
  rw [HB.out]
  go_wp2_with fail
  refine (refUnit_n _ _).mono ?_
  rintro e w' ⟨rfl, rfl⟩
  rw [HS.out]
  go_wp2_with fail
  refine (refUnit_n _ _).mono ?_
  rintro e w' ⟨rfl, rfl⟩
  go_wp2_with fail
  go_ret
  exact ⟨rfl, Below.refl _ _⟩

theorem chU_oth (m b s : Int) (h : m < 1 ∨ 13 < m) : chU m b s = s := by
  unfold chU
  repeat' rw [if_neg (by omega)]

set_option maxRecDepth 100000 in
set_option maxHeartbeats 1000000 in
theorem refChannelN (m b s : Int) (w : World) (h : m < 1 ∨ 13 < m) :
    Calls Tryd.prog 13 #[.int .i64 m, .int .i64 b, .int .i64 s] w fun e w' => e = .returned (.int .i64 (chU m (cl b) (cl s))) ∧ Below w.heap.size w w' := by
  have E := Lib.hid (chU_oth m (cl b) (cl s) h)
  have g1 : (m == 1) = false := by simpa using (show m ≠ 1 by omega)
  have g2 : (m == 2) = false := by simpa using (show m ≠ 2 by omega)
  have g3 : (m == 3) = false := by simpa using (show m ≠ 3 by omega)
  have g4 : (m == 4) = false := by simpa using (show m ≠ 4 by omega)
  have g5 : (m == 5) = false := by simpa using (show m ≠ 5 by omega)
  have g6 : (m == 6) = false := by simpa using (show m ≠ 6 by omega)
  have g7 : (m == 7) = false := by simpa using (show m ≠ 7 by omega)
  have g8 : (m == 8) = false := by simpa using (show m ≠ 8 by omega)
  have g9 : (m == 9) = false := by simpa using (show m ≠ 9 by omega)
  have g10 : (m == 10) = false := by simpa using (show m ≠ 10 by omega)
  have g11 : (m == 11) = false := by simpa using (show m ≠ 11 by omega)
  have g12 : (m == 12) = false := by simpa using (show m ≠ 12 by omega)
  have g13 : (m == 13) = false := by simpa using (show m ≠ 13 by omega)
  clear h
  go_enter Tryd.func13, Tryd.ntmps13
  go_wp2_with fail
  refine (refUnit_n _ _).mono ?_
  rintro e w' ⟨rfl, rfl⟩
  go_wp2_with fail
  refine (refUnit_n _ _).mono ?_
  rintro e w' ⟨rfl, rfl⟩
  go_wp2_with fail
  go_ret
  exact ⟨ret_int E.out.symm, Below.refl _ _⟩

theorem refChannel_any (m b s : Int) (w : World) :
    Calls Tryd.prog 13 #[.int .i64 m, .int .i64 b, .int .i64 s] w fun e w' => e = .returned (.int .i64 (chU m (cl b) (cl s))) ∧ Below w.heap.size w w' := by
  by_cases h : m < 1 ∨ 13 < m
  · exact refChannelN m b s w h
  · obtain rfl | rfl | rfl | rfl | rfl | rfl | rfl | rfl | rfl | rfl | rfl | rfl | rfl : m = 1 ∨ m = 2 ∨ m = 3 ∨ m = 4 ∨ m = 5 ∨ m = 6 ∨ m = 7 ∨ m = 8 ∨ m = 9 ∨ m = 10 ∨ m = 11 ∨ m = 12 ∨ m = 13 := by omega
    · exact refChannel1 b s w
    · exact refChannel2 b s w
    · exact refChannel3 b s w
    · exact refChannel4 b s w
    · exact refChannel5 b s w
    · exact refChannel6 b s w
    · exact refChannel7 b s w
    · exact refChannel8 b s w
    · exact refChannel9 b s w
    · exact refChannel10 b s w
    · exact refChannel11 b s w
    · exact refChannel12 b s w
    · exact refChannel13 b s w
end Go.Proofs.YtfgkgibomgcmpaaDoor
