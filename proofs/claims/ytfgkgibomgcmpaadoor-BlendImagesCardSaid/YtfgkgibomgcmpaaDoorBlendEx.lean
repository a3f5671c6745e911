/- The examples of the chapter on blending hold. -/
import Derived.Test.YtfgkgibomgcmpaaDoorOver
import Derived.Test.YtfgkgibomgcmpaaDoorBlendName
namespace Go.Proofs.YtfgkgibomgcmpaaDoor
open Go.RowKit
set_option linter.unusedVariables false
attribute [local go_sem] Oper.gAt gUponK Oper.sAt stilK

theorem bx1 : alU (cl 65535) (cl 32768) ≠ 0 := by decide +kernel
theorem bx2 : ovC (cl 65535) (cl 0) (col3 0 (cl 65535, cl 0, cl 0) (cl 0, cl 65535, cl 0)).1 (cl 65535) (cl 32768) = 32767 ∧ ovC (cl 0) (cl 65535) (col3 0 (cl 65535, cl 0, cl 0) (cl 0, cl 65535, cl 0)).2.1 (cl 65535) (cl 32768) = 32768 ∧ ovC (cl 0) (cl 0) (col3 0 (cl 65535, cl 0, cl 0) (cl 0, cl 65535, cl 0)).2.2 (cl 65535) (cl 32768) = 0 ∧ alU (cl 65535) (cl 32768) = 65535 := by decide +kernel
theorem bx3 : col3 17 (cl 65535, cl 0, cl 0) (cl 0, cl 0, cl 0) = (0, 0, 0) := by decide +kernel
theorem bx4 : chU 9 (cl 32768) (cl 65535) = 49152 := by decide +kernel
theorem bx5 : chU 7 (cl 65535) (cl 0) = 65535 := by decide +kernel
theorem bx6 : chU 13 (cl 9) (cl 5) = 4 := by decide +kernel

set_option maxHeartbeats 400000 in
theorem image18 (w : World) :
    Calls Tryd.prog 19 #[.int .i64 18, .int .i64 0, .agg #[.int .i64 0, .int .i64 0, .slice none 0 0], .agg #[.int .i64 0, .int .i64 0, .slice none 0 0]] w fun e w' => e = .returned (.tuple #[.agg #[.int .i64 0, .int .i64 0, .slice none 0 0], .int .i64 8]) ∧ Below w.heap.size w w' := by
  have hv : decide (0 ≤ (18 : Int) ∧ (18 : Int) ≤ 17) = false := by decide
  go_enter Tryd.func19, Tryd.ntmps19
  go_wp2_with fail
  refine (bValid_any _ _).mono ?_
  rintro e w' ⟨rfl, rfl⟩
  rw [hv]
  go_wp2_with fail
  exact bodyPost_ret (v := .tuple #[.agg #[.int .i64 0, .int .i64 0, .slice none 0 0], .int .i64 8]) (by simp [results, Tryd.results19, go_sem]) rfl ⟨rfl, (((Below.refl _ _).alloc (Nat.le_refl _) _).alloc (by simp) _).alloc (by simp; omega) _⟩

set_option maxHeartbeats 1000000 in
theorem example_any (w : World) (hN : Names w) :
    Calls Tryd.prog 14 #[] w fun e w' => e = .returned (.bool true) ∧ Below w.heap.size w w' := by
  have HN := Lib.hid hN
  clear hN
  go_enter Tryd.func14, Tryd.ntmps14
  go_wp2_with fail
  refine callName2 (fun W k1 k2 hb => ?_)
  refine (image18 _).mono ?_
  rintro e W1 ⟨rfl, hS⟩
  replace k1 := k1.kept hS
  replace k2 := k2.kept hS
  replace hb := hb.trans (hS.mono hb.size)
  clear hS
  go_upto_region 3 with (fail)
  refine name1 (fun W2 k3 hS => ?_)
  replace k1 := k1.kept hS
  replace k2 := k2.kept hS
  replace hb := hb.trans (hS.mono hb.size)
  clear hS
  have c1 := k1.c4
  have c2 := k2.c4
  go_wp2_with fail
  clear c1 c2
  refine (over_pos _ _ _ _ _ _ _ _ _ _ bx1).mono ?_
  rintro e W3 ⟨rfl, hS⟩
  replace k1 := k1.kept hS
  replace hb := hb.trans (hS.mono hb.size)
  clear hS
  rw [bx2.1, bx2.2.1, bx2.2.2.1, bx2.2.2.2]
  have c1 := k1.c4
  go_wp2_with fail
  clear c1
  refine (colors_any _ _ _ _ _ _ _ _ _ _).mono ?_
  rintro e W4 ⟨rfl, hS⟩
  replace hb := hb.trans (hS.mono hb.size)
  clear hS
  rw [bx3]
  go_wp2_with fail
  refine (channel_any _ _ _ _).mono ?_
  rintro e w' ⟨rfl, rfl⟩
  rw [bx4]
  go_wp2_with fail
  refine (channel_any _ _ _ _).mono ?_
  rintro e w' ⟨rfl, rfl⟩
  rw [bx5]
  go_wp2_with fail
  refine (channel_any _ _ _ _).mono ?_
  rintro e w' ⟨rfl, rfl⟩
  rw [bx6]
  go_wp2_with fail
  refine (name_in 17 _ (by omega) (HN.out.kept hb)).mono ?_
  rintro e w' ⟨rfl, rfl⟩
  go_wp2_with fail
  go_ret
  exact ⟨ret_bool (by decide), hb⟩
end Go.Proofs.YtfgkgibomgcmpaaDoor
