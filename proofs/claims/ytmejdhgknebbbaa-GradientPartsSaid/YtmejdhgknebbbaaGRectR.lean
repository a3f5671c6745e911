/- Rectangles by the reference: Valid and Empty (printed by gendrawr.py). -/
import Derived.Test.YtmejdhgknebbbaaGRect
namespace Go.Proofs.Ytmejdhgknebbbaa
open Go.RowKit
set_option linter.unusedVariables false

set_option maxHeartbeats 2000000 in
theorem refRValid_any (x y wd ht : Int) (w : World) :
    Calls Try.prog 38 #[rv x y wd ht] w fun e w' => e = .returned (.bool (rValid x y wd ht)) ∧ Below w.heap.size w w' := by
  unfold rv
  by_cases c0 : x < -1048576
  · have HE : Hid (rValid x y wd ht = false) := by show _ = _; unfold rValid rSpan; simp; omega
    rw [HE.out]
    go_enter Try.func38, Try.ntmps38
    go_upto_region 1 with (fail)
    refine name1 (fun W k1 hb => ?_)
    have cc := k1.c4
    go_wp2_with fail
    go_ret
    exact ⟨rfl, hb⟩
  by_cases c1 : 1048576 < x
  · have HE : Hid (rValid x y wd ht = false) := by show _ = _; unfold rValid rSpan; simp; omega
    rw [HE.out]
    go_enter Try.func38, Try.ntmps38
    go_upto_region 1 with (fail)
    refine name1 (fun W k1 hb => ?_)
    have cc := k1.c4
    go_wp2_with fail
    go_ret
    exact ⟨rfl, hb⟩
  by_cases c2 : y < -1048576
  · have HE : Hid (rValid x y wd ht = false) := by show _ = _; unfold rValid rSpan; simp; omega
    rw [HE.out]
    go_enter Try.func38, Try.ntmps38
    go_upto_region 1 with (fail)
    refine name1 (fun W k1 hb => ?_)
    have cc := k1.c4
    go_wp2_with fail
    go_ret
    exact ⟨rfl, hb⟩
  by_cases c3 : 1048576 < y
  · have HE : Hid (rValid x y wd ht = false) := by show _ = _; unfold rValid rSpan; simp; omega
    rw [HE.out]
    go_enter Try.func38, Try.ntmps38
    go_upto_region 1 with (fail)
    refine name1 (fun W k1 hb => ?_)
    have cc := k1.c4
    go_wp2_with fail
    go_ret
    exact ⟨rfl, hb⟩
  by_cases d0 : ¬ (0 ≤ wd)
  · have HE : Hid (rValid x y wd ht = false) := by show _ = _; unfold rValid rSpan; simp; omega
    rw [HE.out]
    go_enter Try.func38, Try.ntmps38
    go_upto_region 1 with (fail)
    refine name1 (fun W k1 hb => ?_)
    have cc := k1.c4
    go_wp2_with fail
    go_ret
    exact ⟨ret_bool (by simp <;> omega), hb⟩
  by_cases d1 : ¬ (0 ≤ ht)
  · have HE : Hid (rValid x y wd ht = false) := by show _ = _; unfold rValid rSpan; simp; omega
    rw [HE.out]
    go_enter Try.func38, Try.ntmps38
    go_upto_region 1 with (fail)
    refine name1 (fun W k1 hb => ?_)
    have cc := k1.c4
    go_wp2_with fail
    go_ret
    exact ⟨ret_bool (by simp <;> omega), hb⟩
  by_cases d2 : ¬ (wd ≤ 1048576 - x)
  · have HE : Hid (rValid x y wd ht = false) := by show _ = _; unfold rValid rSpan; simp; omega
    rw [HE.out]
    go_enter Try.func38, Try.ntmps38
    go_upto_region 1 with (fail)
    refine name1 (fun W k1 hb => ?_)
    have cc := k1.c4
    go_wp2_with fail
    go_ret
    exact ⟨ret_bool (by simp <;> omega), hb⟩
  by_cases d3 : ¬ (ht ≤ 1048576 - y)
  · have HE : Hid (rValid x y wd ht = false) := by show _ = _; unfold rValid rSpan; simp; omega
    rw [HE.out]
    go_enter Try.func38, Try.ntmps38
    go_upto_region 1 with (fail)
    refine name1 (fun W k1 hb => ?_)
    have cc := k1.c4
    go_wp2_with fail
    go_ret
    exact ⟨ret_bool (by simp <;> omega), hb⟩
  have HE : Hid (rValid x y wd ht = true) := by show _ = _; unfold rValid rSpan; simp; omega
  rw [HE.out]
  go_enter Try.func38, Try.ntmps38
  go_upto_region 1 with (fail)
  refine name1 (fun W k1 hb => ?_)
  have cc := k1.c4
  go_wp2_with fail
  go_ret
  exact ⟨ret_bool (by simp <;> omega), hb⟩

set_option maxHeartbeats 1000000 in
theorem refREmpty_any (x y wd ht : Int) (w : World) (hv : rValid x y wd ht = true) :
    Calls Try.prog 39 #[rv x y wd ht] w fun e w' => e = .returned (.bool (wd == 0 || ht == 0)) ∧ Below w.heap.size w w' := by
  have V1 := Lib.hid (fun w => refRValid_any x y wd ht w)
  rw [hv] at V1
  clear hv
  unfold rv at *
  by_cases h1 : wd = 0
  · subst h1
    go_enter Try.func39, Try.ntmps39
    go_upto_region 1 with (fail)
    refine name1 (fun W k1 hb => ?_)
    have c1 := k1.c4
    go_wp2_with fail
    refine (V1.out _).mono ?_
    rintro e W1 ⟨rfl, hS⟩
    replace k1 := k1.kept hS
    replace hb := hb.trans (hS.mono hb.size)
    have c2 := k1.c4
    go_wp2_with fail
    go_ret
    exact ⟨rfl, hb⟩
  · have b1 : (wd == 0) = false := by simpa using h1
    go_enter Try.func39, Try.ntmps39
    go_upto_region 1 with (fail)
    refine name1 (fun W k1 hb => ?_)
    have c1 := k1.c4
    go_wp2_with fail
    refine (V1.out _).mono ?_
    rintro e W1 ⟨rfl, hS⟩
    replace k1 := k1.kept hS
    replace hb := hb.trans (hS.mono hb.size)
    have c2 := k1.c4
    go_wp2_with fail
    go_ret
    exact ⟨ret_bool (by simp [b1]), hb⟩
end Go.Proofs.Ytmejdhgknebbbaa
