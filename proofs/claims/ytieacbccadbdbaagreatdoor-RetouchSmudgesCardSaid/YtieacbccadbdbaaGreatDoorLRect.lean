/- Several texts in one: GRect, GRectR. -/
import Derived.Test.YtieacbccadbdbaaGreatDoorLKit
import Derived.Deep.Cut

/- Rectangles: Valid and Empty, by the program and by the reference. -/
namespace Go.Proofs.YtieacbccadbdbaaGreatDoor
open Go.RowKit
set_option linter.unusedVariables false

def rSpan (x w : Int) : Bool := decide (-1048576 ≤ x ∧ x ≤ 1048576 ∧ 0 ≤ w ∧ w ≤ 1048576 - x)
def rValid (x y w h : Int) : Bool := rSpan x w && rSpan y h
def rv (x y w h : Int) : Value := .agg #[.int .i64 x, .int .i64 y, .int .i64 w, .int .i64 h]

set_option maxHeartbeats 1000000 in
theorem span_any (x w0 : Int) (w : World) :
    Calls Tryz.prog 89 #[.int .i64 x, .int .i64 w0] w fun e w' => e = .returned (.bool (rSpan x w0)) ∧ w = w' := by
  have c : (¬ -1048576 ≤ x) ∨ (-1048576 ≤ x ∧ ¬ x ≤ 1048576) ∨ (-1048576 ≤ x ∧ x ≤ 1048576 ∧ ¬ 0 ≤ w0) ∨ (-1048576 ≤ x ∧ x ≤ 1048576 ∧ 0 ≤ w0 ∧ ¬ w0 ≤ 1048576 - x) ∨ (-1048576 ≤ x ∧ x ≤ 1048576 ∧ 0 ≤ w0 ∧ w0 ≤ 1048576 - x) := by omega
  rcases c with c1 | ⟨c1, c2⟩ | ⟨c1, c2, c3⟩ | ⟨c1, c2, c3, c4⟩ | ⟨c1, c2, c3, c4⟩
  · have HE : Hid (rSpan x w0 = false) := decide_eq_false (by omega)
    go_enter Tryz.func89, Tryz.ntmps89
    go_wp2
    go_ret
    exact ⟨ret_bool (by rw [HE.out]), rfl⟩
  · have HE : Hid (rSpan x w0 = false) := decide_eq_false (by omega)
    go_enter Tryz.func89, Tryz.ntmps89
    go_wp2
    go_ret
    exact ⟨ret_bool (by rw [HE.out]), rfl⟩
  · have HE : Hid (rSpan x w0 = false) := decide_eq_false (by omega)
    go_enter Tryz.func89, Tryz.ntmps89
    go_wp2
    go_ret
    exact ⟨ret_bool (by rw [HE.out]), rfl⟩
  · have HE : Hid (rSpan x w0 = false) := decide_eq_false (by omega)
    go_enter Tryz.func89, Tryz.ntmps89
    go_wp2
    go_ret
    exact ⟨ret_bool (by rw [HE.out]), rfl⟩
  · have HE : Hid (rSpan x w0 = true) := decide_eq_true (by omega)
    go_enter Tryz.func89, Tryz.ntmps89
    go_wp2
    go_ret
    exact ⟨ret_bool (by rw [HE.out]), rfl⟩

set_option maxHeartbeats 1000000 in
theorem rvalid_any (x y wd ht : Int) (w : World) :
    Calls Tryz.prog 41 #[rv x y wd ht] w fun e w' => e = .returned (.bool (rValid x y wd ht)) ∧ Below w.heap.size w w' := by
  have S1 := Lib.hid (fun w => span_any x wd w)
  have S2 := Lib.hid (fun w => span_any y ht w)
  have HE : Hid (rValid x y wd ht = (rSpan x wd && rSpan y ht)) := rfl
  rw [HE.out]
  generalize rSpan x wd = b1 at *
  generalize rSpan y ht = b2 at *
  unfold rv
  cases b1 with
  | false =>
    go_enter Tryz.func41, Tryz.ntmps41
    go_upto_region 1 with (fail)
    refine name1 (fun W k1 hb => ?_)
    have c1 := k1.c4
    go_wp2_with fail
    refine (S1.out _).mono ?_
    rintro e w' ⟨rfl, rfl⟩
    go_wp2_with fail
    go_ret
    exact ⟨rfl, hb⟩
  | true =>
    go_enter Tryz.func41, Tryz.ntmps41
    go_upto_region 1 with (fail)
    refine name1 (fun W k1 hb => ?_)
    have c1 := k1.c4
    go_wp2_with fail
    refine (S1.out _).mono ?_
    rintro e w' ⟨rfl, rfl⟩
    go_wp2_with fail
    refine (S2.out _).mono ?_
    rintro e w' ⟨rfl, rfl⟩
    go_wp2_with fail
    go_ret
    exact ⟨rfl, hb⟩

set_option maxHeartbeats 1000000 in
theorem rempty_any (x y wd ht : Int) (w : World) (hv : rValid x y wd ht = true) :
    Calls Tryz.prog 42 #[rv x y wd ht] w fun e w' => e = .returned (.bool (wd == 0 || ht == 0)) ∧ Below w.heap.size w w' := by
  have V1 := Lib.hid (fun w => rvalid_any x y wd ht w)
  rw [hv] at V1
  clear hv
  unfold rv at *
  by_cases h1 : wd = 0
  · subst h1
    go_enter Tryz.func42, Tryz.ntmps42
    go_upto_region 1 with (fail)
    refine name1 (fun W k1 hb => ?_)
    have c1 := k1.c4
    go_wp2_with fail
    refine (V1.out _).mono ?_
    rintro e W1 ⟨rfl, hS⟩
    replace k1 := k1.kept hS
    replace hb := hb.trans (hS.mono hb.size)
    have c2 := k1.c4
    go_wp2_with fail
    go_ret
    exact ⟨rfl, hb⟩
  · have b1 : (wd == 0) = false := by simpa using h1
    go_enter Tryz.func42, Tryz.ntmps42
    go_upto_region 1 with (fail)
    refine name1 (fun W k1 hb => ?_)
    have c1 := k1.c4
    go_wp2_with fail
    refine (V1.out _).mono ?_
    rintro e W1 ⟨rfl, hS⟩
    replace k1 := k1.kept hS
    replace hb := hb.trans (hS.mono hb.size)
    have c2 := k1.c4
    go_wp2_with fail
    go_ret
    exact ⟨ret_bool (by simp [b1]), hb⟩
end Go.Proofs.YtieacbccadbdbaaGreatDoor


/- Rectangles by the reference: Valid and Empty (printed by gendrawr.py). -/
namespace Go.Proofs.YtieacbccadbdbaaGreatDoor
open Go.RowKit
set_option linter.unusedVariables false

set_option maxHeartbeats 2000000 in
theorem refRValid_any (x y wd ht : Int) (w : World) :
    Calls Tryz.prog 51 #[rv x y wd ht] w fun e w' => e = .returned (.bool (rValid x y wd ht)) ∧ Below w.heap.size w w' := by
  unfold rv
  by_cases c0 : x < -1048576
  · have HE : Hid (rValid x y wd ht = false) := by show _ = _; unfold rValid rSpan; simp; omega
    rw [HE.out]
    go_enter Tryz.func51, Tryz.ntmps51
    go_upto_region 1 with (fail)
    refine name1 (fun W k1 hb => ?_)
    have cc := k1.c4
    go_wp2_with fail
    go_ret
    exact ⟨rfl, hb⟩
  by_cases c1 : 1048576 < x
  · have HE : Hid (rValid x y wd ht = false) := by show _ = _; unfold rValid rSpan; simp; omega
    rw [HE.out]
    go_enter Tryz.func51, Tryz.ntmps51
    go_upto_region 1 with (fail)
    refine name1 (fun W k1 hb => ?_)
    have cc := k1.c4
    go_wp2_with fail
    go_ret
    exact ⟨rfl, hb⟩
  by_cases c2 : y < -1048576
  · have HE : Hid (rValid x y wd ht = false) := by show _ = _; unfold rValid rSpan; simp; omega
    rw [HE.out]
    go_enter Tryz.func51, Tryz.ntmps51
    go_upto_region 1 with (fail)
    refine name1 (fun W k1 hb => ?_)
    have cc := k1.c4
    go_wp2_with fail
    go_ret
    exact ⟨rfl, hb⟩
  by_cases c3 : 1048576 < y
  · have HE : Hid (rValid x y wd ht = false) := by show _ = _; unfold rValid rSpan; simp; omega
    rw [HE.out]
    go_enter Tryz.func51, Tryz.ntmps51
    go_upto_region 1 with (fail)
    refine name1 (fun W k1 hb => ?_)
    have cc := k1.c4
    go_wp2_with fail
    go_ret
    exact ⟨rfl, hb⟩
  by_cases d0 : ¬ (0 ≤ wd)
  · have HE : Hid (rValid x y wd ht = false) := by show _ = _; unfold rValid rSpan; simp; omega
    rw [HE.out]
    go_enter Tryz.func51, Tryz.ntmps51
    go_upto_region 1 with (fail)
    refine name1 (fun W k1 hb => ?_)
    have cc := k1.c4
    go_wp2_with fail
    go_ret
    exact ⟨ret_bool (by simp <;> omega), hb⟩
  by_cases d1 : ¬ (0 ≤ ht)
  · have HE : Hid (rValid x y wd ht = false) := by show _ = _; unfold rValid rSpan; simp; omega
    rw [HE.out]
    go_enter Tryz.func51, Tryz.ntmps51
    go_upto_region 1 with (fail)
    refine name1 (fun W k1 hb => ?_)
    have cc := k1.c4
    go_wp2_with fail
    go_ret
    exact ⟨ret_bool (by simp <;> omega), hb⟩
  by_cases d2 : ¬ (wd ≤ 1048576 - x)
  · have HE : Hid (rValid x y wd ht = false) := by show _ = _; unfold rValid rSpan; simp; omega
    rw [HE.out]
    go_enter Tryz.func51, Tryz.ntmps51
    go_upto_region 1 with (fail)
    refine name1 (fun W k1 hb => ?_)
    have cc := k1.c4
    go_wp2_with fail
    go_ret
    exact ⟨ret_bool (by simp <;> omega), hb⟩
  by_cases d3 : ¬ (ht ≤ 1048576 - y)
  · have HE : Hid (rValid x y wd ht = false) := by show _ = _; unfold rValid rSpan; simp; omega
    rw [HE.out]
    go_enter Tryz.func51, Tryz.ntmps51
    go_upto_region 1 with (fail)
    refine name1 (fun W k1 hb => ?_)
    have cc := k1.c4
    go_wp2_with fail
    go_ret
    exact ⟨ret_bool (by simp <;> omega), hb⟩
  have HE : Hid (rValid x y wd ht = true) := by show _ = _; unfold rValid rSpan; simp; omega
  rw [HE.out]
  go_enter Tryz.func51, Tryz.ntmps51
  go_upto_region 1 with (fail)
  refine name1 (fun W k1 hb => ?_)
  have cc := k1.c4
  go_wp2_with fail
  go_ret
  exact ⟨ret_bool (by simp <;> omega), hb⟩

set_option maxHeartbeats 1000000 in
theorem refREmpty_any (x y wd ht : Int) (w : World) (hv : rValid x y wd ht = true) :
    Calls Tryz.prog 52 #[rv x y wd ht] w fun e w' => e = .returned (.bool (wd == 0 || ht == 0)) ∧ Below w.heap.size w w' := by
  have V1 := Lib.hid (fun w => refRValid_any x y wd ht w)
  rw [hv] at V1
  clear hv
  unfold rv at *
  by_cases h1 : wd = 0
  · subst h1
    go_enter Tryz.func52, Tryz.ntmps52
    go_upto_region 1 with (fail)
    refine name1 (fun W k1 hb => ?_)
    have c1 := k1.c4
    go_wp2_with fail
    refine (V1.out _).mono ?_
    rintro e W1 ⟨rfl, hS⟩
    replace k1 := k1.kept hS
    replace hb := hb.trans (hS.mono hb.size)
    have c2 := k1.c4
    go_wp2_with fail
    go_ret
    exact ⟨rfl, hb⟩
  · have b1 : (wd == 0) = false := by simpa using h1
    go_enter Tryz.func52, Tryz.ntmps52
    go_upto_region 1 with (fail)
    refine name1 (fun W k1 hb => ?_)
    have c1 := k1.c4
    go_wp2_with fail
    refine (V1.out _).mono ?_
    rintro e W1 ⟨rfl, hS⟩
    replace k1 := k1.kept hS
    replace hb := hb.trans (hS.mono hb.size)
    have c2 := k1.c4
    go_wp2_with fail
    go_ret
    exact ⟨ret_bool (by simp [b1]), hb⟩
end Go.Proofs.YtieacbccadbdbaaGreatDoor

