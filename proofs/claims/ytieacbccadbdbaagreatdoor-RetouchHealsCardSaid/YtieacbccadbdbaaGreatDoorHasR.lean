/- The reference's Has: whether a point is a pixel of a valid rectangle. -/
import Derived.Test.YtieacbccadbdbaaGreatDoorRectJR
namespace Go.Proofs.YtieacbccadbdbaaGreatDoor
open Go.RowKit
set_option linter.unusedVariables false
attribute [local go_sem] Oper.gAt gUponK Oper.sAt stilK

def hasB (x y wd ht px py : Int) : Bool := decide (x ≤ px ∧ px < x + wd ∧ y ≤ py ∧ py < y + ht)

set_option maxHeartbeats 2000000 in
theorem refSpanE (x y wd ht ax : Int) (w : World) (hv : rValid x y wd ht = true) (he : wd = 0 ∨ ht = 0) : Calls Tryz.prog 125 #[.agg #[.int .i64 x, .int .i64 y, .int .i64 wd, .int .i64 ht], .int .i64 ax] w fun e w' => e = .returned (.tuple #[.int .i64 0, .int .i64 (-1)]) ∧ Below w.heap.size w w' := by
  have V1 : Hid (∀ w, Calls Tryz.prog 51 #[.agg #[.int .i64 x, .int .i64 y, .int .i64 wd, .int .i64 ht]] w fun e w' => e = .returned (.bool true) ∧ Below w.heap.size w w') := fun w => by rw [← hv]; exact refRValid_any x y wd ht w
  clear hv
  by_cases hw : wd = 0
  · subst hw
    go_enter Tryz.func125, Tryz.ntmps125
    go_upto_region 1 with (fail)
    refine name1 (fun W k1 hb => ?_)
    have c1 := k1.c4
    go_wp2_with fail
    clear c1
    refine (V1.out _).mono ?_
    rintro e W1 ⟨rfl, hS⟩
    replace k1 := k1.kept hS
    replace hb := hb.trans (hS.mono hb.size)
    clear hS
    have c1 := k1.c4
    go_wp2_with fail
    go_ret2
    exact ⟨rfl, hb⟩
  · obtain rfl : ht = 0 := by omega
    have b1 : (wd == 0) = false := by simpa using hw
    go_enter Tryz.func125, Tryz.ntmps125
    go_upto_region 1 with (fail)
    refine name1 (fun W k1 hb => ?_)
    have c1 := k1.c4
    go_wp2_with fail
    clear c1
    refine (V1.out _).mono ?_
    rintro e W1 ⟨rfl, hS⟩
    replace k1 := k1.kept hS
    replace hb := hb.trans (hS.mono hb.size)
    clear hS
    have c1 := k1.c4
    go_wp2_with fail
    go_ret2
    exact ⟨rfl, hb⟩

set_option maxHeartbeats 2000000 in
theorem refHas_any (x y wd ht px py : Int) (w : World) (hv : rValid x y wd ht = true) :
    Calls Tryz.prog 126 #[.agg #[.int .i64 x, .int .i64 y, .int .i64 wd, .int .i64 ht], .agg #[.int .i64 px, .int .i64 py]] w fun e w' => e = .returned (.bool (hasB x y wd ht px py)) ∧ Below w.heap.size w w' := by
  obtain ⟨x0, x1, y0, y1, hx, hy, hh⟩ : ∃ x0 x1 y0 y1 : Int, (∀ w, Calls Tryz.prog 125 #[.agg #[.int .i64 x, .int .i64 y, .int .i64 wd, .int .i64 ht], .int .i64 0] w fun e w' => e = .returned (.tuple #[.int .i64 x0, .int .i64 x1]) ∧ Below w.heap.size w w') ∧ (∀ w, Calls Tryz.prog 125 #[.agg #[.int .i64 x, .int .i64 y, .int .i64 wd, .int .i64 ht], .int .i64 1] w fun e w' => e = .returned (.tuple #[.int .i64 y0, .int .i64 y1]) ∧ Below w.heap.size w w') ∧ hasB x y wd ht px py = decide (x0 ≤ px ∧ px ≤ x1 ∧ y0 ≤ py ∧ py ≤ y1) := by
    by_cases he : wd = 0 ∨ ht = 0
    · refine ⟨0, -1, 0, -1, fun w => refSpanE x y wd ht 0 w hv he, fun w => refSpanE x y wd ht 1 w hv he, ?_⟩
      unfold hasB
      exact decide_eq_decide.2 (by omega)
    · have hr : rEmp (x, y, wd, ht) = false := by
        unfold rEmp rOk
        simp only
        rw [hv]
        simp only [Bool.not_true, Bool.false_or, Bool.or_eq_false_iff, beq_eq_false_iff_ne]
        omega
      refine ⟨x, x + wd - 1, y, y + ht - 1, fun w => refSpan0 x y wd ht w hr, fun w => refSpan1 x y wd ht w hr, ?_⟩
      unfold hasB
      exact decide_eq_decide.2 (by omega)
  have HX := Lib.hid hx
  have HY := Lib.hid hy
  have HH := Lib.hid hh
  clear hx hy hh hv
  generalize hasB x y wd ht px py = R at *
  have c : px < x0 ∨ (x0 ≤ px ∧ x1 < px) ∨ (x0 ≤ px ∧ px ≤ x1 ∧ py < y0) ∨ (x0 ≤ px ∧ px ≤ x1 ∧ y0 ≤ py ∧ y1 < py) ∨ (x0 ≤ px ∧ px ≤ x1 ∧ y0 ≤ py ∧ py ≤ y1) := by omega
  rcases c with c1 | ⟨c1, c2⟩ | ⟨c1, c2, c3⟩ | ⟨c1, c2, c3, c4⟩ | ⟨c1, c2, c3, c4⟩
  all_goals
    first
    | (have HE : Hid (R = true) := HH.out.trans (decide_eq_true (by omega)))
    | (have HE : Hid (R = false) := HH.out.trans (decide_eq_false (by omega)))
  all_goals
    go_enter Tryz.func126, Tryz.ntmps126
    go_upto_region 1 with (fail)
    refine name2 (fun W k1 k2 hb => ?_)
    have c1 := k1.c4
    go_wp2_with fail
    clear c1
    refine (HX.out _).mono ?_
    rintro e W1 ⟨rfl, hS⟩
    replace k1 := k1.kept hS
    replace k2 := k2.kept hS
    replace hb := hb.trans (hS.mono hb.size)
    clear hS
    have c1 := k1.c4
    go_wp2_with fail
    clear c1
    refine (HY.out _).mono ?_
    rintro e W2 ⟨rfl, hS⟩
    replace k2 := k2.kept hS
    replace hb := hb.trans (hS.mono hb.size)
    clear hS
    have c2' := k2.c2
    go_wp2_with fail
    go_ret
    exact ⟨ret_bool (by first | (rw [HE.out]; done) | (rw [HE.out]; simp; omega)), hb⟩
end Go.Proofs.YtieacbccadbdbaaGreatDoor

