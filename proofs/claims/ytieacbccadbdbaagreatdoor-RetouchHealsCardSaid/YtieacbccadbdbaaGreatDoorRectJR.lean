/- Rectangles by the reference: Empty, span, of, Join (printed by genrectj.py). -/
import Derived.Test.YtieacbccadbdbaaGreatDoorLCovR
import Derived.Test.YtieacbccadbdbaaGreatDoorLRect
namespace Go.Proofs.YtieacbccadbdbaaGreatDoor
open Go.RowKit
set_option linter.unusedVariables false
attribute [local go_sem] Oper.gAt gUponK Oper.sAt stilK

set_option maxHeartbeats 1000000 in
theorem refRemp_any (x y wd ht : Int) (w : World) : Calls Tryz.prog 52 #[.agg #[.int .i64 x, .int .i64 y, .int .i64 wd, .int .i64 ht]] w fun e w' => e = .returned (.bool (rEmp (x, y, wd, ht))) ∧ Below w.heap.size w w' := by
  cases hv : rValid x y wd ht with
  | true =>
    have e : rEmp (x, y, wd, ht) = (wd == 0 || ht == 0) := by unfold rEmp rOk; simp only; rw [hv]; rfl
    rw [e]
    exact refREmpty_any x y wd ht w hv
  | false =>
    have e : rEmp (x, y, wd, ht) = true := by unfold rEmp rOk; simp only; rw [hv]; rfl
    rw [e]
    have V1 : Hid (∀ w, Calls Tryz.prog 51 #[.agg #[.int .i64 x, .int .i64 y, .int .i64 wd, .int .i64 ht]] w fun e w' => e = .returned (.bool false) ∧ Below w.heap.size w w') := fun w => by rw [← hv]; exact refRValid_any x y wd ht w
    clear hv e
    go_enter Tryz.func52, Tryz.ntmps52
    go_upto_region 1 with (fail)
    refine name1 (fun W k1 hb => ?_)
    have c1 := k1.c4
    go_wp2_with fail
    refine (V1.out _).mono ?_
    rintro e W1 ⟨rfl, hS⟩
    replace hb := hb.trans (hS.mono hb.size)
    go_wp2_with fail
    go_ret
    exact ⟨rfl, hb⟩

set_option maxHeartbeats 2000000 in
theorem refSpan0 (x y wd ht : Int) (w : World) (h : rEmp (x, y, wd, ht) = false) : Calls Tryz.prog 125 #[.agg #[.int .i64 x, .int .i64 y, .int .i64 wd, .int .i64 ht], .int .i64 0] w fun e w' => e = .returned (.tuple #[.int .i64 x, .int .i64 (x + wd - 1)]) ∧ Below w.heap.size w w' := by
  have g := rEmp_false h
  simp only at g
  have hv : rValid x y wd ht = true := by unfold rValid rSpan; simp; omega
  have V1 : Hid (∀ w, Calls Tryz.prog 51 #[.agg #[.int .i64 x, .int .i64 y, .int .i64 wd, .int .i64 ht]] w fun e w' => e = .returned (.bool true) ∧ Below w.heap.size w w') := fun w => by rw [← hv]; exact refRValid_any x y wd ht w
  have b1 : (wd == 0) = false := by simp; omega
  have b2 : (ht == 0) = false := by simp; omega
  have m1 : IntKind.i64.wrap (x + wd) = x + wd := IntWalk.i64_in _ (by omega)
  have m2 : IntKind.i64.wrap (x + wd - 1) = x + wd - 1 := IntWalk.i64_in _ (by omega)
  clear h g hv
  go_enter Tryz.func125, Tryz.ntmps125
  go_upto_region 1 with (fail)
  refine name1 (fun W k1 hb => ?_)
  have c1 := k1.c4
  go_wp2_with fail
  clear c1
  refine (V1.out _).mono ?_
  rintro e W1 ⟨rfl, hS⟩
  replace k1 := k1.kept hS
  replace hb := hb.trans (hS.mono hb.size)
  clear hS
  have c1 := k1.c4
  go_upto_region 4 with (fail)
  clear c1
  refine wp_region_grow 10 (fun w' => Below (World.heap W1).size W1 w') (by kernel_rfl) (by kernel_rfl) (Below.refl _ _).drew ?_
  simp only [List.take_succ_cons, List.take_zero, List.drop_succ_cons, List.drop_zero]
  repeat (first | (apply wpG_on; rfl; (intro w' hS K hK; have hc0 := (k1.kept hS).c4; go_simp; (first | exact hK.out _ hS)); simp only [Act.put, List.setIfInBounds_toArray, List.set_cons_succ, List.set_cons_zero]) | (apply wpG_off; rfl; simp only [Act.put, List.setIfInBounds_toArray, List.set_cons_succ, List.set_cons_zero]))
  apply wpG_nil
  intro W2 hS
  replace k1 := k1.kept hS
  replace hb := hb.trans (hS.mono hb.size)
  clear hS
  go_wp2_with fail
  go_ret2
  exact ⟨rfl, hb⟩

set_option maxHeartbeats 2000000 in
theorem refSpan1 (x y wd ht : Int) (w : World) (h : rEmp (x, y, wd, ht) = false) : Calls Tryz.prog 125 #[.agg #[.int .i64 x, .int .i64 y, .int .i64 wd, .int .i64 ht], .int .i64 1] w fun e w' => e = .returned (.tuple #[.int .i64 y, .int .i64 (y + ht - 1)]) ∧ Below w.heap.size w w' := by
  have g := rEmp_false h
  simp only at g
  have hv : rValid x y wd ht = true := by unfold rValid rSpan; simp; omega
  have V1 : Hid (∀ w, Calls Tryz.prog 51 #[.agg #[.int .i64 x, .int .i64 y, .int .i64 wd, .int .i64 ht]] w fun e w' => e = .returned (.bool true) ∧ Below w.heap.size w w') := fun w => by rw [← hv]; exact refRValid_any x y wd ht w
  have b1 : (wd == 0) = false := by simp; omega
  have b2 : (ht == 0) = false := by simp; omega
  have m1 : IntKind.i64.wrap (y + ht) = y + ht := IntWalk.i64_in _ (by omega)
  have m2 : IntKind.i64.wrap (y + ht - 1) = y + ht - 1 := IntWalk.i64_in _ (by omega)
  clear h g hv
  go_enter Tryz.func125, Tryz.ntmps125
  go_upto_region 1 with (fail)
  refine name1 (fun W k1 hb => ?_)
  have c1 := k1.c4
  go_wp2_with fail
  clear c1
  refine (V1.out _).mono ?_
  rintro e W1 ⟨rfl, hS⟩
  replace k1 := k1.kept hS
  replace hb := hb.trans (hS.mono hb.size)
  clear hS
  have c1 := k1.c4
  go_upto_region 5 with (fail)
  clear c1
  refine wp_region_grow 10 (fun w' => Below (World.heap W1).size W1 w') (by kernel_rfl) (by kernel_rfl) (Below.refl _ _).drew ?_
  simp only [List.take_succ_cons, List.take_zero, List.drop_succ_cons, List.drop_zero]
  repeat (first | (apply wpG_on; rfl; (intro w' hS K hK; have hc0 := (k1.kept hS).c4; go_simp; (first | exact hK.out _ hS)); simp only [Act.put, List.setIfInBounds_toArray, List.set_cons_succ, List.set_cons_zero]) | (apply wpG_off; rfl; simp only [Act.put, List.setIfInBounds_toArray, List.set_cons_succ, List.set_cons_zero]))
  apply wpG_nil
  intro W2 hS
  replace k1 := k1.kept hS
  replace hb := hb.trans (hS.mono hb.size)
  clear hS
  go_wp2_with fail
  go_ret2
  exact ⟨rfl, hb⟩



end Go.Proofs.YtieacbccadbdbaaGreatDoor

