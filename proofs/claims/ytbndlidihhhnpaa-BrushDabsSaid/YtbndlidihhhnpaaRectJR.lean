/- Rectangles by the reference: Empty, span, of, Join (printed by genrectj.py). -/
import Derived.Test.YtbndlidihhhnpaaRectJ
import Derived.Test.YtbndlidihhhnpaaLRect
namespace Go.Proofs.Ytbndlidihhhnpaa
open Go.RowKit
set_option linter.unusedVariables false
attribute [local go_sem] Oper.gAt gUponK Oper.sAt stilK

set_option maxHeartbeats 1000000 in
theorem refRemp_any (x y wd ht : Int) (w : World) : Calls Try.prog 77 #[.agg #[.int .i64 x, .int .i64 y, .int .i64 wd, .int .i64 ht]] w fun e w' => e = .returned (.bool (rEmp (x, y, wd, ht))) ∧ Below w.heap.size w w' := by
  cases hv : rValid x y wd ht with
  | true =>
    have e : rEmp (x, y, wd, ht) = (wd == 0 || ht == 0) := by unfold rEmp rOk; simp only; rw [hv]; rfl
    rw [e]
    exact refREmpty_any x y wd ht w hv
  | false =>
    have e : rEmp (x, y, wd, ht) = true := by unfold rEmp rOk; simp only; rw [hv]; rfl
    rw [e]
    have V1 : Hid (∀ w, Calls Try.prog 89 #[.agg #[.int .i64 x, .int .i64 y, .int .i64 wd, .int .i64 ht]] w fun e w' => e = .returned (.bool false) ∧ Below w.heap.size w w') := fun w => by rw [← hv]; exact refRValid_any x y wd ht w
    clear hv e
    go_enter Try.func77, Try.ntmps77
    go_upto_region 1 with (fail)
    refine name1 (fun W k1 hb => ?_)
    have c1 := k1.c4
    go_wp2_with fail
    refine (V1.out _).mono ?_
    rintro e W1 ⟨rfl, hS⟩
    replace hb := hb.trans (hS.mono hb.size)
    go_wp2_with fail
    go_ret
    exact ⟨rfl, hb⟩

set_option maxHeartbeats 2000000 in
theorem refSpan0 (x y wd ht : Int) (w : World) (h : rEmp (x, y, wd, ht) = false) : Calls Try.prog 78 #[.agg #[.int .i64 x, .int .i64 y, .int .i64 wd, .int .i64 ht], .int .i64 0] w fun e w' => e = .returned (.tuple #[.int .i64 x, .int .i64 (x + wd - 1)]) ∧ Below w.heap.size w w' := by
  have g := rEmp_false h
  simp only at g
  have hv : rValid x y wd ht = true := by unfold rValid rSpan; simp; omega
  have V1 : Hid (∀ w, Calls Try.prog 89 #[.agg #[.int .i64 x, .int .i64 y, .int .i64 wd, .int .i64 ht]] w fun e w' => e = .returned (.bool true) ∧ Below w.heap.size w w') := fun w => by rw [← hv]; exact refRValid_any x y wd ht w
  have b1 : (wd == 0) = false := by simp; omega
  have b2 : (ht == 0) = false := by simp; omega
  have m1 : IntKind.i64.wrap (x + wd) = x + wd := IntWalk.i64_in _ (by omega)
  have m2 : IntKind.i64.wrap (x + wd - 1) = x + wd - 1 := IntWalk.i64_in _ (by omega)
  clear h g hv
  go_enter Try.func78, Try.ntmps78
  go_upto_region 1 with (fail)
  refine name1 (fun W k1 hb => ?_)
  have c1 := k1.c4
  go_wp2_with fail
  clear c1
  refine (V1.out _).mono ?_
  rintro e W1 ⟨rfl, hS⟩
  replace k1 := k1.kept hS
  replace hb := hb.trans (hS.mono hb.size)
  clear hS
  have c1 := k1.c4
  go_upto_region 4 with (fail)
  clear c1
  refine wp_region_grow 10 (fun w' => Below (World.heap W1).size W1 w') (by kernel_rfl) (by kernel_rfl) (Below.refl _ _).drew ?_
  simp only [List.take_succ_cons, List.take_zero, List.drop_succ_cons, List.drop_zero]
  repeat (first | (apply wpG_on; rfl; (intro w' hS K hK; have hc0 := (k1.kept hS).c4; go_simp; (first | exact hK.out _ hS)); simp only [Act.put, List.setIfInBounds_toArray, List.set_cons_succ, List.set_cons_zero]) | (apply wpG_off; rfl; simp only [Act.put, List.setIfInBounds_toArray, List.set_cons_succ, List.set_cons_zero]))
  apply wpG_nil
  intro W2 hS
  replace k1 := k1.kept hS
  replace hb := hb.trans (hS.mono hb.size)
  clear hS
  go_wp2_with fail
  go_ret2
  exact ⟨rfl, hb⟩

set_option maxHeartbeats 2000000 in
theorem refSpan1 (x y wd ht : Int) (w : World) (h : rEmp (x, y, wd, ht) = false) : Calls Try.prog 78 #[.agg #[.int .i64 x, .int .i64 y, .int .i64 wd, .int .i64 ht], .int .i64 1] w fun e w' => e = .returned (.tuple #[.int .i64 y, .int .i64 (y + ht - 1)]) ∧ Below w.heap.size w w' := by
  have g := rEmp_false h
  simp only at g
  have hv : rValid x y wd ht = true := by unfold rValid rSpan; simp; omega
  have V1 : Hid (∀ w, Calls Try.prog 89 #[.agg #[.int .i64 x, .int .i64 y, .int .i64 wd, .int .i64 ht]] w fun e w' => e = .returned (.bool true) ∧ Below w.heap.size w w') := fun w => by rw [← hv]; exact refRValid_any x y wd ht w
  have b1 : (wd == 0) = false := by simp; omega
  have b2 : (ht == 0) = false := by simp; omega
  have m1 : IntKind.i64.wrap (y + ht) = y + ht := IntWalk.i64_in _ (by omega)
  have m2 : IntKind.i64.wrap (y + ht - 1) = y + ht - 1 := IntWalk.i64_in _ (by omega)
  clear h g hv
  go_enter Try.func78, Try.ntmps78
  go_upto_region 1 with (fail)
  refine name1 (fun W k1 hb => ?_)
  have c1 := k1.c4
  go_wp2_with fail
  clear c1
  refine (V1.out _).mono ?_
  rintro e W1 ⟨rfl, hS⟩
  replace k1 := k1.kept hS
  replace hb := hb.trans (hS.mono hb.size)
  clear hS
  have c1 := k1.c4
  go_upto_region 5 with (fail)
  clear c1
  refine wp_region_grow 10 (fun w' => Below (World.heap W1).size W1 w') (by kernel_rfl) (by kernel_rfl) (Below.refl _ _).drew ?_
  simp only [List.take_succ_cons, List.take_zero, List.drop_succ_cons, List.drop_zero]
  repeat (first | (apply wpG_on; rfl; (intro w' hS K hK; have hc0 := (k1.kept hS).c4; go_simp; (first | exact hK.out _ hS)); simp only [Act.put, List.setIfInBounds_toArray, List.set_cons_succ, List.set_cons_zero]) | (apply wpG_off; rfl; simp only [Act.put, List.setIfInBounds_toArray, List.set_cons_succ, List.set_cons_zero]))
  apply wpG_nil
  intro W2 hS
  replace k1 := k1.kept hS
  replace hb := hb.trans (hS.mono hb.size)
  clear hS
  go_wp2_with fail
  go_ret2
  exact ⟨rfl, hb⟩

set_option maxHeartbeats 2000000 in
theorem refOf_in (x0 x1 y0 y1 : Int) (w : World) (hx : x0 ≤ x1) (hy : y0 ≤ y1) (bx : -4194304 ≤ x0 ∧ x1 ≤ 4194304) (by_ : -4194304 ≤ y0 ∧ y1 ≤ 4194304) : Calls Try.prog 79 #[.int .i64 x0, .int .i64 x1, .int .i64 y0, .int .i64 y1] w fun e w' => e = .returned (.agg #[.int .i64 x0, .int .i64 y0, .int .i64 (x1 - x0 + 1), .int .i64 (y1 - y0 + 1)]) ∧ Below w.heap.size w w' := by
  have g1 : decide (x1 < x0) = false := by simp; omega
  have g2 : decide (y1 < y0) = false := by simp; omega
  have m1 : IntKind.i64.wrap (x1 - x0) = x1 - x0 := IntWalk.i64_in _ (by omega)
  have m2 : IntKind.i64.wrap (x1 - x0 + 1) = x1 - x0 + 1 := IntWalk.i64_in _ (by omega)
  have m3 : IntKind.i64.wrap (y1 - y0) = y1 - y0 := IntWalk.i64_in _ (by omega)
  have m4 : IntKind.i64.wrap (y1 - y0 + 1) = y1 - y0 + 1 := IntWalk.i64_in _ (by omega)
  clear hx hy
  go_enter Try.func79, Try.ntmps79
  go_upto_region 1 with (fail)
  refine name1 (fun W k1 hb => ?_)
  have c1 := k1.c4
  go_wp2_with fail
  exact end4 hb k1 (by omega) (fun w3 c3 => by simp [results, Try.results79, go_sem, c3]) rfl (fun w3 hb3 => ⟨rfl, hb3⟩)

set_option maxRecDepth 20000 in
set_option maxHeartbeats 4000000 in
theorem refRjoin_any (ax ay aw ah bx by_ bw bh : Int) (w : World) : Calls Try.prog 47 #[.agg #[.int .i64 ax, .int .i64 ay, .int .i64 aw, .int .i64 ah], .agg #[.int .i64 bx, .int .i64 by_, .int .i64 bw, .int .i64 bh]] w fun e w' => e = .returned (rvx (rjoin (ax, ay, aw, ah) (bx, by_, bw, bh))) ∧ Below w.heap.size w w' := by
  have EA := Lib.hid (fun w => refRemp_any ax ay aw ah w)
  have EB := Lib.hid (fun w => refRemp_any bx by_ bw bh w)
  have HD : Hid (rjoin (ax, ay, aw, ah) (bx, by_, bw, bh) = if rEmp (ax, ay, aw, ah) = true then if rEmp (bx, by_, bw, bh) = true then r0 else (bx, by_, bw, bh) else if rEmp (bx, by_, bw, bh) = true then (ax, ay, aw, ah) else rbtw (min ax bx) (min ay by_) (max (ax + aw) (bx + bw)) (max (ay + ah) (by_ + bh))) := rfl
  cases ha : rEmp (ax, ay, aw, ah) with
  | true =>
    rw [ha] at EA HD
    cases hb0 : rEmp (bx, by_, bw, bh) with
    | true =>
      rw [hb0] at EB HD
      clear ha hb0
      generalize rjoin (ax, ay, aw, ah) (bx, by_, bw, bh) = R at *
      have HE : Hid (R = r0) := by show _ = _; exact HD.out
      clear HD
      go_enter Try.func47, Try.ntmps47
      go_upto_region 1 with (fail)
      refine name3 (fun W k1 k2 k3 hb => ?_)
      have c1 := k1.c4
      have c2 := k2.c4
      go_wp2_with fail
      clear c1 c2
      refine (EA.out _).mono ?_
      rintro e W' ⟨rfl, hS⟩
      replace k1 := k1.kept hS
      replace k2 := k2.kept hS
      replace k3 := k3.kept hS
      replace hb := hb.trans (hS.mono hb.size)
      clear hS
      have c1 := k1.c4
      have c2 := k2.c4
      go_wp2_with fail
      clear c1 c2
      refine (EB.out _).mono ?_
      rintro e W' ⟨rfl, hS⟩
      replace k1 := k1.kept hS
      replace k2 := k2.kept hS
      replace k3 := k3.kept hS
      replace hb := hb.trans (hS.mono hb.size)
      clear hS
      have c1 := k1.c4
      have c2 := k2.c4
      have ce := k3.c4
      go_wp2_with fail
      exact end4 hb k3 (by omega) (fun w3 c3 => by simp [results, Try.results47, go_sem, c3]) rfl (fun w3 hb3 => ⟨by rw [HE.out]; rfl, hb3⟩)
    | false =>
      rw [hb0] at EB HD
      clear ha hb0
      generalize rjoin (ax, ay, aw, ah) (bx, by_, bw, bh) = R at *
      have HE : Hid (R = (bx, by_, bw, bh)) := by show _ = _; exact HD.out
      clear HD
      go_enter Try.func47, Try.ntmps47
      go_upto_region 1 with (fail)
      refine name3 (fun W k1 k2 k3 hb => ?_)
      have c1 := k1.c4
      have c2 := k2.c4
      go_wp2_with fail
      clear c1 c2
      refine (EA.out _).mono ?_
      rintro e W' ⟨rfl, hS⟩
      replace k1 := k1.kept hS
      replace k2 := k2.kept hS
      replace k3 := k3.kept hS
      replace hb := hb.trans (hS.mono hb.size)
      clear hS
      have c1 := k1.c4
      have c2 := k2.c4
      go_wp2_with fail
      clear c1 c2
      refine (EB.out _).mono ?_
      rintro e W' ⟨rfl, hS⟩
      replace k1 := k1.kept hS
      replace k2 := k2.kept hS
      replace k3 := k3.kept hS
      replace hb := hb.trans (hS.mono hb.size)
      clear hS
      have c1 := k1.c4
      have c2 := k2.c4
      go_wp2_with fail
      clear c1 c2
      refine (EA.out _).mono ?_
      rintro e W' ⟨rfl, hS⟩
      replace k1 := k1.kept hS
      replace k2 := k2.kept hS
      replace k3 := k3.kept hS
      replace hb := hb.trans (hS.mono hb.size)
      clear hS
      have c1 := k1.c4
      have c2 := k2.c4
      have ce := k3.c4
      go_wp2_with fail
      exact end4 hb k3 (by omega) (fun w3 c3 => by simp [results, Try.results47, go_sem, c3]) rfl (fun w3 hb3 => ⟨by rw [HE.out]; rfl, hb3⟩)
  | false =>
    rw [ha] at EA HD
    have ga := rEmp_false ha
    cases hb0 : rEmp (bx, by_, bw, bh) with
    | true =>
      rw [hb0] at EB HD
      clear ha hb0 ga
      generalize rjoin (ax, ay, aw, ah) (bx, by_, bw, bh) = R at *
      have HE : Hid (R = (ax, ay, aw, ah)) := by show _ = _; exact HD.out
      clear HD
      go_enter Try.func47, Try.ntmps47
      go_upto_region 1 with (fail)
      refine name3 (fun W k1 k2 k3 hb => ?_)
      have c1 := k1.c4
      have c2 := k2.c4
      go_wp2_with fail
      clear c1 c2
      refine (EA.out _).mono ?_
      rintro e W' ⟨rfl, hS⟩
      replace k1 := k1.kept hS
      replace k2 := k2.kept hS
      replace k3 := k3.kept hS
      replace hb := hb.trans (hS.mono hb.size)
      clear hS
      have c1 := k1.c4
      have c2 := k2.c4
      go_wp2_with fail
      clear c1 c2
      refine (EA.out _).mono ?_
      rintro e W' ⟨rfl, hS⟩
      replace k1 := k1.kept hS
      replace k2 := k2.kept hS
      replace k3 := k3.kept hS
      replace hb := hb.trans (hS.mono hb.size)
      clear hS
      have c1 := k1.c4
      have c2 := k2.c4
      go_wp2_with fail
      clear c1 c2
      refine (EB.out _).mono ?_
      rintro e W' ⟨rfl, hS⟩
      replace k1 := k1.kept hS
      replace k2 := k2.kept hS
      replace k3 := k3.kept hS
      replace hb := hb.trans (hS.mono hb.size)
      clear hS
      have c1 := k1.c4
      have c2 := k2.c4
      have ce := k3.c4
      go_wp2_with fail
      exact end4 hb k3 (by omega) (fun w3 c3 => by simp [results, Try.results47, go_sem, c3]) rfl (fun w3 hb3 => ⟨by rw [HE.out]; rfl, hb3⟩)
    | false =>
      rw [hb0] at EB HD
      have gb := rEmp_false hb0
      simp only at ga gb
      have S1 := Lib.hid (fun w => refSpan0 ax ay aw ah w ha)
      have S2 := Lib.hid (fun w => refSpan1 ax ay aw ah w ha)
      have S3 := Lib.hid (fun w => refSpan0 bx by_ bw bh w hb0)
      have S4 := Lib.hid (fun w => refSpan1 bx by_ bw bh w hb0)
      have OFF := Lib.hid (fun w => refOf_in (min ax bx) (max (ax + aw - 1) (bx + bw - 1)) (min ay by_) (max (ay + ah - 1) (by_ + bh - 1)) w (by omega) (by omega) (by omega) (by omega))
      have HE0 := Lib.hid (rjoin_in ha hb0)
      have q1 : max (ax + aw - 1) (bx + bw - 1) - min ax bx + 1 = max (ax + aw) (bx + bw) - min ax bx := by omega
      have q2 : max (ay + ah - 1) (by_ + bh - 1) - min ay by_ + 1 = max (ay + ah) (by_ + bh) - min ay by_ := by omega
      rw [q1, q2] at OFF
      clear q1 q2
      clear ha hb0
      generalize rjoin (ax, ay, aw, ah) (bx, by_, bw, bh) = R at *
      have HE : Hid (R = (min ax bx, min ay by_, max (ax + aw) (bx + bw) - min ax bx, max (ay + ah) (by_ + bh) - min ay by_)) := by show _ = _; exact HE0.out
      clear HD HE0
      go_enter Try.func47, Try.ntmps47
      go_upto_region 1 with (fail)
      refine name3 (fun W k1 k2 k3 hb => ?_)
      have c1 := k1.c4
      have c2 := k2.c4
      go_wp2_with fail
      clear c1 c2
      refine (EA.out _).mono ?_
      rintro e W' ⟨rfl, hS⟩
      replace k1 := k1.kept hS
      replace k2 := k2.kept hS
      replace k3 := k3.kept hS
      replace hb := hb.trans (hS.mono hb.size)
      clear hS
      have c1 := k1.c4
      have c2 := k2.c4
      go_wp2_with fail
      clear c1 c2
      refine (EA.out _).mono ?_
      rintro e W' ⟨rfl, hS⟩
      replace k1 := k1.kept hS
      replace k2 := k2.kept hS
      replace k3 := k3.kept hS
      replace hb := hb.trans (hS.mono hb.size)
      clear hS
      have c1 := k1.c4
      have c2 := k2.c4
      go_wp2_with fail
      clear c1 c2
      refine (EB.out _).mono ?_
      rintro e W' ⟨rfl, hS⟩
      replace k1 := k1.kept hS
      replace k2 := k2.kept hS
      replace k3 := k3.kept hS
      replace hb := hb.trans (hS.mono hb.size)
      clear hS
      have c1 := k1.c4
      have c2 := k2.c4
      go_wp2_with fail
      clear c1 c2
      refine (S1.out _).mono ?_
      rintro e W' ⟨rfl, hS⟩
      replace k1 := k1.kept hS
      replace k2 := k2.kept hS
      replace k3 := k3.kept hS
      replace hb := hb.trans (hS.mono hb.size)
      clear hS
      have c1 := k1.c4
      have c2 := k2.c4
      go_wp2_with fail
      clear c1 c2
      refine (S2.out _).mono ?_
      rintro e W' ⟨rfl, hS⟩
      replace k1 := k1.kept hS
      replace k2 := k2.kept hS
      replace k3 := k3.kept hS
      replace hb := hb.trans (hS.mono hb.size)
      clear hS
      have c1 := k1.c4
      have c2 := k2.c4
      go_wp2_with fail
      clear c1 c2
      refine (S3.out _).mono ?_
      rintro e W' ⟨rfl, hS⟩
      replace k1 := k1.kept hS
      replace k2 := k2.kept hS
      replace k3 := k3.kept hS
      replace hb := hb.trans (hS.mono hb.size)
      clear hS
      have c1 := k1.c4
      have c2 := k2.c4
      go_wp2_with fail
      clear c1 c2
      refine (S4.out _).mono ?_
      rintro e W' ⟨rfl, hS⟩
      replace k1 := k1.kept hS
      replace k2 := k2.kept hS
      replace k3 := k3.kept hS
      replace hb := hb.trans (hS.mono hb.size)
      clear hS
      have c1 := k1.c4
      have c2 := k2.c4
      go_wp2_with fail
      clear c1 c2
      refine (OFF.out _).mono ?_
      rintro e W' ⟨rfl, hS⟩
      replace k1 := k1.kept hS
      replace k2 := k2.kept hS
      replace k3 := k3.kept hS
      replace hb := hb.trans (hS.mono hb.size)
      clear hS
      have ce := k3.c4
      go_wp2_with fail
      exact end4 hb k3 (by omega) (fun w3 c3 => by simp [results, Try.results47, go_sem, c3]) rfl (fun w3 hb3 => ⟨by rw [HE.out]; rfl, hb3⟩)

end Go.Proofs.Ytbndlidihhhnpaa
