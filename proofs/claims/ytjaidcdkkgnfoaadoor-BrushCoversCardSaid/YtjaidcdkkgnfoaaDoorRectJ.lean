/- Rectangles: Empty, between, Join, Meet (printed by genrectj.py). -/
import Derived.Test.YtjaidcdkkgnfoaaDoorRectPlain
import Derived.Lib.MinMax
import Derived.Deep.Cut
namespace Go.Proofs.YtjaidcdkkgnfoaaDoor
open Go.RowKit
set_option linter.unusedVariables false
attribute [local go_sem] Oper.gAt gUponK Oper.sAt stilK

set_option maxHeartbeats 1000000 in
theorem remp_any (x y wd ht : Int) (w : World) : Calls Tryd.prog 73 #[.agg #[.int .i64 x, .int .i64 y, .int .i64 wd, .int .i64 ht]] w fun e w' => e = .returned (.bool (rEmp (x, y, wd, ht))) ∧ Below w.heap.size w w' := by
  cases hv : rValid x y wd ht with
  | true =>
    have e : rEmp (x, y, wd, ht) = (wd == 0 || ht == 0) := by unfold rEmp rOk; simp only; rw [hv]; rfl
    rw [e]
    exact rempty_any x y wd ht w hv
  | false =>
    have e : rEmp (x, y, wd, ht) = true := by unfold rEmp rOk; simp only; rw [hv]; rfl
    rw [e]
    have V1 : Hid (∀ w, Calls Tryd.prog 77 #[.agg #[.int .i64 x, .int .i64 y, .int .i64 wd, .int .i64 ht]] w fun e w' => e = .returned (.bool false) ∧ Below w.heap.size w w') := fun w => by rw [← hv]; exact rvalid_any x y wd ht w
    clear hv e
    go_enter Tryd.func73, Tryd.ntmps73
    go_upto_region 1 with (fail)
    refine name1 (fun W k1 hb => ?_)
    have c1 := k1.c4
    go_wp2_with fail
    refine (V1.out _).mono ?_
    rintro e W1 ⟨rfl, hS⟩
    replace hb := hb.trans (hS.mono hb.size)
    go_wp2_with fail
    go_ret
    exact ⟨rfl, hb⟩

set_option maxHeartbeats 2000000 in
theorem rbetween_any (x0 y0 x1 y1 : Int) (w : World) : Calls Tryd.prog 74 #[.int .i64 x0, .int .i64 y0, .int .i64 x1, .int .i64 y1] w fun e w' => e = .returned (rvx (rbtw x0 y0 x1 y1)) ∧ Below w.heap.size w w' := by
  have HD : Hid (rbtw x0 y0 x1 y1 = if min x1 1048576 ≤ max x0 (-1048576) ∨ min y1 1048576 ≤ max y0 (-1048576) then r0 else (max x0 (-1048576), max y0 (-1048576), min x1 1048576 - max x0 (-1048576), min y1 1048576 - max y0 (-1048576))) := rfl
  generalize rbtw x0 y0 x1 y1 = R at *
  by_cases c1 : min x1 1048576 ≤ max x0 (-1048576)
  · have HE : Hid (R = r0) := by show _ = _; rw [HD.out, if_pos (.inl c1)]
    have g1 : decide (min x1 1048576 ≤ max x0 (-1048576)) = true := decide_eq_true c1
    clear c1 HD
    go_enter Tryd.func74, Tryd.ntmps74
    go_upto_region 1 with (fail)
    refine name1 (fun W k1 hb => ?_)
    have c1 := k1.c4
    go_wp2_with fail
    exact end4 hb k1 (by omega) (fun w3 c3 => by simp [results, Tryd.results74, go_sem, c3]) rfl (fun w3 hb3 => ⟨by rw [HE.out]; rfl, hb3⟩)
  · have g1 : decide (min x1 1048576 ≤ max x0 (-1048576)) = false := decide_eq_false c1
    by_cases c2 : min y1 1048576 ≤ max y0 (-1048576)
    · have HE : Hid (R = r0) := by show _ = _; rw [HD.out, if_pos (.inr c2)]
      have g2 : decide (min y1 1048576 ≤ max y0 (-1048576)) = true := decide_eq_true c2
      clear c1 c2 HD
      go_enter Tryd.func74, Tryd.ntmps74
      go_upto_region 1 with (fail)
      refine name1 (fun W k1 hb => ?_)
      have c1 := k1.c4
      go_wp2_with fail
      exact end4 hb k1 (by omega) (fun w3 c3 => by simp [results, Tryd.results74, go_sem, c3]) rfl (fun w3 hb3 => ⟨by rw [HE.out]; rfl, hb3⟩)
    · have HE : Hid (R = (max x0 (-1048576), max y0 (-1048576), min x1 1048576 - max x0 (-1048576), min y1 1048576 - max y0 (-1048576))) := by show _ = _; rw [HD.out, if_neg (by omega)]
      have g2 : decide (min y1 1048576 ≤ max y0 (-1048576)) = false := decide_eq_false c2
      have m1 : IntKind.i64.wrap (min x1 1048576 - max x0 (-1048576)) = min x1 1048576 - max x0 (-1048576) := IntWalk.i64_in _ (by omega)
      have m2 : IntKind.i64.wrap (min y1 1048576 - max y0 (-1048576)) = min y1 1048576 - max y0 (-1048576) := IntWalk.i64_in _ (by omega)
      clear c1 c2 HD
      go_enter Tryd.func74, Tryd.ntmps74
      go_upto_region 1 with (fail)
      refine name1 (fun W k1 hb => ?_)
      have c1 := k1.c4
      go_wp2_with fail
      exact end4 hb k1 (by omega) (fun w3 c3 => by simp [results, Tryd.results74, go_sem, c3]) rfl (fun w3 hb3 => ⟨by rw [HE.out]; rfl, hb3⟩)



set_option maxRecDepth 20000 in
set_option maxHeartbeats 4000000 in
theorem rmeet_any (ax ay aw ah bx by_ bw bh : Int) (w : World) : Calls Tryd.prog 37 #[.agg #[.int .i64 ax, .int .i64 ay, .int .i64 aw, .int .i64 ah], .agg #[.int .i64 bx, .int .i64 by_, .int .i64 bw, .int .i64 bh]] w fun e w' => e = .returned (rvx (rmeet (ax, ay, aw, ah) (bx, by_, bw, bh))) ∧ Below w.heap.size w w' := by
  have EA := Lib.hid (fun w => remp_any ax ay aw ah w)
  have EB := Lib.hid (fun w => remp_any bx by_ bw bh w)
  have HD : Hid (rmeet (ax, ay, aw, ah) (bx, by_, bw, bh) = if rEmp (ax, ay, aw, ah) = true then r0 else if rEmp (bx, by_, bw, bh) = true then r0 else rbtw (max ax bx) (max ay by_) (min (ax + aw) (bx + bw)) (min (ay + ah) (by_ + bh))) := rfl
  cases ha : rEmp (ax, ay, aw, ah) with
  | true =>
    rw [ha] at EA HD
    cases hb0 : rEmp (bx, by_, bw, bh) with
    | true =>
      rw [hb0] at EB HD
      clear ha hb0
      generalize rmeet (ax, ay, aw, ah) (bx, by_, bw, bh) = R at *
      have HE : Hid (R = r0) := by show _ = _; exact HD.out
      clear HD
      go_enter Tryd.func37, Tryd.ntmps37
      go_upto_region 1 with (fail)
      refine name3 (fun W k1 k2 k3 hb => ?_)
      have c1 := k1.c4
      have c2 := k2.c4
      go_wp2_with fail
      clear c1 c2
      refine (EA.out _).mono ?_
      rintro e W' ⟨rfl, hS⟩
      replace k1 := k1.kept hS
      replace k2 := k2.kept hS
      replace k3 := k3.kept hS
      replace hb := hb.trans (hS.mono hb.size)
      clear hS
      have c1 := k1.c4
      have c2 := k2.c4
      have ce := k3.c4
      go_wp2_with fail
      exact end4 hb k3 (by omega) (fun w3 c3 => by simp [results, Tryd.results37, go_sem, c3]) rfl (fun w3 hb3 => ⟨by rw [HE.out]; rfl, hb3⟩)
    | false =>
      rw [hb0] at EB HD
      clear ha hb0
      generalize rmeet (ax, ay, aw, ah) (bx, by_, bw, bh) = R at *
      have HE : Hid (R = r0) := by show _ = _; exact HD.out
      clear HD
      go_enter Tryd.func37, Tryd.ntmps37
      go_upto_region 1 with (fail)
      refine name3 (fun W k1 k2 k3 hb => ?_)
      have c1 := k1.c4
      have c2 := k2.c4
      go_wp2_with fail
      clear c1 c2
      refine (EA.out _).mono ?_
      rintro e W' ⟨rfl, hS⟩
      replace k1 := k1.kept hS
      replace k2 := k2.kept hS
      replace k3 := k3.kept hS
      replace hb := hb.trans (hS.mono hb.size)
      clear hS
      have c1 := k1.c4
      have c2 := k2.c4
      have ce := k3.c4
      go_wp2_with fail
      exact end4 hb k3 (by omega) (fun w3 c3 => by simp [results, Tryd.results37, go_sem, c3]) rfl (fun w3 hb3 => ⟨by rw [HE.out]; rfl, hb3⟩)
  | false =>
    rw [ha] at EA HD
    have ga := rEmp_false ha
    cases hb0 : rEmp (bx, by_, bw, bh) with
    | true =>
      rw [hb0] at EB HD
      clear ha hb0 ga
      generalize rmeet (ax, ay, aw, ah) (bx, by_, bw, bh) = R at *
      have HE : Hid (R = r0) := by show _ = _; exact HD.out
      clear HD
      go_enter Tryd.func37, Tryd.ntmps37
      go_upto_region 1 with (fail)
      refine name3 (fun W k1 k2 k3 hb => ?_)
      have c1 := k1.c4
      have c2 := k2.c4
      go_wp2_with fail
      clear c1 c2
      refine (EA.out _).mono ?_
      rintro e W' ⟨rfl, hS⟩
      replace k1 := k1.kept hS
      replace k2 := k2.kept hS
      replace k3 := k3.kept hS
      replace hb := hb.trans (hS.mono hb.size)
      clear hS
      have c1 := k1.c4
      have c2 := k2.c4
      go_wp2_with fail
      clear c1 c2
      refine (EB.out _).mono ?_
      rintro e W' ⟨rfl, hS⟩
      replace k1 := k1.kept hS
      replace k2 := k2.kept hS
      replace k3 := k3.kept hS
      replace hb := hb.trans (hS.mono hb.size)
      clear hS
      have c1 := k1.c4
      have c2 := k2.c4
      have ce := k3.c4
      go_wp2_with fail
      exact end4 hb k3 (by omega) (fun w3 c3 => by simp [results, Tryd.results37, go_sem, c3]) rfl (fun w3 hb3 => ⟨by rw [HE.out]; rfl, hb3⟩)
    | false =>
      rw [hb0] at EB HD
      have gb := rEmp_false hb0
      simp only at ga gb
      have BT := Lib.hid (fun w => rbetween_any (max ax bx) (max ay by_) (min (ax + aw) (bx + bw)) (min (ay + ah) (by_ + bh)) w)
      clear ha hb0
      generalize rmeet (ax, ay, aw, ah) (bx, by_, bw, bh) = R at *
      have HE : Hid (R = rbtw (max ax bx) (max ay by_) (min (ax + aw) (bx + bw)) (min (ay + ah) (by_ + bh))) := by show _ = _; exact HD.out
      clear HD
      generalize rbtw (max ax bx) (max ay by_) (min (ax + aw) (bx + bw)) (min (ay + ah) (by_ + bh)) = Q at *
      obtain ⟨q0, q1, q2, q3⟩ := Q
      replace BT : Hid (∀ w, Calls Tryd.prog 74 #[.int .i64 (max ax bx), .int .i64 (max ay by_), .int .i64 (min (ax + aw) (bx + bw)), .int .i64 (min (ay + ah) (by_ + bh))] w fun e w' => e = .returned (.agg #[.int .i64 q0, .int .i64 q1, .int .i64 q2, .int .i64 q3]) ∧ Below w.heap.size w w') := BT
      go_enter Tryd.func37, Tryd.ntmps37
      go_upto_region 1 with (fail)
      refine name3 (fun W k1 k2 k3 hb => ?_)
      have c1 := k1.c4
      have c2 := k2.c4
      go_wp2_with fail
      clear c1 c2
      refine (EA.out _).mono ?_
      rintro e W' ⟨rfl, hS⟩
      replace k1 := k1.kept hS
      replace k2 := k2.kept hS
      replace k3 := k3.kept hS
      replace hb := hb.trans (hS.mono hb.size)
      clear hS
      have c1 := k1.c4
      have c2 := k2.c4
      go_wp2_with fail
      clear c1 c2
      refine (EB.out _).mono ?_
      rintro e W' ⟨rfl, hS⟩
      replace k1 := k1.kept hS
      replace k2 := k2.kept hS
      replace k3 := k3.kept hS
      replace hb := hb.trans (hS.mono hb.size)
      clear hS
      have c1 := k1.c4
      have c2 := k2.c4
      go_wp2_with fail
      clear c1 c2
      refine (BT.out _).mono ?_
      rintro e W' ⟨rfl, hS⟩
      replace k1 := k1.kept hS
      replace k2 := k2.kept hS
      replace k3 := k3.kept hS
      replace hb := hb.trans (hS.mono hb.size)
      clear hS
      have ce := k3.c4
      go_wp2_with fail
      exact end4 hb k3 (by omega) (fun w3 c3 => by simp [results, Tryd.results37, go_sem, c3]) rfl (fun w3 hb3 => ⟨by rw [HE.out]; rfl, hb3⟩)

end Go.Proofs.YtjaidcdkkgnfoaaDoor

