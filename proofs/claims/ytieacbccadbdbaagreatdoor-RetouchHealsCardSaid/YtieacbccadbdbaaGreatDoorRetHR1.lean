/- imageeditorref29: values, border, inside; imageeditorref02.Within of a rectangle with pixels, in an image. -/
import Derived.Test.YtieacbccadbdbaaGreatDoorLRetB
import Derived.Test.YtieacbccadbdbaaGreatDoorLRetB
import Derived.Test.YtieacbccadbdbaaGreatDoorLRetB
import Derived.Test.YtieacbccadbdbaaGreatDoorHasR
import Derived.Deep.Cut
namespace Go.Proofs.YtieacbccadbdbaaGreatDoor
open Go.RowKit
set_option linter.unusedVariables false
attribute [local go_sem] Oper.gAt gUponK Oper.sAt stilK

set_option maxHeartbeats 2000000 in
theorem refValues_any (p : Px) (w : World) (hp : cl p.2.2.2 = p.2.2.2) :
    Calls Tryz.prog 56 #[pvx p] w fun e w' => e = .returned (pvx (prP p)) ∧ Below w.heap.size w w' := by
  have PP := Lib.hid (fun w => refPrex_any p w)
  have h4 : (prP p).2.2.2 = p.2.2.2 := hp
  generalize prP p = q at *
  obtain ⟨p0, p1, p2, p3⟩ := p
  obtain ⟨q0, q1, q2, q3⟩ := q
  simp only at h4
  subst h4
  clear hp
  replace PP : Hid (∀ w, Calls Tryz.prog 95 #[pv p0 p1 p2 q3] w fun e w' => e = .returned (pv q0 q1 q2 q3) ∧ Below w.heap.size w w') := PP
  show Calls _ _ #[pv p0 p1 p2 q3] w fun e w' => e = .returned (pv q0 q1 q2 q3) ∧ _
  go_enter Tryz.func56, Tryz.ntmps56
  go_upto_region 1 with (fail)
  refine name2 (fun W k1 k2 hb => ?_)
  have c1 := k1.c4
  go_wp2_with fail
  clear c1
  refine (PP.out _).mono ?_
  rintro e W1 ⟨rfl, hS⟩
  replace k1 := k1.kept hS
  replace k2 := k2.kept hS
  replace hb := hb.trans (hS.mono hb.size)
  clear hS
  go_upto_region 2 with (fail)
  refine name1 (fun W2 k3 hS => ?_)
  replace k1 := k1.kept hS
  replace k2 := k2.kept hS
  replace hb := hb.trans (hS.mono hb.size)
  clear hS
  have c1 := k1.c4
  have c2 := k2.c4
  have c3 := k3.c4
  go_wp2_with fail
  exact end4 hb k2 (by omega) (fun w3 c3 => by simp [results, Tryz.results56, go_sem, c3]) rfl (fun w3 hb3 => ⟨rfl, hb3⟩)

/-- A pixel of a rectangle is on its border. -/
def brdB (x y w h : Int) : Bool := decide (x = 0 ∨ y = 0 ∨ x = w - 1 ∨ y = h - 1)
theorem brdB_on (w h k : Nat) (hw : 1 ≤ w) (hh : 1 ≤ h) : brdB ((k % w : Nat) : Int) ((k / w : Nat) : Int) (w : Int) (h : Int) = onBorder w h k := by
  unfold brdB onBorder
  exact decide_eq_decide.2 (by omega)
theorem brdB_xy (w h x y : Nat) (hx : x < w) (hh : 1 ≤ h) : brdB (x : Int) (y : Int) (w : Int) (h : Int) = onBorder w h (y * w + x) := by
  rw [brd_xy hx]
  unfold brdB
  exact decide_eq_decide.2 (by omega)
set_option maxHeartbeats 2000000 in
theorem refBorder_any (x y W H : Int) (w : World) (hW : -1000 ≤ W ∧ W ≤ 1000) (hH : -1000 ≤ H ∧ H ≤ 1000) :
    Calls Tryz.prog 55 #[.int .i64 x, .int .i64 y, .int .i64 W, .int .i64 H] w fun e w' => e = .returned (.bool (brdB x y W H)) ∧ w = w' := by
  have e1 : IntKind.i64.wrap (W - 1) = W - 1 := IntWalk.i64_in _ (by omega)
  have e2 : IntKind.i64.wrap (H - 1) = H - 1 := IntWalk.i64_in _ (by omega)
  have c : x = 0 ∨ (x ≠ 0 ∧ y = 0) ∨ (x ≠ 0 ∧ y ≠ 0 ∧ x = W - 1) ∨ (x ≠ 0 ∧ y ≠ 0 ∧ x ≠ W - 1 ∧ y = H - 1) ∨ (x ≠ 0 ∧ y ≠ 0 ∧ x ≠ W - 1 ∧ y ≠ H - 1) := by omega
  clear hW hH
  rcases c with c1 | ⟨c1, c2⟩ | ⟨c1, c2, c3⟩ | ⟨c1, c2, c3, c4⟩ | ⟨c1, c2, c3, c4⟩
  · have HE : Hid (brdB x y W H = true) := decide_eq_true (.inl c1)
    rw [HE.out]
    have b1 : (x == 0) = true := by simpa using c1
    clear c1
    go_enter Tryz.func55, Tryz.ntmps55
    go_wp2_with fail
    go_ret
    exact ⟨rfl, rfl⟩
  · have HE : Hid (brdB x y W H = true) := decide_eq_true (.inr (.inl c2))
    rw [HE.out]
    have b1 : (x == 0) = false := by simpa using c1
    have b2 : (y == 0) = true := by simpa using c2
    clear c1 c2
    go_enter Tryz.func55, Tryz.ntmps55
    go_wp2_with fail
    go_ret
    exact ⟨rfl, rfl⟩
  · have HE : Hid (brdB x y W H = true) := decide_eq_true (.inr (.inr (.inl c3)))
    rw [HE.out]
    have b1 : (x == 0) = false := by simpa using c1
    have b2 : (y == 0) = false := by simpa using c2
    have b3 : (x == W - 1) = true := by simpa using c3
    clear c1 c2 c3
    go_enter Tryz.func55, Tryz.ntmps55
    go_wp2_with fail
    go_ret
    exact ⟨rfl, rfl⟩
  · have HE : Hid (brdB x y W H = true) := decide_eq_true (.inr (.inr (.inr c4)))
    rw [HE.out]
    have b1 : (x == 0) = false := by simpa using c1
    have b2 : (y == 0) = false := by simpa using c2
    have b3 : (x == W - 1) = false := by simpa using c3
    have b4 : (y == H - 1) = true := by simpa using c4
    clear c1 c2 c3 c4
    go_enter Tryz.func55, Tryz.ntmps55
    go_wp2_with fail
    go_ret
    exact ⟨rfl, rfl⟩
  · have HE : Hid (brdB x y W H = false) := decide_eq_false (fun h => by omega)
    rw [HE.out]
    have b1 : (x == 0) = false := by simpa using c1
    have b2 : (y == 0) = false := by simpa using c2
    have b3 : (x == W - 1) = false := by simpa using c3
    have b4 : (y == H - 1) = false := by simpa using c4
    clear c1 c2 c3 c4
    go_enter Tryz.func55, Tryz.ntmps55
    go_wp2_with fail
    go_ret
    exact ⟨rfl, rfl⟩

set_option maxHeartbeats 4000000 in
theorem refWithin_any (ax ay aw ah W H : Int) (w : World) (ha : rEmp (ax, ay, aw, ah) = false) (hW : 0 ≤ W ∧ W ≤ 256) (hH : 0 ≤ H ∧ H ≤ 256) :
    Calls Tryz.prog 94 #[.agg #[.int .i64 ax, .int .i64 ay, .int .i64 aw, .int .i64 ah], .agg #[.int .i64 0, .int .i64 0, .int .i64 W, .int .i64 H]] w fun e w' => e = .returned (.bool (witB ax ay aw ah W H)) ∧ Below w.heap.size w w' := by
  have g := rEmp_false ha
  simp only at g
  have EA : Hid (∀ w, Calls Tryz.prog 52 #[.agg #[.int .i64 ax, .int .i64 ay, .int .i64 aw, .int .i64 ah]] w fun e w' => e = .returned (.bool false) ∧ Below w.heap.size w w') := fun w => by rw [← ha]; exact refRemp_any ax ay aw ah w
  have SX := Lib.hid (fun w => refSpan0 ax ay aw ah w ha)
  have SY := Lib.hid (fun w => refSpan1 ax ay aw ah w ha)
  have hv : rValid 0 0 W H = true := by unfold rValid rSpan; simp; omega
  have HA := Lib.hid (fun w => refHas_any 0 0 W H ax ay w hv)
  have HB := Lib.hid (fun w => refHas_any 0 0 W H (ax + aw - 1) (ay + ah - 1) w hv)
  have hE : witB ax ay aw ah W H = (hasB 0 0 W H ax ay && hasB 0 0 W H (ax + aw - 1) (ay + ah - 1)) := by
    unfold witB hasB
    rw [← Bool.decide_and]
    exact decide_eq_decide.2 (by omega)
  rw [hE]
  clear ha hv g hE hW hH
  generalize hasB 0 0 W H ax ay = b1 at *
  generalize hasB 0 0 W H (ax + aw - 1) (ay + ah - 1) = b2 at *
  generalize ax + aw - 1 = x1 at *
  generalize ay + ah - 1 = y1 at *
  cases b1
  all_goals
    go_enter Tryz.func94, Tryz.ntmps94
    go_upto_region 1 with (fail)
    refine name2 (fun W1 k1 k2 hb => ?_)
    have c1 := k1.c4
    go_wp2_with fail
    clear c1
    refine (EA.out _).mono ?_
    rintro e W2 ⟨rfl, hS⟩
    replace k1 := k1.kept hS
    replace k2 := k2.kept hS
    replace hb := hb.trans (hS.mono hb.size)
    clear hS
    have c1 := k1.c4
    go_wp2_with fail
    clear c1
    refine (SX.out _).mono ?_
    rintro e W3 ⟨rfl, hS⟩
    replace k1 := k1.kept hS
    replace k2 := k2.kept hS
    replace hb := hb.trans (hS.mono hb.size)
    clear hS
    have c1 := k1.c4
    go_wp2_with fail
    clear c1
    refine (SY.out _).mono ?_
    rintro e W4 ⟨rfl, hS⟩
    replace k1 := k1.kept hS
    replace k2 := k2.kept hS
    replace hb := hb.trans (hS.mono hb.size)
    clear hS
    have c2 := k2.c4
    go_wp2_with fail
    clear c2
    refine (HA.out _).mono ?_
    rintro e W5 ⟨rfl, hS⟩
    replace k2 := k2.kept hS
    replace hb := hb.trans (hS.mono hb.size)
    clear hS
  · go_wp2_with fail
    go_ret
    exact ⟨rfl, hb⟩
  · have c2 := k2.c4
    go_wp2_with fail
    clear c2
    refine (HB.out _).mono ?_
    rintro e W6 ⟨rfl, hS⟩
    replace hb := hb.trans (hS.mono hb.size)
    go_wp2_with fail
    go_ret
    exact ⟨ret_bool (by simp), hb⟩

set_option maxHeartbeats 2000000 in
theorem refInside_any (ax ay aw ah W H : Int) (a : Option Addr) (n c : Nat) (w : World) (ha : rEmp (ax, ay, aw, ah) = false) (hW : 0 ≤ W ∧ W ≤ 256) (hH : 0 ≤ H ∧ H ≤ 256) :
    Calls Tryz.prog 53 #[.agg #[.int .i64 ax, .int .i64 ay, .int .i64 aw, .int .i64 ah], .agg #[.int .i64 W, .int .i64 H, .slice a n c]] w fun e w' => e = .returned (.bool (witB ax ay aw ah W H)) ∧ Below w.heap.size w w' := by
  have WI := Lib.hid (fun w => refWithin_any ax ay aw ah W H w ha hW hH)
  clear ha hW hH
  generalize witB ax ay aw ah W H = b at *
  go_enter Tryz.func53, Tryz.ntmps53
  go_upto_region 1 with (fail)
  refine name2 (fun W1 k1 k2 hb => ?_)
  have c1 := k1.c4
  have c2 := k2.c3
  go_wp2_with fail
  clear c1 c2
  refine (WI.out _).mono ?_
  rintro e W2 ⟨rfl, hS⟩
  replace hb := hb.trans (hS.mono hb.size)
  go_wp2_with fail
  go_ret
  exact ⟨rfl, hb⟩
end Go.Proofs.YtieacbccadbdbaaGreatDoor

