/- What Heal leaves as it was, plainly; rect.Grow by the program. -/
import Derived.Test.YtieacbccadbdbaaDoorOutP
import Derived.Test.YtieacbccadbdbaaDoorRetW
import Derived.Lib.MinMax
namespace Go.Proofs.YtieacbccadbdbaaDoor
open Go.RowKit
set_option linter.unusedVariables false
attribute [local go_sem] Oper.gAt gUponK Oper.sAt stilK

/-- The inside of the rectangle. -/
def inR4 (X Y w h : Int) : R4 := rbtw (X + 1) (Y + 1) (X + w - 1) (Y + h - 1)
theorem inH_has {W w h X Y k : Nat} (hX : X + w ≤ 256) (hY : Y + h ≤ 256) (hi : inH W w h X Y k) : hasP (inR4 X Y w h).1 (inR4 X Y w h).2.1 (inR4 X Y w h).2.2.1 (inR4 X Y w h).2.2.2 ((k % W : Nat) : Int) ((k / W : Nat) : Int) = true := by
  unfold inH at hi
  have e1 : rlo ((X : Int) + 1) = (X : Int) + 1 := by unfold rlo; omega
  have e2 : rlo ((Y : Int) + 1) = (Y : Int) + 1 := by unfold rlo; omega
  have e3 : rhi ((X : Int) + w - 1) = (X : Int) + w - 1 := by unfold rhi; omega
  have e4 : rhi ((Y : Int) + h - 1) = (Y : Int) + h - 1 := by unfold rhi; omega
  unfold inR4 rbtw
  rw [e1, e2, e3, e4, if_neg (by omega)]
  unfold hasP
  simp only
  refine decide_eq_true ?_
  generalize k % W = a at *
  generalize k / W = b at *
  omega
theorem heal_out_at (W w h X Y SX SY : Nat) (sw : Int) (zs : List Int) (ps : List Px) (k : Nat) (hX : X + w ≤ 256) (hY : Y + h ≤ 256) (hk : k < ps.length)
    (hn : (sw ≠ 0 ∧ zs.getD k 0 = 0) ∨ hasP (inR4 X Y w h).1 (inR4 X Y w h).2.1 (inR4 X Y w h).2.2.1 (inR4 X Y w h).2.2.2 ((k % W : Nat) : Int) ((k / W : Nat) : Int) = false) : pxAt (heals W w h X Y SX SY sw zs ps) k = pxAt ps k := by
  rw [heals_at _ _ _ _ _ _ _ _ _ _ _ hk]
  rcases hn with ⟨h1, h2⟩ | hn
  · exact healAt_sel (selK_zero h1 h2)
  · exact healAt_out (fun hi => by rw [inH_has hX hY hi] at hn; cases hn)

set_option maxHeartbeats 2000000 in
set_option maxRecDepth 100000 in
theorem growIn_go (x y wd ht n : Int) (w : World) (ha : rEmp (x, y, wd, ht) = false) (hn : n = -1) :
    Calls Tryd.prog 12 #[.agg #[.int .i64 x, .int .i64 y, .int .i64 wd, .int .i64 ht], .int .i64 n] w fun e w' => e = .returned (rvx (inR4 x y wd ht)) ∧ Below w.heap.size w w' := by
  obtain ⟨g1, g2⟩ := rEmp_false ha
  simp only at g1 g2
  have EA : Hid (∀ w, Calls Tryd.prog 33 #[.agg #[.int .i64 x, .int .i64 y, .int .i64 wd, .int .i64 ht]] w fun e w' => e = .returned (.bool false) ∧ Below w.heap.size w w') := fun w => by rw [← ha]; exact remp_any x y wd ht w
  have BT := Lib.hid (fun w => rbetween_any (x + 1) (y + 1) (x + wd - 1) (y + ht - 1) w)
  rw [show rbtw (x + 1) (y + 1) (x + wd - 1) (y + ht - 1) = inR4 x y wd ht from rfl] at BT
  generalize inR4 x y wd ht = r at *
  obtain ⟨r0, r1, r2, r3⟩ := r
  obtain ⟨x1, hx1⟩ : ∃ x1, x + 1 = x1 := ⟨_, rfl⟩
  obtain ⟨y1, hy1⟩ : ∃ y1, y + 1 = y1 := ⟨_, rfl⟩
  obtain ⟨x2, hx2⟩ : ∃ x2, x + wd - 1 = x2 := ⟨_, rfl⟩
  obtain ⟨y2, hy2⟩ : ∃ y2, y + ht - 1 = y2 := ⟨_, rfl⟩
  rw [hx1, hy1, hx2, hy2] at BT
  replace BT : Hid (∀ w, Calls Tryd.prog 41 #[.int .i64 x1, .int .i64 y1, .int .i64 x2, .int .i64 y2] w fun e w' => e = .returned (.agg #[.int .i64 r0, .int .i64 r1, .int .i64 r2, .int .i64 r3]) ∧ Below w.heap.size w w') := BT
  show Calls _ _ _ w fun e w' => e = .returned (.agg #[.int .i64 r0, .int .i64 r1, .int .i64 r2, .int .i64 r3]) ∧ _
  have m1 : max n (-4194304) = n := by omega
  have m2 : min n 4194304 = n := by omega
  obtain ⟨xw, hxw⟩ : ∃ xw, x + wd = xw := ⟨_, rfl⟩
  obtain ⟨yh, hyh⟩ : ∃ yh, y + ht = yh := ⟨_, rfl⟩
  have e1 : IntKind.i64.wrap (x - n) = x1 := by rw [show x - n = x1 by omega]; exact IntWalk.i64_in _ (by omega)
  have e2 : IntKind.i64.wrap (y - n) = y1 := by rw [show y - n = y1 by omega]; exact IntWalk.i64_in _ (by omega)
  have e3 : IntKind.i64.wrap (x + wd) = xw := by rw [hxw]; exact IntWalk.i64_in _ (by omega)
  have e4 : IntKind.i64.wrap (xw + n) = x2 := by rw [show xw + n = x2 by omega]; exact IntWalk.i64_in _ (by omega)
  have e5 : IntKind.i64.wrap (y + ht) = yh := by rw [hyh]; exact IntWalk.i64_in _ (by omega)
  have e6 : IntKind.i64.wrap (yh + n) = y2 := by rw [show yh + n = y2 by omega]; exact IntWalk.i64_in _ (by omega)
  clear ha g1 g2 hn hx1 hy1 hx2 hy2 hxw hyh
  go_enter Tryd.func12, Tryd.ntmps12
  go_upto_region 1 with (fail)
  refine name2 (fun W1 k1 k2 hb => ?_)
  have c1 := k1.c4
  go_wp2_with fail
  clear c1
  refine (EA.out _).mono ?_
  rintro e W2 ⟨rfl, hS⟩
  replace k1 := k1.kept hS
  replace k2 := k2.kept hS
  replace hb := hb.trans (hS.mono hb.size)
  clear hS
  have c1 := k1.c4
  go_wp2_with fail
  clear c1
  refine (BT.out _).mono ?_
  rintro e W3 ⟨rfl, hS⟩
  replace k2 := k2.kept hS
  replace hb := hb.trans (hS.mono hb.size)
  have c2 := k2.c4
  go_wp2_with fail
  exact end4 hb k2 (by omega) (fun w3 c3 => by simp [results, Tryd.results12, go_sem, c3]) rfl (fun w3 hb3 => ⟨rfl, hb3⟩)
theorem growIn_any (x y wd ht : Int) (w : World) (ha : rEmp (x, y, wd, ht) = false) :
    Calls Tryd.prog 12 #[.agg #[.int .i64 x, .int .i64 y, .int .i64 wd, .int .i64 ht], .int .i64 (-1)] w fun e w' => e = .returned (rvx (inR4 x y wd ht)) ∧ Below w.heap.size w w' := growIn_go x y wd ht (-1) w ha rfl
end Go.Proofs.YtieacbccadbdbaaDoor

