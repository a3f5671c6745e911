/- The reference of package brush: the dab of a sample, the distance to the next one, the sample between two samples (printed by genbrdab.py). -/
import Derived.Test.YtieacbccadbdbaaGreatDoorLBru
import Derived.Test.YtieacbccadbdbaaGreatDoorLDyn
import Derived.Test.YtieacbccadbdbaaGreatDoorLNum
import Derived.Test.YtieacbccadbdbaaGreatDoorLHyp
import Derived.Lib.MinMax
import Derived.Deep.Cut
import Derived.Test.YtieacbccadbdbaaGreatDoorLBrD
import Derived.Test.YtieacbccadbdbaaGreatDoorLNum
namespace Go.Proofs.YtieacbccadbdbaaGreatDoor
open Go.RowKit
set_option linter.unusedVariables false
attribute [local go_sem] Oper.gAt gUponK Oper.sAt stilK


set_option maxRecDepth 20000 in
set_option maxHeartbeats 8000000 in
theorem refDabOf_any (B : Bru) (u : Value) (s : Smp) (speed index : Int) (w : World) (hD : Dn w u B.ds) (hB : BruOk B) (hx : -67108864 ≤ s.x ∧ s.x ≤ 67108864) (hy : -67108864 ≤ s.y ∧ s.y ≤ 67108864) :
    Calls Tryz.prog 104 #[brv B u, svx s, .int .i64 speed, .int .i64 index] w fun e w' => e = .returned (dbv (dabOf B s speed index)) ∧ Below w.heap.size w w' := by
  have HD := Lib.hid hD
  obtain ⟨a, cap, rfl, _, _⟩ := hD
  obtain ⟨hz, _, hc⟩ := hB
  have C : Hid (∀ target w, Dn w (.slice a B.ds.length cap) B.ds → Calls Tryz.prog 146 #[.slice a B.ds.length cap, .int .i64 target, svx s, .int .i64 speed, .int .i64 index, .int .i64 B.sd] w fun e w' => e = .returned (.int .i64 (bval B s speed index target)) ∧ Below w.heap.size w w') := fun target w h => refDynValue_any _ B.ds target s.x s.y s.p s.t s.m speed index B.sd w h
  have C1 := Lib.hid (C.out 1)
  have C2 := Lib.hid (C.out 2)
  have C3 := Lib.hid (C.out 3)
  have C4 := Lib.hid (C.out 4)
  clear C
  have b1 := bval_bd B s speed index 1
  have b2 := bval_bd B s speed index 2
  have b3 := bval_bd B s speed index 3
  have b4 := bval_bd B s speed index 4
  have DE := Lib.hid (dabOf_def B s speed index)
  generalize bval B s speed index 1 = v1 at *
  generalize bval B s speed index 2 = v2 at *
  generalize bval B s speed index 3 = v3 at *
  generalize bval B s speed index 4 = v4 at *
  have HE := Lib.hid (DE.out _ _ _ _ _ _ rfl rfl rfl rfl rfl rfl)
  clear DE
  generalize dabOf B s speed index = R at *
  have i1 := bsz_in B.sz v1 hz b1
  have i2 := bsz_bd B.sz v1 hz b1
  have D1 : Hid (∀ w, Calls Tryz.prog 67 #[.int .i64 (B.sz * v1), .int .i64 65535] w fun e w' => e = .returned (.int .i64 (dv (B.sz * v1) 65535)) ∧ Below w.heap.size w w') := fun w => refDiv_new _ _ w (by omega) (by omega) (by omega) (by omega)
  have m1 : IntKind.i64.wrap (B.sz * v1) = B.sz * v1 := IntWalk.i64_in _ (by omega)
  have HZ : Hid (max 1 (dv (B.sz * v1) 65535) = bsz B.sz v1) := rfl
  generalize hn : B.ds.length = n at *
  have HN := Lib.hid hn
  clear hn
  go_enter Tryz.func104, Tryz.ntmps104
  go_upto_region 1 with (fail)
  refine name3 (fun W k0 k1 k4 hb => ?_)
  refine wp_region_grow 14 (fun w' => Below (World.heap W).size W w') (by kernel_rfl) (by kernel_rfl) (Below.refl _ _).drew ?_
  simp only [List.take_succ_cons, List.take_zero, List.drop_succ_cons, List.drop_zero]
  repeat (first | (apply wpG_on; rfl; (intro w' hS K hK; have hc0 := (k0.kept hS).c16; have hc1 := (k1.kept hS).c5; have hc2 := (k4.kept hS).c5; go_simp; (first | exact hK.out _ hS | (go_at_call 146; (with_reducible refine (C1.out _ (HD.out.kept (hb.trans (hS.mono hb.size)))).mono ?_); rintro e w'' ⟨rfl, hbb⟩; exact ⟨_, rfl, hK.out _ (hS.trans (hbb.mono hS.size))⟩) | (go_at_call 67; (with_reducible refine (D1.out _).mono ?_); rintro e w'' ⟨rfl, hbb⟩; exact ⟨_, rfl, hK.out _ (hS.trans (hbb.mono hS.size))⟩))); simp only [Act.put, List.setIfInBounds_toArray, List.set_cons_succ, List.set_cons_zero]) | (apply wpG_off; rfl; simp only [Act.put, List.setIfInBounds_toArray, List.set_cons_succ, List.set_cons_zero]))
  apply wpG_nil
  intro W1 hS
  replace k0 := k0.kept hS
  replace k1 := k1.kept hS
  replace k4 := k4.kept hS
  replace hb := hb.trans (hS.mono hb.size)
  clear hS
  rw [HZ.out]
  clear HZ D1 m1 i1 C1
  have i3 := bsc_in (bsz B.sz v1) B.sc v4 i2 hc b4
  have i4 := bsc_bd (bsz B.sz v1) B.sc v4 i2 hc b4
  have HM : Hid (dv (dv (bsz B.sz v1 * B.sc) 100 * v4) 65535 = bsc (bsz B.sz v1) B.sc v4) := rfl
  generalize bsz B.sz v1 = z at *
  have D2 : Hid (∀ w, Calls Tryz.prog 67 #[.int .i64 (z * B.sc), .int .i64 100] w fun e w' => e = .returned (.int .i64 (dv (z * B.sc) 100)) ∧ Below w.heap.size w w') := fun w => refDiv_new _ _ w (by omega) (by omega) (by omega) (by omega)
  have m2 : IntKind.i64.wrap (z * B.sc) = z * B.sc := IntWalk.i64_in _ (by omega)
  generalize dv (z * B.sc) 100 = q at *
  have D3 : Hid (∀ w, Calls Tryz.prog 67 #[.int .i64 (q * v4), .int .i64 65535] w fun e w' => e = .returned (.int .i64 (dv (q * v4) 65535)) ∧ Below w.heap.size w w') := fun w => refDiv_new _ _ w (by omega) (by omega) (by omega) (by omega)
  have m3 : IntKind.i64.wrap (q * v4) = q * v4 := IntWalk.i64_in _ (by omega)
  have c0 := k0.c16
  have c1 := k1.c5
  go_wp2_with fail
  clear c0 c1
  refine (C2.out _ (HD.out.kept hb)).mono ?_
  rintro e W2 ⟨rfl, hS⟩
  replace k0 := k0.kept hS
  replace k1 := k1.kept hS
  replace k4 := k4.kept hS
  replace hb := hb.trans (hS.mono hb.size)
  clear hS C2
  have c0 := k0.c16
  have c1 := k1.c5
  go_wp2_with fail
  clear c0 c1
  refine (C3.out _ (HD.out.kept hb)).mono ?_
  rintro e W3 ⟨rfl, hS⟩
  replace k0 := k0.kept hS
  replace k1 := k1.kept hS
  replace k4 := k4.kept hS
  replace hb := hb.trans (hS.mono hb.size)
  clear hS C3
  have F1 : Hid (∀ w, Calls Tryz.prog 80 #[.int .i64 (v3 * 65536), .int .i64 65535] w fun e w' => e = .returned (.int .i64 (v3 * 65536 / 65535)) ∧ ∃ n, w' = w.drewN n) := fun w => refFloor_any _ _ w (by omega) (by omega) (by omega) (by omega)
  go_wp2_with fail
  refine (F1.out _).mono ?_
  rintro e W4 ⟨rfl, nn, rfl⟩
  replace k0 := k0.drewN nn
  replace k1 := k1.drewN nn
  replace k4 := k4.drewN nn
  replace hb := belowN hb nn
  have n1 : 0 ≤ v3 * 65536 / 65535 := by omega
  have HA : Hid (v3 * 65536 / 65535 % 65536 = ban v3) := rfl
  go_upto_region 4 with (fail)
  clear n1 F1
  generalize hw4 : W3.drewN nn = W4 at *
  clear hw4
  refine wp_region_grow 16 (fun w' => Below (World.heap W4).size W4 w') (by kernel_rfl) (by kernel_rfl) (Below.refl _ _).drew ?_
  simp only [List.take_succ_cons, List.take_zero, List.drop_succ_cons, List.drop_zero]
  repeat (first | (apply wpG_on; rfl; (intro w' hS K hK; have hc0 := (k0.kept hS).c16; have hc1 := (k1.kept hS).c5; have hc2 := (k4.kept hS).c5; go_simp; (first | exact hK.out _ hS | (go_at_call 146; (with_reducible refine (C4.out _ (HD.out.kept (hb.trans (hS.mono hb.size)))).mono ?_); rintro e w'' ⟨rfl, hbb⟩; exact ⟨_, rfl, hK.out _ (hS.trans (hbb.mono hS.size))⟩) | (go_at_call 67; (with_reducible refine (D2.out _).mono ?_); rintro e w'' ⟨rfl, hbb⟩; exact ⟨_, rfl, hK.out _ (hS.trans (hbb.mono hS.size))⟩) | (go_at_call 67; (with_reducible refine (D3.out _).mono ?_); rintro e w'' ⟨rfl, hbb⟩; exact ⟨_, rfl, hK.out _ (hS.trans (hbb.mono hS.size))⟩))); simp only [Act.put, List.setIfInBounds_toArray, List.set_cons_succ, List.set_cons_zero]) | (apply wpG_off; rfl; simp only [Act.put, List.setIfInBounds_toArray, List.set_cons_succ, List.set_cons_zero]))
  apply wpG_nil
  intro W5 hS
  replace k0 := k0.kept hS
  replace k1 := k1.kept hS
  replace k4 := k4.kept hS
  replace hb := hb.trans (hS.mono hb.size)
  clear hS
  rw [HM.out]
  clear HM D2 D3 m2 m3 i3
  generalize bsc z B.sc v4 = m at *
  have B2 : Hid (∀ w, Calls Tryz.prog 147 #[.int .i64 B.sd, .int .i64 index, .int .i64 2, .int .i64 (2 * m + 1)] w fun e w' => e = .returned (.int .i64 (belowI B.sd index 2 (2 * m + 1))) ∧ w = w') := fun w => refBelow_any _ _ _ _ w
  have B3 : Hid (∀ w, Calls Tryz.prog 147 #[.int .i64 B.sd, .int .i64 index, .int .i64 3, .int .i64 (2 * m + 1)] w fun e w' => e = .returned (.int .i64 (belowI B.sd index 3 (2 * m + 1))) ∧ w = w') := fun w => refBelow_any _ _ _ _ w
  have g2 := below_bd B.sd index 2 (2 * m + 1) (by omega)
  have g3 := below_bd B.sd index 3 (2 * m + 1) (by omega)
  have HX : Hid (co (s.x + belowI B.sd index 2 (2 * m + 1) - m) = bpos s.x B.sd index 2 m) := rfl
  have HY : Hid (co (s.y + belowI B.sd index 3 (2 * m + 1) - m) = bpos s.y B.sd index 3 m) := rfl
  generalize belowI B.sd index 2 (2 * m + 1) = r2 at *
  generalize belowI B.sd index 3 (2 * m + 1) = r3 at *
  have m1 : IntKind.i64.wrap (2 * m) = 2 * m := IntWalk.i64_in _ (by omega)
  have m2 : IntKind.i64.wrap (2 * m + 1) = 2 * m + 1 := IntWalk.i64_in _ (by omega)
  have m3 : IntKind.i64.wrap (s.x + r2) = s.x + r2 := IntWalk.i64_in _ (by omega)
  have m4 : IntKind.i64.wrap (s.x + r2 - m) = s.x + r2 - m := IntWalk.i64_in _ (by omega)
  have m5 : IntKind.i64.wrap (s.y + r3) = s.y + r3 := IntWalk.i64_in _ (by omega)
  have m6 : IntKind.i64.wrap (s.y + r3 - m) = s.y + r3 - m := IntWalk.i64_in _ (by omega)
  go_upto_region 5 with (fail)
  refine wp_region_grow 13 (fun w' => Below (World.heap W5).size W5 w') (by kernel_rfl) (by kernel_rfl) (Below.refl _ _).drew ?_
  simp only [List.take_succ_cons, List.take_zero, List.drop_succ_cons, List.drop_zero]
  repeat (first | (apply wpG_on; rfl; (intro w' hS K hK; have hc0 := (k0.kept hS).c16; have hc1 := (k1.kept hS).c5; have hc2 := (k4.kept hS).c5; go_simp; (first | exact hK.out _ hS | (go_at_call 147; (with_reducible refine (B2.out _).mono ?_); rintro e w'' ⟨rfl, rfl⟩; exact ⟨_, rfl, hK.out _ hS⟩))); simp only [Act.put, List.setIfInBounds_toArray, List.set_cons_succ, List.set_cons_zero]) | (apply wpG_off; rfl; simp only [Act.put, List.setIfInBounds_toArray, List.set_cons_succ, List.set_cons_zero]))
  apply wpG_nil
  intro W6 hS
  replace k0 := k0.kept hS
  replace k1 := k1.kept hS
  replace k4 := k4.kept hS
  replace hb := hb.trans (hS.mono hb.size)
  clear hS
  go_upto_region 6 with (fail)
  refine wp_region_grow 13 (fun w' => Below (World.heap W6).size W6 w') (by kernel_rfl) (by kernel_rfl) (Below.refl _ _).drew ?_
  simp only [List.take_succ_cons, List.take_zero, List.drop_succ_cons, List.drop_zero]
  repeat (first | (apply wpG_on; rfl; (intro w' hS K hK; have hc0 := (k0.kept hS).c16; have hc1 := (k1.kept hS).c5; have hc2 := (k4.kept hS).c5; go_simp; (first | exact hK.out _ hS | (go_at_call 147; (with_reducible refine (B3.out _).mono ?_); rintro e w'' ⟨rfl, rfl⟩; exact ⟨_, rfl, hK.out _ hS⟩))); simp only [Act.put, List.setIfInBounds_toArray, List.set_cons_succ, List.set_cons_zero]) | (apply wpG_off; rfl; simp only [Act.put, List.setIfInBounds_toArray, List.set_cons_succ, List.set_cons_zero]))
  apply wpG_nil
  intro W7 hS
  replace k0 := k0.kept hS
  replace k1 := k1.kept hS
  replace k4 := k4.kept hS
  replace hb := hb.trans (hS.mono hb.size)
  clear hS
  clear m1 m2 m3 m4 m5 m6 B2 B3
  have X2 : Hid (∀ w, Calls Tryz.prog 83 #[.int .i64 (s.x + r2 - m), .int .i64 (-16777216), .int .i64 16777216] w fun e w' => e = .returned (.int .i64 (bpos s.x B.sd index 2 m)) ∧ w = w') := fun w => by rw [← HX.out]; exact refClamp_any _ _ _ _
  have X3 : Hid (∀ w, Calls Tryz.prog 83 #[.int .i64 (s.y + r3 - m), .int .i64 (-16777216), .int .i64 16777216] w fun e w' => e = .returned (.int .i64 (bpos s.y B.sd index 3 m)) ∧ w = w') := fun w => by rw [← HY.out]; exact refClamp_any _ _ _ _
  generalize bpos s.x B.sd index 2 m = px at *
  generalize bpos s.y B.sd index 3 m = py at *
  go_wp2_with fail
  refine (X2.out _).mono ?_
  rintro e w' ⟨rfl, rfl⟩
  go_wp2_with fail
  refine (X3.out _).mono ?_
  rintro e w' ⟨rfl, rfl⟩
  have c4 := k4.c5
  go_wp2_with fail
  exact end5 hb k4 (by omega) (fun w3 c3 => by simp [results, Tryz.results104, go_sem, c3]) rfl (fun w3 hb3 => ⟨by rw [HE.out, ← HA.out], hb3⟩)

set_option maxHeartbeats 1000000 in
theorem refSpacing_any (B : Bru) (u : Value) (d : Dab) (w : World) (hD : Dn w u B.ds) (hB : BruOk B) (hz : 1 ≤ d.sz ∧ d.sz ≤ 1024) :
    Calls Tryz.prog 105 #[brv B u, dbv d] w fun e w' => e = .returned (.int .i64 (bspc B d.sz)) ∧ Below w.heap.size w w' := by
  obtain ⟨a, cap, rfl, _, _⟩ := hD
  have i1 := bspc_in d.sz B.sp hz hB.sp
  have D1 : Hid (∀ w, Calls Tryz.prog 67 #[.int .i64 (d.sz * B.sp), .int .i64 100] w fun e w' => e = .returned (.int .i64 (dv (d.sz * B.sp) 100)) ∧ Below w.heap.size w w') := fun w => refDiv_new _ _ w (by omega) (by omega) (by omega) (by omega)
  have i2 := dv_nonneg (d.sz * B.sp) 100 (by omega) (by omega)
  have i3 := dv_le (d.sz * B.sp) 100 10240 (by omega) (by omega)
  have HE : Hid (16 * max 1 (dv (d.sz * B.sp) 100) = bspc B d.sz) := rfl
  generalize dv (d.sz * B.sp) 100 = q at *
  have m1 : IntKind.i64.wrap (d.sz * B.sp) = d.sz * B.sp := IntWalk.i64_in _ (by omega)
  have m2 : IntKind.i64.wrap (16 * max 1 q) = 16 * max 1 q := IntWalk.i64_in _ (by omega)
  go_enter Tryz.func105, Tryz.ntmps105
  go_upto_region 1 with (fail)
  refine name2 (fun W k1 k2 hb => ?_)
  have c1 := k1.c16
  have c2 := k2.c5
  go_wp2_with fail
  refine (D1.out _).mono ?_
  rintro e W1 ⟨rfl, hS⟩
  replace hb := hb.trans (hS.mono hb.size)
  go_wp2_with fail
  go_ret
  exact ⟨ret_int HE.out, hb⟩

set_option maxHeartbeats 1000000 in
theorem part_any (x y d n : Int) (w : World) (hn : 0 < n ∧ n ≤ 1073741824) (hd : 0 ≤ d ∧ d ≤ n) (hx : -1073741824 ≤ x ∧ x ≤ 1073741824) (hy : -1073741824 ≤ y ∧ y ≤ 1073741824) (hxy : -1073741824 ≤ y - x ∧ y - x ≤ 1073741824) :
    Calls Tryz.prog 148 #[.int .i64 x, .int .i64 y, .int .i64 d, .int .i64 n] w fun e w' => e = .returned (.int .i64 (btw1 x y d n)) ∧ Below w.heap.size w w' := by
  have i1 := btw1_in x y d n 1073741824 hn.1 hd hxy
  have e1 : (1073741824 : Int) * n ≤ 1073741824 * 1073741824 := by omega
  have D1 : Hid (∀ w, Calls Tryz.prog 67 #[.int .i64 ((y - x) * d), .int .i64 n] w fun e w' => e = .returned (.int .i64 (dv ((y - x) * d) n)) ∧ Below w.heap.size w w') := fun w => refDiv_new _ _ w (by omega) (by omega) (by omega) (by omega)
  have HE : Hid (x + dv ((y - x) * d) n = btw1 x y d n) := rfl
  have i2 : -1073741824 ≤ dv ((y - x) * d) n ∧ dv ((y - x) * d) n ≤ 1073741824 := by rw [← HE.out] at i1; omega
  have m1 : IntKind.i64.wrap ((y - x) * d) = (y - x) * d := IntWalk.i64_in _ (by omega)
  generalize dv ((y - x) * d) n = q at *
  clear i1 e1
  go_enter Tryz.func148, Tryz.ntmps148
  go_wp2_with fail
  refine (D1.out _).mono ?_
  rintro e W1 ⟨rfl, hS⟩
  go_wp2_with fail
  go_ret
  exact ⟨ret_int HE.out, hS⟩

set_option maxRecDepth 20000 in
set_option maxHeartbeats 8000000 in
theorem refBetween_any (p q : Smp) (d n : Int) (w : World) (h : SmpIn p q) (hn : 0 < n ∧ n ≤ 1073741824) (hd : 0 ≤ d ∧ d ≤ n) :
    Calls Tryz.prog 106 #[svx p, svx q, .int .i64 d, .int .i64 n] w fun e w' => e = .returned (svx (btw p q d n)) ∧ Below w.heap.size w w' := by
  obtain ⟨hx, hy, hp, ht, hm⟩ := h
  have C1 := Lib.hid (fun w => part_any p.x q.x d n w hn hd (by omega) (by omega) (by omega))
  have C2 := Lib.hid (fun w => part_any p.y q.y d n w hn hd (by omega) (by omega) (by omega))
  have C3 := Lib.hid (fun w => part_any p.p q.p d n w hn hd (by omega) (by omega) (by omega))
  have C4 := Lib.hid (fun w => part_any p.t q.t d n w hn hd (by omega) (by omega) (by omega))
  have C5 := Lib.hid (fun w => part_any p.m q.m d n w hn hd (by omega) (by omega) (by omega))
  clear hx hy hp ht hm hn hd
  unfold svx btw
  simp only
  generalize btw1 p.x q.x d n = v1 at *
  generalize btw1 p.y q.y d n = v2 at *
  generalize btw1 p.p q.p d n = v3 at *
  generalize btw1 p.t q.t d n = v4 at *
  generalize btw1 p.m q.m d n = v5 at *
  go_enter Tryz.func106, Tryz.ntmps106
  go_upto_region 1 with (fail)
  refine name3 (fun W k0 k1 k4 hb => ?_)
  refine wp_region_grow 36 (fun w' => Below (World.heap W).size W w') (by kernel_rfl) (by kernel_rfl) (Below.refl _ _).drew ?_
  simp only [List.take_succ_cons, List.take_zero, List.drop_succ_cons, List.drop_zero]
  repeat (first | (apply wpG_on; rfl; (intro w' hS K hK; have hc0 := (k0.kept hS).c5; have hc1 := (k1.kept hS).c5; have hc2 := (k4.kept hS).c5; go_simp; (first | exact hK.out _ hS | (go_at_call 148; (with_reducible refine (C1.out _).mono ?_); rintro e w'' ⟨rfl, hbb⟩; exact ⟨_, rfl, hK.out _ (hS.trans (hbb.mono hS.size))⟩) | (go_at_call 148; (with_reducible refine (C2.out _).mono ?_); rintro e w'' ⟨rfl, hbb⟩; exact ⟨_, rfl, hK.out _ (hS.trans (hbb.mono hS.size))⟩) | (go_at_call 148; (with_reducible refine (C3.out _).mono ?_); rintro e w'' ⟨rfl, hbb⟩; exact ⟨_, rfl, hK.out _ (hS.trans (hbb.mono hS.size))⟩) | (go_at_call 148; (with_reducible refine (C4.out _).mono ?_); rintro e w'' ⟨rfl, hbb⟩; exact ⟨_, rfl, hK.out _ (hS.trans (hbb.mono hS.size))⟩) | (go_at_call 148; (with_reducible refine (C5.out _).mono ?_); rintro e w'' ⟨rfl, hbb⟩; exact ⟨_, rfl, hK.out _ (hS.trans (hbb.mono hS.size))⟩))); simp only [Act.put, List.setIfInBounds_toArray, List.set_cons_succ, List.set_cons_zero]) | (apply wpG_off; rfl; simp only [Act.put, List.setIfInBounds_toArray, List.set_cons_succ, List.set_cons_zero]))
  apply wpG_nil
  intro W1 hS
  replace k0 := k0.kept hS
  replace k1 := k1.kept hS
  replace k4 := k4.kept hS
  replace hb := hb.trans (hS.mono hb.size)
  clear hS
  have c4 := k4.c5
  go_wp2_with fail
  exact end5 hb k4 (by omega) (fun w3 c3 => by simp [results, Tryz.results106, go_sem, c3]) rfl (fun w3 hb3 => ⟨rfl, hb3⟩)
end Go.Proofs.YtieacbccadbdbaaGreatDoor

