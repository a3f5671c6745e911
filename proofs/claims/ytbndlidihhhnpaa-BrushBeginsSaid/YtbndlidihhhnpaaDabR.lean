/- The reference of package dab: Limit, Box (printed by gendab.py). -/
import Derived.Test.YtbndlidihhhnpaaLDab
import Derived.Test.YtbndlidihhhnpaaLTurn
import Derived.Test.YtbndlidihhhnpaaLNumW
namespace Go.Proofs.Ytbndlidihhhnpaa
open Go.RowKit
set_option linter.unusedVariables false
attribute [local go_sem] Oper.gAt gUponK Oper.sAt stilK

theorem refCoC_any (x : Int) (w : World) : Calls Try.prog 15 #[.int .i64 x, .int .i64 (-16777216), .int .i64 16777216] w fun e w' => e = .returned (.int .i64 (co x)) ∧ w = w' := refClamp_any _ _ _ _
theorem refSzC_any (x : Int) (w : World) : Calls Try.prog 15 #[.int .i64 x, .int .i64 0, .int .i64 1024] w fun e w' => e = .returned (.int .i64 (sz1 x)) ∧ w = w' := refClamp_any _ _ _ _
theorem refCcC_any (x : Int) (w : World) : Calls Try.prog 15 #[.int .i64 x, .int .i64 (-1048576), .int .i64 1048576] w fun e w' => e = .returned (.int .i64 (cc x)) ∧ w = w' := refClamp_any _ _ _ _

set_option maxHeartbeats 400000 in
theorem turned_any (a : Int) (w : World) : Calls Try.prog 91 #[.int .i64 a] w fun e w' => e = .returned (.int .i64 (a % 65536)) ∧ w = w' := by
  have hb := tmod_bd a 65536 (by omega)
  have hm := mod_pos a 65536 (by omega)
  by_cases hn : a.tmod 65536 < 0
  · have m1 : Hid (a.tmod 65536 + 65536 = a % 65536) := by
      show _ = _
      rw [← hm]
      generalize a.tmod 65536 = q at *
      rw [Int.tmod_eq_emod_of_nonneg (by omega)]
      omega
    clear hm
    generalize a % 65536 = r at *
    go_enter Try.func91, Try.ntmps91
    go_wp2_with fail
    go_ret
    exact ⟨ret_int m1.out, rfl⟩
  · have m1 : Hid (a.tmod 65536 = a % 65536) := by
      show _ = _
      rw [← hm]
      generalize a.tmod 65536 = q at *
      rw [Int.tmod_eq_emod_of_nonneg (by omega)]
      omega
    clear hm
    generalize a % 65536 = r at *
    go_enter Try.func91, Try.ntmps91
    go_wp2_with fail
    go_ret
    exact ⟨ret_int m1.out, rfl⟩

set_option maxHeartbeats 1000000 in
theorem refDabLimit_any (d : Dab) (w : World) :
    Calls Try.prog 80 #[dbv d] w fun e w' => e = .returned (dbv (lim d)) ∧ Below w.heap.size w w' := by
  have T := Lib.hid (fun w => turned_any d.an w)
  go_enter Try.func80, Try.ntmps80
  go_upto_region 1 with (fail)
  refine name2 (fun W k1 k2 hb => ?_)
  refine wp_region_grow 16 (fun w' => Below (World.heap W).size W w') (by kernel_rfl) (by kernel_rfl) (Below.refl _ _).drew ?_
  simp only [List.take_succ_cons, List.take_zero, List.drop_succ_cons, List.drop_zero]
  repeat (first | (apply wpG_on; rfl; (intro w' hS K hK; have hc0 := (k1.kept hS).c5; have hc1 := (k2.kept hS).c5; go_simp; (first | exact hK.out _ hS | (go_at_call 15; (with_reducible refine (refCoC_any _ _).mono ?_); rintro e w'' ⟨rfl, rfl⟩; exact ⟨_, rfl, hK.out _ hS⟩) | (go_at_call 15; (with_reducible refine (refSzC_any _ _).mono ?_); rintro e w'' ⟨rfl, rfl⟩; exact ⟨_, rfl, hK.out _ hS⟩) | (go_at_call 90; (with_reducible refine (refU_any _ _).mono ?_); rintro e w'' ⟨rfl, rfl⟩; exact ⟨_, rfl, hK.out _ hS⟩) | (go_at_call 91; (with_reducible refine (T.out _).mono ?_); rintro e w'' ⟨rfl, rfl⟩; exact ⟨_, rfl, hK.out _ hS⟩))); simp only [Act.put, List.setIfInBounds_toArray, List.set_cons_succ, List.set_cons_zero]) | (apply wpG_off; rfl; simp only [Act.put, List.setIfInBounds_toArray, List.set_cons_succ, List.set_cons_zero]))
  apply wpG_nil
  intro W1 hS
  replace k1 := k1.kept hS
  replace k2 := k2.kept hS
  replace hb := hb.trans (hS.mono hb.size)
  clear hS
  have c2 := k2.c5
  go_wp2_with fail
  exact end5 hb k2 (by omega) (fun w3 c3 => by simp [results, Try.results80, go_sem, c3]) rfl (fun w3 hb3 => ⟨rfl, hb3⟩)

theorem cc_lo (x h : Int) (hx : -16777216 ≤ x ∧ x ≤ 16777216) (hh : 0 ≤ h ∧ h ≤ 512) : min 1048576 (max ((x - h) / 16) (-1048576)) = bxLo x h := by unfold bxLo; omega
theorem cc_hi (x h : Int) (hx : -16777216 ≤ x ∧ x ≤ 16777216) (hh : 0 ≤ h ∧ h ≤ 512) : min 1048576 (max ((x + h) / 16 + 1) (-1048576)) = bxHi x h + 1 := by unfold bxHi; omega

set_option maxHeartbeats 4000000 in
theorem refDabBox_any (d : Dab) (w : World) :
    Calls Try.prog 48 #[dbv d] w fun e w' => e = .returned (.agg #[.int .i64 (dbox d).1, .int .i64 (dbox d).2.1, .int .i64 (dbox d).2.2.1, .int .i64 (dbox d).2.2.2]) ∧ Below w.heap.size w w' := by
  have L := Lib.hid (fun w => refDabLimit_any d w)
  have HE : Hid (dbox d = boxL (lim d).x (lim d).y (lim d).sz) := by show _ = _; rfl
  rw [HE.out]
  clear HE
  have bd := lim_bd d
  generalize lim d = l at *
  obtain ⟨x, y, sz, fl, an⟩ := l
  obtain ⟨bx, by_, bs, _, _⟩ := bd
  simp only at bx by_ bs L ⊢
  have t1 : (sz + 1).tdiv 2 = (sz + 1) / 2 := Int.tdiv_eq_ediv_of_nonneg (by omega)
  have hh : 0 ≤ (sz + 1) / 2 ∧ (sz + 1) / 2 ≤ 512 := by omega
  have HB : Hid (∀ h, h = (sz + 1) / 2 → boxL x y sz = if bxHi x h < bxLo x h ∨ bxHi y h < bxLo y h then (0, 0, 0, 0) else (bxLo x h, bxLo y h, bxHi x h - bxLo x h + 1, bxHi y h - bxLo y h + 1)) := fun h e => by subst e; rfl
  have HB2 := Lib.hid (HB.out _ rfl)
  clear HB
  generalize (sz + 1) / 2 = h at *
  have F1 : Hid (∀ w, Calls Try.prog 66 #[.int .i64 (x - h), .int .i64 16] w fun e w' => e = .returned (.int .i64 ((x - h) / 16)) ∧ ∃ n, w' = w.drewN n) := fun w => refFloor_any _ _ w (by omega) (by omega) (by omega) (by omega)
  have F2 : Hid (∀ w, Calls Try.prog 66 #[.int .i64 (y - h), .int .i64 16] w fun e w' => e = .returned (.int .i64 ((y - h) / 16)) ∧ ∃ n, w' = w.drewN n) := fun w => refFloor_any _ _ w (by omega) (by omega) (by omega) (by omega)
  have F3 : Hid (∀ w, Calls Try.prog 66 #[.int .i64 (x + h), .int .i64 16] w fun e w' => e = .returned (.int .i64 ((x + h) / 16)) ∧ ∃ n, w' = w.drewN n) := fun w => refFloor_any _ _ w (by omega) (by omega) (by omega) (by omega)
  have F4 : Hid (∀ w, Calls Try.prog 66 #[.int .i64 (y + h), .int .i64 16] w fun e w' => e = .returned (.int .i64 ((y + h) / 16)) ∧ ∃ n, w' = w.drewN n) := fun w => refFloor_any _ _ w (by omega) (by omega) (by omega) (by omega)
  have g1 : -1048609 ≤ (x - h) / 16 ∧ (x - h) / 16 ≤ 1048609 := by omega
  have g2 : -1048609 ≤ (y - h) / 16 ∧ (y - h) / 16 ≤ 1048609 := by omega
  have g3 : -1048609 ≤ (x + h) / 16 ∧ (x + h) / 16 ≤ 1048609 := by omega
  have g4 : -1048609 ≤ (y + h) / 16 ∧ (y + h) / 16 ≤ 1048609 := by omega
  have G1 : Hid (∀ w, Calls Try.prog 15 #[.int .i64 ((x - h) / 16), .int .i64 (-1048576), .int .i64 1048576] w fun e w' => e = .returned (.int .i64 (bxLo x h)) ∧ w = w') := fun w => by rw [← cc_lo x h bx hh]; exact refClamp_any _ _ _ _
  have G2 : Hid (∀ w, Calls Try.prog 15 #[.int .i64 ((y - h) / 16), .int .i64 (-1048576), .int .i64 1048576] w fun e w' => e = .returned (.int .i64 (bxLo y h)) ∧ w = w') := fun w => by rw [← cc_lo y h by_ hh]; exact refClamp_any _ _ _ _
  have G3 : Hid (∀ w, Calls Try.prog 15 #[.int .i64 ((x + h) / 16 + 1), .int .i64 (-1048576), .int .i64 1048576] w fun e w' => e = .returned (.int .i64 (bxHi x h + 1)) ∧ w = w') := fun w => by rw [← cc_hi x h bx hh]; exact refClamp_any _ _ _ _
  have G4 : Hid (∀ w, Calls Try.prog 15 #[.int .i64 ((y + h) / 16 + 1), .int .i64 (-1048576), .int .i64 1048576] w fun e w' => e = .returned (.int .i64 (bxHi y h + 1)) ∧ w = w') := fun w => by rw [← cc_hi y h by_ hh]; exact refClamp_any _ _ _ _
  have q1 : -1048576 ≤ bxLo x h ∧ bxLo x h ≤ 1048576 := by unfold bxLo; omega
  have q2 : -1048576 ≤ bxLo y h ∧ bxLo y h ≤ 1048576 := by unfold bxLo; omega
  have q3 : -1048577 ≤ bxHi x h ∧ bxHi x h ≤ 1048576 := by unfold bxHi; omega
  have q4 : -1048577 ≤ bxHi y h ∧ bxHi y h ≤ 1048576 := by unfold bxHi; omega
  generalize (x - h) / 16 = f1 at *
  generalize (y - h) / 16 = f2 at *
  generalize (x + h) / 16 = f3 at *
  generalize (y + h) / 16 = f4 at *
  generalize bxLo x h = x0 at *
  generalize bxLo y h = y0 at *
  generalize bxHi x h = x1 at *
  generalize bxHi y h = y1 at *
  have fin : Hid (((x1 < x0) ∧ boxL x y sz = (0, 0, 0, 0)) ∨ ((¬ x1 < x0) ∧ (y1 < y0) ∧ boxL x y sz = (0, 0, 0, 0)) ∨ ((¬ x1 < x0) ∧ (¬ y1 < y0) ∧ boxL x y sz = (x0, y0, x1 - x0 + 1, y1 - y0 + 1))) := by
    show _ ∨ _
    rw [HB2.out]
    by_cases c1 : x1 < x0
    · exact .inl ⟨c1, if_pos (.inl c1)⟩
    · by_cases c2 : y1 < y0
      · exact .inr (.inl ⟨c1, c2, if_pos (.inr c2)⟩)
      · exact .inr (.inr ⟨c1, c2, if_neg (by omega)⟩)
  clear HB2
  go_enter Try.func48, Try.ntmps48
  go_upto_region 1 with (fail)
  refine name2 (fun W k1 k2 hb => ?_)
  have c1 := k1.c5
  go_wp2_with fail
  clear c1
  refine (L.out _).mono ?_
  rintro e W1 ⟨rfl, hS⟩
  replace k1 := k1.kept hS
  replace k2 := k2.kept hS
  replace hb := hb.trans (hS.mono hb.size)
  clear hS
  have c1 := k1.c5
  go_upto_region 2 with (fail)
  clear c1
  refine mid5 hb k1 (by omega) (fun W2 k1 hk hb => ?_)
  replace k2 := hk _ _ (by omega) k2
  clear hk
  have c1 := k1.c5
  go_upto_region 3 with (fail)
  clear c1
  have m1 : IntKind.i64.wrap (x - h) = x - h := IntWalk.i64_in _ (by omega)
  have m2 : IntKind.i64.wrap (y - h) = y - h := IntWalk.i64_in _ (by omega)
  have m3 : IntKind.i64.wrap (x + h) = x + h := IntWalk.i64_in _ (by omega)
  have m4 : IntKind.i64.wrap (y + h) = y + h := IntWalk.i64_in _ (by omega)
  refine wp_region_grow 12 (fun w' => Below (World.heap W2).size W2 w') (by kernel_rfl) (by kernel_rfl) (Below.refl _ _).drew ?_
  simp only [List.take_succ_cons, List.take_zero, List.drop_succ_cons, List.drop_zero]
  repeat (first | (apply wpG_on; rfl; (intro w' hS K hK; have hc0 := (k1.kept hS).c5; have hc1 := (k2.kept hS).c4; go_simp; (first | exact hK.out _ hS | (go_at_call 66; (with_reducible refine (F1.out _).mono ?_); rintro e w'' ⟨rfl, nn, rfl⟩; exact ⟨_, rfl, hK.out _ (belowN hS nn)⟩) | (go_at_call 66; (with_reducible refine (F2.out _).mono ?_); rintro e w'' ⟨rfl, nn, rfl⟩; exact ⟨_, rfl, hK.out _ (belowN hS nn)⟩))); simp only [Act.put, List.setIfInBounds_toArray, List.set_cons_succ, List.set_cons_zero]) | (apply wpG_off; rfl; simp only [Act.put, List.setIfInBounds_toArray, List.set_cons_succ, List.set_cons_zero]))
  apply wpG_nil
  intro W3 hS
  replace k1 := k1.kept hS
  replace k2 := k2.kept hS
  replace hb := hb.trans (hS.mono hb.size)
  clear hS
  go_upto_region 4 with (fail)
  refine wp_region_grow 12 (fun w' => Below (World.heap W3).size W3 w') (by kernel_rfl) (by kernel_rfl) (Below.refl _ _).drew ?_
  simp only [List.take_succ_cons, List.take_zero, List.drop_succ_cons, List.drop_zero]
  repeat (first | (apply wpG_on; rfl; (intro w' hS K hK; have hc0 := (k1.kept hS).c5; have hc1 := (k2.kept hS).c4; go_simp; (first | exact hK.out _ hS | (go_at_call 66; (with_reducible refine (F3.out _).mono ?_); rintro e w'' ⟨rfl, nn, rfl⟩; exact ⟨_, rfl, hK.out _ (belowN hS nn)⟩) | (go_at_call 66; (with_reducible refine (F4.out _).mono ?_); rintro e w'' ⟨rfl, nn, rfl⟩; exact ⟨_, rfl, hK.out _ (belowN hS nn)⟩))); simp only [Act.put, List.setIfInBounds_toArray, List.set_cons_succ, List.set_cons_zero]) | (apply wpG_off; rfl; simp only [Act.put, List.setIfInBounds_toArray, List.set_cons_succ, List.set_cons_zero]))
  apply wpG_nil
  intro W4 hS
  replace k1 := k1.kept hS
  replace k2 := k2.kept hS
  replace hb := hb.trans (hS.mono hb.size)
  clear hS
  clear m1 m2 m3 m4
  go_wp2_with fail
  refine (G1.out _).mono ?_
  rintro e w' ⟨rfl, rfl⟩
  go_wp2_with fail
  refine (G2.out _).mono ?_
  rintro e w' ⟨rfl, rfl⟩
  go_wp2_with fail
  refine (G3.out _).mono ?_
  rintro e w' ⟨rfl, rfl⟩
  go_wp2_with fail
  refine (G4.out _).mono ?_
  rintro e w' ⟨rfl, rfl⟩
  have c2 := k2.c4
  rcases fin.out with ⟨c, r⟩ | ⟨c, c', r⟩ | ⟨c, c', r⟩
  · have R := Lib.hid r
    clear r fin
    go_wp2_with fail
    exact end4 hb k2 (by omega) (fun w3 c3 => by simp [results, Try.results48, go_sem, c3]) rfl (fun w3 hb3 => ⟨by rw [R.out], hb3⟩)
  · have R := Lib.hid r
    clear r fin
    go_wp2_with fail
    exact end4 hb k2 (by omega) (fun w3 c3 => by simp [results, Try.results48, go_sem, c3]) rfl (fun w3 hb3 => ⟨by rw [R.out], hb3⟩)
  · have R := Lib.hid r
    clear r fin
    have n1 : x1 + 1 - x0 = x1 - x0 + 1 := by omega
    have n2 : y1 + 1 - y0 = y1 - y0 + 1 := by omega
    go_wp2_with fail
    exact end4 hb k2 (by omega) (fun w3 c3 => by simp [results, Try.results48, go_sem, c3]) rfl (fun w3 hb3 => ⟨by rw [R.out], hb3⟩)
end Go.Proofs.Ytbndlidihhhnpaa
