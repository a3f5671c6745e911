/- Several texts in one: DabR, DabCovR. -/
import Derived.Test.YtieacbccadbdbaaGreatDoorLDab
import Derived.Test.YtieacbccadbdbaaGreatDoorTurnR
import Derived.Test.YtieacbccadbdbaaGreatDoorLNumW

/- The reference of package dab: Limit, Box (printed by gendab.py). -/
namespace Go.Proofs.YtieacbccadbdbaaGreatDoor
open Go.RowKit
set_option linter.unusedVariables false
attribute [local go_sem] Oper.gAt gUponK Oper.sAt stilK

theorem refCoC_any (x : Int) (w : World) : Calls Tryz.prog 83 #[.int .i64 x, .int .i64 (-16777216), .int .i64 16777216] w fun e w' => e = .returned (.int .i64 (co x)) ∧ w = w' := refClamp_any _ _ _ _
theorem refSzC_any (x : Int) (w : World) : Calls Tryz.prog 83 #[.int .i64 x, .int .i64 0, .int .i64 1024] w fun e w' => e = .returned (.int .i64 (sz1 x)) ∧ w = w' := refClamp_any _ _ _ _
theorem refCcC_any (x : Int) (w : World) : Calls Tryz.prog 83 #[.int .i64 x, .int .i64 (-1048576), .int .i64 1048576] w fun e w' => e = .returned (.int .i64 (cc x)) ∧ w = w' := refClamp_any _ _ _ _

set_option maxHeartbeats 400000 in
theorem turned_any (a : Int) (w : World) : Calls Tryz.prog 118 #[.int .i64 a] w fun e w' => e = .returned (.int .i64 (a % 65536)) ∧ w = w' := by
  have hb := tmod_bd a 65536 (by omega)
  have hm := mod_pos a 65536 (by omega)
  by_cases hn : a.tmod 65536 < 0
  · have m1 : Hid (a.tmod 65536 + 65536 = a % 65536) := by
      show _ = _
      rw [← hm]
      generalize a.tmod 65536 = q at *
      rw [Int.tmod_eq_emod_of_nonneg (by omega)]
      omega
    clear hm
    generalize a % 65536 = r at *
    go_enter Tryz.func118, Tryz.ntmps118
    go_wp2_with fail
    go_ret
    exact ⟨ret_int m1.out, rfl⟩
  · have m1 : Hid (a.tmod 65536 = a % 65536) := by
      show _ = _
      rw [← hm]
      generalize a.tmod 65536 = q at *
      rw [Int.tmod_eq_emod_of_nonneg (by omega)]
      omega
    clear hm
    generalize a % 65536 = r at *
    go_enter Tryz.func118, Tryz.ntmps118
    go_wp2_with fail
    go_ret
    exact ⟨ret_int m1.out, rfl⟩

set_option maxHeartbeats 1000000 in
theorem refDabLimit_any (d : Dab) (w : World) :
    Calls Tryz.prog 81 #[dbv d] w fun e w' => e = .returned (dbv (lim d)) ∧ Below w.heap.size w w' := by
  have T := Lib.hid (fun w => turned_any d.an w)
  go_enter Tryz.func81, Tryz.ntmps81
  go_upto_region 1 with (fail)
  refine name2 (fun W k1 k2 hb => ?_)
  refine wp_region_grow 16 (fun w' => Below (World.heap W).size W w') (by kernel_rfl) (by kernel_rfl) (Below.refl _ _).drew ?_
  simp only [List.take_succ_cons, List.take_zero, List.drop_succ_cons, List.drop_zero]
  repeat (first | (apply wpG_on; rfl; (intro w' hS K hK; have hc0 := (k1.kept hS).c5; have hc1 := (k2.kept hS).c5; go_simp; (first | exact hK.out _ hS | (go_at_call 83; (with_reducible refine (refCoC_any _ _).mono ?_); rintro e w'' ⟨rfl, rfl⟩; exact ⟨_, rfl, hK.out _ hS⟩) | (go_at_call 83; (with_reducible refine (refSzC_any _ _).mono ?_); rintro e w'' ⟨rfl, rfl⟩; exact ⟨_, rfl, hK.out _ hS⟩) | (go_at_call 72; (with_reducible refine (refU_any _ _).mono ?_); rintro e w'' ⟨rfl, rfl⟩; exact ⟨_, rfl, hK.out _ hS⟩) | (go_at_call 118; (with_reducible refine (T.out _).mono ?_); rintro e w'' ⟨rfl, rfl⟩; exact ⟨_, rfl, hK.out _ hS⟩))); simp only [Act.put, List.setIfInBounds_toArray, List.set_cons_succ, List.set_cons_zero]) | (apply wpG_off; rfl; simp only [Act.put, List.setIfInBounds_toArray, List.set_cons_succ, List.set_cons_zero]))
  apply wpG_nil
  intro W1 hS
  replace k1 := k1.kept hS
  replace k2 := k2.kept hS
  replace hb := hb.trans (hS.mono hb.size)
  clear hS
  have c2 := k2.c5
  go_wp2_with fail
  exact end5 hb k2 (by omega) (fun w3 c3 => by simp [results, Tryz.results81, go_sem, c3]) rfl (fun w3 hb3 => ⟨rfl, hb3⟩)

theorem cc_lo (x h : Int) (hx : -16777216 ≤ x ∧ x ≤ 16777216) (hh : 0 ≤ h ∧ h ≤ 512) : min 1048576 (max ((x - h) / 16) (-1048576)) = bxLo x h := by unfold bxLo; omega
theorem cc_hi (x h : Int) (hx : -16777216 ≤ x ∧ x ≤ 16777216) (hh : 0 ≤ h ∧ h ≤ 512) : min 1048576 (max ((x + h) / 16 + 1) (-1048576)) = bxHi x h + 1 := by unfold bxHi; omega

end Go.Proofs.YtieacbccadbdbaaGreatDoor


/- The reference of package dab: Cover (printed by gendab.py). -/
namespace Go.Proofs.YtieacbccadbdbaaGreatDoor
open Go.RowKit
set_option linter.unusedVariables false
attribute [local go_sem] Oper.gAt gUponK Oper.sAt stilK

theorem dcov_bad {B : Bru} {d : Dab} {x y : Int} (h : ¬ bchk B = 0) : dcov B d x y = 0 := if_neg h
theorem dcov_nil {B : Bru} {d : Dab} {x y : Int} (h : bchk B = 0) (hz : (lim d).sz = 0) : dcov B d x y = 0 := (if_pos h).trans (cvr_zero hz)
theorem dcov_pos {B : Bru} {d : Dab} {x y : Int} (h : bchk B = 0) (hz : ¬ (lim d).sz = 0) : dcov B d x y = cvF B.hd (lim d).fl (cvR (cvP (16 * (16 * cc x + 8 - (lim d).x)) (16 * (16 * cc y + 8 - (lim d).y)) (tS (B.an + (lim d).an)) (tC (B.an + (lim d).an)))
      (cvZ (cvQ (16 * (16 * cc x + 8 - (lim d).x)) (16 * (16 * cc y + 8 - (lim d).y)) (tS (B.an + (lim d).an)) (tC (B.an + (lim d).an))) B.rn) (lim d).sz) := (if_pos h).trans (cvr_pos hz)

set_option maxHeartbeats 4000000 in
theorem refCover_any (B : Bru) (d : Dab) (x y : Int) (u : Value) (w : World) (h : Dn w u B.ds) :
    Calls Tryz.prog 37 #[brv B u, dbv d, .int .i64 x, .int .i64 y] w fun e w' => e = .returned (.int .i64 (dcov B d x y)) ∧ Below w.heap.size w w' := by
  have HD := Lib.hid h
  obtain ⟨a, cap, rfl, _, _⟩ := h
  have C := Lib.hid (fun w h => refDabCheck_any B (.slice a B.ds.length cap) w h)
  have L := Lib.hid (fun w => refDabLimit_any d w)
  by_cases h0 : bchk B = 0
  · by_cases hz : (lim d).sz = 0
    · have HE := Lib.hid (dcov_nil (x := x) (y := y) h0 hz)
      rw [h0] at C
      generalize lim d = l at *
      generalize B.ds.length = n at *
      have bz : (l.sz == 0) = true := by simpa using hz
      go_enter Tryz.func37, Tryz.ntmps37
      go_upto_region 1 with (fail)
      refine name2 (fun W k1 k2 hb => ?_)
      have c2 := k2.c5
      go_wp2_with fail
      clear c2
      refine (L.out _).mono ?_
      rintro e W1 ⟨rfl, hS⟩
      replace k1 := k1.kept hS
      replace k2 := k2.kept hS
      replace hb := hb.trans (hS.mono hb.size)
      clear hS
      have c2 := k2.c5
      go_upto_region 2 with (fail)
      clear c2
      refine mid5 hb k2 (by omega) (fun W2 k2 hk hb => ?_)
      replace k1 := hk _ _ (by omega) k1
      clear hk
      have c1 := k1.c16
      go_wp2_with fail
      clear c1
      refine (C.out _ (HD.out.kept hb)).mono ?_
      rintro e W3 ⟨rfl, hS⟩
      replace k2 := k2.kept hS
      replace hb := hb.trans (hS.mono hb.size)
      have c2 := k2.c5
      go_wp2_with fail
      go_ret
      exact ⟨ret_int HE.out.symm, hb⟩
    · have HE := Lib.hid (dcov_pos (x := x) (y := y) h0 hz)
      have X := Lib.hid (fun w => refCcC_any x w)
      have Y := Lib.hid (fun w => refCcC_any y w)
      obtain ⟨b1, b2, b3⟩ := bbd_of h0
      obtain ⟨d1, d2, d3, d4, d5⟩ := lim_bd d
      rw [h0] at C
      have xb := cc_bd x
      have yb := cc_bd y
      generalize lim d = l at *
      generalize cc x = x' at *
      generalize cc y = y' at *
      generalize B.ds.length = n at *
      have T := Lib.hid (fun w => refTurn_any (B.an + l.an) w (by omega) (by omega))
      have ts := tS_bd (B.an + l.an)
      have tc := tC_bd (B.an + l.an)
      have hu : -536871040 ≤ 16 * (16 * x' + 8 - l.x) ∧ 16 * (16 * x' + 8 - l.x) ≤ 536871040 := by omega
      have hv : -536871040 ≤ 16 * (16 * y' + 8 - l.y) ∧ 16 * (16 * y' + 8 - l.y) ≤ 536871040 := by omega
      have bz : (l.sz == 0) = false := by simpa using hz
      go_enter Tryz.func37, Tryz.ntmps37
      go_upto_region 1 with (fail)
      refine name2 (fun W k1 k2 hb => ?_)
      have c2 := k2.c5
      go_wp2_with fail
      clear c2
      refine (L.out _).mono ?_
      rintro e W1 ⟨rfl, hS⟩
      replace k1 := k1.kept hS
      replace k2 := k2.kept hS
      replace hb := hb.trans (hS.mono hb.size)
      clear hS
      have c2 := k2.c5
      go_upto_region 2 with (fail)
      clear c2
      refine mid5 hb k2 (by omega) (fun W2 k2 hk hb => ?_)
      replace k1 := hk _ _ (by omega) k1
      clear hk
      have c1 := k1.c16
      go_wp2_with fail
      clear c1
      refine (C.out _ (HD.out.kept hb)).mono ?_
      rintro e W3 ⟨rfl, hS⟩
      replace k1 := k1.kept hS
      replace k2 := k2.kept hS
      replace hb := hb.trans (hS.mono hb.size)
      clear hS C L
      have c2 := k2.c5
      go_upto_region 5 with (fail)
      clear c2
      have m0 : IntKind.i64.wrap (-1048576) = -1048576 := IntWalk.i64_in _ (by omega)
      have m1 : IntKind.i64.wrap (16 * x') = 16 * x' := IntWalk.i64_in _ (by omega)
      have m2 : IntKind.i64.wrap (16 * x' + 8) = 16 * x' + 8 := IntWalk.i64_in _ (by omega)
      have m3 : IntKind.i64.wrap (16 * x' + 8 - l.x) = 16 * x' + 8 - l.x := IntWalk.i64_in _ (by omega)
      have m4 : IntKind.i64.wrap (16 * (16 * x' + 8 - l.x)) = 16 * (16 * x' + 8 - l.x) := IntWalk.i64_in _ (by omega)
      refine wp_region_grow 11 (fun w' => Below (World.heap W3).size W3 w') (by kernel_rfl) (by kernel_rfl) (Below.refl _ _).drew ?_
      simp only [List.take_succ_cons, List.take_zero, List.drop_succ_cons, List.drop_zero]
      repeat (first | (apply wpG_on; rfl; (intro w' hS K hK; have hc0 := (k1.kept hS).c16; have hc1 := (k2.kept hS).c5; go_simp; (first | exact hK.out _ hS | (go_at_call 83; (with_reducible refine (X.out _).mono ?_); rintro e w'' ⟨rfl, rfl⟩; exact ⟨_, rfl, hK.out _ hS⟩))); simp only [Act.put, List.setIfInBounds_toArray, List.set_cons_succ, List.set_cons_zero]) | (apply wpG_off; rfl; simp only [Act.put, List.setIfInBounds_toArray, List.set_cons_succ, List.set_cons_zero]))
      apply wpG_nil
      intro W4 hS
      replace k1 := k1.kept hS
      replace k2 := k2.kept hS
      replace hb := hb.trans (hS.mono hb.size)
      clear hS
      clear m1 m2 m3 m4
      generalize 16 * (16 * x' + 8 - l.x) = U at *
      go_upto_region 6 with (fail)
      have m1 : IntKind.i64.wrap (16 * y') = 16 * y' := IntWalk.i64_in _ (by omega)
      have m2 : IntKind.i64.wrap (16 * y' + 8) = 16 * y' + 8 := IntWalk.i64_in _ (by omega)
      have m3 : IntKind.i64.wrap (16 * y' + 8 - l.y) = 16 * y' + 8 - l.y := IntWalk.i64_in _ (by omega)
      have m4 : IntKind.i64.wrap (16 * (16 * y' + 8 - l.y)) = 16 * (16 * y' + 8 - l.y) := IntWalk.i64_in _ (by omega)
      refine wp_region_grow 11 (fun w' => Below (World.heap W4).size W4 w') (by kernel_rfl) (by kernel_rfl) (Below.refl _ _).drew ?_
      simp only [List.take_succ_cons, List.take_zero, List.drop_succ_cons, List.drop_zero]
      repeat (first | (apply wpG_on; rfl; (intro w' hS K hK; have hc0 := (k1.kept hS).c16; have hc1 := (k2.kept hS).c5; go_simp; (first | exact hK.out _ hS | (go_at_call 83; (with_reducible refine (Y.out _).mono ?_); rintro e w'' ⟨rfl, rfl⟩; exact ⟨_, rfl, hK.out _ hS⟩))); simp only [Act.put, List.setIfInBounds_toArray, List.set_cons_succ, List.set_cons_zero]) | (apply wpG_off; rfl; simp only [Act.put, List.setIfInBounds_toArray, List.set_cons_succ, List.set_cons_zero]))
      apply wpG_nil
      intro W5 hS
      replace k1 := k1.kept hS
      replace k2 := k2.kept hS
      replace hb := hb.trans (hS.mono hb.size)
      clear hS
      clear m0 m1 m2 m3 m4
      generalize 16 * (16 * y' + 8 - l.y) = V at *
      have c1 := k1.c16
      have c2 := k2.c5
      go_wp2_with fail
      refine (T.out _).mono ?_
      rintro e W6 ⟨rfl, hS⟩
      replace k1 := k1.kept hS
      replace k2 := k2.kept hS
      replace hb := hb.trans (hS.mono hb.size)
      clear hS c1 c2 T
      generalize tS (B.an + l.an) = s at *
      generalize tC (B.an + l.an) = c at *
      have r1 := rot_in U V s c hu hv ts tc
      have r2 := rot_in V U s c hv hu ts tc
      have D1 : Hid (∀ w, Calls Tryz.prog 67 #[.int .i64 (c * U + s * V), .int .i64 65536] w fun e w' => e = .returned (.int .i64 (cvP U V s c)) ∧ Below w.heap.size w w') := fun w => refDiv_new _ _ w (by omega) (by omega) (by omega) (by omega)
      have D2 : Hid (∀ w, Calls Tryz.prog 67 #[.int .i64 (c * V - s * U), .int .i64 65536] w fun e w' => e = .returned (.int .i64 (cvQ U V s c)) ∧ Below w.heap.size w w') := fun w => refDiv_new _ _ w (by omega) (by omega) (by omega) (by omega)
      have bp := cvP_bd U V s c hu hv ts tc
      have bq := cvQ_bd U V s c hu hv ts tc
      generalize cvP U V s c = p at *
      generalize cvQ U V s c = q at *
      have m1 : IntKind.i64.wrap (c * U) = c * U := IntWalk.i64_in _ (by omega)
      have m2 : IntKind.i64.wrap (s * V) = s * V := IntWalk.i64_in _ (by omega)
      have m3 : IntKind.i64.wrap (c * U + s * V) = c * U + s * V := IntWalk.i64_in _ (by omega)
      have m4 : IntKind.i64.wrap (c * V) = c * V := IntWalk.i64_in _ (by omega)
      have m5 : IntKind.i64.wrap (s * U) = s * U := IntWalk.i64_in _ (by omega)
      have m6 : IntKind.i64.wrap (c * V - s * U) = c * V - s * U := IntWalk.i64_in _ (by omega)
      go_wp2_with fail
      refine (D1.out _).mono ?_
      rintro e W7 ⟨rfl, hS⟩
      replace k1 := k1.kept hS
      replace k2 := k2.kept hS
      replace hb := hb.trans (hS.mono hb.size)
      clear hS
      go_wp2_with fail
      refine (D2.out _).mono ?_
      rintro e W8 ⟨rfl, hS⟩
      replace k1 := k1.kept hS
      replace k2 := k2.kept hS
      replace hb := hb.trans (hS.mono hb.size)
      clear hS
      clear m1 m2 m3 m4 m5 m6 r1 r2 D1 D2
      have c1 := k1.c16
      have c2 := k2.c5
      by_cases hq : q < 0
      · have D3 : Hid (∀ w, Calls Tryz.prog 67 #[.int .i64 (65535 * (-q)), .int .i64 B.rn] w fun e w' => e = .returned (.int .i64 (cvZ q B.rn)) ∧ Below w.heap.size w w') := fun w => by unfold cvZ; rw [show max q (-q) = (-q) by omega]; exact refDiv_new _ _ w (by omega) (by omega) (by omega) (by omega)
        have bzz := cvZ_bd q B.rn bq b2.1
        generalize cvZ q B.rn = z at *
        go_wp2_with fail
        refine (D3.out _).mono ?_
        rintro e W9 ⟨rfl, hS⟩
        replace k1 := k1.kept hS
        replace k2 := k2.kept hS
        replace hb := hb.trans (hS.mono hb.size)
        clear hS c1 c2 D3
        have bh := cvH_bd p z bp bzz
        have HY : Hid (∀ w, Calls Tryz.prog 85 #[.int .i64 p, .int .i64 z] w fun e w' => e = .returned (.int .i64 (hypot p z)) ∧ w = w') := fun w => refHypotw_any _ _ w (by omega) (by omega) (by omega) (by omega)
        have D4 : Hid (∀ w, Calls Tryz.prog 67 #[.int .i64 (65535 * hypot p z), .int .i64 (8 * l.sz)] w fun e w' => e = .returned (.int .i64 (cvR p z l.sz)) ∧ Below w.heap.size w w') := fun w => refDiv_new _ _ w (by omega) (by omega) (by omega) (by omega)
        have br := cvR_bd p z l.sz (by omega)
        generalize cvR p z l.sz = r at *
        generalize hypot p z = H at *
        have m1 : IntKind.i64.wrap (65535 * H) = 65535 * H := IntWalk.i64_in _ (by omega)
        have m2 : IntKind.i64.wrap (8 * l.sz) = 8 * l.sz := IntWalk.i64_in _ (by omega)
        go_upto_region 12 with (fail)
        refine wp_region_grow 8 (fun w' => Below (World.heap W9).size W9 w') (by kernel_rfl) (by kernel_rfl) (Below.refl _ _).drew ?_
        simp only [List.take_succ_cons, List.take_zero, List.drop_succ_cons, List.drop_zero]
        repeat (first | (apply wpG_on; rfl; (intro w' hS K hK; have hc0 := (k1.kept hS).c16; have hc1 := (k2.kept hS).c5; go_simp; (first | exact hK.out _ hS | (go_at_call 85; (with_reducible refine (HY.out _).mono ?_); rintro e w'' ⟨rfl, rfl⟩; exact ⟨_, rfl, hK.out _ hS⟩) | (go_at_call 67; (with_reducible refine (D4.out _).mono ?_); rintro e w'' ⟨rfl, hbb⟩; exact ⟨_, rfl, hK.out _ (hS.trans (hbb.mono hS.size))⟩))); simp only [Act.put, List.setIfInBounds_toArray, List.set_cons_succ, List.set_cons_zero]) | (apply wpG_off; rfl; simp only [Act.put, List.setIfInBounds_toArray, List.set_cons_succ, List.set_cons_zero]))
        apply wpG_nil
        intro W10 hS
        replace k1 := k1.kept hS
        replace k2 := k2.kept hS
        replace hb := hb.trans (hS.mono hb.size)
        clear hS
        clear m1 m2
        have c1 := k1.c16
        have c2 := k2.c5
        by_cases h1 : r ≤ B.hd
        · have R : Hid (dcov B d x y = l.fl) := by show _ = _; rw [HE.out]; exact if_pos h1
          go_wp2_with fail
          go_ret
          exact ⟨ret_int R.out.symm, hb⟩
        · by_cases h2 : 65535 ≤ r
          · have R : Hid (dcov B d x y = 0) := by show _ = _; rw [HE.out]; unfold cvF; rw [if_neg h1, if_pos h2]
            go_wp2_with fail
            go_ret
            exact ⟨ret_int R.out.symm, hb⟩
          · have R : Hid (dcov B d x y = dv (l.fl * (65535 - r)) (65535 - B.hd)) := by show _ = _; rw [HE.out]; unfold cvF; rw [if_neg h1, if_neg h2]
            have hi := cvF_in B.hd l.fl r b1.1 (by omega) (by omega) d4
            have D5 : Hid (∀ w, Calls Tryz.prog 67 #[.int .i64 (l.fl * (65535 - r)), .int .i64 (65535 - B.hd)] w fun e w' => e = .returned (.int .i64 (dv (l.fl * (65535 - r)) (65535 - B.hd))) ∧ Below w.heap.size w w') := fun w => refDiv_new _ _ w (by omega) (by omega) (by omega) (by omega)
            have m1 : IntKind.i64.wrap (l.fl * (65535 - r)) = l.fl * (65535 - r) := IntWalk.i64_in _ (by omega)
            go_wp2_with fail
            refine (D5.out _).mono ?_
            rintro e W11 ⟨rfl, hS⟩
            replace hb := hb.trans (hS.mono hb.size)
            go_wp2_with fail
            go_ret
            exact ⟨ret_int R.out.symm, hb⟩
      · have D3 : Hid (∀ w, Calls Tryz.prog 67 #[.int .i64 (65535 * q), .int .i64 B.rn] w fun e w' => e = .returned (.int .i64 (cvZ q B.rn)) ∧ Below w.heap.size w w') := fun w => by unfold cvZ; rw [show max q (-q) = q by omega]; exact refDiv_new _ _ w (by omega) (by omega) (by omega) (by omega)
        have bzz := cvZ_bd q B.rn bq b2.1
        generalize cvZ q B.rn = z at *
        go_wp2_with fail
        refine (D3.out _).mono ?_
        rintro e W9 ⟨rfl, hS⟩
        replace k1 := k1.kept hS
        replace k2 := k2.kept hS
        replace hb := hb.trans (hS.mono hb.size)
        clear hS c1 c2 D3
        have bh := cvH_bd p z bp bzz
        have HY : Hid (∀ w, Calls Tryz.prog 85 #[.int .i64 p, .int .i64 z] w fun e w' => e = .returned (.int .i64 (hypot p z)) ∧ w = w') := fun w => refHypotw_any _ _ w (by omega) (by omega) (by omega) (by omega)
        have D4 : Hid (∀ w, Calls Tryz.prog 67 #[.int .i64 (65535 * hypot p z), .int .i64 (8 * l.sz)] w fun e w' => e = .returned (.int .i64 (cvR p z l.sz)) ∧ Below w.heap.size w w') := fun w => refDiv_new _ _ w (by omega) (by omega) (by omega) (by omega)
        have br := cvR_bd p z l.sz (by omega)
        generalize cvR p z l.sz = r at *
        generalize hypot p z = H at *
        have m1 : IntKind.i64.wrap (65535 * H) = 65535 * H := IntWalk.i64_in _ (by omega)
        have m2 : IntKind.i64.wrap (8 * l.sz) = 8 * l.sz := IntWalk.i64_in _ (by omega)
        go_upto_region 12 with (fail)
        refine wp_region_grow 8 (fun w' => Below (World.heap W9).size W9 w') (by kernel_rfl) (by kernel_rfl) (Below.refl _ _).drew ?_
        simp only [List.take_succ_cons, List.take_zero, List.drop_succ_cons, List.drop_zero]
        repeat (first | (apply wpG_on; rfl; (intro w' hS K hK; have hc0 := (k1.kept hS).c16; have hc1 := (k2.kept hS).c5; go_simp; (first | exact hK.out _ hS | (go_at_call 85; (with_reducible refine (HY.out _).mono ?_); rintro e w'' ⟨rfl, rfl⟩; exact ⟨_, rfl, hK.out _ hS⟩) | (go_at_call 67; (with_reducible refine (D4.out _).mono ?_); rintro e w'' ⟨rfl, hbb⟩; exact ⟨_, rfl, hK.out _ (hS.trans (hbb.mono hS.size))⟩))); simp only [Act.put, List.setIfInBounds_toArray, List.set_cons_succ, List.set_cons_zero]) | (apply wpG_off; rfl; simp only [Act.put, List.setIfInBounds_toArray, List.set_cons_succ, List.set_cons_zero]))
        apply wpG_nil
        intro W10 hS
        replace k1 := k1.kept hS
        replace k2 := k2.kept hS
        replace hb := hb.trans (hS.mono hb.size)
        clear hS
        clear m1 m2
        have c1 := k1.c16
        have c2 := k2.c5
        by_cases h1 : r ≤ B.hd
        · have R : Hid (dcov B d x y = l.fl) := by show _ = _; rw [HE.out]; exact if_pos h1
          go_wp2_with fail
          go_ret
          exact ⟨ret_int R.out.symm, hb⟩
        · by_cases h2 : 65535 ≤ r
          · have R : Hid (dcov B d x y = 0) := by show _ = _; rw [HE.out]; unfold cvF; rw [if_neg h1, if_pos h2]
            go_wp2_with fail
            go_ret
            exact ⟨ret_int R.out.symm, hb⟩
          · have R : Hid (dcov B d x y = dv (l.fl * (65535 - r)) (65535 - B.hd)) := by show _ = _; rw [HE.out]; unfold cvF; rw [if_neg h1, if_neg h2]
            have hi := cvF_in B.hd l.fl r b1.1 (by omega) (by omega) d4
            have D5 : Hid (∀ w, Calls Tryz.prog 67 #[.int .i64 (l.fl * (65535 - r)), .int .i64 (65535 - B.hd)] w fun e w' => e = .returned (.int .i64 (dv (l.fl * (65535 - r)) (65535 - B.hd))) ∧ Below w.heap.size w w') := fun w => refDiv_new _ _ w (by omega) (by omega) (by omega) (by omega)
            have m1 : IntKind.i64.wrap (l.fl * (65535 - r)) = l.fl * (65535 - r) := IntWalk.i64_in _ (by omega)
            go_wp2_with fail
            refine (D5.out _).mono ?_
            rintro e W11 ⟨rfl, hS⟩
            replace hb := hb.trans (hS.mono hb.size)
            go_wp2_with fail
            go_ret
            exact ⟨ret_int R.out.symm, hb⟩
  · have HE := Lib.hid (dcov_bad (d := d) (x := x) (y := y) h0)
    have b0 : (bchk B != 0) = true := by simpa using h0
    clear h0
    generalize bchk B = E at *
    generalize lim d = l at *
    generalize B.ds.length = n at *
    go_enter Tryz.func37, Tryz.ntmps37
    go_upto_region 1 with (fail)
    refine name2 (fun W k1 k2 hb => ?_)
    have c2 := k2.c5
    go_wp2_with fail
    clear c2
    refine (L.out _).mono ?_
    rintro e W1 ⟨rfl, hS⟩
    replace k1 := k1.kept hS
    replace k2 := k2.kept hS
    replace hb := hb.trans (hS.mono hb.size)
    clear hS
    have c2 := k2.c5
    go_upto_region 2 with (fail)
    clear c2
    refine mid5 hb k2 (by omega) (fun W2 k2 hk hb => ?_)
    replace k1 := hk _ _ (by omega) k1
    clear hk
    have c1 := k1.c16
    go_wp2_with fail
    clear c1
    refine (C.out _ (HD.out.kept hb)).mono ?_
    rintro e W3 ⟨rfl, hS⟩
    replace hb := hb.trans (hS.mono hb.size)
    go_wp2_with fail
    go_ret
    exact ⟨ret_int HE.out.symm, hb⟩
end Go.Proofs.YtieacbccadbdbaaGreatDoor

