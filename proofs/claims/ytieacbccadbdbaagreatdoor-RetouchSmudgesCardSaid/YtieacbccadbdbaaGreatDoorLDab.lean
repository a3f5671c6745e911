/- Several texts in one: Dab, DabCov, DabCover, TipPlain. -/
import Derived.Test.YtieacbccadbdbaaGreatDoorDabChk
import Derived.Test.YtieacbccadbdbaaGreatDoorLDyn
import Derived.Test.YtieacbccadbdbaaGreatDoorTurn
import Derived.Test.YtieacbccadbdbaaGreatDoorLHyp
import Derived.Test.YtieacbccadbdbaaGreatDoorLKit
import Derived.Lib.MinMax
import Derived.Deep.Cut
import Derived.Test.YtieacbccadbdbaaGreatDoorLRect
import Derived.Test.YtieacbccadbdbaaGreatDoorLRow

/- Package dab: limited, Box, covered, Cover, valid (printed by gendab.py). -/
namespace Go.Proofs.YtieacbccadbdbaaGreatDoor
open Go.RowKit
set_option linter.unusedVariables false
attribute [local go_sem] Oper.gAt gUponK Oper.sAt stilK

theorem coC_any (x : Int) (w : World) : Calls Tryz.prog 91 #[.int .i64 x, .int .i64 (-16777216), .int .i64 16777216] w fun e w' => e = .returned (.int .i64 (co x)) ∧ w = w' := clamp_any _ _ _ _
theorem szC_any (x : Int) (w : World) : Calls Tryz.prog 91 #[.int .i64 x, .int .i64 0, .int .i64 1024] w fun e w' => e = .returned (.int .i64 (sz1 x)) ∧ w = w' := clamp_any _ _ _ _
theorem clC_any (x : Int) (w : World) : Calls Tryz.prog 91 #[.int .i64 x, .int .i64 0, .int .i64 65535] w fun e w' => e = .returned (.int .i64 (cl x)) ∧ w = w' := by rw [← cl_min]; exact clamp_any _ _ _ _
theorem ccC_any (x : Int) (w : World) : Calls Tryz.prog 91 #[.int .i64 x, .int .i64 (-1048576), .int .i64 1048576] w fun e w' => e = .returned (.int .i64 (cc x)) ∧ w = w' := clamp_any _ _ _ _

set_option maxHeartbeats 1000000 in
theorem limited_any (d : Dab) (w : World) :
    Calls Tryz.prog 75 #[dbv d] w fun e w' => e = .returned (dbv (lim d)) ∧ Below w.heap.size w w' := by
  have m1 := and_full d.an
  go_enter Tryz.func75, Tryz.ntmps75
  go_upto_region 1 with (fail)
  refine name2 (fun W k1 k2 hb => ?_)
  refine wp_region_grow 16 (fun w' => Below (World.heap W).size W w') (by kernel_rfl) (by kernel_rfl) (Below.refl _ _).drew ?_
  simp only [List.take_succ_cons, List.take_zero, List.drop_succ_cons, List.drop_zero]
  repeat (first | (apply wpG_on; rfl; (intro w' hS K hK; have hc0 := (k1.kept hS).c5; have hc1 := (k2.kept hS).c5; go_simp; (first | exact hK.out _ hS | (go_at_call 91; (with_reducible refine (coC_any _ _).mono ?_); rintro e w'' ⟨rfl, rfl⟩; exact ⟨_, rfl, hK.out _ hS⟩) | (go_at_call 91; (with_reducible refine (szC_any _ _).mono ?_); rintro e w'' ⟨rfl, rfl⟩; exact ⟨_, rfl, hK.out _ hS⟩) | (go_at_call 91; (with_reducible refine (clC_any _ _).mono ?_); rintro e w'' ⟨rfl, rfl⟩; exact ⟨_, rfl, hK.out _ hS⟩))); simp only [Act.put, List.setIfInBounds_toArray, List.set_cons_succ, List.set_cons_zero]) | (apply wpG_off; rfl; simp only [Act.put, List.setIfInBounds_toArray, List.set_cons_succ, List.set_cons_zero]))
  apply wpG_nil
  intro W1 hS
  replace k1 := k1.kept hS
  replace k2 := k2.kept hS
  replace hb := hb.trans (hS.mono hb.size)
  clear hS
  clear m1
  have c2 := k2.c5
  go_wp2_with fail
  exact end5 hb k2 (by omega) (fun w3 c3 => by simp [results, Tryz.results75, go_sem, c3]) rfl (fun w3 hb3 => ⟨rfl, hb3⟩)

/-- What is known of a limited dab. -/
structure Dbd (d : Dab) : Prop where
  x : -16777216 ≤ d.x ∧ d.x ≤ 16777216
  y : -16777216 ≤ d.y ∧ d.y ≤ 16777216
  sz : 0 ≤ d.sz ∧ d.sz ≤ 1024
  fl : 0 ≤ d.fl ∧ d.fl ≤ 65535
  an : 0 ≤ d.an ∧ d.an ≤ 65535
theorem lim_bd (d : Dab) : Dbd (lim d) := ⟨co_bd _, co_bd _, sz1_bd _, cl_bd _, by show 0 ≤ d.an % 65536 ∧ d.an % 65536 ≤ 65535; omega⟩

set_option maxHeartbeats 4000000 in
theorem dabBox_any (d : Dab) (w : World) :
    Calls Tryz.prog 33 #[dbv d] w fun e w' => e = .returned (.agg #[.int .i64 (dbox d).1, .int .i64 (dbox d).2.1, .int .i64 (dbox d).2.2.1, .int .i64 (dbox d).2.2.2]) ∧ Below w.heap.size w w' := by
  have L := Lib.hid (fun w => limited_any d w)
  have HE : Hid (dbox d = boxL (lim d).x (lim d).y (lim d).sz) := by show _ = _; rfl
  rw [HE.out]
  clear HE
  have bd := lim_bd d
  generalize lim d = l at *
  obtain ⟨x, y, sz, fl, an⟩ := l
  obtain ⟨bx, by_, bs, _, _⟩ := bd
  simp only at bx by_ bs L ⊢
  have t1 : (sz + 1).tdiv 2 = (sz + 1) / 2 := Int.tdiv_eq_ediv_of_nonneg (by omega)
  have hh : 0 ≤ (sz + 1) / 2 ∧ (sz + 1) / 2 ≤ 512 := by omega
  have HB : Hid (∀ h, h = (sz + 1) / 2 → boxL x y sz = if bxHi x h < bxLo x h ∨ bxHi y h < bxLo y h then (0, 0, 0, 0) else (bxLo x h, bxLo y h, bxHi x h - bxLo x h + 1, bxHi y h - bxLo y h + 1)) := fun h e => by subst e; rfl
  have HB2 := Lib.hid (HB.out _ rfl)
  clear HB
  generalize (sz + 1) / 2 = h at *
  have F1 : Hid (∀ w, Calls Tryz.prog 73 #[.int .i64 (x - h), .int .i64 16] w fun e w' => e = .returned (.int .i64 ((x - h) / 16)) ∧ w = w') := fun w => floor_any _ _ w (by omega) (by omega) (by omega) (by omega)
  have F2 : Hid (∀ w, Calls Tryz.prog 73 #[.int .i64 (y - h), .int .i64 16] w fun e w' => e = .returned (.int .i64 ((y - h) / 16)) ∧ w = w') := fun w => floor_any _ _ w (by omega) (by omega) (by omega) (by omega)
  have F3 : Hid (∀ w, Calls Tryz.prog 73 #[.int .i64 (x + h), .int .i64 16] w fun e w' => e = .returned (.int .i64 ((x + h) / 16)) ∧ w = w') := fun w => floor_any _ _ w (by omega) (by omega) (by omega) (by omega)
  have F4 : Hid (∀ w, Calls Tryz.prog 73 #[.int .i64 (y + h), .int .i64 16] w fun e w' => e = .returned (.int .i64 ((y + h) / 16)) ∧ w = w') := fun w => floor_any _ _ w (by omega) (by omega) (by omega) (by omega)
  have e1 : max ((x - h) / 16) (-1048576) = bxLo x h := rfl
  have e2 : max ((y - h) / 16) (-1048576) = bxLo y h := rfl
  have e3 : min ((x + h) / 16) 1048575 = bxHi x h := rfl
  have e4 : min ((y + h) / 16) 1048575 = bxHi y h := rfl
  have q1 : -1048576 ≤ bxLo x h ∧ bxLo x h ≤ 1048576 := by unfold bxLo; omega
  have q2 : -1048576 ≤ bxLo y h ∧ bxLo y h ≤ 1048576 := by unfold bxLo; omega
  have q3 : -1048577 ≤ bxHi x h ∧ bxHi x h ≤ 1048576 := by unfold bxHi; omega
  have q4 : -1048577 ≤ bxHi y h ∧ bxHi y h ≤ 1048576 := by unfold bxHi; omega
  generalize (x - h) / 16 = f1 at *
  generalize (y - h) / 16 = f2 at *
  generalize (x + h) / 16 = f3 at *
  generalize (y + h) / 16 = f4 at *
  generalize bxLo x h = x0 at *
  generalize bxLo y h = y0 at *
  generalize bxHi x h = x1 at *
  generalize bxHi y h = y1 at *
  have fin : Hid (((x1 < x0) ∧ boxL x y sz = (0, 0, 0, 0)) ∨ ((¬ x1 < x0) ∧ (y1 < y0) ∧ boxL x y sz = (0, 0, 0, 0)) ∨ ((¬ x1 < x0) ∧ (¬ y1 < y0) ∧ boxL x y sz = (x0, y0, x1 - x0 + 1, y1 - y0 + 1))) := by
    show _ ∨ _
    rw [HB2.out]
    by_cases c1 : x1 < x0
    · exact .inl ⟨c1, if_pos (.inl c1)⟩
    · by_cases c2 : y1 < y0
      · exact .inr (.inl ⟨c1, c2, if_pos (.inr c2)⟩)
      · exact .inr (.inr ⟨c1, c2, if_neg (by omega)⟩)
  clear HB2
  go_enter Tryz.func33, Tryz.ntmps33
  go_upto_region 1 with (fail)
  refine name2 (fun W k1 k2 hb => ?_)
  have c1 := k1.c5
  go_wp2_with fail
  clear c1
  refine (L.out _).mono ?_
  rintro e W1 ⟨rfl, hS⟩
  replace k1 := k1.kept hS
  replace k2 := k2.kept hS
  replace hb := hb.trans (hS.mono hb.size)
  clear hS
  have c1 := k1.c5
  go_upto_region 2 with (fail)
  clear c1
  refine mid5 hb k1 (by omega) (fun W2 k1 hk hb => ?_)
  replace k2 := hk _ _ (by omega) k2
  clear hk
  have c1 := k1.c5
  go_wp2_with fail
  refine (F1.out _).mono ?_
  rintro e w' ⟨rfl, rfl⟩
  go_wp2_with fail
  refine (F2.out _).mono ?_
  rintro e w' ⟨rfl, rfl⟩
  go_wp2_with fail
  refine (F3.out _).mono ?_
  rintro e w' ⟨rfl, rfl⟩
  go_wp2_with fail
  refine (F4.out _).mono ?_
  rintro e w' ⟨rfl, rfl⟩
  have c2 := k2.c4
  rcases fin.out with ⟨c, r⟩ | ⟨c, c', r⟩ | ⟨c, c', r⟩
  · have R := Lib.hid r
    clear r fin
    go_wp2_with fail
    exact end4 hb k2 (by omega) (fun w3 c3 => by simp [results, Tryz.results33, go_sem, c3]) rfl (fun w3 hb3 => ⟨by rw [R.out], hb3⟩)
  · have R := Lib.hid r
    clear r fin
    go_wp2_with fail
    exact end4 hb k2 (by omega) (fun w3 c3 => by simp [results, Tryz.results33, go_sem, c3]) rfl (fun w3 hb3 => ⟨by rw [R.out], hb3⟩)
  · have R := Lib.hid r
    clear r fin
    go_wp2_with fail
    exact end4 hb k2 (by omega) (fun w3 c3 => by simp [results, Tryz.results33, go_sem, c3]) rfl (fun w3 hb3 => ⟨by rw [R.out], hb3⟩)

end Go.Proofs.YtieacbccadbdbaaGreatDoor


/- Package dab: covered, Cover, valid (printed by gendab.py). -/
namespace Go.Proofs.YtieacbccadbdbaaGreatDoor
open Go.RowKit
set_option linter.unusedVariables false
attribute [local go_sem] Oper.gAt gUponK Oper.sAt stilK

/-- What is asked of a brush by what covers. -/
structure Bbd (B : Bru) : Prop where
  hd : 0 ≤ B.hd ∧ B.hd ≤ 65535
  rn : 4096 ≤ B.rn ∧ B.rn ≤ 65535
  an : 0 ≤ B.an ∧ B.an ≤ 65535
theorem bbd_of {B : Bru} (h : bchk B = 0) : Bbd B := by
  have := bchk_ok h
  exact ⟨this.2.1, this.2.2.2.2.1, this.2.2.2.2.2.2.1⟩
theorem cvr_zero {B : Bru} {d : Dab} {x y : Int} (h : d.sz = 0) : cvr B d x y = 0 := if_pos h
theorem cvr_pos {B : Bru} {d : Dab} {x y : Int} (h : ¬ d.sz = 0) : cvr B d x y = cvF B.hd d.fl (cvR (cvP (16 * (16 * x + 8 - d.x)) (16 * (16 * y + 8 - d.y)) (tS (B.an + d.an)) (tC (B.an + d.an)))
      (cvZ (cvQ (16 * (16 * x + 8 - d.x)) (16 * (16 * y + 8 - d.y)) (tS (B.an + d.an)) (tC (B.an + d.an))) B.rn) d.sz) := if_neg h

set_option maxHeartbeats 4000000 in
theorem covered_any (B : Bru) (d : Dab) (x y : Int) (a : Option Addr) (n cap : Nat) (w : World) (hs : Sines w) (bb : Bbd B) (bd : Dbd d) (hx : -1048576 ≤ x ∧ x ≤ 1048576) (hy : -1048576 ≤ y ∧ y ≤ 1048576) :
    Calls Tryz.prog 78 #[brv B (.slice a n cap), dbv d, .int .i64 x, .int .i64 y] w fun e w' => e = .returned (.int .i64 (cvr B d x y)) ∧ Below w.heap.size w w' := by
  obtain ⟨b1, b2, b3⟩ := bb
  obtain ⟨d1, d2, d3, d4, d5⟩ := bd
  have HSn := Lib.hid hs
  clear hs
  by_cases hz : d.sz = 0
  · have HE := Lib.hid (cvr_zero (B := B) (x := x) (y := y) hz)
    rw [HE.out]
    go_enter Tryz.func78, Tryz.ntmps78
    go_upto_region 1 with (fail)
    refine name2 (fun W k1 k2 hb => ?_)
    have c2 := k2.c5
    go_wp2_with fail
    go_ret
    exact ⟨rfl, hb⟩
  · have HE := Lib.hid (cvr_pos (B := B) (x := x) (y := y) hz)
    have T := Lib.hid (fun w h => turn_any (B.an + d.an) w h (by omega) (by omega))
    have ts := tS_bd (B.an + d.an)
    have tc := tC_bd (B.an + d.an)
    have hu : -536871040 ≤ 16 * (16 * x + 8 - d.x) ∧ 16 * (16 * x + 8 - d.x) ≤ 536871040 := by omega
    have hv : -536871040 ≤ 16 * (16 * y + 8 - d.y) ∧ 16 * (16 * y + 8 - d.y) ≤ 536871040 := by omega
    have bz : (d.sz == 0) = false := by simpa using hz
    go_enter Tryz.func78, Tryz.ntmps78
    go_upto_region 1 with (fail)
    refine name2 (fun W k1 k2 hb => ?_)
    have c1 := k1.c16
    have c2 := k2.c5
    go_upto_region 5 with (fail)
    generalize 16 * (16 * x + 8 - d.x) = U at *
    generalize 16 * (16 * y + 8 - d.y) = V at *
    go_wp2_with fail
    refine (T.out _ (HSn.out.kept hb)).mono ?_
    rintro e W1 ⟨rfl, hS⟩
    replace k1 := k1.kept hS
    replace k2 := k2.kept hS
    replace hb := hb.trans (hS.mono hb.size)
    clear hS c1 c2 T
    have c1 := k1.c16
    have c2 := k2.c5
    generalize tS (B.an + d.an) = s at *
    generalize tC (B.an + d.an) = c at *
    have r1 := rot_in U V s c hu hv ts tc
    have r2 := rot_in V U s c hv hu ts tc
    have D1 : Hid (∀ w, Calls Tryz.prog 61 #[.int .i64 (c * U + s * V), .int .i64 65536] w fun e w' => e = .returned (.int .i64 (cvP U V s c)) ∧ w = w') := fun w => div_any _ _ w (by omega) (by omega) (by omega) (by omega)
    have D2 : Hid (∀ w, Calls Tryz.prog 61 #[.int .i64 (c * V - s * U), .int .i64 65536] w fun e w' => e = .returned (.int .i64 (cvQ U V s c)) ∧ w = w') := fun w => div_any _ _ w (by omega) (by omega) (by omega) (by omega)
    have bp := cvP_bd U V s c hu hv ts tc
    have bq := cvQ_bd U V s c hu hv ts tc
    generalize cvP U V s c = p at *
    generalize cvQ U V s c = q at *
    have m1 : IntKind.i64.wrap (c * U) = c * U := IntWalk.i64_in _ (by omega)
    have m2 : IntKind.i64.wrap (s * V) = s * V := IntWalk.i64_in _ (by omega)
    have m3 : IntKind.i64.wrap (c * U + s * V) = c * U + s * V := IntWalk.i64_in _ (by omega)
    have m4 : IntKind.i64.wrap (c * V) = c * V := IntWalk.i64_in _ (by omega)
    have m5 : IntKind.i64.wrap (s * U) = s * U := IntWalk.i64_in _ (by omega)
    have m6 : IntKind.i64.wrap (c * V - s * U) = c * V - s * U := IntWalk.i64_in _ (by omega)
    go_wp2_with fail
    refine (D1.out _).mono ?_
    rintro e w' ⟨rfl, rfl⟩
    go_wp2_with fail
    refine (D2.out _).mono ?_
    rintro e w' ⟨rfl, rfl⟩
    clear m1 m2 m3 m4 m5 m6 r1 r2
    have D3 : Hid (∀ w, Calls Tryz.prog 61 #[.int .i64 (65535 * max q (-q)), .int .i64 B.rn] w fun e w' => e = .returned (.int .i64 (cvZ q B.rn)) ∧ w = w') := fun w => div_any _ _ w (by omega) (by omega) (by omega) (by omega)
    have bzz := cvZ_bd q B.rn bq b2.1
    have q0 : 0 ≤ max q (-q) ∧ max q (-q) ≤ 1073742080 := by omega
    generalize cvZ q B.rn = z at *
    go_wp2_with fail
    refine (D3.out _).mono ?_
    rintro e w' ⟨rfl, rfl⟩
    clear D1 D2 D3
    have bh := cvH_bd p z bp bzz
    have HY : Hid (∀ w, Calls Tryz.prog 99 #[.int .i64 p, .int .i64 z] w fun e w' => e = .returned (.int .i64 (hypot p z)) ∧ w = w') := fun w => hypotw_any _ _ w (by omega) (by omega) (by omega) (by omega)
    have D4 : Hid (∀ w, Calls Tryz.prog 61 #[.int .i64 (65535 * hypot p z), .int .i64 (8 * d.sz)] w fun e w' => e = .returned (.int .i64 (cvR p z d.sz)) ∧ w = w') := fun w => div_any _ _ w (by omega) (by omega) (by omega) (by omega)
    have br := cvR_bd p z d.sz (by omega)
    generalize cvR p z d.sz = r at *
    generalize hypot p z = H at *
    have m1 : IntKind.i64.wrap (65535 * H) = 65535 * H := IntWalk.i64_in _ (by omega)
    have m2 : IntKind.i64.wrap (8 * d.sz) = 8 * d.sz := IntWalk.i64_in _ (by omega)
    go_upto_region 9 with (fail)
    refine wp_region_grow 8 (fun w' => Below (World.heap W1).size W1 w') (by kernel_rfl) (by kernel_rfl) (Below.refl _ _).drew ?_
    simp only [List.take_succ_cons, List.take_zero, List.drop_succ_cons, List.drop_zero]
    repeat (first | (apply wpG_on; rfl; (intro w' hS K hK; have hc0 := (k1.kept hS).c16; have hc1 := (k2.kept hS).c5; go_simp; (first | exact hK.out _ hS | (go_at_call 99; (with_reducible refine (HY.out _).mono ?_); rintro e w'' ⟨rfl, rfl⟩; exact ⟨_, rfl, hK.out _ hS⟩) | (go_at_call 61; (with_reducible refine (D4.out _).mono ?_); rintro e w'' ⟨rfl, rfl⟩; exact ⟨_, rfl, hK.out _ hS⟩))); simp only [Act.put, List.setIfInBounds_toArray, List.set_cons_succ, List.set_cons_zero]) | (apply wpG_off; rfl; simp only [Act.put, List.setIfInBounds_toArray, List.set_cons_succ, List.set_cons_zero]))
    apply wpG_nil
    intro W2 hS
    replace k1 := k1.kept hS
    replace k2 := k2.kept hS
    replace hb := hb.trans (hS.mono hb.size)
    clear hS
    clear m1 m2 c1 c2
    have c1 := k1.c16
    have c2 := k2.c5
    by_cases h1 : r ≤ B.hd
    · have R : Hid (cvr B d x y = d.fl) := by show _ = _; rw [HE.out]; exact if_pos h1
      go_wp2_with fail
      go_ret
      exact ⟨ret_int R.out.symm, hb⟩
    · by_cases h2 : 65535 ≤ r
      · have R : Hid (cvr B d x y = 0) := by show _ = _; rw [HE.out]; unfold cvF; rw [if_neg h1, if_pos h2]
        go_wp2_with fail
        go_ret
        exact ⟨ret_int R.out.symm, hb⟩
      · have R : Hid (cvr B d x y = dv (d.fl * (65535 - r)) (65535 - B.hd)) := by show _ = _; rw [HE.out]; unfold cvF; rw [if_neg h1, if_neg h2]
        have hi := cvF_in B.hd d.fl r b1.1 (by omega) (by omega) d4
        have D5 : Hid (∀ w, Calls Tryz.prog 61 #[.int .i64 (d.fl * (65535 - r)), .int .i64 (65535 - B.hd)] w fun e w' => e = .returned (.int .i64 (dv (d.fl * (65535 - r)) (65535 - B.hd))) ∧ w = w') := fun w => div_any _ _ w (by omega) (by omega) (by omega) (by omega)
        have m1 : IntKind.i64.wrap (d.fl * (65535 - r)) = d.fl * (65535 - r) := IntWalk.i64_in _ (by omega)
        go_wp2_with fail
        refine (D5.out _).mono ?_
        rintro e w' ⟨rfl, rfl⟩
        go_wp2_with fail
        go_ret
        exact ⟨ret_int R.out.symm, hb⟩
end Go.Proofs.YtieacbccadbdbaaGreatDoor


/- Package dab: Cover, valid (printed by gendab.py). -/
namespace Go.Proofs.YtieacbccadbdbaaGreatDoor
open Go.RowKit
set_option linter.unusedVariables false
attribute [local go_sem] Oper.gAt gUponK Oper.sAt stilK


set_option maxHeartbeats 1000000 in
theorem dvalid_any (d : Dab) (w : World) :
    Calls Tryz.prog 77 #[dbv d] w fun e w' => e = .returned (.bool (dOk d)) ∧ Below w.heap.size w w' := by
  have L : Hid (∀ w, Calls Tryz.prog 75 #[dbv d] w fun e w' => e = .returned (.agg #[.int .i64 (co d.x), .int .i64 (co d.y), .int .i64 (sz1 d.sz), .int .i64 (cl d.fl), .int .i64 (d.an % 65536)]) ∧ Below w.heap.size w w') := fun w => limited_any d w
  have HE : Hid (dOk d = decide (d.x = co d.x ∧ d.y = co d.y ∧ d.sz = sz1 d.sz ∧ d.fl = cl d.fl ∧ d.an = d.an % 65536)) := by show _ = _; rfl
  rw [HE.out]
  clear HE
  generalize co d.x = x0 at *
  generalize co d.y = x1 at *
  generalize sz1 d.sz = x2 at *
  generalize cl d.fl = x3 at *
  generalize d.an % 65536 = x4 at *
  go_enter Tryz.func77, Tryz.ntmps77
  go_upto_region 1 with (fail)
  refine name1 (fun W k1 hb => ?_)
  refine wp_region_grow 3 (fun w' => Below (World.heap W).size W w') (by kernel_rfl) (by kernel_rfl) (Below.refl _ _).drew ?_
  simp only [List.take_succ_cons, List.take_zero, List.drop_succ_cons, List.drop_zero]
  repeat (first | (apply wpG_on; rfl; (intro w' hS K hK; have hc0 := (k1.kept hS).c5; go_simp; (first | exact hK.out _ hS | (go_at_call 75; (with_reducible refine (L.out _).mono ?_); rintro e w'' ⟨rfl, hbb⟩; exact ⟨_, rfl, hK.out _ (hS.trans (hbb.mono hS.size))⟩))); simp only [Act.put, List.setIfInBounds_toArray, List.set_cons_succ, List.set_cons_zero]) | (apply wpG_off; rfl; simp only [Act.put, List.setIfInBounds_toArray, List.set_cons_succ, List.set_cons_zero]))
  apply wpG_nil
  intro W1 hS
  replace k1 := k1.kept hS
  replace hb := hb.trans (hS.mono hb.size)
  clear hS
  go_wp2_with fail
  all_goals go_ret
  all_goals refine ⟨ret_bool ?_, hb⟩
  all_goals simp [*]
end Go.Proofs.YtieacbccadbdbaaGreatDoor


/- Masks of dabs, plainly; four boxes made at the start of a function. -/
namespace Go.Proofs.YtieacbccadbdbaaGreatDoor
open Go.RowKit
set_option linter.unusedVariables false
theorem alloc4 (w : World) (A B C D : Obj) : Blk ((((w.alloc A).alloc B).alloc C).alloc D) w.heap.size A ∧ Blk ((((w.alloc A).alloc B).alloc C).alloc D) (w.heap.size + 1) B ∧ Blk ((((w.alloc A).alloc B).alloc C).alloc D) (w.heap.size + 1 + 1) C ∧ Blk ((((w.alloc A).alloc B).alloc C).alloc D) (w.heap.size + 1 + 1 + 1) D ∧ Below w.heap.size w ((((w.alloc A).alloc B).alloc C).alloc D) := by
  obtain ⟨h1, h2, h3, h4⟩ := alloc3 w A B C
  have hz : (((w.alloc A).alloc B).alloc C).heap.size = w.heap.size + 1 + 1 + 1 := by simp
  have hb : Below (((w.alloc A).alloc B).alloc C).heap.size (((w.alloc A).alloc B).alloc C) ((((w.alloc A).alloc B).alloc C).alloc D) := (Below.refl _ _).alloc (Nat.le_refl _) _
  refine ⟨h1.kept hb, h2.kept hb, h3.kept hb, ?_, h4.trans (hb.mono (by omega))⟩
  have := heap_alloc_new (((w.alloc A).alloc B).alloc C) D
  rw [hz] at this
  exact this
theorem name4 {P : Program} {c : Code} {Q : Exit → Act → World → Prop} {a : Act} {w : World} {A B C D : Obj}
    (h : ∀ W : World, Blk W w.heap.size A → Blk W (w.heap.size + 1) B → Blk W (w.heap.size + 1 + 1) C → Blk W (w.heap.size + 1 + 1 + 1) D → Below w.heap.size w W → c.wp P Q a W) : c.wp P Q a ((((w.alloc A).alloc B).alloc C).alloc D) :=
  h _ (alloc4 w A B C D).1 (alloc4 w A B C D).2.1 (alloc4 w A B C D).2.2.1 (alloc4 w A B C D).2.2.2.1 (alloc4 w A B C D).2.2.2.2

def tipAt (B : Bru) (d : Dab) (X Y : Int) (W : Nat) (i : Nat) : Int := cvr B d (X + ((i % W : Nat) : Int)) (Y + ((i / W : Nat) : Int))
def tipOut (B : Bru) (d : Dab) (X Y : Int) (W H : Nat) : List Int := (List.range (W * H)).map (tipAt B d X Y W)
theorem tipOut_len (B : Bru) (d : Dab) (X Y : Int) (W H : Nat) : (tipOut B d X Y W H).length = W * H := by simp [tipOut]
theorem tipOut_at (B : Bru) (d : Dab) (X Y : Int) (W H : Nat) (i : Nat) (hi : i < W * H) : (tipOut B d X Y W H).getD i 0 = tipAt B d X Y W i := by simp [tipOut, List.getD, hi]
theorem rSpan_true' {x w : Int} (h : rSpan x w = true) : -1048576 ≤ x ∧ x ≤ 1048576 ∧ 0 ≤ w ∧ w ≤ 1048576 - x := of_decide_eq_true h
theorem tipAt_eq (B : Bru) (d : Dab) (X Y : Int) (W k j : Nat) (hj : j < W) : tipAt B d X Y W (k * W + j) = cvr B d (X + (j : Int)) (Y + (k : Int)) := by
  have e1 : (k * W + j) % W = j := by rw [Nat.mul_comm, Nat.mul_add_mod]; exact Nat.mod_eq_of_lt hj
  have e2 : (k * W + j) / W = k := by rw [Nat.mul_comm, Nat.mul_add_div (by omega)]; rw [Nat.div_eq_of_lt hj]; omega
  unfold tipAt
  rw [e1, e2]
/-- The other ends of Tip. -/
def TipBad (B : Bru) (d : Dab) (X Y W H E : Int) : Prop :=
  (bchk B ≠ 0 ∧ E = bchk B) ∨ (bchk B = 0 ∧ dOk d = false ∧ E = 2) ∨ (bchk B = 0 ∧ dOk d = true ∧ rValid X Y W H = false ∧ E = 2) ∨
  (bchk B = 0 ∧ dOk d = true ∧ rValid X Y W H = true ∧ 256 < W ∧ E = 15) ∨ (bchk B = 0 ∧ dOk d = true ∧ rValid X Y W H = true ∧ ¬ 256 < W ∧ 256 < H ∧ E = 15) ∨
  (bchk B = 0 ∧ dOk d = true ∧ rValid X Y W H = true ∧ ¬ 256 < W ∧ ¬ 256 < H ∧ (W == 0 || H == 0) = true ∧ E = 0)
theorem tip_cases (B : Bru) (d : Dab) (X Y W H : Int) : (∃ E, TipBad B d X Y W H E) ∨ (bchk B = 0 ∧ dOk d = true ∧ rValid X Y W H = true ∧ 0 < W ∧ W ≤ 256 ∧ 0 < H ∧ H ≤ 256) := by
  by_cases h1 : bchk B = 0
  · cases h2 : dOk d with
    | false => exact .inl ⟨2, .inr (.inl ⟨h1, h2, rfl⟩)⟩
    | true =>
      cases h3 : rValid X Y W H with
      | false => exact .inl ⟨2, .inr (.inr (.inl ⟨h1, h2, h3, rfl⟩))⟩
      | true =>
        by_cases h4 : 256 < W
        · exact .inl ⟨15, .inr (.inr (.inr (.inl ⟨h1, h2, h3, h4, rfl⟩)))⟩
        · by_cases h5 : 256 < H
          · exact .inl ⟨15, .inr (.inr (.inr (.inr (.inl ⟨h1, h2, h3, h4, h5, rfl⟩))))⟩
          · cases h6 : (W == 0 || H == 0) with
            | true => exact .inl ⟨0, .inr (.inr (.inr (.inr (.inr ⟨h1, h2, h3, h4, h5, h6, rfl⟩))))⟩
            | false =>
              have h3' := h3
              unfold rValid at h3'
              rw [Bool.and_eq_true] at h3'
              have a := rSpan_true' h3'.1
              have b := rSpan_true' h3'.2
              simp only [Bool.or_eq_false_iff, beq_eq_false_iff_ne] at h6
              exact .inr ⟨h1, rfl, rfl, by omega, by omega, by omega, by omega⟩
  · exact .inl ⟨_, .inl ⟨h1, rfl⟩⟩
end Go.Proofs.YtieacbccadbdbaaGreatDoor

