/- RetouchBorders: Heal changes no pixel on the border of the rectangle or outside of it, and none at which the selection is 0 (the walk; printed by genbord29.py). -/
import Derived.Test.YtieacbccadbdbaaDoorBordP
import Derived.Test.YtieacbccadbdbaaDoorRetAw
import Derived.Test.YtieacbccadbdbaaDoorBrOpen
import Derived.Test.YtieacbccadbdbaaDoorLOpen
import Derived.Deep.Cut
namespace Go.Proofs.YtieacbccadbdbaaDoor.retouchBorders
open Go.ChangeShapes Go.WideShapes Go.ChangeAt Go.RowKit
set_option linter.unusedVariables false
attribute [local go_sem] Oper.gAt gUponK Oper.sAt stilK

set_option maxRecDepth 100000 in
set_option maxHeartbeats 16000000 in
theorem bord_bad (iw ih : Int) (iv : Value) (ps : List Px) (rx ry rw rh px py mw mh : Int) (mv : Value) (zs : List Int) (w : World) (hs : Sines w) (hI : Pn w iv ps) (hM : Nn w mv zs) (E : Int) (ho : HealOut iw ih ps rx ry rw rh px py mw mh zs 0 0 E []) (hE : E ≠ 0) :
    Calls Tryd.prog 4 #[.agg #[.int .i64 iw, .int .i64 ih, iv], .agg #[.int .i64 rx, .int .i64 ry, .int .i64 rw, .int .i64 rh], .agg #[.int .i64 px, .int .i64 py], .agg #[.int .i64 mw, .int .i64 mh, mv]] w fun e w' => e = .returned (.bool true) ∧ Below w.heap.size w w' := by
  have HI := Lib.hid hI
  have HM := Lib.hid hM
  have HSn := Lib.hid hs
  obtain ⟨ai, ci, rfl⟩ := hI.slice
  obtain ⟨am, cm, rfl, _⟩ := hM.slice
  have S1 : Hid (∀ w, Pn w (.slice ai ps.length ci) ps → Nn w (.slice am zs.length cm) zs → Calls Tryd.prog 10 #[.agg #[.int .i64 iw, .int .i64 ih, .slice ai ps.length ci], .agg #[.int .i64 rx, .int .i64 ry, .int .i64 rw, .int .i64 rh], .agg #[.int .i64 px, .int .i64 py], .agg #[.int .i64 mw, .int .i64 mh, .slice am zs.length cm]] w fun e w' => ∃ q, e = .returned (.tuple #[.agg #[.int .i64 0, .int .i64 0, q], .int .i64 E]) ∧ Pn w' q [] ∧ Fresh w.heap.size q ∧ Below w.heap.size w w') := fun w y1 y2 =>
    heal_any iw ih (.slice ai ps.length ci) ps rx ry rw rh px py mw mh (.slice am zs.length cm) zs 0 0 E [] w y1 y2 ho
  have AW := Lib.hid awake_any
  have SM := Lib.hid (same29_true 0 0)
  have be : (E != 0) = true := by simpa using hE
  clear hI hM hs hE ho
  generalize ps.length = ni at *
  generalize zs.length = nz at *
  go_enter Tryd.func4, Tryd.ntmps4
  go_upto_region 1 with (fail)
  refine name4 (fun W1 k1 k2 k3 k4 hb => ?_)
  have c1 := k1.c3
  have c2 := k2.c4
  have c3 := k3.c2
  have c4 := k4.c3
  go_wp2_with fail
  clear c1 c2 c3 c4
  refine (S1.out _ (HI.out.kept hb) (HM.out.kept hb)).mono ?_
  rintro e W2 ⟨q, rfl, hq, _, hS⟩
  replace k1 := k1.kept hS
  replace k2 := k2.kept hS
  replace k3 := k3.kept hS
  replace k4 := k4.kept hS
  replace hb := hb.trans (hS.mono hb.size)
  obtain ⟨aq, caq, rfl⟩ := hq.slice
  rw [List.length_nil] at hq ⊢
  clear hS S1
  go_upto_region 2 with (refine wpList_store_blk rfl _ _ _ rfl W2.heap.size #[.int .i64 0, .int .i64 0, .slice aq 0 caq] rfl rfl (heap_alloc_new W2 _) infoImgR rfl (by simp [Value.oneCell']) (fun W3 ka hkx hbx => ?_))
  have hS : Below W2.heap.size W2 W3 := ((Below.refl _ _).alloc (Nat.le_refl _) _).trans hbx
  replace k1 := k1.kept hS
  replace k2 := k2.kept hS
  replace k3 := k3.kept hS
  replace k4 := k4.kept hS
  replace hb := hb.trans (hS.mono hb.size)
  replace hq := hq.kept hS
  clear hS hkx hbx
  generalize W2.heap.size = xka at *
  go_wp2_with fail
  refine (AW.out _ (HSn.out.kept hb)).mono ?_
  rintro e W6 ⟨rfl, hS⟩
  replace k1 := k1.kept hS
  replace k2 := k2.kept hS
  replace k3 := k3.kept hS
  replace k4 := k4.kept hS
  replace ka := ka.kept hS
  replace hq := hq.kept hS
  replace hb := hb.trans (hS.mono hb.size)
  clear hS
  go_wp2_with fail
  refine (AW.out _ (HSn.out.kept hb)).mono ?_
  rintro e W7 ⟨rfl, hS⟩
  replace ka := ka.kept hS
  replace hq := hq.kept hS
  replace hb := hb.trans (hS.mono hb.size)
  clear hS
  have ca := ka.c3
  go_wp2_with fail
  clear ca
  refine (SM.out _ _ [] _ hq (Pn.nil _)).mono ?_
  rintro e W8 ⟨rfl, hS⟩
  replace hb := hb.trans (hS.mono hb.size)
  go_wp2_with fail
  go_ret
  exact ⟨rfl, hb⟩

set_option maxRecDepth 100000 in
set_option maxHeartbeats 32000000 in
theorem bord_good (W H X Y wd ht : Nat) (iv : Value) (ps : List Px) (px py mw mh : Int) (mv : Value) (zs : List Int) (w : World) (hs : Sines w) (hI : Pn w iv ps) (hM : Nn w mv zs) (h1 : ichk W H ps = 0) (h2 : mchk mw mh zs = 0) (h3 : hRect W H X Y wd ht) (h4 : hOff W H X Y wd ht px py) (h5 : hSize W H wd ht mw mh) :
    Calls Tryd.prog 4 #[.agg #[.int .i64 W, .int .i64 H, iv], .agg #[.int .i64 X, .int .i64 Y, .int .i64 wd, .int .i64 ht], .agg #[.int .i64 px, .int .i64 py], .agg #[.int .i64 mw, .int .i64 mh, mv]] w fun e w' => e = .returned (.bool true) ∧ Below w.heap.size w w' := by
  obtain ⟨hn, _, hW, _, hH, hnl⟩ := ichk_len h1
  have hwh := (ichk_px h1).1
  have hv0 := h3
  obtain ⟨hv, q1, q2, q3, q4, q5, q6⟩ := hv0
  obtain ⟨z1, z2, z3⟩ := id h5
  obtain ⟨_, _, _, _, _, _, hzl⟩ := mchk_len h2
  have hzn : mw ≠ 0 → zs.length = ps.length := fun h0 => by
    obtain ⟨h5, h6⟩ : mw = W ∧ mh = H := by omega
    rw [h5, h6] at hzl
    omega
  have hW1 : 1 ≤ W := by omega
  have hn0 : 0 < ps.length := by
    have hH1 : 1 ≤ H := by omega
    have e1 := Nat.mul_le_mul hW1 hH1
    have e2 := Int.natCast_mul W H
    omega
  have he : rEmp ((X : Int), (Y : Int), (wd : Int), (ht : Int)) = false := by
    unfold rEmp
    rw [show rOk ((X : Int), (Y : Int), (wd : Int), (ht : Int)) = true from hv]
    simp only [Bool.not_true, Bool.false_or, Bool.or_eq_false_iff, beq_eq_false_iff_ne]
    exact ⟨q1, q2⟩
  have GW := Lib.hid (fun w => growIn_any X Y wd ht w he)
  have HI := Lib.hid hI
  have HM := Lib.hid hM
  have HSn := Lib.hid hs
  obtain ⟨ai, ci, rfl⟩ := hI.slice
  obtain ⟨am, cm, rfl, _⟩ := hM.slice
  have S1 : Hid (∀ w, Pn w (.slice ai ps.length ci) ps → Nn w (.slice am zs.length cm) zs → Calls Tryd.prog 10 #[.agg #[.int .i64 W, .int .i64 H, .slice ai ps.length ci], .agg #[.int .i64 X, .int .i64 Y, .int .i64 wd, .int .i64 ht], .agg #[.int .i64 px, .int .i64 py], .agg #[.int .i64 mw, .int .i64 mh, .slice am zs.length cm]] w fun e w' => ∃ q, e = .returned (.tuple #[.agg #[.int .i64 W, .int .i64 H, q], .int .i64 0]) ∧ Pn w' q (heals W wd ht X Y ((X : Int) + px).toNat ((Y : Int) + py).toNat mw zs ps) ∧ Fresh w.heap.size q ∧ Below w.heap.size w w') := fun w y1 y2 =>
    heal_any W H (.slice ai ps.length ci) ps X Y wd ht px py mw mh (.slice am zs.length cm) zs W H 0 (heals W wd ht X Y ((X : Int) + px).toNat ((Y : Int) + py).toNat mw zs ps) w y1 y2 (.inr (.inr (.inr (.inr (.inr ⟨h1, h2, h3, h4, h5, rfl, rfl, rfl, rfl⟩)))))
  have AW := Lib.hid awake_any
  have TL := Lib.hid (heals_len W wd ht X Y ((X : Int) + px).toNat ((Y : Int) + py).toNat mw zs ps)
  have hbo : rOk (inR4 X Y wd ht) = true := rbtw_ok _ _ _ _
  have KA := Lib.hid (fun k hk h => heal_out_at W wd ht X Y ((X : Int) + px).toNat ((Y : Int) + py).toNat mw zs ps k (by omega) (by omega) hk h)
  clear hI hM hs h1 h2 h3 h4 h5 hnl hwh hzl he hv
  generalize heals W wd ht X Y ((X : Int) + px).toNat ((Y : Int) + py).toNat mw zs ps = us at *
  generalize inR4 (X : Int) (Y : Int) (wd : Int) (ht : Int) = r at *
  obtain ⟨r0', r1', r2', r3'⟩ := r
  replace GW : Hid (∀ w, Calls Tryd.prog 12 #[.agg #[.int .i64 X, .int .i64 Y, .int .i64 wd, .int .i64 ht], .int .i64 (-1)] w fun e w' => e = .returned (.agg #[.int .i64 r0', .int .i64 r1', .int .i64 r2', .int .i64 r3']) ∧ Below w.heap.size w w') := GW
  have HS := Lib.hid (fun px py w => hasRect_any r0' r1' r2' r3' px py w hbo)
  simp only at KA
  clear hbo
  generalize hnn : ps.length = n at *
  clear hnn
  generalize hnz : zs.length = nz at *
  clear hnz
  go_enter Tryd.func4, Tryd.ntmps4
  go_upto_region 1 with (fail)
  refine name4 (fun W1 k1 k2 k3 k4 hb => ?_)
  have c1 := k1.c3
  have c2 := k2.c4
  have c3 := k3.c2
  have c4 := k4.c3
  go_wp2_with fail
  clear c1 c2 c3 c4
  refine (S1.out _ (HI.out.kept hb) (HM.out.kept hb)).mono ?_
  rintro e W2 ⟨q, rfl, hq, _, hS⟩
  replace k1 := k1.kept hS
  replace k2 := k2.kept hS
  replace k3 := k3.kept hS
  replace k4 := k4.kept hS
  replace hb := hb.trans (hS.mono hb.size)
  obtain ⟨aq, caq, rfl⟩ := hq.slice
  rw [TL.out] at hq ⊢
  clear hS S1
  go_upto_region 2 with (refine wpList_store_blk rfl _ _ _ rfl W2.heap.size #[.int .i64 W, .int .i64 H, .slice aq n caq] rfl rfl (heap_alloc_new W2 _) infoImgR rfl (by simp [Value.oneCell']) (fun W3 ka hkx hbx => ?_))
  have hS : Below W2.heap.size W2 W3 := ((Below.refl _ _).alloc (Nat.le_refl _) _).trans hbx
  replace k1 := k1.kept hS
  replace k2 := k2.kept hS
  replace k3 := k3.kept hS
  replace k4 := k4.kept hS
  replace hb := hb.trans (hS.mono hb.size)
  replace hq := hq.kept hS
  clear hS hkx hbx
  generalize W2.heap.size = xka at *
  go_wp2_with fail
  refine (AW.out _ (HSn.out.kept hb)).mono ?_
  rintro e W6 ⟨rfl, hS⟩
  replace k1 := k1.kept hS
  replace k2 := k2.kept hS
  replace k3 := k3.kept hS
  replace k4 := k4.kept hS
  replace ka := ka.kept hS
  replace hq := hq.kept hS
  replace hb := hb.trans (hS.mono hb.size)
  clear hS
  have hw0 : ¬ (W : Int) < 1 := by omega
  have hnb : ((n : Int) != 0) = true := by simp; omega
  have hnb2 : ¬ (n : Int) = 0 := by omega
  have hnb3 : ¬ n = 0 := by omega
  have c1 := k1.c3
  have ca := ka.c3
  have c2 := k2.c4
  go_wp2_with fail
  clear c1 ca c2
  refine (GW.out _).mono ?_
  rintro e W8 ⟨rfl, hS⟩
  replace k1 := k1.kept hS
  replace k2 := k2.kept hS
  replace k3 := k3.kept hS
  replace k4 := k4.kept hS
  replace ka := ka.kept hS
  replace hq := hq.kept hS
  replace hb := hb.trans (hS.mono hb.size)
  clear hS GW AW
  go_upto_region 7 with (fail)
  refine name1 (fun W9 kb hS => ?_)
  replace k1 := k1.kept hS
  replace k2 := k2.kept hS
  replace k3 := k3.kept hS
  replace k4 := k4.kept hS
  replace ka := ka.kept hS
  replace hq := hq.kept hS
  replace hb := hb.trans (hS.mono hb.size)
  clear hS
  have HU := Lib.hid hq
  have h6 := hb
  clear hb hq
  have hb := Below.refl W9.heap.size W9
  generalize W8.heap.size = xb at *
  have c1 := k1.c3
  go_wp2_with fail
  clear c1
  go_loopw [71] (fun i wr => ∃ k : Nat, k ≤ n ∧ i = .int .i64 k ∧ Blk wr w.heap.size (.cells #[.int .i64 W, .int .i64 H, .slice ai n ci] 24 (0, 0)) ∧ Blk wr (w.heap.size + 1 + 1 + 1) (.cells #[.int .i64 mw, .int .i64 mh, .slice am nz cm] 33 (0, 0)) ∧ Blk wr xka (.cells #[.int .i64 W, .int .i64 H, .slice aq n caq] 24 (0, 0)) ∧ Blk wr xb (.cells #[.int .i64 r0', .int .i64 r1', .int .i64 r2', .int .i64 r3'] 35 (0, 0)) ∧ Below W9.heap.size W9 wr) (fun i _ => n - (intOf i).toNat)
  case atStart => exact ⟨0, Nat.zero_le _, rfl, k1, k4, ka, kb, hb⟩
  case round =>
    clear k1 k2 k3 k4 ka kb hb
    obtain ⟨k, hk, rfl, k1, k4, ka, kb, hb⟩ := hrel
    by_cases hlt : k < n
    · obtain ⟨b1, off1, rfl, hbl1, hcell1⟩ := HI.out.at k hlt
      obtain ⟨b2, off2, rfl, hbl2, hcell2⟩ := HU.out.at k hlt
      have KA1 := Lib.hid (KA.out k hlt)
      have HS1 := Lib.hid (fun w => HS.out ((k % W : Nat) : Int) ((k / W : Nat) : Int) w)
      have t1 : ((k : Nat) : Int).tmod (W : Int) = ((k % W : Nat) : Int) := Int.tmod_eq_emod_of_nonneg (by omega)
      have t2 : ((k : Nat) : Int).tdiv (W : Int) = ((k / W : Nat) : Int) := Int.tdiv_eq_ediv_of_nonneg (by omega)
      have r1 : k % W < W := Nat.mod_lt _ (by omega)
      have r2 : k / W ≤ k := Nat.div_le_self _ _
      generalize hasP r0' r1' r2' r3' ((k % W : Nat) : Int) ((k / W : Nat) : Int) = hx at *
      generalize pxAt ps k = p at *
      generalize pxAt us k = q at *
      generalize k % W = rm at *
      generalize k / W = qd at *
      obtain ⟨p0, p1', p2, p3⟩ := p
      simp only at hcell1
      have hc1 := hcell1 wr (h6.trans (hb.mono h6.size))
      clear hcell1
      have HC2 := Lib.hid hcell2
      clear hcell2
      have wz : ((W : Int) == 0) = false := by simp; omega
      have wn : ¬ W = 0 := by omega
      have e5 : IntKind.i64.wrap (qd : Int) = (qd : Int) := IntWalk.i64_in _ (by omega)
      have e6 : IntKind.i64.wrap (rm : Int) = (rm : Int) := IntWalk.i64_in _ (by omega)
      have i1 : (0 : Int) ≤ (k : Int) := by omega
      have i2 : (k : Int) < (n : Int) := by omega
      have i3 : k < n := hlt
      go_upto_region 10 with (fail)
      clear hc1
      refine name1 (fun W10 kp hS => ?_)
      replace k1 := k1.kept hS
      replace k4 := k4.kept hS
      replace ka := ka.kept hS
      replace kb := kb.kept hS
      replace hb := hb.trans (hS.mono hb.size)
      clear hS
      cases hx
      · have hKK := KA1.out (.inr rfl)
        obtain rfl := hKK
        have HC2' := Lib.hid HC2.out
        simp only at HC2'
        refine wp_region_grow 31 (fun w' => Below (World.heap W10).size W10 w') (by kernel_rfl) (by kernel_rfl) (Below.refl _ _).drew ?_
        simp only [List.take_succ_cons, List.take_zero, List.drop_succ_cons, List.drop_zero]
        repeat (first | (apply wpG_on; rfl; (intro w' hS K hK; have hc0 := (kb.kept hS).c4; have hc1 := (k1.kept hS).c3; have hc2 := (k4.kept hS).c3; have hc3 := (kp.kept hS).lt; have hc4 := (ka.kept hS).lt; go_simp; (first | exact hK.out _ hS | (go_at_call 13; (with_reducible refine (HS1.out _).mono ?_); rintro e w'' ⟨rfl, hbb⟩; exact ⟨_, rfl, hK.out _ (hS.trans (hbb.mono hS.size))⟩))); simp only [Act.put, List.setIfInBounds_toArray, List.set_cons_succ, List.set_cons_zero]) | (apply wpG_off; rfl; simp only [Act.put, List.setIfInBounds_toArray, List.set_cons_succ, List.set_cons_zero]))
        apply wpG_nil
        intro W11 hS
        replace kb := kb.kept hS
        replace k1 := k1.kept hS
        replace k4 := k4.kept hS
        replace kp := kp.kept hS
        replace ka := ka.kept hS
        replace hb := hb.trans (hS.mono hb.size)
        clear hS
        clear t1 t2 wz wn e5 e6
        go_upto_region 11 with (fail)
        refine wp_region_grow 7 (fun w' => Below (World.heap W11).size W11 w') (by kernel_rfl) (by kernel_rfl) (Below.refl _ _).drew ?_
        simp only [List.take_succ_cons, List.take_zero, List.drop_succ_cons, List.drop_zero]
        repeat (first | (apply wpG_on; rfl; (intro w' hS K hK; have hc0 := (ka.kept hS).c3; have hc1 := (kp.kept hS).c4; have hc2 := (k1.kept hS).lt; have hc3 := (k4.kept hS).lt; have hc4 := (kb.kept hS).lt; have hr0 := HC2'.out _ (hb.trans (hS.mono hb.size)); go_simp; (first | exact hK.out _ hS)); simp only [Act.put, List.setIfInBounds_toArray, List.set_cons_succ, List.set_cons_zero]) | (apply wpG_off; rfl; simp only [Act.put, List.setIfInBounds_toArray, List.set_cons_succ, List.set_cons_zero]))
        apply wpG_nil
        intro W12 hS
        replace ka := ka.kept hS
        replace kp := kp.kept hS
        replace k1 := k1.kept hS
        replace k4 := k4.kept hS
        replace kb := kb.kept hS
        replace hb := hb.trans (hS.mono hb.size)
        clear hS
        go_wp2_with fail
        go_roundw
        case rel => exact ⟨k + 1, by omega, by go_num, k1, k4, ka, kb, hb⟩
        case measure => simp only [intOf]; omega
      · by_cases hm0 : mw = 0
        · have bm : (mw == 0) = true := by simpa using hm0
          refine wp_region_grow 31 (fun w' => Below (World.heap W10).size W10 w') (by kernel_rfl) (by kernel_rfl) (Below.refl _ _).drew ?_
          simp only [List.take_succ_cons, List.take_zero, List.drop_succ_cons, List.drop_zero]
          repeat (first | (apply wpG_on; rfl; (intro w' hS K hK; have hc0 := (kb.kept hS).c4; have hc1 := (k1.kept hS).c3; have hc2 := (k4.kept hS).c3; have hc3 := (kp.kept hS).lt; have hc4 := (ka.kept hS).lt; go_simp; (first | exact hK.out _ hS | (go_at_call 13; (with_reducible refine (HS1.out _).mono ?_); rintro e w'' ⟨rfl, hbb⟩; exact ⟨_, rfl, hK.out _ (hS.trans (hbb.mono hS.size))⟩))); simp only [Act.put, List.setIfInBounds_toArray, List.set_cons_succ, List.set_cons_zero]) | (apply wpG_off; rfl; simp only [Act.put, List.setIfInBounds_toArray, List.set_cons_succ, List.set_cons_zero]))
          apply wpG_nil
          intro W11 hS
          replace kb := kb.kept hS
          replace k1 := k1.kept hS
          replace k4 := k4.kept hS
          replace kp := kp.kept hS
          replace ka := ka.kept hS
          replace hb := hb.trans (hS.mono hb.size)
          clear hS
          clear t1 t2 wz wn e5 e6
          go_wp2_with fail
          go_roundw
          case rel => exact ⟨k + 1, by omega, by go_num, k1, k4, ka, kb, hb⟩
          case measure => simp only [intOf]; omega
        · have bm : (mw == 0) = false := by simpa using hm0
          obtain rfl : nz = n := hzn hm0
          obtain ⟨bz, oz, rfl, hz⟩ := nnAtB HM.out k hlt
          have HZ := Lib.hid hz
          clear hz
          generalize zs.getD k 0 = z at *
          by_cases hz0 : z = 0
          · subst hz0
            have hKK := KA1.out (.inl ⟨hm0, rfl⟩)
            obtain rfl := hKK
            have HC2' := Lib.hid HC2.out
            simp only at HC2'
            refine wp_region_grow 31 (fun w' => Below (World.heap W10).size W10 w') (by kernel_rfl) (by kernel_rfl) (Below.refl _ _).drew ?_
            simp only [List.take_succ_cons, List.take_zero, List.drop_succ_cons, List.drop_zero]
            repeat (first | (apply wpG_on; rfl; (intro w' hS K hK; have hc0 := (kb.kept hS).c4; have hc1 := (k1.kept hS).c3; have hc2 := (k4.kept hS).c3; have hc3 := (kp.kept hS).lt; have hc4 := (ka.kept hS).lt; have hr0 := HZ.out _ (h6.trans ((hb.trans (hS.mono hb.size)).mono h6.size)); go_simp; (first | exact hK.out _ hS | (go_at_call 13; (with_reducible refine (HS1.out _).mono ?_); rintro e w'' ⟨rfl, hbb⟩; exact ⟨_, rfl, hK.out _ (hS.trans (hbb.mono hS.size))⟩))); simp only [Act.put, List.setIfInBounds_toArray, List.set_cons_succ, List.set_cons_zero]) | (apply wpG_off; rfl; simp only [Act.put, List.setIfInBounds_toArray, List.set_cons_succ, List.set_cons_zero]))
            apply wpG_nil
            intro W11 hS
            replace kb := kb.kept hS
            replace k1 := k1.kept hS
            replace k4 := k4.kept hS
            replace kp := kp.kept hS
            replace ka := ka.kept hS
            replace hb := hb.trans (hS.mono hb.size)
            clear hS
            clear t1 t2 wz wn e5 e6
            go_upto_region 11 with (fail)
            refine wp_region_grow 7 (fun w' => Below (World.heap W11).size W11 w') (by kernel_rfl) (by kernel_rfl) (Below.refl _ _).drew ?_
            simp only [List.take_succ_cons, List.take_zero, List.drop_succ_cons, List.drop_zero]
            repeat (first | (apply wpG_on; rfl; (intro w' hS K hK; have hc0 := (ka.kept hS).c3; have hc1 := (kp.kept hS).c4; have hc2 := (k1.kept hS).lt; have hc3 := (k4.kept hS).lt; have hc4 := (kb.kept hS).lt; have hr0 := HC2'.out _ (hb.trans (hS.mono hb.size)); go_simp; (first | exact hK.out _ hS)); simp only [Act.put, List.setIfInBounds_toArray, List.set_cons_succ, List.set_cons_zero]) | (apply wpG_off; rfl; simp only [Act.put, List.setIfInBounds_toArray, List.set_cons_succ, List.set_cons_zero]))
            apply wpG_nil
            intro W12 hS
            replace ka := ka.kept hS
            replace kp := kp.kept hS
            replace k1 := k1.kept hS
            replace k4 := k4.kept hS
            replace kb := kb.kept hS
            replace hb := hb.trans (hS.mono hb.size)
            clear hS
            go_wp2_with fail
            go_roundw
            case rel => exact ⟨k + 1, by omega, by go_num, k1, k4, ka, kb, hb⟩
            case measure => simp only [intOf]; omega

          · have bz0 : (z != 0) = true := by simpa using hz0
            refine wp_region_grow 31 (fun w' => Below (World.heap W10).size W10 w') (by kernel_rfl) (by kernel_rfl) (Below.refl _ _).drew ?_
            simp only [List.take_succ_cons, List.take_zero, List.drop_succ_cons, List.drop_zero]
            repeat (first | (apply wpG_on; rfl; (intro w' hS K hK; have hc0 := (kb.kept hS).c4; have hc1 := (k1.kept hS).c3; have hc2 := (k4.kept hS).c3; have hc3 := (kp.kept hS).lt; have hc4 := (ka.kept hS).lt; have hr0 := HZ.out _ (h6.trans ((hb.trans (hS.mono hb.size)).mono h6.size)); go_simp; (first | exact hK.out _ hS | (go_at_call 13; (with_reducible refine (HS1.out _).mono ?_); rintro e w'' ⟨rfl, hbb⟩; exact ⟨_, rfl, hK.out _ (hS.trans (hbb.mono hS.size))⟩))); simp only [Act.put, List.setIfInBounds_toArray, List.set_cons_succ, List.set_cons_zero]) | (apply wpG_off; rfl; simp only [Act.put, List.setIfInBounds_toArray, List.set_cons_succ, List.set_cons_zero]))
            apply wpG_nil
            intro W11 hS
            replace kb := kb.kept hS
            replace k1 := k1.kept hS
            replace k4 := k4.kept hS
            replace kp := kp.kept hS
            replace ka := ka.kept hS
            replace hb := hb.trans (hS.mono hb.size)
            clear hS
            clear t1 t2 wz wn e5 e6
            go_wp2_with fail
            go_roundw
            case rel => exact ⟨k + 1, by omega, by go_num, k1, k4, ka, kb, hb⟩
            case measure => simp only [intOf]; omega

    · obtain rfl : k = n := by omega
      go_wp2_with fail
      go_ret
      exact ⟨rfl, h6.trans (hb.mono h6.size)⟩

theorem walk (iw ih : Int) (iv : Value) (ps : List Px) (rx ry rw rh px py mw mh : Int) (mv : Value) (zs : List Int) (w : World) (hs : Sines w) (hI : Pn w iv ps) (_ : (Lit.int .i64 rx).wf = true) (_ : (Lit.int .i64 ry).wf = true) (_ : (Lit.int .i64 rw).wf = true) (_ : (Lit.int .i64 rh).wf = true) (hM : Nn w mv zs) :
    Calls Tryd.prog 4 #[.agg #[.int .i64 iw, .int .i64 ih, iv], .agg #[.int .i64 rx, .int .i64 ry, .int .i64 rw, .int .i64 rh], .agg #[.int .i64 px, .int .i64 py], .agg #[.int .i64 mw, .int .i64 mh, mv]] w fun e w' => e = .returned (.bool true) ∧ Below w.heap.size w w' := by
  obtain ⟨Wm, Hm, E, qs, ho⟩ := heal_out iw ih ps rx ry rw rh px py mw mh zs
  have ho' := ho
  rcases ho with ⟨h1, rfl, rfl, rfl, rfl⟩ | ⟨h1, h2, rfl, rfl, rfl, rfl⟩ | ⟨h1, h2, h3, rfl, rfl, rfl, rfl⟩ | ⟨h1, h2, h3, h4, rfl, rfl, rfl, rfl⟩ | ⟨h1, h2, h3, h4, h5, rfl, rfl, rfl, rfl⟩ | ⟨h1, h2, h3, h4, h5, rfl, rfl, rfl, rfl⟩
  · exact bord_bad iw ih iv ps rx ry rw rh px py mw mh mv zs w hs hI hM _ ho' h1
  · exact bord_bad iw ih iv ps rx ry rw rh px py mw mh mv zs w hs hI hM _ ho' h2
  · exact bord_bad iw ih iv ps rx ry rw rh px py mw mh mv zs w hs hI hM _ ho' (by decide)
  · exact bord_bad iw ih iv ps rx ry rw rh px py mw mh mv zs w hs hI hM _ ho' (by decide)
  · exact bord_bad iw ih iv ps rx ry rw rh px py mw mh mv zs w hs hI hM _ ho' (by decide)
  · obtain ⟨_, a1, _, a3, _, _⟩ := ichk_len h1
    have h3' := h3
    obtain ⟨hv, q1, q2, q3, q4, q5, q6⟩ := h3'
    have hvv := (rOk_iff (rx, ry, rw, rh)).1 hv
    simp only at hvv
    obtain ⟨W, rfl⟩ : ∃ n : Nat, Wm = n := ⟨Wm.toNat, by omega⟩
    obtain ⟨H, rfl⟩ : ∃ n : Nat, Hm = n := ⟨Hm.toNat, by omega⟩
    obtain ⟨X, rfl⟩ : ∃ n : Nat, rx = n := ⟨rx.toNat, by omega⟩
    obtain ⟨Y, rfl⟩ : ∃ n : Nat, ry = n := ⟨ry.toNat, by omega⟩
    obtain ⟨wd, rfl⟩ : ∃ n : Nat, rw = n := ⟨rw.toNat, by omega⟩
    obtain ⟨ht, rfl⟩ : ∃ n : Nat, rh = n := ⟨rh.toNat, by omega⟩
    exact bord_good W H X Y wd ht iv ps px py mw mh mv zs w hs hI hM h1 h2 h3 h4 h5
end Go.Proofs.YtieacbccadbdbaaDoor.retouchBorders

