/- RetouchSmall: healing 3 by 3 pixels of an opaque image (the walk; printed by gensmall29.py). -/
import Derived.Test.YtieacbccadbdbaaDoorSmallQ
import Derived.Test.YtieacbccadbdbaaDoorRetAw
import Derived.Test.YtieacbccadbdbaaDoorRetouchSameW
import Derived.Test.YtieacbccadbdbaaDoorBrOpen
import Derived.Test.YtieacbccadbdbaaDoorLOpen
import Derived.Deep.Cut
namespace Go.Proofs.YtieacbccadbdbaaDoor.retouchSmall
open Go.ChangeShapes Go.WideShapes Go.ChangeAt Go.RowKit
set_option linter.unusedVariables false
attribute [local go_sem] Oper.gAt gUponK Oper.sAt stilK

theorem atP_ok (W H : Nat) (ps : List Px) (x y : Int) (hl : ps.length = W * H) (hp : ∀ k, k < ps.length → pOk (pxAt ps k) = true) : pOk (atP W H ps x y) = true := by
  by_cases h : 0 ≤ x ∧ x < (W : Int) ∧ 0 ≤ y ∧ y < (H : Int)
  · obtain ⟨h1, h2, h3, h4⟩ := h
    rw [atP_in h1 h2 h3 h4]
    obtain ⟨j1, j2⟩ := atP_idx h1 h2 h3 h4
    have e : (H : Int) * (W : Int) = (ps.length : Int) := by rw [hl, Int.natCast_mul, Int.mul_comm]
    exact hp _ (by omega)
  · rw [atP_out h]
    decide +kernel
theorem clamp_sm (x : Int) (w : World) : Calls Tryd.prog 15 #[.int .i64 x, .int .i64 0, .int .i64 65535] w fun e w' => e = .returned (.int .i64 (cl x)) ∧ w = w' := by
  have e : cl x = min 65535 (max x 0) := by unfold cl; omega
  rw [e]
  exact clamp_any x 0 65535 w

set_option maxRecDepth 100000 in
set_option maxHeartbeats 16000000 in
theorem small_bad (iw ih : Int) (iv : Value) (ps : List Px) (na nb : Nat) (px py : Int) (w : World) (hs : Sines w) (hI : Pn w iv ps) (la : na < 256) (lb : nb < 256) (Wm Hm E : Int) (qs : List Px) (ho : HealOut iw ih ps ((na % 16 : Nat) : Int) ((nb % 16 : Nat) : Int) 3 3 px py 0 0 [] Wm Hm E qs) (hE : E ≠ 0) :
    Calls Tryd.prog 5 #[.agg #[.int .i64 iw, .int .i64 ih, iv], .int .u8 na, .int .u8 nb, .agg #[.int .i64 px, .int .i64 py]] w fun e w' => e = .returned (.bool true) ∧ Below w.heap.size w w' := by
  have HI := Lib.hid hI
  have HSn := Lib.hid hs
  obtain ⟨ai, ci, rfl⟩ := hI.slice
  have S2 := Lib.hid (fun w h1 h2 => heal_any iw ih (.slice ai ps.length ci) ps ((na % 16 : Nat) : Int) ((nb % 16 : Nat) : Int) 3 3 px py 0 0 (.slice none 0 0) [] Wm Hm E qs w h1 h2 ho)
  have AW := Lib.hid awake_any
  have t1 : ((na : Nat) : Int).tmod 16 = ((na % 16 : Nat) : Int) := Int.tmod_eq_emod_of_nonneg (by omega)
  have t2 : ((nb : Nat) : Int).tmod 16 = ((nb % 16 : Nat) : Int) := Int.tmod_eq_emod_of_nonneg (by omega)
  have e1 : IntKind.i64.wrap ((na : Nat) : Int) = (na : Int) := IntWalk.i64_in _ (by omega)
  have e2 : IntKind.i64.wrap ((nb : Nat) : Int) = (nb : Int) := IntWalk.i64_in _ (by omega)
  have e3 : IntKind.i64.wrap ((na % 16 : Nat) : Int) = ((na % 16 : Nat) : Int) := IntWalk.i64_in _ (by omega)
  have e4 : IntKind.i64.wrap ((nb % 16 : Nat) : Int) = ((nb % 16 : Nat) : Int) := IntWalk.i64_in _ (by omega)
  have bE : (E != 0) = true := by simpa using hE
  clear hI hs ho
  generalize na % 16 = X at *
  generalize nb % 16 = Y at *
  generalize ps.length = ni at *
  go_enter Tryd.func5, Tryd.ntmps5
  go_upto_region 1 with (fail)
  refine name2 (fun W1 k1 k2 hb => ?_)
  go_upto_region 2 with (fail)
  refine name1 (fun W2 kr hS => ?_)
  replace k1 := k1.kept hS
  replace k2 := k2.kept hS
  replace hb := hb.trans (hS.mono hb.size)
  clear hS t1 t2 e1 e2 e3 e4
  have c1 := k1.c3
  have c2 := k2.c2
  have cr := kr.c4
  go_wp2_with fail
  clear c1 c2 cr
  refine (S2.out _ (HI.out.kept hb) (nnNil _)).mono ?_
  rintro e W3 ⟨q, rfl, hq, _, hS⟩
  replace k1 := k1.kept hS
  replace k2 := k2.kept hS
  replace kr := kr.kept hS
  replace hb := hb.trans (hS.mono hb.size)
  clear hS
  obtain ⟨aq, cq, rfl⟩ := hq.slice
  go_upto_region 3 with (refine wpList_store_blk rfl _ _ _ rfl W3.heap.size #[.int .i64 Wm, .int .i64 Hm, .slice aq qs.length cq] rfl rfl (heap_alloc_new W3 _) infoImgR rfl (by simp [Value.oneCell']) (fun W4 kt hkx hbx => ?_))
  have hS : Below W3.heap.size W3 W4 := ((Below.refl _ _).alloc (Nat.le_refl _) _).trans hbx
  replace k1 := k1.kept hS
  replace k2 := k2.kept hS
  replace kr := kr.kept hS
  replace hq := hq.kept hS
  replace hb := hb.trans (hS.mono hb.size)
  clear hS hkx hbx S2
  go_wp2_with fail
  refine (AW.out _ (HSn.out.kept hb)).mono ?_
  rintro e W5 ⟨rfl, hS⟩
  replace k1 := k1.kept hS
  replace k2 := k2.kept hS
  replace kr := kr.kept hS
  replace hq := hq.kept hS
  replace kt := kt.kept hS
  replace hb := hb.trans (hS.mono hb.size)
  clear hS
  go_wp2_with fail
  refine (AW.out _ (HSn.out.kept hb)).mono ?_
  rintro e W6 ⟨rfl, hS⟩
  replace hb := hb.trans (hS.mono hb.size)
  go_wp2_with fail
  go_ret
  exact ⟨rfl, hb⟩

set_option maxRecDepth 100000 in
set_option maxHeartbeats 32000000 in
theorem small_good (W H SX SY : Nat) (iv : Value) (ps : List Px) (na nb : Nat) (px py : Int) (w : World) (hs : Sines w) (hI : Pn w iv ps) (la : na < 256) (lb : nb < 256) (hsx : ((na % 16 : Nat) : Int) + px = SX) (hsy : ((nb % 16 : Nat) : Int) + py = SY) (h1 : ichk W H ps = 0) (hX : na % 16 + 3 ≤ W) (hY : nb % 16 + 3 ≤ H) (hSX : SX + 3 ≤ W) (hSY : SY + 3 ≤ H) (ho : HealOut W H ps ((na % 16 : Nat) : Int) ((nb % 16 : Nat) : Int) 3 3 px py 0 0 [] W H 0 (heals W 3 3 (na % 16) (nb % 16) SX SY 0 [] ps)) :
    Calls Tryd.prog 5 #[.agg #[.int .i64 W, .int .i64 H, iv], .int .u8 na, .int .u8 nb, .agg #[.int .i64 px, .int .i64 py]] w fun e w' => e = .returned (.bool true) ∧ Below w.heap.size w w' := by
  obtain ⟨hn, _, hW, _, hH, hnl⟩ := ichk_len h1
  have hl : ps.length = W * H := by have := Int.natCast_mul W H; omega
  have hpk := (ichk_px h1).2
  have HI := Lib.hid hI
  have HSn := Lib.hid hs
  obtain ⟨ai, ci, rfl⟩ := hI.slice
  have S2 := Lib.hid (fun w h1 h2 => heal_any W H (.slice ai ps.length ci) ps ((na % 16 : Nat) : Int) ((nb % 16 : Nat) : Int) 3 3 px py 0 0 (.slice none 0 0) [] W H 0 _ w h1 h2 ho)
  have AW := Lib.hid awake_any
  have OP := Lib.hid (fun w h => retouchSame.opaque_any W H (.slice ai ps.length ci) ps w h)
  have AT := Lib.hid (fun x y w h => rasterAt_any W H (.slice ai ps.length ci) ps x y w h h1)
  have HL := Lib.hid (heals_len W 3 3 (na % 16) (nb % 16) SX SY 0 [] ps)
  have t1 : ((na : Nat) : Int).tmod 16 = ((na % 16 : Nat) : Int) := Int.tmod_eq_emod_of_nonneg (by omega)
  have t2 : ((nb : Nat) : Int).tmod 16 = ((nb % 16 : Nat) : Int) := Int.tmod_eq_emod_of_nonneg (by omega)
  have e1 : IntKind.i64.wrap ((na : Nat) : Int) = (na : Int) := IntWalk.i64_in _ (by omega)
  have e2 : IntKind.i64.wrap ((nb : Nat) : Int) = (nb : Int) := IntWalk.i64_in _ (by omega)
  have e3 : IntKind.i64.wrap ((na % 16 : Nat) : Int) = ((na % 16 : Nat) : Int) := IntWalk.i64_in _ (by omega)
  have e4 : IntKind.i64.wrap ((nb % 16 : Nat) : Int) = ((nb % 16 : Nat) : Int) := IntWalk.i64_in _ (by omega)
  obtain ⟨A, hA⟩ : ∃ A : Nat → Px, A = fun j => atP W H ps (((na % 16 : Nat) : Int) + 1 + dX j) (((nb % 16 : Nat) : Int) + 1 + dY j) := ⟨_, rfl⟩
  obtain ⟨B, hB⟩ : ∃ B : Nat → Px, B = fun j => atP W H ps ((SX : Int) + 1 + dX j) ((SY : Int) + 1 + dY j) := ⟨_, rfl⟩
  have hAk : ∀ j, pOk (A j) = true := fun j => by rw [hA]; exact atP_ok W H ps _ _ hl hpk
  have hBk : ∀ j, pOk (B j) = true := fun j => by rw [hB]; exact atP_ok W H ps _ _ hl hpk
  have EA := Lib.hid (fun j => congrFun hA j)
  have EB := Lib.hid (fun j => congrFun hB j)
  have SB := Lib.hid (fun c j => sumN_bd A B c (fun j => cmp_ok c _ (hAk j)) (fun j => cmp_ok c _ (hBk j)) j)
  have AK := Lib.hid hAk
  have BK := Lib.hid hBk
  obtain ⟨s, hs0⟩ : ∃ s, s = atP W H ps ((SX : Int) + 1) ((SY : Int) + 1) := ⟨_, rfl⟩
  have hsk : pOk s = true := by rw [hs0]; exact atP_ok W H ps _ _ hl hpk
  have ES := Lib.hid hs0
  -- the healed image: its middle, by raster.At
  have FIN : Hid (retouchSame.opqK ps ps.length → ∀ w v, Pn w v (heals W 3 3 (na % 16) (nb % 16) SX SY 0 [] ps) → Calls Tryd.prog 14 #[.agg #[.int .i64 W, .int .i64 H, v], .int .i64 (((na % 16 : Nat) : Int) + 1), .int .i64 (((nb % 16 : Nat) : Int) + 1)] w fun e w' => e = .returned (pv (cl (s.1 + dv (sumN A B 0 4) 4)) (cl (s.2.1 + dv (sumN A B 1 4) 4)) (cl (s.2.2.1 + dv (sumN A B 2 4) 4)) 65535) ∧ Below w.heap.size w w') := fun ho w v hq => by
    have ha : ∀ k, k < ps.length → (pxAt ps k).2.2.2 = 65535 := fun k hk => ho k hk
    have hm := heal_mid W H (na % 16) (nb % 16) SX SY ps hX hY hSX hSY hl hpk ha
    have ia : ∀ j, j < 4 → pxAt ps (nIdx (na % 16) (nb % 16) 3 W (nbK j)) = A j := fun j hj => by rw [hA]; exact (atP_nb W H _ _ ps j hX hY hj).symm
    have ib : ∀ j, j < 4 → pxAt ps (nIdx SX SY 3 W (nbK j)) = B j := fun j hj => by rw [hB]; exact (atP_nb W H _ _ ps j hSX hSY hj).symm
    have is : pxAt ps ((SY + 1) * W + SX + 1) = s := by
      rw [hs0, atP_in (by omega) (by omega) (by omega) (by omega)]
      congr 1 <;> (rw [show ((SY : Int) + 1) = ((SY + 1 : Nat) : Int) by omega, ← Int.natCast_mul] <;> omega)
    rw [show nIdx (na % 16) (nb % 16) 3 W 3 = nIdx (na % 16) (nb % 16) 3 W (nbK 0) from rfl, show nIdx (na % 16) (nb % 16) 3 W 5 = nIdx (na % 16) (nb % 16) 3 W (nbK 1) from rfl, show nIdx (na % 16) (nb % 16) 3 W 1 = nIdx (na % 16) (nb % 16) 3 W (nbK 2) from rfl, show nIdx (na % 16) (nb % 16) 3 W 7 = nIdx (na % 16) (nb % 16) 3 W (nbK 3) from rfl,
      show nIdx SX SY 3 W 3 = nIdx SX SY 3 W (nbK 0) from rfl, show nIdx SX SY 3 W 5 = nIdx SX SY 3 W (nbK 1) from rfl, show nIdx SX SY 3 W 1 = nIdx SX SY 3 W (nbK 2) from rfl, show nIdx SX SY 3 W 7 = nIdx SX SY 3 W (nbK 3) from rfl,
      ia 0 (by omega), ia 1 (by omega), ia 2 (by omega), ia 3 (by omega), ib 0 (by omega), ib 1 (by omega), ib 2 (by omega), ib 3 (by omega), is, smV_sum, smV_sum, smV_sum] at hm
    have hx0 : (0 : Int) ≤ ((na % 16 : Nat) : Int) + 1 := by omega
    have hy0 : (0 : Int) ≤ ((nb % 16 : Nat) : Int) + 1 := by omega
    have hx1 : ((na % 16 : Nat) : Int) + 1 < (W : Int) := by omega
    have hy1 : ((nb % 16 : Nat) : Int) + 1 < (H : Int) := by omega
    obtain ⟨j1, j2⟩ := atP_idx hx0 hx1 hy0 hy1
    have hix : ((((nb % 16 : Nat) : Int) + 1) * (W : Int) + (((na % 16 : Nat) : Int) + 1)).toNat = (nb % 16 + 1) * W + na % 16 + 1 := by
      rw [show (((nb % 16 : Nat) : Int) + 1) = ((nb % 16 + 1 : Nat) : Int) by omega, ← Int.natCast_mul]
      omega
    have hlt : (nb % 16 + 1) * W + na % 16 + 1 < ps.length := by
      have e : (H : Int) * (W : Int) = (ps.length : Int) := by rw [hl, Int.natCast_mul, Int.mul_comm]
      omega
    have hat : atP W H (heals W 3 3 (na % 16) (nb % 16) SX SY 0 [] ps) (((na % 16 : Nat) : Int) + 1) (((nb % 16 : Nat) : Int) + 1) = (cl (s.1 + dv (sumN A B 0 4) 4), cl (s.2.1 + dv (sumN A B 1 4) 4), cl (s.2.2.1 + dv (sumN A B 2 4) 4), 65535) := by
      rw [atP_in hx0 hx1 hy0 hy1, hix, heals_at _ _ _ _ _ _ _ _ _ _ _ hlt, hm]
      rfl
    refine (rasterAt_any W H v _ _ _ w hq (healed_chk W H _ _ SX SY ps h1 hX hY hSX hSY ha)).mono ?_
    rintro e w' ⟨rfl, hb⟩
    exact ⟨by rw [hat]; rfl, hb⟩
  clear hI hs ho hnl hl hpk hA hB hAk hBk hs0 h1 hX hY
  generalize heals W 3 3 (na % 16) (nb % 16) SX SY 0 [] ps = qs at *
  generalize hXX : na % 16 = X at *
  generalize hYY : nb % 16 = Y at *
  have hX16 : X < 16 := by omega
  have hY16 : Y < 16 := by omega
  clear hXX hYY
  generalize hnn : ps.length = n at *
  clear hnn
  go_enter Tryd.func5, Tryd.ntmps5
  go_upto_region 1 with (fail)
  refine name2 (fun W1 k1 k2 hb => ?_)
  go_upto_region 2 with (fail)
  refine name1 (fun W2 kr hS => ?_)
  replace k1 := k1.kept hS
  replace k2 := k2.kept hS
  replace hb := hb.trans (hS.mono hb.size)
  clear hS t1 t2 e1 e2 e3 e4
  have c1 := k1.c3
  have c2 := k2.c2
  have cr := kr.c4
  go_wp2_with fail
  clear c1 c2 cr
  refine (S2.out _ (HI.out.kept hb) (nnNil _)).mono ?_
  rintro e W3 ⟨q, rfl, hq, _, hS⟩
  replace k1 := k1.kept hS
  replace k2 := k2.kept hS
  replace kr := kr.kept hS
  replace hb := hb.trans (hS.mono hb.size)
  clear hS
  obtain ⟨aq, cq, rfl⟩ := hq.slice
  rw [HL.out] at hq ⊢
  go_upto_region 3 with (refine wpList_store_blk rfl _ _ _ rfl W3.heap.size #[.int .i64 W, .int .i64 H, .slice aq n cq] rfl rfl (heap_alloc_new W3 _) infoImgR rfl (by simp [Value.oneCell']) (fun W4 kt hkx hbx => ?_))
  have hS : Below W3.heap.size W3 W4 := ((Below.refl _ _).alloc (Nat.le_refl _) _).trans hbx
  replace k1 := k1.kept hS
  replace k2 := k2.kept hS
  replace kr := kr.kept hS
  replace hq := hq.kept hS
  replace hb := hb.trans (hS.mono hb.size)
  clear hS hkx hbx S2
  go_wp2_with fail
  refine (AW.out _ (HSn.out.kept hb)).mono ?_
  rintro e W5 ⟨rfl, hS⟩
  replace k1 := k1.kept hS
  replace k2 := k2.kept hS
  replace kr := kr.kept hS
  replace hq := hq.kept hS
  replace kt := kt.kept hS
  replace hb := hb.trans (hS.mono hb.size)
  clear hS
  have c1 := k1.c3
  go_wp2_with fail
  clear c1
  refine (OP.out _ (HI.out.kept hb)).mono ?_
  rintro e W6 ⟨b, rfl, hob, hS⟩
  replace k1 := k1.kept hS
  replace k2 := k2.kept hS
  replace kr := kr.kept hS
  replace hq := hq.kept hS
  replace kt := kt.kept hS
  replace hb := hb.trans (hS.mono hb.size)
  clear hS OP
  have HOB := Lib.hid hob
  clear hob
  cases b
  · go_wp2_with fail
    refine (AW.out _ (HSn.out.kept hb)).mono ?_
    rintro e W6 ⟨rfl, hS⟩
    replace hb := hb.trans (hS.mono hb.size)
    go_wp2_with fail
    go_ret
    exact ⟨rfl, hb⟩
  · have FN := Lib.hid (FIN.out (HOB.out rfl))
    clear FIN HOB
    obtain ⟨xm, hxm⟩ : ∃ z : Int, (X : Int) + 1 = z := ⟨_, rfl⟩
    obtain ⟨ym, hym⟩ : ∃ z : Int, (Y : Int) + 1 = z := ⟨_, rfl⟩
    have e1 : IntKind.i64.wrap ((X : Int) + 1) = xm := by rw [hxm]; exact IntWalk.i64_in _ (by omega)
    have e2 : IntKind.i64.wrap ((Y : Int) + 1) = ym := by rw [hym]; exact IntWalk.i64_in _ (by omega)
    have cr := kr.c4
    rw [hxm, hym] at FN
    have HXM := Lib.hid hxm
    have HYM := Lib.hid hym
    clear hxm hym
    have h6 := hb
    clear hb
    have hb := Below.refl W6.heap.size W6
    replace HI := Lib.hid (HI.out.kept h6)
    have HQ := Lib.hid hq
    have lt0 := kt.lt
    have l2 := k2.lt
    generalize W3.heap.size = xt at *
    clear cr
    go_upto_region 5 with (fail)
    refine wp_region_grow 8 (fun w' => Below (World.heap W6).size W6 w') (by kernel_rfl) (by kernel_rfl) (Below.refl _ _).drew ?_
    simp only [List.take_succ_cons, List.take_zero, List.drop_succ_cons, List.drop_zero]
    repeat (first | (apply wpG_on; rfl; (intro w' hS K hK; have hc0 := (kr.kept hS).c4; have hc1 := (k1.kept hS).lt; have hc2 := (k2.kept hS).lt; have hc3 := (kt.kept hS).lt; go_simp; (first | exact hK.out _ hS)); simp only [Act.put, List.setIfInBounds_toArray, List.set_cons_succ, List.set_cons_zero]) | (apply wpG_off; rfl; simp only [Act.put, List.setIfInBounds_toArray, List.set_cons_succ, List.set_cons_zero]))
    apply wpG_nil
    intro W6b hS
    replace kr := kr.kept hS
    replace k1 := k1.kept hS
    replace k2 := k2.kept hS
    replace kt := kt.kept hS
    replace hb := hb.trans (hS.mono hb.size)
    clear hS
    have hW6 := hb.size
    go_upto_region 7 with (fail)
    clear e1 e2 hq kr
    refine name1 (fun W7 ks hS => ?_)
    replace k1 := k1.kept hS
    replace k2 := k2.kept hS
    replace kt := kt.kept hS
    replace hb := hb.trans (hS.mono hb.size)
    clear hS
    obtain ⟨xs, hxs⟩ : ∃ x, x = W6b.heap.size := ⟨_, rfl⟩
    rw [← hxs] at ks ⊢
    have hs1 : W6.heap.size ≤ xs := by omega
    have hs2 : xt < xs := by omega
    have hs3 : w.heap.size + 1 < xs := by omega
    clear hxs
    have ls := ks.lt
    go_upto_region 8 with (fail)
    refine name1 (fun W8 kp hS => ?_)
    replace k1 := k1.kept hS
    replace k2 := k2.kept hS
    replace kt := kt.kept hS
    replace ks := ks.kept hS
    replace hb := hb.trans (hS.mono hb.size)
    clear hS
    obtain ⟨xp, hxp⟩ : ∃ x, x = W7.heap.size := ⟨_, rfl⟩
    rw [← hxp] at kp ⊢
    have hp1 : xs < xp := by omega
    clear hxp ls
    go_wp2_with fail
    go_loopw [61] (fun i wr => ∃ j : Nat, j ≤ 4 ∧ i = .int .i64 j ∧ Blk wr xs (.cells #[.int .i64 (sumN A B 0 j), .int .i64 (sumN A B 1 j), .int .i64 (sumN A B 2 j)] 49 (0, 0)) ∧ Blk wr xp (.cells #[.int .i64 (-1), .int .i64 0, .int .i64 1, .int .i64 0, .int .i64 0, .int .i64 (-1), .int .i64 0, .int .i64 1] 42 (0, 0)) ∧ Blk wr w.heap.size (.cells #[.int .i64 W, .int .i64 H, .slice ai n ci] 24 (0, 0)) ∧ Blk wr (w.heap.size + 1) (.cells #[.int .i64 px, .int .i64 py] 42 (0, 0)) ∧ Blk wr xt (.cells #[.int .i64 W, .int .i64 H, .slice aq n cq] 24 (0, 0)) ∧ Below W6.heap.size W6 wr) (fun i _ => 4 - (intOf i).toNat)
    case atStart => exact ⟨0, Nat.zero_le _, rfl, ks, kp, k1, k2, kt, hb⟩
    case round =>
      clear ks kp k1 k2 kt hb
      obtain ⟨j, hj, rfl, ks, kp, k1, k2, kt, hb⟩ := hrel
      by_cases hlt : j < 4
      · have hxm := HXM.out
        have hym := HYM.out
        have bx := dX_bd j
        have by' := dY_bd j
        obtain ⟨cp1, cp2⟩ := pts_at kp j hlt
        obtain ⟨xd, hxd⟩ : ∃ z, xm + dX j = z := ⟨_, rfl⟩
        obtain ⟨yd, hyd⟩ : ∃ z, ym + dY j = z := ⟨_, rfl⟩
        obtain ⟨xe, hxe⟩ : ∃ z, xd + px = z := ⟨_, rfl⟩
        obtain ⟨ye, hye⟩ : ∃ z, yd + py = z := ⟨_, rfl⟩
        have e2 : IntKind.i64.wrap (xm + dX j) = xd := by rw [hxd]; exact IntWalk.i64_in _ (by omega)
        have e3 : IntKind.i64.wrap (ym + dY j) = yd := by rw [hyd]; exact IntWalk.i64_in _ (by omega)
        have e4 : IntKind.i64.wrap (xd + px) = xe := by rw [hxe]; exact IntWalk.i64_in _ (by omega)
        have e5 : IntKind.i64.wrap (yd + py) = ye := by rw [hye]; exact IntWalk.i64_in _ (by omega)
        have hAj : atP W H ps xd yd = A j := by rw [EA.out j, show xd = (X : Int) + 1 + dX j by omega, show yd = (Y : Int) + 1 + dY j by omega]
        have hBj : atP W H ps xe ye = B j := by rw [EB.out j, show xe = (SX : Int) + 1 + dX j by omega, show ye = (SY : Int) + 1 + dY j by omega]
        have A1 := Lib.hid (fun w h => AT.out xd yd w h)
        have B1 := Lib.hid (fun w h => AT.out xe ye w h)
        rw [hAj] at A1
        rw [hBj] at B1
        clear hAj hBj hxd hyd hxe hye hxm hym
        obtain ⟨a0, a1, a2, _⟩ := pOk_bd (AK.out j)
        obtain ⟨b0, b1, b2, _⟩ := pOk_bd (BK.out j)
        have g0 := SB.out 0 j
        have g1 := SB.out 1 j
        have g2 := SB.out 2 j
        have f0 : sumN A B 0 (j + 1) = sumN A B 0 j + ((A j).1 - (B j).1) := rfl
        have f1 : sumN A B 1 (j + 1) = sumN A B 1 j + ((A j).2.1 - (B j).2.1) := rfl
        have f2 : sumN A B 2 (j + 1) = sumN A B 2 j + ((A j).2.2.1 - (B j).2.2.1) := rfl
        obtain ⟨T0, hT0⟩ : ∃ z, sumN A B 0 (j + 1) = z := ⟨_, rfl⟩
        obtain ⟨T1, hT1⟩ : ∃ z, sumN A B 1 (j + 1) = z := ⟨_, rfl⟩
        obtain ⟨T2, hT2⟩ : ∃ z, sumN A B 2 (j + 1) = z := ⟨_, rfl⟩
        rw [hT0] at f0
        rw [hT1] at f1
        rw [hT2] at f2
        have NX : Hid (∀ w, Blk w xs (.cells #[.int .i64 T0, .int .i64 T1, .int .i64 T2] 49 (0, 0)) → Blk w xs (.cells #[.int .i64 (sumN A B 0 (j + 1)), .int .i64 (sumN A B 1 (j + 1)), .int .i64 (sumN A B 2 (j + 1))] 49 (0, 0))) := fun _ h => by rw [hT0, hT1, hT2]; exact h
        clear hT0 hT1 hT2
        generalize sumN A B 0 j = S0 at *
        generalize sumN A B 1 j = S1 at *
        generalize sumN A B 2 j = S2 at *
        generalize A j = p at *
        generalize B j = q at *
        generalize dX j = dx at *
        generalize dY j = dy at *
        obtain ⟨p0, p1, p2, p3⟩ := p
        obtain ⟨q0, q1, q2, q3⟩ := q
        simp only at f0 f1 f2 a0 a1 a2 b0 b1 b2
        have hj2 : (j : Int) ≤ 4 := by omega
        obtain ⟨d0, hd0⟩ : ∃ z, p0 - q0 = z := ⟨_, rfl⟩
        obtain ⟨d1, hd1⟩ : ∃ z, p1 - q1 = z := ⟨_, rfl⟩
        obtain ⟨d2, hd2⟩ : ∃ z, p2 - q2 = z := ⟨_, rfl⟩
        rw [hd0] at f0
        rw [hd1] at f1
        rw [hd2] at f2
        have v0 : IntKind.i64.wrap (p0 - q0) = d0 := by rw [hd0]; exact IntWalk.i64_in _ (by omega)
        have v1 : IntKind.i64.wrap (p1 - q1) = d1 := by rw [hd1]; exact IntWalk.i64_in _ (by omega)
        have v2 : IntKind.i64.wrap (p2 - q2) = d2 := by rw [hd2]; exact IntWalk.i64_in _ (by omega)
        have u0 : IntKind.i64.wrap (S0 + d0) = T0 := by rw [← f0]; exact IntWalk.i64_in _ (by omega)
        have u1 : IntKind.i64.wrap (S1 + d1) = T1 := by rw [← f1]; exact IntWalk.i64_in _ (by omega)
        have u2 : IntKind.i64.wrap (S2 + d2) = T2 := by rw [← f2]; exact IntWalk.i64_in _ (by omega)
        clear f0 f1 f2 hd0 hd1 hd2 g0 g1 g2 a0 a1 a2 b0 b1 b2 bx by'
        replace A1 : Hid (∀ w, Pn w (.slice ai n ci) ps → Calls Tryd.prog 14 #[.agg #[.int .i64 W, .int .i64 H, .slice ai n ci], .int .i64 xd, .int .i64 yd] w fun e w' => e = .returned (pv p0 p1 p2 p3) ∧ Below w.heap.size w w') := A1
        replace B1 : Hid (∀ w, Pn w (.slice ai n ci) ps → Calls Tryd.prog 14 #[.agg #[.int .i64 W, .int .i64 H, .slice ai n ci], .int .i64 xe, .int .i64 ye] w fun e w' => e = .returned (pv q0 q1 q2 q3) ∧ Below w.heap.size w w') := B1
        have i1 : (0 : Int) ≤ (j : Int) := by omega
        have i2 : (j : Int) < 4 := by omega
        go_upto_region 10 with (fail)
        clear cp1 cp2
        refine name1 (fun W9 kz hS => ?_)
        replace ks := ks.kept hS
        replace kp := kp.kept hS
        replace k1 := k1.kept hS
        replace k2 := k2.kept hS
        replace kt := kt.kept hS
        replace hb := hb.trans (hS.mono hb.size)
        clear hS
        have ls := ks.lt
        have lp := kp.lt
        have l1 := k1.lt
        have l2 := k2.lt
        have l3 := kt.lt
        have hbs := hb.size
        refine wp_region_make 28 (by kernel_rfl) (by kernel_rfl) ?_
        simp only [makeOrder, numbered, mkB, List.take_succ_cons, List.take_zero, List.drop_succ_cons, List.drop_zero, List.filter_cons, List.filter_nil, Bool.not_true, Bool.not_false, Bool.false_eq_true, List.cons_append, List.nil_append, ↓reduceIte]
        repeat (first | (apply wpN_on; rfl; rfl; (intro w' hS K hK; have hc0 := (k1.kept hS).c3; have hc1 := (kz.kept hS).c2; have hc2 := (k2.kept hS).c2; have hc3 := (ks.kept hS).lt; have hc4 := (kp.kept hS).lt; have hc5 := (kt.kept hS).lt; go_simp; (first | exact hK.out _ (Below.refl _ _) | (go_at_call 14; (with_reducible refine (A1.out _ (HI.out.kept (hb.trans (hS.mono hb.size)))).mono ?_); rintro e w'' ⟨rfl, hbb⟩; exact ⟨_, rfl, hK.out _ hbb⟩) | (go_at_call 14; (with_reducible refine (B1.out _ (HI.out.kept (hb.trans (hS.mono hb.size)))).mono ?_); rintro e w'' ⟨rfl, hbb⟩; exact ⟨_, rfl, hK.out _ hbb⟩))); simp only [Act.put, List.setIfInBounds_toArray, List.set_cons_succ, List.set_cons_zero]) | (apply wpN_off; rfl; rfl; simp only [Act.put, List.setIfInBounds_toArray, List.set_cons_succ, List.set_cons_zero]))
        apply wpN_new
        rfl
        rfl
        · intro w' hS K hK; have hc0 := (k1.kept hS).c3; have hc1 := (kz.kept hS).c2; have hc2 := (k2.kept hS).c2; have hc3 := (ks.kept hS).lt; have hc4 := (kp.kept hS).lt; have hc5 := (kt.kept hS).lt; go_simp; exact hK.out
        intro xa hxa nxa
        simp only [Act.put, mkOf, List.setIfInBounds_toArray, List.set_cons_succ, List.set_cons_zero]
        apply wpN_new
        rfl
        rfl
        · intro w' hS K hK; have hc0 := (k1.kept hS).c3; have hc1 := (kz.kept hS).c2; have hc2 := (k2.kept hS).c2; have hc3 := (ks.kept hS).lt; have hc4 := (kp.kept hS).lt; have hc5 := (kt.kept hS).lt; go_simp; exact hK.out
        intro xb hxb nxb
        simp only [Act.put, mkOf, List.setIfInBounds_toArray, List.set_cons_succ, List.set_cons_zero]
        apply wpN_nil
        rintro W10 hS ⟨⟨-, kxa⟩, kxb⟩
        replace k1 := k1.kept hS
        replace kz := kz.kept hS
        replace k2 := k2.kept hS
        replace ks := ks.kept hS
        replace kp := kp.kept hS
        replace kt := kt.kept hS
        replace hb := hb.trans (hS.mono hb.size)
        have ca := kxa.c4
        have cb := kxb.c4
        have hne : xb ≠ xa := by simpa using nxb
        have hne2 : xa ≠ xb := fun h => hne h.symm
        go_upto_region 11 with (fail)
        clear ca cb hS e2 e3 e4 e5 nxa nxb
        refine mid44 hb kxa kxb hne (by omega) (by omega) (fun W11 ka kb kk hb => ?_)
        replace ks := kk _ _ (by omega) (by omega) ks
        replace kp := kk _ _ (by omega) (by omega) kp
        replace k1 := kk _ _ (by omega) (by omega) k1
        replace k2 := kk _ _ (by omega) (by omega) k2
        replace kt := kk _ _ (by omega) (by omega) kt
        have cs := ks.c3
        have ca := ka.c4
        have cb := kb.c4
        clear kk kxa kxb
        go_wp2_with fail
        go_roundw
        case rel => exact ⟨j + 1, by omega, by go_num, NX.out _ (((ks.set1 0 _ (by simp) rfl).set1 1 _ (by simp) rfl).set1 2 _ (by simp) rfl), ((kp.other (by simp; omega) _).other (by simp; omega) _).other (by simp; omega) _, ((k1.other (by simp; omega) _).other (by simp; omega) _).other (by simp; omega) _, ((k2.other (by simp; omega) _).other (by simp; omega) _).other (by simp; omega) _, ((kt.other (by simp; omega) _).other (by simp; omega) _).other (by simp; omega) _, ((hb.setCell hs1 _).setCell hs1 _).setCell hs1 _⟩
        case measure => simp only [intOf]; omega
      · obtain rfl : j = 4 := by omega
        have hxm := HXM.out
        have hym := HYM.out
        obtain ⟨xe, hxe⟩ : ∃ z, xm + px = z := ⟨_, rfl⟩
        obtain ⟨ye, hye⟩ : ∃ z, ym + py = z := ⟨_, rfl⟩
        have e4 : IntKind.i64.wrap (xm + px) = xe := by rw [hxe]; exact IntWalk.i64_in _ (by omega)
        have e5 : IntKind.i64.wrap (ym + py) = ye := by rw [hye]; exact IntWalk.i64_in _ (by omega)
        have hSs : atP W H ps xe ye = s := by rw [ES.out, show xe = (SX : Int) + 1 by omega, show ye = (SY : Int) + 1 by omega]
        have C1 := Lib.hid (fun w h => AT.out xe ye w h)
        rw [hSs] at C1
        clear hSs hxe hye ES hxm hym
        have g0 := SB.out 0 4
        have g1 := SB.out 1 4
        have g2 := SB.out 2 4
        obtain ⟨b0, b1, b2, _⟩ := pOk_bd hsk
        generalize sumN A B 0 4 = S0 at *
        generalize sumN A B 1 4 = S1 at *
        generalize sumN A B 2 4 = S2 at *
        obtain ⟨s0, s1, s2, s3⟩ := s
        simp only at b0 b1 b2 FN
        replace C1 : Hid (∀ w, Pn w (.slice ai n ci) ps → Calls Tryd.prog 14 #[.agg #[.int .i64 W, .int .i64 H, .slice ai n ci], .int .i64 xe, .int .i64 ye] w fun e w' => e = .returned (pv s0 s1 s2 s3) ∧ Below w.heap.size w w') := C1
        have D0 := Lib.hid (fun w => div_any S0 4 w (by omega) (by omega) (by omega) (by omega))
        have D1 := Lib.hid (fun w => div_any S1 4 w (by omega) (by omega) (by omega) (by omega))
        have D2 := Lib.hid (fun w => div_any S2 4 w (by omega) (by omega) (by omega) (by omega))
        have y0 := dv_spec S0 4 (by omega)
        have y1 := dv_spec S1 4 (by omega)
        have y2 := dv_spec S2 4 (by omega)
        generalize dv S0 4 = z0 at *
        generalize dv S1 4 = z1 at *
        generalize dv S2 4 = z2 at *
        have v0 : IntKind.i64.wrap (s0 + z0) = s0 + z0 := IntWalk.i64_in _ (by omega)
        have v1 : IntKind.i64.wrap (s1 + z1) = s1 + z1 := IntWalk.i64_in _ (by omega)
        have v2 : IntKind.i64.wrap (s2 + z2) = s2 + z2 := IntWalk.i64_in _ (by omega)
        have K0 := Lib.hid (fun w => clamp_sm (s0 + z0) w)
        have K1 := Lib.hid (fun w => clamp_sm (s1 + z1) w)
        have K2 := Lib.hid (fun w => clamp_sm (s2 + z2) w)
        generalize cl (s0 + z0) = m0 at *
        generalize cl (s1 + z1) = m1 at *
        generalize cl (s2 + z2) = m2 at *
        clear g0 g1 g2 b0 b1 b2 y0 y1 y2
        have c1 := k1.c3
        have c2 := k2.c2
        go_wp2_with fail
        clear c1 c2
        refine (C1.out _ (HI.out.kept hb)).mono ?_
        rintro e W12 ⟨rfl, hS⟩
        replace ks := ks.kept hS
        replace kt := kt.kept hS
        replace hb := hb.trans (hS.mono hb.size)
        clear hS e4 e5
        go_upto_region 16 with (fail)
        refine name1 (fun W13 kz hS => ?_)
        replace ks := ks.kept hS
        replace kt := kt.kept hS
        replace hb := hb.trans (hS.mono hb.size)
        clear hS
        have ls := ks.lt
        have l3 := kt.lt
        have hbs := hb.size
        refine wp_region_make 23 (by kernel_rfl) (by kernel_rfl) ?_
        simp only [makeOrder, numbered, mkB, List.take_succ_cons, List.take_zero, List.drop_succ_cons, List.drop_zero, List.filter_cons, List.filter_nil, Bool.not_true, Bool.not_false, Bool.false_eq_true, List.cons_append, List.nil_append, ↓reduceIte]
        repeat (first | (apply wpN_on; rfl; rfl; (intro w' hS K hK; have hc0 := (kz.kept hS).c4; have hc1 := (ks.kept hS).c3; have hc2 := (kt.kept hS).lt; go_simp; (first | exact hK.out _ (Below.refl _ _) | (go_at_call 16; (with_reducible refine (D0.out _).mono ?_); rintro e w'' ⟨rfl, rfl⟩; exact ⟨_, rfl, hK.out _ (Below.refl _ _)⟩) | (go_at_call 16; (with_reducible refine (D1.out _).mono ?_); rintro e w'' ⟨rfl, rfl⟩; exact ⟨_, rfl, hK.out _ (Below.refl _ _)⟩) | (go_at_call 16; (with_reducible refine (D2.out _).mono ?_); rintro e w'' ⟨rfl, rfl⟩; exact ⟨_, rfl, hK.out _ (Below.refl _ _)⟩) | (go_at_call 15; (with_reducible refine (K0.out _).mono ?_); rintro e w'' ⟨rfl, rfl⟩; exact ⟨_, rfl, hK.out _ (Below.refl _ _)⟩) | (go_at_call 15; (with_reducible refine (K1.out _).mono ?_); rintro e w'' ⟨rfl, rfl⟩; exact ⟨_, rfl, hK.out _ (Below.refl _ _)⟩) | (go_at_call 15; (with_reducible refine (K2.out _).mono ?_); rintro e w'' ⟨rfl, rfl⟩; exact ⟨_, rfl, hK.out _ (Below.refl _ _)⟩))); simp only [Act.put, List.setIfInBounds_toArray, List.set_cons_succ, List.set_cons_zero]) | (apply wpN_off; rfl; rfl; simp only [Act.put, List.setIfInBounds_toArray, List.set_cons_succ, List.set_cons_zero]))
        apply wpN_new
        rfl
        rfl
        · intro w' hS K hK; have hc0 := (kz.kept hS).c4; have hc1 := (ks.kept hS).c3; have hc2 := (kt.kept hS).lt; go_simp; exact hK.out
        intro xw hxw nxw
        simp only [Act.put, mkOf, List.setIfInBounds_toArray, List.set_cons_succ, List.set_cons_zero]
        apply wpN_nil
        rintro W14 hS ⟨-, kxw⟩
        replace kz := kz.kept hS
        replace ks := ks.kept hS
        replace kt := kt.kept hS
        replace hb := hb.trans (hS.mono hb.size)
        have cw := kxw.c4
        go_upto_region 17 with (fail)
        clear cw hS nxw v0 v1 v2
        refine mid4q hb kxw (by omega) (fun W15 kw kk kn hb => ?_)
        replace kt := kk _ _ (by omega) kt
        clear kk kn kxw
        refine wp_region_grow 7 (fun w' => Below (World.heap W15).size W15 w') (by kernel_rfl) (by kernel_rfl) (Below.refl _ _).drew ?_
        simp only [List.take_succ_cons, List.take_zero, List.drop_succ_cons, List.drop_zero]
        repeat (first | (apply wpG_on; rfl; (intro w' hS K hK; have hc0 := (kt.kept hS).c3; have hc1 := (kw.kept hS).c4; go_simp; (first | exact hK.out _ hS | (go_at_call 14; (with_reducible refine (FN.out _ _ (HQ.out.kept (hb.trans (hS.mono hb.size)))).mono ?_); rintro e w'' ⟨rfl, hbb⟩; exact ⟨_, rfl, hK.out _ (hS.trans (hbb.mono hS.size))⟩))); simp only [Act.put, List.setIfInBounds_toArray, List.set_cons_succ, List.set_cons_zero]) | (apply wpG_off; rfl; simp only [Act.put, List.setIfInBounds_toArray, List.set_cons_succ, List.set_cons_zero]))
        apply wpG_nil
        intro W16 hS
        replace kt := kt.kept hS
        replace kw := kw.kept hS
        replace hb := hb.trans (hS.mono hb.size)
        clear hS
        go_wp2_with fail
        go_ret
        exact ⟨by simp, h6.trans (hb.mono h6.size)⟩

theorem walk (iw ih : Int) (iv : Value) (ps : List Px) (a b : Int) (px py : Int) (w : World) (hs : Sines w) (hI : Pn w iv ps) (ha : (Lit.int .u8 a).wf = true) (hb : (Lit.int .u8 b).wf = true) :
    Calls Tryd.prog 5 #[.agg #[.int .i64 iw, .int .i64 ih, iv], .int .u8 a, .int .u8 b, .agg #[.int .i64 px, .int .i64 py]] w fun e w' => e = .returned (.bool true) ∧ Below w.heap.size w w' := by
  have ba : 0 ≤ a ∧ a < 256 := by simp [Lit.wf, IntKind.min, IntKind.max, IntKind.signed, IntKind.bits] at ha; omega
  have bb : 0 ≤ b ∧ b < 256 := by simp [Lit.wf, IntKind.min, IntKind.max, IntKind.signed, IntKind.bits] at hb; omega
  obtain ⟨na, rfl⟩ : ∃ n : Nat, a = n := ⟨a.toNat, by omega⟩
  obtain ⟨nb, rfl⟩ : ∃ n : Nat, b = n := ⟨b.toNat, by omega⟩
  obtain ⟨Wm, Hm, E, qs, ho⟩ := heal_out iw ih ps ((na % 16 : Nat) : Int) ((nb % 16 : Nat) : Int) 3 3 px py 0 0 []
  by_cases hE : E = 0
  · have ho2 := ho
    rcases ho2 with ⟨h1, _, _, h, _⟩ | ⟨_, h2, _, _, h, _⟩ | ⟨_, _, _, _, _, h, _⟩ | ⟨_, _, _, _, _, _, h, _⟩ | ⟨_, _, _, _, _, _, _, h, _⟩ | ⟨h1, h2, h3, h4, h5, rfl, rfl, _, rfl⟩
    · exact absurd (h.symm.trans hE) h1
    · exact absurd (h.symm.trans hE) h2
    · rw [h] at hE; cases hE
    · rw [h] at hE; cases hE
    · rw [h] at hE; cases hE
    · subst hE
      obtain ⟨_, a1, _, a3, _, _⟩ := ichk_len h1
      obtain ⟨W, rfl⟩ : ∃ n : Nat, Wm = n := ⟨Wm.toNat, by omega⟩
      obtain ⟨H, rfl⟩ : ∃ n : Nat, Hm = n := ⟨Hm.toNat, by omega⟩
      obtain ⟨_, _, _, r1, r2, r3, r4⟩ := h3
      obtain ⟨q1, q2, q3, q4⟩ := h4
      obtain ⟨SX, hsx⟩ : ∃ n : Nat, ((na % 16 : Nat) : Int) + px = n := ⟨(((na % 16 : Nat) : Int) + px).toNat, by omega⟩
      obtain ⟨SY, hsy⟩ : ∃ n : Nat, ((nb % 16 : Nat) : Int) + py = n := ⟨(((nb % 16 : Nat) : Int) + py).toNat, by omega⟩
      rw [hsx, hsy] at ho
      exact small_good W H SX SY iv ps na nb px py w hs hI (by omega) (by omega) hsx hsy h1 (by omega) (by omega) (by omega) (by omega) ho
  · exact small_bad iw ih iv ps na nb px py w hs hI (by omega) (by omega) Wm Hm E qs ho hE
end Go.Proofs.YtieacbccadbdbaaDoor.retouchSmall

