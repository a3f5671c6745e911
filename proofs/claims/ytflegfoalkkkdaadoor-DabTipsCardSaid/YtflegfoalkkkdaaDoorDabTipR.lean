/- The reference's Tip, where it makes a mask (printed by gentip.py). -/
import Derived.Test.YtflegfoalkkkdaaDoorTipPlain
import Derived.Test.YtflegfoalkkkdaaDoorDabCovR
import Derived.Test.YtflegfoalkkkdaaDoorLRect
import Derived.Test.YtflegfoalkkkdaaDoorLRow
import Derived.Test.YtflegfoalkkkdaaDoorLKit
namespace Go.Proofs.YtflegfoalkkkdaaDoor
open Go.RowKit
set_option linter.unusedVariables false
attribute [local go_sem] Oper.gAt gUponK Oper.sAt stilK

theorem dcov_in {B : Bru} {d : Dab} {x y : Int} (h0 : bchk B = 0) (hd : dOk d = true) (hx : -1048576 ≤ x ∧ x ≤ 1048576) (hy : -1048576 ≤ y ∧ y ≤ 1048576) : dcov B d x y = cvr B d x y := by
  unfold dcov
  rw [if_pos h0, dOk_lim hd, show cc x = x by unfold cc; omega, show cc y = y by unfold cc; omega]
set_option maxHeartbeats 16000000 in
set_option maxRecDepth 20000 in
theorem refTip_good (B : Bru) (d : Dab) (X Y : Int) (W H : Nat) (u : Value) (w : World) (h : Dn w u B.ds) (h0 : bchk B = 0) (hd : dOk d = true) (hv : rValid X Y W H = true) (hW : 0 < W ∧ W ≤ 256) (hH : 0 < H ∧ H ≤ 256) :
    Calls Tryd.prog 14 #[brv B u, dbv d, .agg #[.int .i64 X, .int .i64 Y, .int .i64 W, .int .i64 H]] w fun e w' => ∃ q, e = .returned (.tuple #[.agg #[.int .i64 W, .int .i64 H, q], .int .i64 0]) ∧ Nn w' q (tipOut B d X Y W H) ∧ Below w.heap.size w w' := by
  have hb2 := hv
  unfold rValid at hb2
  rw [Bool.and_eq_true] at hb2
  have hx := rSpan_true' hb2.1
  have hy := rSpan_true' hb2.2
  have HD := Lib.hid h
  obtain ⟨a, cap, rfl, _, _⟩ := h
  have CK := Lib.hid (fun w h => refDabCheck_any B (.slice a B.ds.length cap) w h)
  rw [h0] at CK
  have VD := Lib.hid (fun w => refDabLimit_any d w)
  rw [dOk_lim hd] at VD
  have RV := Lib.hid (fun w => refRValid_any X Y W H w)
  have RE := Lib.hid (fun w => refREmpty_any X Y W H w hv)
  have CV : Hid (∀ x y w, Dn w (.slice a B.ds.length cap) B.ds → (-1048576 ≤ x ∧ x ≤ 1048576) → (-1048576 ≤ y ∧ y ≤ 1048576) → Calls Tryd.prog 17 #[brv B (.slice a B.ds.length cap), dbv d, .int .i64 x, .int .i64 y] w fun e w' => e = .returned (.int .i64 (cvr B d x y)) ∧ Below w.heap.size w w') := fun x y w hn hx hy => by
    rw [← dcov_in h0 hd hx hy]; exact refCover_any B d x y _ w hn
  have PX := Lib.hid (fun k j hj => tipAt_eq B d X Y W k j hj)
  have OL := Lib.hid (tipOut_len B d X Y W H)
  have OA := Lib.hid (tipOut_at B d X Y W H)
  have bE : ((W : Int) == 0 || (H : Int) == 0) = false := by simp; omega
  rw [hv] at RV
  rw [bE] at RE
  clear h0 hd hv bE hb2
  have hWH : W * H ≤ 65536 := Nat.mul_le_mul hW.2 hH.2
  obtain ⟨n0, hn0⟩ : ∃ n0, W * H = n0 := ⟨_, rfl⟩
  rw [hn0] at hWH OL OA
  have HN0 := Lib.hid hn0
  clear hn0
  generalize tipOut B d X Y W H = out at *
  generalize tipAt B d X Y W = res at *
  generalize B.ds.length = nd at *
  simp only [rv] at *
  go_enter Tryd.func14, Tryd.ntmps14
  go_upto_region 1 with (fail)
  refine name4 (fun W1 k1 k2 k3 k4 hb => ?_)
  have c1 := k1.c16
  go_wp2_with fail
  clear c1
  refine (CK.out _ (HD.out.kept hb)).mono ?_
  rintro e W2 ⟨rfl, hS⟩
  replace k1 := k1.kept hS
  replace k2 := k2.kept hS
  replace k3 := k3.kept hS
  replace k4 := k4.kept hS
  replace hb := hb.trans (hS.mono hb.size)
  clear hS
  go_upto_region 4 with (fail)
  refine wp_region_grow 3 (fun w' => Below (World.heap W2).size W2 w') (by kernel_rfl) (by kernel_rfl) (Below.refl _ _).drew ?_
  simp only [List.take_succ_cons, List.take_zero, List.drop_succ_cons, List.drop_zero]
  repeat (first | (apply wpG_on; rfl; (intro w' hS K hK; have hc0 := (k1.kept hS).c16; have hc1 := (k2.kept hS).c5; have hc2 := (k3.kept hS).c4; have hc3 := (k4.kept hS).c3; go_simp; (first | exact hK.out _ hS | (go_at_call 16; (with_reducible refine (VD.out _).mono ?_); rintro e w'' ⟨rfl, hbb⟩; exact ⟨_, rfl, hK.out _ (hS.trans (hbb.mono hS.size))⟩))); simp only [Act.put, List.setIfInBounds_toArray, List.set_cons_succ, List.set_cons_zero]) | (apply wpG_off; rfl; simp only [Act.put, List.setIfInBounds_toArray, List.set_cons_succ, List.set_cons_zero]))
  apply wpG_nil
  intro W3 hS
  replace k1 := k1.kept hS
  replace k2 := k2.kept hS
  replace k3 := k3.kept hS
  replace k4 := k4.kept hS
  replace hb := hb.trans (hS.mono hb.size)
  clear hS
  have c3 := k3.c4
  go_wp2_with fail
  clear c3
  refine (RV.out _).mono ?_
  rintro e W4 ⟨rfl, hS⟩
  replace k1 := k1.kept hS
  replace k2 := k2.kept hS
  replace k3 := k3.kept hS
  replace k4 := k4.kept hS
  replace hb := hb.trans (hS.mono hb.size)
  clear hS
  have c3 := k3.c4
  have w1 : ¬ (256 : Int) < (W : Int) := by omega
  have w2 : ¬ (256 : Int) < (H : Int) := by omega
  go_wp2_with fail
  clear c3
  refine (RE.out _).mono ?_
  rintro e W5 ⟨rfl, hS⟩
  replace k1 := k1.kept hS
  replace k2 := k2.kept hS
  replace k3 := k3.kept hS
  replace k4 := k4.kept hS
  replace hb := hb.trans (hS.mono hb.size)
  clear hS
  have c3 := k3.c4
  have hl4 := k4.lt
  go_upto_region 11 with (fail)
  clear c3
  refine name1 (fun W6 ko hS => ?_)
  replace k1 := k1.kept hS
  replace k2 := k2.kept hS
  replace k3 := k3.kept hS
  replace k4 := k4.kept hS
  replace hb := hb.trans (hS.mono hb.size)
  clear hS
  obtain ⟨x, hx0⟩ : ∃ x, x = W5.heap.size := ⟨_, rfl⟩
  rw [← hx0] at ko hl4 ⊢
  clear hx0 CK VD RV RE
  have ox := ko.lt
  obtain ⟨base, hbase⟩ : ∃ base, base = W6.heap.size := ⟨_, rfl⟩
  have own := own_nilI W6 base 3 res
  have hbs : base ≤ W6.heap.size := by omega
  rw [← hbase] at ox
  clear hbase
  have c3 := k3.c4
  go_wp2_with fail
  clear c3
  go_loopw [10] (fun i wr => ∃ (k : Nat) (q : Value), k ≤ H ∧ i = .int .i64 (Y + k) ∧ wr.ownsRow base 3 1 q (k * W) (icF res (k * W)) ∧ base ≤ wr.heap.size ∧ Blk wr x (.cells #[.int .i64 W, .int .i64 H, q] 38 (0, 0)) ∧ Blk wr w.heap.size (.cells #[.int .i64 B.sz, .int .i64 B.hd, .int .i64 B.rn, .int .i64 B.fl, .int .i64 B.op, .int .i64 B.sp, .int .i64 B.an, .int .i64 B.sc, .int .i64 B.md, .int .i64 B.r, .int .i64 B.g, .int .i64 B.b, .int .i64 B.a, .int .i64 B.sd, .slice a nd cap, .bool B.er] 26 (0, 0)) ∧ Blk wr (w.heap.size + 1) (.cells #[.int .i64 d.x, .int .i64 d.y, .int .i64 d.sz, .int .i64 d.fl, .int .i64 d.an] 28 (0, 0)) ∧ Blk wr (w.heap.size + 1 + 1) (.cells #[.int .i64 X, .int .i64 Y, .int .i64 W, .int .i64 H] 32 (0, 0)) ∧ Blk wr (w.heap.size + 1 + 1 + 1) (.cells #[.int .i64 0, .int .i64 0, .slice none 0 0] 38 (0, 0)) ∧ Below w.heap.size w wr) (fun i _ => (Y + H - intOf i).toNat)
  case atStart => exact ⟨0, _, Nat.zero_le _, by simp, by rw [Nat.zero_mul]; exact own, hbs, ko, k1, k2, k3, k4, hb⟩
  case round =>
    clear own ko k1 k2 k3 k4 hb hbs
    obtain ⟨k, q, hk, rfl, own, hbs, ko, k1, k2, k3, k4, hb⟩ := hrel
    have c3 := k3.c4
    by_cases hlt : k < H
    · have hkW : k * W + W ≤ n0 := by
        have := Nat.mul_le_mul_right W (show k + 1 ≤ H by omega)
        rw [Nat.add_mul, Nat.one_mul, Nat.mul_comm H W, HN0.out] at this
        exact this
      have HOW := Lib.hid own
      clear own
      go_wp2_with fail
      clear c3
      go_loopw [11] (fun i wr => ∃ (j : Nat) (q : Value), j ≤ W ∧ i = .int .i64 (X + j) ∧ Hid (wr.ownsRow base 3 1 q (k * W + j) (icF res (k * W + j))) ∧ base ≤ wr.heap.size ∧ Blk wr x (.cells #[.int .i64 W, .int .i64 H, q] 38 (0, 0)) ∧ Blk wr w.heap.size (.cells #[.int .i64 B.sz, .int .i64 B.hd, .int .i64 B.rn, .int .i64 B.fl, .int .i64 B.op, .int .i64 B.sp, .int .i64 B.an, .int .i64 B.sc, .int .i64 B.md, .int .i64 B.r, .int .i64 B.g, .int .i64 B.b, .int .i64 B.a, .int .i64 B.sd, .slice a nd cap, .bool B.er] 26 (0, 0)) ∧ Blk wr (w.heap.size + 1) (.cells #[.int .i64 d.x, .int .i64 d.y, .int .i64 d.sz, .int .i64 d.fl, .int .i64 d.an] 28 (0, 0)) ∧ Blk wr (w.heap.size + 1 + 1) (.cells #[.int .i64 X, .int .i64 Y, .int .i64 W, .int .i64 H] 32 (0, 0)) ∧ Blk wr (w.heap.size + 1 + 1 + 1) (.cells #[.int .i64 0, .int .i64 0, .slice none 0 0] 38 (0, 0)) ∧ Below w.heap.size w wr) (fun i _ => (X + W - intOf i).toNat)
      case atStart => exact ⟨0, _, Nat.zero_le _, by simp, HOW, hbs, ko, k1, k2, k3, k4, hb⟩
      case round =>
        clear HOW ko k1 k2 k3 k4 hb hbs
        obtain ⟨j, q, hj, rfl, HO, hbs, ko, k1, k2, k3, k4, hb⟩ := hrel
        have c3 := k3.c4
        by_cases hjl : j < W
        · have C1 := Lib.hid (fun w h => CV.out (X + (j : Int)) (Y + (k : Int)) w h (by omega) (by omega))
          have HP := Lib.hid (PX.out k j hjl)
          generalize cvr B d (X + (j : Int)) (Y + (k : Int)) = T at *
          obtain ⟨idx, hie⟩ : ∃ idx, k * W + j = idx := ⟨_, rfl⟩
          rw [hie] at HP HO
          have PS := Lib.hid (icF_succ res idx)
          rw [HP.out] at PS
          have hidx : idx < n0 := by omega
          have HIE := Lib.hid hie
          clear hie hkW
          go_upto_region 17 with (fail)
          clear c3
          obtain ⟨aq0, cq0, rfl⟩ := own_sliceI HO.out
          refine wp_region_ord [] [0, 1, 2, 3, 4, 5, 6, 7] [8, 9, 10] (fun h => absurd rfl h) (by kernel_rfl) (by kernel_rfl) ?_
          simp only [picked, opsAt, List.getElem?_cons_succ, List.getElem?_cons_zero]
          apply wpFl_nil
          repeat (first | (apply wpN_on; rfl; rfl; (intro w' hS K hK; have hc0 := (ko.kept hS).c3; have hc1 := (k1.kept hS).c16; have hc2 := (k2.kept hS).c5; have hc3 := (k3.kept hS).c4; have hc4 := (k4.kept hS).c3; go_simp; (first | exact hK.out _ (Below.refl _ _) | (go_at_call 17; (with_reducible refine (C1.out _ (HD.out.kept (hb.trans (hS.mono hb.size)))).mono ?_); rintro e w'' ⟨rfl, hbb⟩; exact ⟨_, rfl, hK.out _ hbb⟩))); simp only [Act.put, List.setIfInBounds_toArray, List.set_cons_succ, List.set_cons_zero]) | (apply wpN_off; rfl; rfl; simp only [Act.put, List.setIfInBounds_toArray, List.set_cons_succ, List.set_cons_zero]))
          apply wpN_new
          rfl
          rfl
          · intro w' hS K hK; have hc0 := (ko.kept hS).c3; have hc1 := (k1.kept hS).c16; have hc2 := (k2.kept hS).c5; have hc3 := (k3.kept hS).c4; have hc4 := (k4.kept hS).c3; go_simp; exact hK.out
          intro x7 hx7 nx7
          simp only [Act.put, mkOf, List.setIfInBounds_toArray, List.set_cons_succ, List.set_cons_zero]
          apply wpN_nil
          rintro W7 hS ⟨-, kx7⟩
          replace ko := ko.kept hS
          replace k1 := k1.kept hS
          replace k2 := k2.kept hS
          replace k3 := k3.kept hS
          replace k4 := k4.kept hS
          replace hb := hb.trans (hS.mono hb.size)
          have own := ownsKept HO.out hS
          replace hbs : base ≤ W7.heap.size := Nat.le_trans hbs hS.size
          clear hS nx7
          obtain ⟨i0, hi, hz0, hz1, hz2⟩ := info_parts infoInt
          go_wp2_with (at_builtin; refine wpList_append_own _ rfl _ _ 36 rfl base 3 i0 (.int .i64 0) 1 8 Tryd.underlying36 hi hz0 hz1 hz2 rfl (by decide) _ _ _ rfl own ⟨x7, 0, none⟩ 1 1 [.int .i64 T] rfl rfl ?ca1 ?ca2 ?ca3 ?ca4 ?ca5 ?_)
          case ca1 => exact World.news_of_block (cs := #[.int .i64 T]) (t := 3) (fr := (0, 0)) kx7
          case ca2 => simp [Value.oneCell']
          case ca3 => unfold maxLen; omega
          case ca4 => omega
          case ca5 => exact hbs
          intro v' w7 own' grow' _
          have hno : ∀ b, b < base → (Value.slice aq0 idx cq0).ownBlock ≠ some b := fun b hb' h => by have := (own.lt _ h).1; omega
          replace ko := ko.grown grow' (hno _ (by omega))
          replace k1 := k1.grown grow' (hno _ (by omega))
          replace k2 := k2.grown grow' (hno _ (by omega))
          replace k3 := k3.grown grow' (hno _ (by omega))
          replace k4 := k4.grown grow' (hno _ (by omega))
          replace hb : Below w.heap.size w w7 := hb.grown grow' (by omega) (fun b hb' => by have := (own.lt _ hb').1; omega)
          have hb7 : base ≤ w7.heap.size := Nat.le_trans hbs grow'.size
          obtain ⟨av', cv', rfl⟩ := own_sliceI own'
          have co := ko.c3
          go_wp2_with fail
          go_roundw
          case rel =>
            refine ⟨j + 1, _, by omega, by go_num, ?_, by simpa using hb7, ko.set1 2 _ (by simp) rfl, k1.other (by simp; omega) _, k2.other (by simp; omega) _, k3.other (by simp; omega) _, k4.other (by simp; omega) _, hb.setCell (by simp; omega) _⟩
            rw [← Nat.add_assoc, HIE.out, PS.out]
            exact own'.kept (row := some x) ⟨rfl, rfl, rfl, by simp, fun j hj hne => Below.heap_setCell _ _ _ _ (fun h => hne (by rw [h]))⟩ (.inr (fun h => by have := (own'.lt _ h).1; omega))
          case measure => simp only [intOf]; omega
        · obtain rfl : j = W := by omega
          go_wp2_with fail
          go_roundw
          case rel => exact ⟨k + 1, q, by omega, by go_num, by rw [Nat.add_mul, Nat.one_mul]; exact HO.out, hbs, ko, k1, k2, k3, k4, hb⟩
          case measure => simp only [intOf]; omega
    · obtain rfl : k = H := by omega
      obtain ⟨av, cv, rfl⟩ := own_sliceI own
      have co := ko.c3
      have c4 := k4.c3
      go_wp2_with fail
      clear co c3
      have ekw : k * W = n0 := by rw [Nat.mul_comm]; exact HN0.out
      rw [ekw] at own
      have PN : Hid (∀ w', w'.ownsRow base 3 1 (.slice av n0 cv) n0 (icF res n0) → Nn w' (.slice av n0 cv) out) := fun w' h => nn_of_own h OL.out (by omega) (fun i hi => OA.out i hi)
      have KK : ∀ (w' : World) (j : Nat) (u : Value), w'.ownsRow base 3 1 (.slice av n0 cv) n0 (icF res n0) → (w'.setCell ⟨w.heap.size + 1 + 1 + 1, j, none⟩ u).ownsRow base 3 1 (.slice av n0 cv) n0 (icF res n0) := fun w' j u h =>
        h.kept (row := some (w.heap.size + 1 + 1 + 1)) ⟨rfl, rfl, rfl, by simp, fun j hj hne => Below.heap_setCell _ _ _ _ (fun h => hne (by rw [h]))⟩ (.inr (fun h' => by have := (h.lt _ h').1; omega))
      rw [ekw]
      refine bodyPost_ret (v := .tuple #[.agg #[.int .i64 W, .int .i64 k, .slice av n0 cv], .int .i64 0]) (by simp [results, Tryd.results14, go_sem, c4]) rfl ⟨_, rfl, PN.out _ (KK _ _ _ (KK _ _ _ (KK _ _ _ own))), ((hb.setCell (by simp; omega) _).setCell (by simp; omega) _).setCell (by simp; omega) _⟩
end Go.Proofs.YtflegfoalkkkdaaDoor
