/- imageeditorref18.Draw, where it draws (printed by gendrawr.py). -/
import Derived.Test.YtmejdhgknebbbaaGDraw
import Derived.Test.YtmejdhgknebbbaaGRectR
import Derived.Test.YtmejdhgknebbbaaPcs
import Derived.Test.YtmejdhgknebbbaaOrd
namespace Go.Proofs.Ytmejdhgknebbbaa
open Go.RowKit
set_option linter.unusedVariables false
attribute [local go_sem] Oper.gAt gUponK Oper.sAt stilK Oper.vAt valK

theorem drPx_ref (kind spread : Int) (zs : List Int) (ss : List St) (X Y : Int) (W k j : Nat) (hj : j < W) :
    drPx kind zs spread ss X Y W (k * W + j) = gcol ss (gPlace kind zs spread (X + (j : Int)) (Y + (k : Int))) := by
  have e1 : (k * W + j) % W = j := by rw [Nat.mul_comm, Nat.mul_add_mod]; exact Nat.mod_eq_of_lt hj
  have e2 : (k * W + j) / W = k := by rw [Nat.mul_comm, Nat.mul_add_div (by omega)]; rw [Nat.div_eq_of_lt hj]; omega
  unfold drPx
  rw [e1, e2]

set_option maxHeartbeats 16000000 in
set_option maxRecDepth 20000 in
theorem refDraw_good (kind spread X Y : Int) (W H : Nat) (v u : Value) (zs : List Int) (ss : List St) (w : World) (h : Nn w v zs) (hs : Sn w u ss) (h0 : gChk kind zs spread ss = 0) (hv : rValid X Y W H = true) (hW : 0 < W ∧ W ≤ 256) (hH : 0 < H ∧ H ≤ 256) :
    Calls Try.prog 19 #[.int .i64 kind, v, .int .i64 spread, u, rv X Y W H] w fun e w' => ∃ q, e = .returned (.tuple #[.agg #[.int .i64 W, .int .i64 H, q], .int .i64 0]) ∧ Pn w' q (drOut kind zs spread ss X Y W H) ∧ Below w.heap.size w w' := by
  have hb2 := hv
  unfold rValid at hb2
  rw [Bool.and_eq_true] at hb2
  have hx := rSpan_true hb2.1
  have hy := rSpan_true hb2.2
  have CK := Lib.hid (fun w h hs => refCheck_any kind spread v u zs ss w h hs)
  have RV := Lib.hid (fun w => refRValid_any X Y W H w)
  have RE := Lib.hid (fun w => refREmpty_any X Y W H w hv)
  have PL := Lib.hid (fun x y w h => refPlace_any kind spread x y v zs w h)
  have CL := Lib.hid (fun t w h => refColor_any u ss t w h)
  have PX := Lib.hid (fun k j hj => drPx_ref kind spread zs ss X Y W k j hj)
  have HN := Lib.hid h
  have HS := Lib.hid hs
  have OL := Lib.hid (drOut_len kind zs spread ss X Y W H)
  have OA := Lib.hid (drOut_at kind zs spread ss X Y W H)
  have H0 := Lib.hid h0
  have bE : ((W : Int) == 0 || (H : Int) == 0) = false := by simp; omega
  rw [hv] at RV
  rw [bE] at RE
  clear h hs h0 hv bE hb2
  obtain ⟨a, cap, rfl, hlen⟩ := HN.out.slice
  obtain ⟨a', cap', rfl, hlen'⟩ := HS.out.slice
  have hWH : W * H ≤ 65536 := Nat.mul_le_mul hW.2 hH.2
  obtain ⟨n0, hn0⟩ : ∃ n0, W * H = n0 := ⟨_, rfl⟩
  rw [hn0] at hWH OL OA
  have HN0 := Lib.hid hn0
  clear hn0
  generalize drOut kind zs spread ss X Y W H = out at *
  generalize drPx kind zs spread ss X Y W = res at *
  generalize zs.length = n1 at *
  generalize ss.length = n2 at *
  simp only [rv] at *
  go_enter Try.func19, Try.ntmps19
  go_upto_region 1 with (fail)
  refine name2 (fun W1 k9 k10 hb => ?_)
  go_wp2_with fail
  refine (CK.out _ (HN.out.kept hb) (HS.out.kept hb)).mono ?_
  rintro e W2 ⟨rfl, hS⟩
  rw [H0.out]
  replace k9 := k9.kept hS
  replace k10 := k10.kept hS
  replace hb := hb.trans (hS.mono hb.size)
  clear hS
  have c9 := k9.c4
  go_wp2_with fail
  clear c9
  refine (RV.out _).mono ?_
  rintro e W3 ⟨rfl, hS⟩
  replace k9 := k9.kept hS
  replace k10 := k10.kept hS
  replace hb := hb.trans (hS.mono hb.size)
  clear hS
  have c9 := k9.c4
  have w1 : ¬ (256 : Int) < (W : Int) := by omega
  have w2 : ¬ (256 : Int) < (H : Int) := by omega
  go_wp2_with fail
  clear c9
  refine (RE.out _).mono ?_
  rintro e W4 ⟨rfl, hS⟩
  replace k9 := k9.kept hS
  replace k10 := k10.kept hS
  replace hb := hb.trans (hS.mono hb.size)
  clear hS
  have c9 := k9.c4
  have hl10 := k10.lt
  go_upto_region 11 with (fail)
  clear c9
  refine name1 (fun W5 ko hS => ?_)
  replace k9 := k9.kept hS
  replace k10 := k10.kept hS
  replace hb := hb.trans (hS.mono hb.size)
  clear hS H0
  obtain ⟨x, hx0⟩ : ∃ x, x = W4.heap.size := ⟨_, rfl⟩
  rw [← hx0] at ko hl10 ⊢
  clear hx0
  have ox := ko.lt
  obtain ⟨base, hbase⟩ : ∃ base, base = W5.heap.size := ⟨_, rfl⟩
  have own := own_nil W5 base 27 res
  have hbs : base ≤ W5.heap.size := by omega
  rw [← hbase] at ox
  clear hbase
  have c9 := k9.c4
  go_wp2_with fail
  clear c9
  go_loopw [14] (fun i wr => ∃ (k : Nat) (q : Value), k ≤ H ∧ i = .int .i64 (Y + k) ∧ wr.ownsRow base 27 4 q (k * W) (pcF res (k * W)) ∧ base ≤ wr.heap.size ∧ Blk wr x (.cells #[.int .i64 W, .int .i64 H, q] 37 (0, 0)) ∧ Blk wr w.heap.size (.cells #[.int .i64 X, .int .i64 Y, .int .i64 W, .int .i64 H] 34 (0, 0)) ∧ Blk wr (w.heap.size + 1) (.cells #[.int .i64 0, .int .i64 0, .slice none 0 0] 37 (0, 0)) ∧ Below w.heap.size w wr) (fun i _ => (Y + H - intOf i).toNat)
  case atStart => exact ⟨0, _, Nat.zero_le _, by simp, by rw [Nat.zero_mul]; exact own, hbs, ko, k9, k10, hb⟩
  case round =>
    clear own ko k9 k10 hb hbs
    obtain ⟨k, q, hk, rfl, own, hbs, ko, k9, k10, hb⟩ := hrel
    have c9 := k9.c4
    by_cases hlt : k < H
    · have hkW : k * W + W ≤ n0 := by
        have := Nat.mul_le_mul_right W (show k + 1 ≤ H by omega)
        rw [Nat.add_mul, Nat.one_mul, Nat.mul_comm H W, HN0.out] at this
        exact this
      have HOW := Lib.hid own
      clear own
      go_wp2_with fail
      clear c9
      go_loopw [15] (fun i wr => ∃ (j : Nat) (q : Value), j ≤ W ∧ i = .int .i64 (X + j) ∧ Hid (wr.ownsRow base 27 4 q (k * W + j) (pcF res (k * W + j))) ∧ base ≤ wr.heap.size ∧ Blk wr x (.cells #[.int .i64 W, .int .i64 H, q] 37 (0, 0)) ∧ Blk wr w.heap.size (.cells #[.int .i64 X, .int .i64 Y, .int .i64 W, .int .i64 H] 34 (0, 0)) ∧ Blk wr (w.heap.size + 1) (.cells #[.int .i64 0, .int .i64 0, .slice none 0 0] 37 (0, 0)) ∧ Below w.heap.size w wr) (fun i _ => (X + W - intOf i).toNat)
      case atStart => exact ⟨0, _, Nat.zero_le _, by simp, HOW, hbs, ko, k9, k10, hb⟩
      case round =>
        clear HOW ko k9 k10 hb hbs
        obtain ⟨j, q, hj, rfl, HO, hbs, ko, k9, k10, hb⟩ := hrel
        have c9 := k9.c4
        by_cases hjl : j < W
        · have P1 := Lib.hid (fun w h => PL.out (X + (j : Int)) (Y + (k : Int)) w h)
          have HP := Lib.hid (PX.out k j hjl)
          generalize gPlace kind zs spread (X + (j : Int)) (Y + (k : Int)) = T at *
          have C1 := Lib.hid (fun w h => CL.out T w h)
          generalize gcol ss T = z at *
          obtain ⟨q0, q1, q2, q3⟩ := z
          replace C1 : Hid (∀ w, Sn w (.slice a' n2 cap') ss → Calls Try.prog 14 #[.slice a' n2 cap', .int .i64 T] w fun e w' => e = .returned (pv q0 q1 q2 q3) ∧ Below w.heap.size w w') := C1
          obtain ⟨idx, hie⟩ : ∃ idx, k * W + j = idx := ⟨_, rfl⟩
          rw [hie] at HP HO
          have PS := Lib.hid (pcF_succ res idx)
          rw [HP.out] at PS
          replace PS : Hid (pcF res (idx + 1) = pcF res idx ++ [.int .i64 q0, .int .i64 q1, .int .i64 q2, .int .i64 q3]) := PS
          have hidx : idx < n0 := by omega
          have HIE := Lib.hid hie
          clear hie hkW
          go_wp2_with fail
          clear c9
          refine wp_region_ord [] [0, 1, 2, 3, 4, 5, 6, 7, 8, 9, 10] [11, 12, 13] (fun h => absurd rfl h) (by kernel_rfl) (by kernel_rfl) ?_
          simp only [picked, opsAt, List.getElem?_cons_succ, List.getElem?_cons_zero]
          apply wpFl_nil
          repeat (first | (apply wpN_on; rfl; rfl; (intro w' hS K hK; have hc0 := (ko.kept hS).c3; have hc1 := (k9.kept hS).c4; have hc2 := (k10.kept hS).c3; go_simp; (first | exact hK.out _ (Below.refl _ _) | (go_at_call 17; (with_reducible refine (P1.out _ (HN.out.kept (hb.trans (hS.mono hb.size)))).mono ?_); rintro e w'' ⟨rfl, hbb⟩; exact ⟨_, rfl, hK.out _ hbb⟩) | (go_at_call 14; (with_reducible refine (C1.out _ (HS.out.kept (hb.trans (hS.mono hb.size)))).mono ?_); rintro e w'' ⟨rfl, hbb⟩; exact ⟨_, rfl, hK.out _ hbb⟩))); simp only [Act.put, List.setIfInBounds_toArray, List.set_cons_succ, List.set_cons_zero]) | (apply wpN_off; rfl; rfl; simp only [Act.put, List.setIfInBounds_toArray, List.set_cons_succ, List.set_cons_zero]))
          apply wpN_new
          rfl
          rfl
          · intro w' hS K hK; have hc0 := (ko.kept hS).c3; have hc1 := (k9.kept hS).c4; have hc2 := (k10.kept hS).c3; go_simp; exact hK.out
          intro x16 hx16 nx16
          simp only [Act.put, mkOf, List.setIfInBounds_toArray, List.set_cons_succ, List.set_cons_zero]
          apply wpN_nil
          rintro W6 hS ⟨-, kx16⟩
          replace ko := ko.kept hS
          replace k9 := k9.kept hS
          replace k10 := k10.kept hS
          replace hb := hb.trans (hS.mono hb.size)
          have own := ownsKept HO.out hS
          replace hbs : base ≤ W6.heap.size := Nat.le_trans hbs hS.size
          clear hS nx16
          obtain ⟨i0, hi, hz0, hz1, hz2⟩ := info_parts infoPx
          go_wp2_with (at_builtin; refine wpList_append_own _ rfl _ _ 35 rfl base 27 i0 (pv 0 0 0 0) 4 32 Try.underlying35 hi hz0 hz1 hz2 rfl (by decide) _ _ _ rfl own ⟨x16, 0, none⟩ 1 1 [.int .i64 q0, .int .i64 q1, .int .i64 q2, .int .i64 q3] rfl rfl ?ca1 ?ca2 ?ca3 ?ca4 ?ca5 ?_)
          case ca1 => exact World.news_of_block (cs := #[.int .i64 q0, .int .i64 q1, .int .i64 q2, .int .i64 q3]) (t := 27) (fr := (0, 0)) kx16
          case ca2 => simp [Value.oneCell']
          case ca3 => unfold maxLen; omega
          case ca4 => omega
          case ca5 => exact hbs
          intro v' w7 own' grow' _
          have hno : ∀ b, b < base → q.ownBlock ≠ some b := fun b hb' h => by have := (own.lt _ h).1; omega
          replace ko := ko.grown grow' (hno _ (by omega))
          replace k9 := k9.grown grow' (hno _ (by omega))
          replace k10 := k10.grown grow' (hno _ (by omega))
          replace hb : Below w.heap.size w w7 := hb.grown grow' (by omega) (fun b hb' => by have := (own.lt _ hb').1; omega)
          have hb7 : base ≤ w7.heap.size := Nat.le_trans hbs grow'.size
          obtain ⟨av', cv', rfl⟩ := own_slice own'
          have co := ko.c3
          go_wp2_with fail
          go_roundw
          case rel =>
            refine ⟨j + 1, _, by omega, by go_num, ?_, by simpa using hb7, ko.set1 2 _ (by simp) rfl, k9.other (by simp; omega) _, k10.other (by simp; omega) _, hb.setCell (by simp; omega) _⟩
            rw [← Nat.add_assoc, HIE.out, PS.out]
            exact own'.kept (row := some x) ⟨rfl, rfl, rfl, by simp, fun j hj hne => Below.heap_setCell _ _ _ _ (fun h => hne (by rw [h]))⟩ (.inr (fun h => by have := (own'.lt _ h).1; omega))
          case measure => simp only [intOf]; omega
        · obtain rfl : j = W := by omega
          go_wp2_with fail
          go_roundw
          case rel => exact ⟨k + 1, q, by omega, by go_num, by rw [Nat.add_mul, Nat.one_mul]; exact HO.out, hbs, ko, k9, k10, hb⟩
          case measure => simp only [intOf]; omega
    · obtain rfl : k = H := by omega
      obtain ⟨av, cv, rfl⟩ := own_slice own
      have co := ko.c3
      have c10 := k10.c3
      go_wp2_with fail
      clear co c9
      have ekw : k * W = n0 := by rw [Nat.mul_comm]; exact HN0.out
      rw [ekw] at own
      have PN : Hid (∀ w', w'.ownsRow base 27 4 (.slice av n0 cv) n0 (pcF res n0) → Pn w' (.slice av n0 cv) out) := fun w' h => pn_of_own h OL.out (by omega) (fun i hi => OA.out i hi)
      have KK : ∀ (w' : World) (j : Nat) (u : Value), w'.ownsRow base 27 4 (.slice av n0 cv) n0 (pcF res n0) → (w'.setCell ⟨w.heap.size + 1, j, none⟩ u).ownsRow base 27 4 (.slice av n0 cv) n0 (pcF res n0) := fun w' j u h =>
        h.kept (row := some (w.heap.size + 1)) ⟨rfl, rfl, rfl, by simp, fun j hj hne => Below.heap_setCell _ _ _ _ (fun h => hne (by rw [h]))⟩ (.inr (fun h' => by have := (h.lt _ h').1; omega))
      rw [ekw]
      refine bodyPost_ret (v := .tuple #[.agg #[.int .i64 W, .int .i64 k, .slice av n0 cv], .int .i64 0]) (by simp [results, Try.results19, go_sem, c10]) rfl ⟨_, rfl, PN.out _ (KK _ _ _ (KK _ _ _ (KK _ _ _ own))), ((hb.setCell (by simp) _).setCell (by simp) _).setCell (by simp) _⟩
end Go.Proofs.Ytmejdhgknebbbaa
