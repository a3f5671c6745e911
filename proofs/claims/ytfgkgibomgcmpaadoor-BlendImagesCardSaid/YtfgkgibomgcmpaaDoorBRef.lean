/- imageeditorref10.Image, where it has no error. -/
import Derived.Test.YtfgkgibomgcmpaaDoorBImg
import Derived.Test.YtfgkgibomgcmpaaDoorPcs
import Derived.Deep.RegionHeld3
namespace Go.Proofs.YtfgkgibomgcmpaaDoor
open Go.RowKit
set_option linter.unusedVariables false
attribute [local go_sem] Oper.gAt gUponK Oper.sAt stilK Oper.vAt valK

set_option maxHeartbeats 8000000 in
theorem refImage_good (m o W H : Int) (vb vs : Value) (bs ss : List Px) (w : World) (hb0 : Pn w vb bs) (hs0 : Pn w vs ss) (h1 : 0 ≤ m ∧ m ≤ 17) (h2 : 0 ≤ o ∧ o ≤ 65535) (h3 : ichk W H bs = 0) (h4 : ichk W H ss = 0) :
    Calls Tryd.prog 20 #[.int .i64 m, .int .i64 o, .agg #[.int .i64 W, .int .i64 H, vb], .agg #[.int .i64 W, .int .i64 H, vs]] w fun e w' => ∃ v, e = .returned (.tuple #[.agg #[.int .i64 W, .int .i64 H, v], .int .i64 0]) ∧ Pn w' v (imgOut m o bs ss) ∧ Below w.heap.size w w' := by
  have l1 := ichk_len h3
  have l2 := ichk_len h4
  have hll : ss.length = bs.length := by omega
  have HB := Lib.hid hb0
  have HS := Lib.hid hs0
  obtain ⟨a, cap, rfl⟩ := hb0.slice
  obtain ⟨a', cap', rfl⟩ := hs0.slice
  rw [hll] at HS ⊢
  have H3 := Lib.hid h3
  have H4 := Lib.hid h4
  have hlen : bs.length ≤ 65536 := l1.1
  have hv : decide (0 ≤ m ∧ m ≤ 17) = true := decide_eq_true h1
  have OL := Lib.hid (imgOut_len m o bs ss)
  have OA := Lib.hid (imgOut_at m o bs ss)
  have OP : Hid (∀ i, imgPx m o bs ss i = ovP m (pxAt bs i) (fdP (pxAt ss i) o)) := fun i => rfl
  clear hb0 hs0 h1 h3 h4 l1 l2 hll
  generalize bs.length = n at *
  generalize imgOut m o bs ss = out at *
  generalize imgPx m o bs ss = res at *
  go_enter Tryd.func20, Tryd.ntmps20
  go_upto_region 1 with (fail)
  refine name3 (fun W1 k1 k2 k3 hb => ?_)
  go_wp2_with fail
  refine (refBValid_any _ _).mono ?_
  rintro e w' ⟨rfl, rfl⟩
  rw [hv]
  have c1 := k1.c3
  have c2 := k2.c3
  go_wp2_with fail
  clear c1 c2
  refine (valued_any _ _ _ _ _ (HB.out.kept hb)).mono ?_
  rintro e W2 ⟨rfl, hS⟩
  rw [H3.out]
  replace k1 := k1.kept hS
  replace k2 := k2.kept hS
  replace k3 := k3.kept hS
  replace hb := hb.trans (hS.mono hb.size)
  clear hS
  have c1 := k1.c3
  have c2 := k2.c3
  go_wp2_with fail
  clear c1 c2
  refine (valued_any _ _ _ _ _ (HS.out.kept hb)).mono ?_
  rintro e W3 ⟨rfl, hS⟩
  rw [H4.out]
  replace k1 := k1.kept hS
  replace k2 := k2.kept hS
  replace k3 := k3.kept hS
  replace hb := hb.trans (hS.mono hb.size)
  clear hS
  have c1 := k1.c3
  have c2 := k2.c3
  have hl3 := k3.lt
  go_upto_region 14 with (fail)
  clear c1 c2
  refine name1 (fun W4 ko hS => ?_)
  replace k1 := k1.kept hS
  replace k2 := k2.kept hS
  replace k3 := k3.kept hS
  replace hb := hb.trans (hS.mono hb.size)
  clear hS H3 H4
  obtain ⟨x, hx⟩ : ∃ x, x = W3.heap.size := ⟨_, rfl⟩
  rw [← hx] at ko hl3 ⊢
  clear hx
  have ox := ko.lt
  obtain ⟨base, hbase⟩ : ∃ base, base = W4.heap.size := ⟨_, rfl⟩
  have own := own_nil W4 base 26 res
  have hbs : base ≤ W4.heap.size := by omega
  rw [← hbase] at ox
  clear hbase
  go_wp2_with fail
  go_loopw [13] (fun i wr => ∃ (k : Nat) (v : Value), k ≤ n ∧ i = .int .i64 k ∧ wr.ownsRow base 26 4 v k (pcF res k) ∧ base ≤ wr.heap.size ∧ Blk wr x (.cells #[.int .i64 W, .int .i64 H, v] 31 (0, 0)) ∧ Blk wr w.heap.size (.cells #[.int .i64 W, .int .i64 H, .slice a n cap] 31 (0, 0)) ∧ Blk wr (w.heap.size + 1) (.cells #[.int .i64 W, .int .i64 H, .slice a' n cap'] 31 (0, 0)) ∧ Blk wr (w.heap.size + 1 + 1) (.cells #[.int .i64 0, .int .i64 0, .slice none 0 0] 31 (0, 0)) ∧ Below w.heap.size w wr) (fun i _ => n - (intOf i).toNat)
  case atStart => exact ⟨0, _, Nat.zero_le _, rfl, own, hbs, ko, k1, k2, k3, hb⟩
  case round =>
    clear own ko k1 k2 k3 hb hbs
    obtain ⟨k, v, hk, rfl, own, hbs, ko, k1, k2, k3, hb⟩ := hrel
    by_cases hlt : k < n
    · obtain ⟨b1, off1, rfl, hbl1, hcell1⟩ := HB.out.at k hlt
      obtain ⟨b2, off2, rfl, hbl2, hcell2⟩ := HS.out.at k hlt
      have F1 := Lib.hid (fun w => refFade_any (pxAt ss k) o w)
      have O1 := Lib.hid (fun w => refOver_any m (pxAt bs k) (fdP (pxAt ss k) o) w)
      have PS := Lib.hid (pcF_succ res k)
      rw [OP.out k] at PS
      clear OP
      generalize ovP m (pxAt bs k) (fdP (pxAt ss k) o) = q at *
      generalize fdP (pxAt ss k) o = f at *
      generalize pxAt ss k = s at *
      generalize pxAt bs k = p at *
      obtain ⟨q0, q1, q2, q3⟩ := q
      obtain ⟨f0, f1, f2, f3⟩ := f
      obtain ⟨s0, s1, s2, s3⟩ := s
      obtain ⟨p0, p1, p2, p3⟩ := p
      replace F1 : Hid (∀ w, Calls Tryd.prog 25 #[pv s0 s1 s2 s3, .int .i64 o] w fun e w' => e = .returned (pv f0 f1 f2 f3) ∧ Below w.heap.size w w') := F1
      replace O1 : Hid (∀ w, Calls Tryd.prog 18 #[.int .i64 m, pv p0 p1 p2 p3, pv f0 f1 f2 f3] w fun e w' => e = .returned (pv q0 q1 q2 q3) ∧ Below w.heap.size w w') := O1
      replace PS : Hid (pcF res (k + 1) = pcF res k ++ [.int .i64 q0, .int .i64 q1, .int .i64 q2, .int .i64 q3]) := PS
      simp only at hcell1 hcell2
      have HC1 := Lib.hid hcell1
      have HC2 := Lib.hid hcell2
      have HO := Lib.hid own
      clear hcell1 hcell2 own
      have c1 := k1.c3
      go_wp2_with fail
      clear c1
      have i1 : (0 : Int) ≤ (k : Int) := by omega
      have i2 : (k : Int) < (n : Int) := by omega
      refine wp_region_ord [] [0, 1, 2, 3, 4, 5, 6, 7, 8, 9, 10, 11, 12, 13, 14, 15, 16] [17, 18, 19] (fun h => absurd rfl h) (by kernel_rfl) (by kernel_rfl) ?_
      simp only [picked, opsAt, List.getElem?_cons_succ, List.getElem?_cons_zero]
      apply wpFl_nil
      repeat (first | (apply wpN_on; rfl; rfl; (intro w' hS K hK; have hc0 := (ko.kept hS).c3; have hc1 := (k1.kept hS).c3; have hc2 := (k2.kept hS).c3; have hc3 := (k3.kept hS).c3; have hr0 := HC1.out _ (hb.trans (hS.mono hb.size)); have hr1 := HC2.out _ (hb.trans (hS.mono hb.size)); go_simp; (first | exact hK.out _ (Below.refl _ _) | (go_at_call 25; (with_reducible refine (F1.out _).mono ?_); rintro e w'' ⟨rfl, hbb⟩; exact ⟨_, rfl, hK.out _ hbb⟩) | (go_at_call 18; (with_reducible refine (O1.out _).mono ?_); rintro e w'' ⟨rfl, hbb⟩; exact ⟨_, rfl, hK.out _ hbb⟩))); simp only [Act.put, List.setIfInBounds_toArray, List.set_cons_succ, List.set_cons_zero]) | (apply wpN_off; rfl; rfl; simp only [Act.put, List.setIfInBounds_toArray, List.set_cons_succ, List.set_cons_zero]))
      apply wpN_new
      rfl
      rfl
      · intro w' hS K hK; have hc0 := (ko.kept hS).c3; have hc1 := (k1.kept hS).c3; have hc2 := (k2.kept hS).c3; have hc3 := (k3.kept hS).c3; have hr0 := HC1.out _ (hb.trans (hS.mono hb.size)); have hr1 := HC2.out _ (hb.trans (hS.mono hb.size)); go_simp; exact hK.out
      intro x16 hx16 nx16
      simp only [Act.put, mkOf, List.setIfInBounds_toArray, List.set_cons_succ, List.set_cons_zero]
      apply wpN_nil
      rintro W6 hS ⟨-, kx16⟩
      replace ko := ko.kept hS
      replace k1 := k1.kept hS
      replace k2 := k2.kept hS
      replace k3 := k3.kept hS
      replace hb := hb.trans (hS.mono hb.size)
      have own := ownsKept HO.out hS
      replace hbs : base ≤ W6.heap.size := Nat.le_trans hbs hS.size
      clear hS nx16
      obtain ⟨i0, hi, hz0, hz1, hz2⟩ := info_parts infoPx
      go_wp2_with (at_builtin; refine wpList_append_own _ rfl _ _ 29 rfl base 26 i0 (pv 0 0 0 0) 4 32 Tryd.underlying29 hi hz0 hz1 hz2 rfl (by decide) _ _ _ rfl own ⟨x16, 0, none⟩ 1 1 [.int .i64 q0, .int .i64 q1, .int .i64 q2, .int .i64 q3] rfl rfl ?ca1 ?ca2 ?ca3 ?ca4 ?ca5 ?_)
      case ca1 => exact World.news_of_block (cs := #[.int .i64 q0, .int .i64 q1, .int .i64 q2, .int .i64 q3]) (t := 26) (fr := (0, 0)) kx16
      case ca2 => simp [Value.oneCell']
      case ca3 => unfold maxLen; omega
      case ca4 => omega
      case ca5 => exact hbs
      intro v' w7 own' grow' _
      have hno : ∀ b, b < base → v.ownBlock ≠ some b := fun b hb' h => by have := (own.lt _ h).1; omega
      replace ko := ko.grown grow' (hno _ (by omega))
      replace k1 := k1.grown grow' (hno _ (by omega))
      replace k2 := k2.grown grow' (hno _ (by omega))
      replace k3 := k3.grown grow' (hno _ (by omega))
      replace hb : Below w.heap.size w w7 := hb.grown grow' (by omega) (fun b hb' => by have := (own.lt _ hb').1; omega)
      have hb7 : base ≤ w7.heap.size := Nat.le_trans hbs grow'.size
      obtain ⟨av', cv', rfl⟩ := own_slice own'
      have co := ko.c3
      go_wp2_with fail
      go_roundw
      case rel =>
        refine ⟨k + 1, _, by omega, by go_num, ?_, by simpa using hb7, ko.set1 2 _ (by simp) rfl, k1.other (by simp; omega) _, k2.other (by simp; omega) _, k3.other (by simp; omega) _, hb.setCell (by simp; omega) _⟩
        rw [PS.out]
        exact own'.kept (row := some x) ⟨rfl, rfl, rfl, by simp, fun j hj hne => Below.heap_setCell _ _ _ _ (fun h => hne (by rw [h]))⟩ (.inr (fun h => by have := (own'.lt _ h).1; omega))
      case measure => simp [intOf]; omega
    · obtain rfl : k = n := by omega
      obtain ⟨av, cv, rfl⟩ := own_slice own
      have co := ko.c3
      have c1 := k1.c3
      have c3 := k3.c3
      go_wp2_with fail
      clear co c1
      have PN : Hid (∀ w', w'.ownsRow base 26 4 (.slice av k cv) k (pcF res k) → Pn w' (.slice av k cv) out) := fun w' h => pn_of_own h OL.out (by omega) (fun i hi => OA.out i hi)
      have KK : ∀ (w' : World) (j : Nat) (u : Value), w'.ownsRow base 26 4 (.slice av k cv) k (pcF res k) → (w'.setCell ⟨w.heap.size + 1 + 1, j, none⟩ u).ownsRow base 26 4 (.slice av k cv) k (pcF res k) := fun w' j u h =>
        h.kept (row := some (w.heap.size + 1 + 1)) ⟨rfl, rfl, rfl, by simp, fun j hj hne => Below.heap_setCell _ _ _ _ (fun h => hne (by rw [h]))⟩ (.inr (fun h' => by have := (h.lt _ h').1; omega))
      refine bodyPost_ret (v := .tuple #[.agg #[.int .i64 W, .int .i64 H, .slice av k cv], .int .i64 0]) (by simp [results, Tryd.results20, go_sem, c3]) rfl ⟨_, rfl, PN.out _ (KK _ _ _ (KK _ _ _ (KK _ _ _ own))), ((hb.setCell (by simp; omega) _).setCell (by simp; omega) _).setCell (by simp; omega) _⟩
end Go.Proofs.YtfgkgibomgcmpaaDoor
