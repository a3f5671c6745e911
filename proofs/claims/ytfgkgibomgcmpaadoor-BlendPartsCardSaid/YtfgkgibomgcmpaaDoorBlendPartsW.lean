/- BlendParts: the walk. -/
import Derived.Test.YtfgkgibomgcmpaaDoorBlendImagesW
namespace Go.Proofs.YtfgkgibomgcmpaaDoor.blendParts
open Go.ChangeShapes Go.WideShapes Go.ChangeAt Go.RowKit
set_option linter.unusedVariables false
attribute [local go_sem] Oper.gAt gUponK Oper.sAt stilK

theorem Blk.c8 {w : World} {b : Nat} {x0 x1 x2 x3 x4 x5 x6 x7 : Value} {t : TypeId} (k : Blk w b (.cells #[x0, x1, x2, x3, x4, x5, x6, x7] t (0, 0))) :
    w.cell? ⟨b, 0, none⟩ = some x0 ∧ w.cell? ⟨b, 1, none⟩ = some x1 ∧ w.cell? ⟨b, 2, none⟩ = some x2 ∧ w.cell? ⟨b, 3, none⟩ = some x3 ∧ w.cell? ⟨b, 4, none⟩ = some x4 ∧ w.cell? ⟨b, 5, none⟩ = some x5 ∧ w.cell? ⟨b, 6, none⟩ = some x6 ∧ w.cell? ⟨b, 7, none⟩ = some x7 ∧ ∀ o, w.frozen? ⟨b, o, none⟩ = false := blendImages.Blk.c8 k

set_option maxHeartbeats 4000000 in
theorem walkGood (m o W H : Int) (vb : Value) (bs : List Px) (vs : Value) (ss : List Px) (w : World) (hN : Names w) (hb0 : Pn w vb bs) (hs0 : Pn w vs ss) (h1 : 0 ≤ m ∧ m ≤ 17) (h2 : 0 ≤ o ∧ o ≤ 65535) (h3 : ichk W H bs = 0) (h4 : ichk W H ss = 0) :
    Calls Tryd.prog 10 #[.agg #[.int .i64 m, .int .i64 o, .int .i64 W, .int .i64 H, vb, .int .i64 W, .int .i64 H, vs]] w fun e w' => e = .returned (.bool true) ∧ Below w.heap.size w w' := by
  have HN := Lib.hid hN
  have HB := Lib.hid hb0
  have HS := Lib.hid hs0
  have I1 := Lib.hid (fun w hb hs => image_good m o W H vb vs bs ss w hb hs h1 h2 h3 h4)
  have l1 := ichk_len h3
  have l2 := ichk_len h4
  have hll : ss.length = bs.length := by omega
  have hlen : bs.length ≤ 65536 := l1.1
  have OL := Lib.hid (imgOut_len m o bs ss)
  have OA := Lib.hid (imgOut_at m o bs ss)
  have OP : Hid (∀ i, imgPx m o bs ss i = ovP m (pxAt bs i) (fdP (pxAt ss i) o)) := fun i => rfl
  obtain ⟨a, cap, rfl⟩ := hb0.slice
  obtain ⟨a', cap', rfl⟩ := hs0.slice
  rw [hll] at HS I1 ⊢
  clear hN hb0 hs0 h1 h2 h3 h4 l1 l2 hll
  generalize bs.length = n at *
  generalize imgOut m o bs ss = out at *
  generalize imgPx m o bs ss = res at *
  go_enter Tryd.func10, Tryd.ntmps10
  go_upto_region 1 with (fail)
  refine name1 (fun W1 k1 hb => ?_)
  have c1 := blendParts.Blk.c8 k1
  go_wp2_with fail
  clear c1
  refine (I1.out _ (HB.out.kept hb) (HS.out.kept hb)).mono ?_
  rintro e W2 ⟨v1, rfl, p1, hS⟩
  replace k1 := k1.kept hS
  replace hb := hb.trans (hS.mono hb.size)
  clear hS
  have HP1 := Lib.hid p1
  obtain ⟨a1, cap1, rfl⟩ := p1.slice
  rw [OL.out] at HP1 ⊢
  clear p1 I1
  go_upto_region 2 with (fail)
  refine name1 (fun W3 k3 hS => ?_)
  replace k1 := k1.kept hS
  replace HP1 := Lib.hid (HP1.out.kept hS)
  replace hb := hb.trans (hS.mono hb.size)
  have hW23 := hb.size
  clear hS
  have c1 := blendParts.Blk.c8 k1
  have c3 := k3.c3
  go_wp2_with fail
  clear c1 c3
  have hbW : Below W3.heap.size W3 W3 := Below.refl _ _
  obtain ⟨z, hz⟩ : ∃ z, z = W2.heap.size := ⟨_, rfl⟩
  rw [← hz] at k3 ⊢
  clear hz
  go_loopw [5] (fun i wr => ∃ k : Nat, k ≤ n ∧ i = .int .i64 k ∧ Blk wr w.heap.size (.cells #[.int .i64 m, .int .i64 o, .int .i64 W, .int .i64 H, .slice a n cap, .int .i64 W, .int .i64 H, .slice a' n cap'] 33 (0, 0)) ∧ Blk wr z (.cells #[.int .i64 W, .int .i64 H, .slice a1 n cap1] 31 (0, 0)) ∧ Below w.heap.size w wr ∧ Below W3.heap.size W3 wr) (fun i _ => n - (intOf i).toNat)
  case atStart => exact ⟨0, Nat.zero_le _, rfl, k1, k3, hb, hbW⟩
  case round =>
    clear hb k1 k3 hbW
    obtain ⟨k, hk, rfl, k1, k3, hb, hbW⟩ := hrel
    have c3 := k3.c3
    by_cases hlt : k < n
    · obtain ⟨b1, off1, rfl, hbl1, hcell1⟩ := HB.out.at k hlt
      obtain ⟨b2, off2, rfl, hbl2, hcell2⟩ := HS.out.at k hlt
      obtain ⟨b3, off3, rfl, hbl3, hcell3⟩ := HP1.out.at k hlt
      have F1 := Lib.hid (fun w => refFade_any (pxAt ss k) o w)
      have O1 := Lib.hid (fun w => over_any m (pxAt bs k) (fdP (pxAt ss k) o) w)
      rw [OA.out k hlt, OP.out k] at hcell3
      clear OP
      generalize ovP m (pxAt bs k) (fdP (pxAt ss k) o) = q at *
      generalize fdP (pxAt ss k) o = f at *
      generalize pxAt ss k = s at *
      generalize pxAt bs k = p at *
      obtain ⟨q0, q1, q2, q3⟩ := q
      obtain ⟨f0, f1, f2, f3⟩ := f
      obtain ⟨s0, s1, s2, s3⟩ := s
      obtain ⟨p0, p1, p2, p3⟩ := p
      replace F1 : Hid (∀ w, Calls Tryd.prog 25 #[pv s0 s1 s2 s3, .int .i64 o] w fun e w' => e = .returned (pv f0 f1 f2 f3) ∧ Below w.heap.size w w') := F1
      replace O1 : Hid (∀ w, Calls Tryd.prog 17 #[.int .i64 m, pv p0 p1 p2 p3, pv f0 f1 f2 f3] w fun e w' => e = .returned (pv q0 q1 q2 q3) ∧ Below w.heap.size w w') := O1
      simp only at hcell1 hcell2 hcell3
      have HC1 := Lib.hid hcell1
      have HC2 := Lib.hid hcell2
      have HC3 := Lib.hid hcell3
      clear hcell1 hcell2 hcell3
      go_wp2_with fail
      clear c3
      have i1 : (0 : Int) ≤ (k : Int) := by omega
      have i2 : (k : Int) < (n : Int) := by omega
      have hwr := hbW.size
      refine wp_region_grow 24 (fun w' => Below (World.heap wr).size wr w') (by kernel_rfl) (by kernel_rfl) (Below.refl _ _).drew ?_
      simp only [List.take_succ_cons, List.take_zero, List.drop_succ_cons, List.drop_zero]
      repeat (first | (apply wpG_on; rfl; (intro w' hS K hK; have hc0 := (k3.kept hS).c3; have hc1 := (k1.kept hS).lt; have hr0 := blendParts.Blk.c8 (k1.kept hS); have hr1 := HC1.out _ (hb.trans (hS.mono hb.size)); have hr2 := HC2.out _ (hb.trans (hS.mono hb.size)); have hr3 := HC3.out _ (hbW.trans (hS.mono hbW.size)); go_simp; (first | exact hK.out _ hS | (go_at_call 25; (with_reducible refine (F1.out _).mono ?_); rintro e w'' ⟨rfl, hbb⟩; exact ⟨_, rfl, hK.out _ (hS.trans (hbb.mono hS.size))⟩) | (go_at_call 17; (with_reducible refine (O1.out _).mono ?_); rintro e w'' ⟨rfl, hbb⟩; exact ⟨_, rfl, hK.out _ (hS.trans (hbb.mono hS.size))⟩))); simp only [Act.put, List.setIfInBounds_toArray, List.set_cons_succ, List.set_cons_zero]) | (apply wpG_off; rfl; simp only [Act.put, List.setIfInBounds_toArray, List.set_cons_succ, List.set_cons_zero]))
      apply wpG_nil
      intro W6 hS
      replace k3 := k3.kept hS
      replace k1 := k1.kept hS
      replace hb := hb.trans (hS.mono hb.size)
      replace hbW := hbW.trans (hS.mono hbW.size)
      clear hS
      go_wp2_with fail
      go_roundw
      case rel => exact ⟨k + 1, by omega, by go_num, k1, k3, hb, hbW⟩
      case measure => simp [intOf]; omega
    · obtain rfl : k = n := by omega
      go_wp2_with fail
      refine (example_any _ (HN.out.kept hb)).mono ?_
      rintro e w2 ⟨rfl, hb2⟩
      go_wp2_with fail
      go_ret
      exact ⟨rfl, hb.trans (hb2.mono hb.size)⟩

set_option maxHeartbeats 4000000 in
theorem walkBad (m o bW bH : Int) (vb : Value) (bs : List Px) (sW sH : Int) (vs : Value) (ss : List Px) (w : World) (hN : Names w) (hb0 : Pn w vb bs) (hs0 : Pn w vs ss) (h : imgErr m o bW bH bs sW sH ss ≠ 0) :
    Calls Tryd.prog 10 #[.agg #[.int .i64 m, .int .i64 o, .int .i64 bW, .int .i64 bH, vb, .int .i64 sW, .int .i64 sH, vs]] w fun e w' => e = .returned (.bool true) ∧ Below w.heap.size w w' := by
  have HN := Lib.hid hN
  have HB := Lib.hid hb0
  have HS := Lib.hid hs0
  have I1 := Lib.hid (fun w hb hs => image_bad m o bW bH sW sH vb vs bs ss w hb hs h)
  have he : (imgErr m o bW bH bs sW sH ss != 0) = true := by simpa using h
  obtain ⟨a, cap, rfl⟩ := hb0.slice
  obtain ⟨a', cap', rfl⟩ := hs0.slice
  clear hN hb0 hs0 h
  generalize imgErr m o bW bH bs sW sH ss = E at *
  generalize bs.length = n at *
  generalize ss.length = n' at *
  simp only [img0] at I1
  go_enter Tryd.func10, Tryd.ntmps10
  go_upto_region 1 with (fail)
  refine name1 (fun W1 k1 hb => ?_)
  have c1 := blendParts.Blk.c8 k1
  go_wp2_with fail
  clear c1
  refine (I1.out _ (HB.out.kept hb) (HS.out.kept hb)).mono ?_
  rintro e W2 ⟨rfl, hS⟩
  replace hb := hb.trans (hS.mono hb.size)
  clear hS k1 I1
  go_upto_region 2 with (fail)
  refine name1 (fun W3 k3 hS => ?_)
  replace hb := hb.trans (hS.mono hb.size)
  clear hS k3
  go_wp2_with fail
  refine (example_any _ (HN.out.kept hb)).mono ?_
  rintro e w2 ⟨rfl, hb2⟩
  go_wp2_with fail
  go_ret
  exact ⟨rfl, hb.trans (hb2.mono hb.size)⟩

theorem walk (m o bW bH : Int) (vb : Value) (bs : List Px) (sW sH : Int) (vs : Value) (ss : List Px) (w : World) (hN : Names w) (hb0 : Pn w vb bs) (hs0 : Pn w vs ss) :
    Calls Tryd.prog 10 #[.agg #[.int .i64 m, .int .i64 o, .int .i64 bW, .int .i64 bH, vb, .int .i64 sW, .int .i64 sH, vs]] w fun e w' => e = .returned (.bool true) ∧ Below w.heap.size w w' := by
  by_cases h : imgErr m o bW bH bs sW sH ss = 0
  · obtain ⟨h1, h2, h3, h4, rfl, rfl⟩ := imgErr_zero h
    exact walkGood m o bW bH vb bs vs ss w hN hb0 hs0 h1 h2 h3 h4
  · exact walkBad m o bW bH vb bs sW sH vs ss w hN hb0 hs0 h
end Go.Proofs.YtfgkgibomgcmpaaDoor.blendParts
