/- DabTips: Tip returns what its reference returns, and each value is that of Cover, for every brush, dab and rectangle. The package's table of sines is as its text lays it. -/
import Derived.Test.YtflegfoalkkkdaaDoorDabAwake
import Derived.Test.YtflegfoalkkkdaaDoorDabTipR
import Derived.Test.YtflegfoalkkkdaaDoorDabTipBadR
import Derived.Test.YtflegfoalkkkdaaDoorLOpen
import Derived.Test.YtflegfoalkkkdaaDoorLOpen
import Derived.Test.YtflegfoalkkkdaaDoorCards
import Derived.Test.YtflegfoalkkkdaaDoorTie
namespace Go.Proofs.YtflegfoalkkkdaaDoor.dabTips
open Go.ChangeShapes Go.WideShapes Go.ChangeAt Go.RowKit
set_option linter.unusedVariables false
attribute [local go_sem] Oper.gAt gUponK Oper.sAt stilK

theorem nnAt {w : World} {a : Option Addr} {n cap : Nat} {zs : List Int} (h : Nn w (.slice a n cap) zs) (i : Nat) (hi : i < n) : ∃ b off, a = some ⟨b, off, none⟩ ∧ ∀ w' : World, Below w.heap.size w w' → w'.cell? ⟨b, off + i, none⟩ = some (.int .i64 (zs.getD i 0)) := by
  obtain ⟨b, off, ha, hc⟩ := h.at i hi
  refine ⟨b, off, ha, fun w' hb => ?_⟩
  rw [hb.cell (p := ⟨b, off + i, none⟩) (lt_of_cell hc)]
  exact hc
/-- What both make: a mask, its values, the error. -/
theorem both (B : Bru) (d : Dab) (X Y W H : Int) (u : Value) : ∃ (Wm Hm E : Int) (zs : List Int),
    (∀ w, Sines w → Dn w u B.ds → Calls Tryd.prog 13 #[brv B u, dbv d, .agg #[.int .i64 X, .int .i64 Y, .int .i64 W, .int .i64 H]] w fun e w' => ∃ q, e = .returned (.tuple #[.agg #[.int .i64 Wm, .int .i64 Hm, q], .int .i64 E]) ∧ Nn w' q zs ∧ Below w.heap.size w w') ∧
    (∀ w, Dn w u B.ds → Calls Tryd.prog 14 #[brv B u, dbv d, .agg #[.int .i64 X, .int .i64 Y, .int .i64 W, .int .i64 H]] w fun e w' => ∃ q, e = .returned (.tuple #[.agg #[.int .i64 Wm, .int .i64 Hm, q], .int .i64 E]) ∧ Nn w' q zs ∧ Below w.heap.size w w') ∧
    zs.length ≤ 65536 ∧ (0 < zs.length → 0 < W ∧ W ≤ 256 ∧ -1048576 ≤ X ∧ X ≤ 1048576 ∧ -1048576 ≤ Y ∧ Y ≤ 1048576) ∧
    ∀ k : Nat, k < zs.length → zs.getD k 0 = dcov B d (X + (k : Int) % W) (Y + (k : Int) / W) ∧ (k : Int) / W ≤ 65536 := by
  rcases tip_cases B d X Y W H with ⟨E, hbad⟩ | ⟨h0, hd, hv, w0, w1, g0, g1⟩
  · refine ⟨0, 0, E, [], fun w hs hD => ?_, fun w hD => ?_, by simp, fun h => absurd h (by simp), fun k h => absurd h (by simp)⟩
    · refine (tip_bad B d X Y W H E u w hD hbad).mono ?_
      rintro e w' ⟨rfl, hb⟩
      exact ⟨_, rfl, ⟨none, 0, rfl, by simp, .inl rfl⟩, hb⟩
    · refine (refTip_bad B d X Y W H E u w hD hbad).mono ?_
      rintro e w' ⟨rfl, hb⟩
      exact ⟨_, rfl, ⟨none, 0, rfl, by simp, .inl rfl⟩, hb⟩
  · obtain ⟨Wn, rfl⟩ : ∃ n : Nat, W = n := ⟨W.toNat, by omega⟩
    obtain ⟨Hn, rfl⟩ : ∃ n : Nat, H = n := ⟨H.toNat, by omega⟩
    have hb2 := hv
    unfold rValid at hb2
    rw [Bool.and_eq_true] at hb2
    have hx := rSpan_true' hb2.1
    have hy := rSpan_true' hb2.2
    have hl := tipOut_len B d X Y Wn Hn
    have hWH : Wn * Hn ≤ 65536 := Nat.mul_le_mul (show Wn ≤ 256 by omega) (show Hn ≤ 256 by omega)
    refine ⟨Wn, Hn, 0, tipOut B d X Y Wn Hn, fun w hs hD => tip_good B d X Y Wn Hn u w hs hD h0 hd hv (by omega) (by omega), fun w hD => refTip_good B d X Y Wn Hn u w hD h0 hd hv (by omega) (by omega), by omega, fun _ => by omega, fun k hk => ?_⟩
    rw [hl] at hk
    have e1 : (k : Int) % (Wn : Int) = ((k % Wn : Nat) : Int) := rfl
    have e2 : (k : Int) / (Wn : Int) = ((k / Wn : Nat) : Int) := rfl
    have l1 : k % Wn < Wn := Nat.mod_lt _ (by omega)
    have l2 : k / Wn < Hn := Nat.div_lt_of_lt_mul hk
    have q : ∀ a b : Nat, a < Wn → b < Hn → (-1048576 ≤ X + (a : Int) ∧ X + (a : Int) ≤ 1048576) ∧ (-1048576 ≤ Y + (b : Int) ∧ Y + (b : Int) ≤ 1048576) ∧ (b : Int) ≤ 65536 := fun a b h1 h2 => by omega
    have q' := q _ _ l1 l2
    rw [e1, e2]
    refine ⟨?_, q'.2.2⟩
    rw [tipOut_at B d X Y Wn Hn k hk, dcov_in h0 hd q'.1 q'.2.1]
    rfl

set_option maxRecDepth 20000 in
set_option maxHeartbeats 8000000 in
theorem walk (B : Bru) (u : Value) (D : Dab) (X Y W H : Int) (w : World) (hs : Sines w) (hD : Dn w u B.ds) (_ : (Lit.int .i64 X).wf = true) (_ : (Lit.int .i64 Y).wf = true) (_ : (Lit.int .i64 W).wf = true) (_ : (Lit.int .i64 H).wf = true) :
    Calls Tryd.prog 4 #[brv B u, dbv D, .agg #[.int .i64 X, .int .i64 Y, .int .i64 W, .int .i64 H]] w fun e w' => e = .returned (.bool true) ∧ Below w.heap.size w w' := by
  have HD := Lib.hid hD
  have HSn := Lib.hid hs
  obtain ⟨Wm, Hm, E, zs, p1, p2, hzl, hzp, hz⟩ := both B D X Y W H u
  have P1 := Lib.hid p1
  have P2 := Lib.hid p2
  have HZ := Lib.hid hz
  have HZP := Lib.hid hzp
  obtain ⟨a, cap, rfl, _, _⟩ := hD
  have CV := Lib.hid (fun x y w hs h => cover_any B D x y (.slice a B.ds.length cap) w hs h)
  have AW := Lib.hid (fun w hs => dabAwake_any w hs)
  clear hs p1 p2 hz hzp
  generalize B.ds.length = nd at *
  go_enter Tryd.func4, Tryd.ntmps4
  go_upto_region 1 with (fail)
  refine name3 (fun W0 k1 k2 k3 hb => ?_)
  have c1 := k1.c16
  have c2 := k2.c5
  have c3 := k3.c4
  go_wp2_with fail
  clear c1 c2 c3
  refine (P1.out _ (HSn.out.kept hb) (HD.out.kept hb)).mono ?_
  rintro e W1 ⟨q, rfl, hq, hS⟩
  replace k1 := k1.kept hS
  replace k2 := k2.kept hS
  replace k3 := k3.kept hS
  replace hb := hb.trans (hS.mono hb.size)
  obtain ⟨aq, cq, rfl, _⟩ := hq.slice
  have HQ0 := Lib.hid hq
  clear hS hq P1
  go_upto_region 2 with (refine wpList_store_blk rfl _ _ _ rfl W1.heap.size #[.int .i64 Wm, .int .i64 Hm, .slice aq zs.length cq] rfl rfl (heap_alloc_new W1 _) infoMask rfl (by simp [Value.oneCell']) (fun W2 k4 hkx hbx => ?_))
  have HQ1 := Lib.hid (HQ0.out.kept (((Below.refl _ _).alloc (Nat.le_refl _) _).trans hbx))
  replace k1 := hkx _ _ (by have := k1.lt; omega) (k1.alloc _)
  replace k2 := hkx _ _ (by have := k2.lt; omega) (k2.alloc _)
  replace k3 := hkx _ _ (by have := k3.lt; omega) (k3.alloc _)
  replace hb : Below w.heap.size w W2 := hb.trans ((((Below.refl _ _).alloc (Nat.le_refl _) _).trans hbx).mono hb.size)
  clear hkx hbx HQ0
  generalize W1.heap.size = b4 at *
  have c1 := k1.c16
  have c2 := k2.c5
  have c3 := k3.c4
  go_wp2_with fail
  clear c1 c2 c3
  refine (P2.out _ (HD.out.kept hb)).mono ?_
  rintro e W3 ⟨q, rfl, hq, hS⟩
  replace k1 := k1.kept hS
  replace k2 := k2.kept hS
  replace k3 := k3.kept hS
  replace k4 := k4.kept hS
  have HQ2 := Lib.hid (HQ1.out.kept hS)
  replace hb := hb.trans (hS.mono hb.size)
  obtain ⟨ar, cr, rfl, _⟩ := hq.slice
  have HR0 := Lib.hid hq
  clear hS hq P2 HQ1
  go_upto_region 3 with (refine wpList_store_blk rfl _ _ _ rfl W3.heap.size #[.int .i64 Wm, .int .i64 Hm, .slice ar zs.length cr] rfl rfl (heap_alloc_new W3 _) infoMask rfl (by simp [Value.oneCell']) (fun W4 k5 hkx hbx => ?_))
  have HR := Lib.hid (HR0.out.kept (((Below.refl _ _).alloc (Nat.le_refl _) _).trans hbx))
  have HQ := Lib.hid (HQ2.out.kept (((Below.refl _ _).alloc (Nat.le_refl _) _).trans hbx))
  replace k1 := hkx _ _ (by have := k1.lt; omega) (k1.alloc _)
  replace k2 := hkx _ _ (by have := k2.lt; omega) (k2.alloc _)
  replace k3 := hkx _ _ (by have := k3.lt; omega) (k3.alloc _)
  replace k4 := hkx _ _ (by have := k4.lt; omega) (k4.alloc _)
  replace hb : Below w.heap.size w W4 := hb.trans ((((Below.refl _ _).alloc (Nat.le_refl _) _).trans hbx).mono hb.size)
  clear hkx hbx HR0 HQ2
  generalize W3.heap.size = b5 at *
  generalize hn : zs.length = n at *
  have HNN := Lib.hid hn
  clear hn
  have c4 := k4.c3
  have c5 := k5.c3
  go_wp2_with fail
  clear c4 c5
  obtain ⟨wo, hwo⟩ : ∃ wo, wo = W4 := ⟨_, rfl⟩
  have B4 := Below.refl W4.heap.size W4
  go_loopw [55] (fun i wr => ∃ k : Nat, k ≤ n ∧ i = .int .i64 k ∧ Blk wr w.heap.size (.cells #[.int .i64 B.sz, .int .i64 B.hd, .int .i64 B.rn, .int .i64 B.fl, .int .i64 B.op, .int .i64 B.sp, .int .i64 B.an, .int .i64 B.sc, .int .i64 B.md, .int .i64 B.r, .int .i64 B.g, .int .i64 B.b, .int .i64 B.a, .int .i64 B.sd, .slice a nd cap, .bool B.er] 26 (0, 0)) ∧ Blk wr (w.heap.size + 1) (.cells #[.int .i64 D.x, .int .i64 D.y, .int .i64 D.sz, .int .i64 D.fl, .int .i64 D.an] 28 (0, 0)) ∧ Blk wr (w.heap.size + 1 + 1) (.cells #[.int .i64 X, .int .i64 Y, .int .i64 W, .int .i64 H] 32 (0, 0)) ∧ Blk wr b4 (.cells #[.int .i64 Wm, .int .i64 Hm, .slice aq n cq] 38 (0, 0)) ∧ Blk wr b5 (.cells #[.int .i64 Wm, .int .i64 Hm, .slice ar n cr] 38 (0, 0)) ∧ Below W4.heap.size W4 wr ∧ Below w.heap.size w wr) (fun i _ => n - (intOf i).toNat)
  case atStart => exact ⟨0, Nat.zero_le _, rfl, k1, k2, k3, k4, k5, B4, hb⟩
  case round =>
    clear k1 k2 k3 k4 k5 hb B4 hwo
    obtain ⟨k, hk, rfl, k1, k2, k3, k4, k5, B4, hb⟩ := hrel
    by_cases hlt : k < n
    · obtain ⟨bq, oq, rfl, cq1⟩ := nnAt HQ.out k hlt
      obtain ⟨br, or, rfl, cr1⟩ := nnAt HR.out k hlt
      obtain ⟨z1, z2, z3, z4, z5, z6⟩ := HZP.out (by omega)
      obtain ⟨y1, y2⟩ := HZ.out k (by omega)
      rw [y1] at cq1 cr1
      have V := Lib.hid (fun w hs h => CV.out (X + (k : Int) % W) (Y + (k : Int) / W) w hs h)
      have m0 : 0 ≤ (k : Int) % W := Int.emod_nonneg _ (by omega)
      have m1 : (k : Int) % W < W := Int.emod_lt_of_pos _ z1
      have m2 : 0 ≤ (k : Int) / W := Int.ediv_nonneg (by omega) (by omega)
      have t1 : (k : Int).tmod W = (k : Int) % W := Int.tmod_eq_emod_of_nonneg (by omega)
      have t2 : (k : Int).tdiv W = (k : Int) / W := Int.tdiv_eq_ediv_of_nonneg (by omega)
      have HQC := Lib.hid cq1
      have HRC := Lib.hid cr1
      clear cq1 cr1 y1
      generalize dcov B D (X + (k : Int) % W) (Y + (k : Int) / W) = v at *
      generalize (k : Int) % W = kr at *
      generalize (k : Int) / W = kd at *
      have wz : (W == 0) = false := by simp; omega
      have wn : ¬ W = 0 := by omega
      have e1 : IntKind.i64.wrap (X + kr) = X + kr := IntWalk.i64_in _ (by omega)
      have e2 : IntKind.i64.wrap (Y + kd) = Y + kd := IntWalk.i64_in _ (by omega)
      have e3 : IntKind.i64.wrap kr = kr := IntWalk.i64_in _ (by omega)
      have e4 : IntKind.i64.wrap kd = kd := IntWalk.i64_in _ (by omega)
      have i1 : (0 : Int) ≤ (k : Int) := by omega
      have i2 : (k : Int) < (n : Int) := by omega
      go_upto_region 8 with (fail)
      refine wp_region_grow 36 (fun w' => Below (World.heap wr).size wr w') (by kernel_rfl) (by kernel_rfl) (Below.refl _ _).drew ?_
      simp only [List.take_succ_cons, List.take_zero, List.drop_succ_cons, List.drop_zero]
      repeat (first | (apply wpG_on; rfl; (intro w' hS K hK; have hc0 := (k1.kept hS).c16; have hc1 := (k2.kept hS).c5; have hc2 := (k3.kept hS).c4; have hc3 := (k4.kept hS).c3; have hc4 := (k5.kept hS).c3; have hr0 := HQC.out _ (B4.trans (hS.mono B4.size)); have hr1 := HRC.out _ (B4.trans (hS.mono B4.size)); go_simp; (first | exact hK.out _ hS | (go_at_call 15; (with_reducible refine (V.out _ (HSn.out.kept (hb.trans (hS.mono hb.size))) (HD.out.kept (hb.trans (hS.mono hb.size)))).mono ?_); rintro e w'' ⟨rfl, hbb⟩; exact ⟨_, rfl, hK.out _ (hS.trans (hbb.mono hS.size))⟩))); simp only [Act.put, List.setIfInBounds_toArray, List.set_cons_succ, List.set_cons_zero]) | (apply wpG_off; rfl; simp only [Act.put, List.setIfInBounds_toArray, List.set_cons_succ, List.set_cons_zero]))
      apply wpG_nil
      intro W6 hS
      replace k1 := k1.kept hS
      replace k2 := k2.kept hS
      replace k3 := k3.kept hS
      replace k4 := k4.kept hS
      replace k5 := k5.kept hS
      replace hb := hb.trans (hS.mono hb.size)
      replace B4 := B4.trans (hS.mono B4.size)
      clear hS
      go_wp2_with fail
      go_roundw
      case rel => exact ⟨k + 1, by omega, by go_num, k1, k2, k3, k4, k5, B4, hb⟩
      case measure => simp only [intOf]; omega
    · obtain rfl : k = n := by omega
      go_wp2_with fail
      refine (AW.out _ (HSn.out.kept hb)).mono ?_
      rintro e W5 ⟨rfl, hS⟩
      replace hb := hb.trans (hS.mono hb.size)
      go_wp2_with fail
      go_ret
      exact ⟨rfl, hb⟩


theorem contract (H : Type) (enc : TypeId × Value → H) (W : World) (base : Nat) (args : Array Value) (ds gs : List (DataW H)) (before : List MemPlace)
    (hval0 : ∀ (j : Nat) t v, Tryd.f4.params[j]? = some t → args[j]? = some v → Value.okWide Tryd.prog W .any base t v)
    (hW : DataW.Whole enc Tryd.prog Tryd.f4.params.toList Rows.dabTipsSpec.vars false W args.toList ds gs before)
    (hsz0 : ((DataW.weightsEach Tryd.checked.prog (Tryd.f4.params.toList ++ DataSpec.varTypes Tryd.checked.prog (OpenSpec.ofChange Rows.dabTipsSpec).bare.plain) (ds ++ gs)).all fun x => decide (x ≤ reachBytes)) = true) (hL : laidMetH Tryd.prog Rows.dabTipsRow.laid W) :
    Calls Tryd.prog 4 args W fun e W' => ∃ v, e = .returned v ∧ Rows.dabTipsSpec.post enc Tryd.prog Tryd.f4 false true false false W args v W' := by
  have hval : ∀ (j : Nat) t v, Tryd.f4.params[j]? = some t → args[j]? = some v → Value.okWide Tryd.prog W .any base t v := hval0
  have hW' := hW
  obtain ⟨p, q, hA0, hV, rfl, hfz, hnd⟩ := hW
  have hA : DataW.TrodAll enc Tryd.prog W 0 (fun _ => true) true Tryd.f4.params.toList args.toList ds p := hA0
  rw [Tryd.params4] at hA hval
  have hAll := hA
  obtain ⟨v0, vs0, d0, ds0, p0, q0, hargs, rfl, rfl, h0, r0⟩ := trodAll_cons hA
  obtain ⟨v1, vs1, d1, ds1, p1, q1, rfl, rfl, rfl, h1, r1⟩ := trodAll_cons r0
  obtain ⟨v2, vs2, d2, ds2, p2, q2, rfl, rfl, rfl, h2, r2⟩ := trodAll_cons r1
  obtain ⟨rfl, rfl, rfl⟩ := trodAll_nil r2
  obtain rfl : args = #[v0, v1, v2] := by cases args; simp_all
  obtain ⟨rfl, rfl⟩ := trodVars_none hV
  have hsz : (DataW.weightsEach Tryd.prog [26, 28, 32] [d0, d1, d2]).all (· ≤ reachBytes) = true := hsz0
  clear hA0 hval0 hsz0
  have hAll' : DataW.TrodAll enc Tryd.prog W 0 (fun _ => true) true [26, 28, 32] [v0, v1, v2] [d0, d1, d2] _ := hAll
  clear hAll
  have hargsBack : ∀ W' : World, Below W.heap.size W W' → DataW.TrodAll enc Tryd.prog W' 0 (fun b => decide (b < W.heap.size)) true [26, 28, 32] [v0, v1, v2] [d0, d1, d2] _ := fun W' bel => belowTrodAll laidK bel _ _ _ _ (by kernel_rfl) hAll'
  have hc : Calls Tryd.prog 4 #[v0, v1, v2] W fun e w' => e = .returned (.bool true) ∧ Below W.heap.size W w' := by
    clear hargsBack hAll' hW'
    obtain ⟨B0, u0, rfl, hD0⟩ := openBrush (hval 0 26 v0 rfl rfl) h0
    obtain ⟨D1, rfl⟩ := openDab (hval 1 28 v1 rfl rfl) h1
    obtain ⟨a2_0, a2_1, a2_2, a2_3, rfl, w2_0, w2_1, w2_2, w2_3⟩ := openPix Tryd.underlying32 (by kernel_rfl) (by kernel_rfl) ⟨rfl, rfl, rfl, rfl⟩ Tryd.underlying3 (hval 2 32 v2 rfl rfl) h2
    exact walk B0 u0 D1 a2_0 a2_1 a2_2 a2_3 W (sines_of hL) hD0 w2_0 w2_1 w2_2 w2_3
  refine hc.mono fun e W' ⟨he, bel⟩ => ?_
  subst he
  exact ⟨_, rfl, _, _, _, [], _, [], hW', trodAll_mk1 (shut_bool Tryd.underlying4 _), hargsBack W' bel, rfl, bel.frame _, fun h => by cases h⟩

noncomputable def laidWorld (os : Os) : World :=
  { World.holding Tryd.prog os ⟨#[], #[], []⟩ with heap := (World.holding Tryd.prog os ⟨#[], #[], []⟩).heap.modify 0 fun
      | .cells _ t frozen => .cells (sinTab.map fun z => Value.int .i64 z).toArray t frozen
      | o => o }
theorem laid_met (os : Os) : laidMet Tryd.prog Rows.dabTipsRow.laid ((laidWorld os).forCall (fun _ _ => 0) ⟨#[], #[.agg #[.int .i64 0, .int .i64 0, .int .i64 0, .int .i64 0, .int .i64 0, .int .i64 0, .int .i64 0, .int .i64 0, .int .i64 0, .int .i64 0, .int .i64 0, .int .i64 0, .int .i64 0, .int .i64 0, .slice none 0 0, .bool false], .agg #[.int .i64 0, .int .i64 0, .int .i64 0, .int .i64 0, .int .i64 0], .agg #[.int .i64 0, .int .i64 0, .int .i64 0, .int .i64 0]], []⟩).memory :=
  laidMet_of_run' 8 (by kernel_rfl) (by kernel_rfl)
theorem reads (os : Os) {H : Type} (enc : TypeId × Value → H) : ∃ places, DataW.whole enc Tryd.prog ((laidWorld os).forCall (fun _ _ => 0) ⟨#[], #[.agg #[.int .i64 0, .int .i64 0, .int .i64 0, .int .i64 0, .int .i64 0, .int .i64 0, .int .i64 0, .int .i64 0, .int .i64 0, .int .i64 0, .int .i64 0, .int .i64 0, .int .i64 0, .int .i64 0, .slice none 0 0, .bool false], .agg #[.int .i64 0, .int .i64 0, .int .i64 0, .int .i64 0, .int .i64 0], .agg #[.int .i64 0, .int .i64 0, .int .i64 0, .int .i64 0]], []⟩).memory Tryd.f4.params.toList Rows.dabTipsSpec.vars false (#[.agg #[.int .i64 0, .int .i64 0, .int .i64 0, .int .i64 0, .int .i64 0, .int .i64 0, .int .i64 0, .int .i64 0, .int .i64 0, .int .i64 0, .int .i64 0, .int .i64 0, .int .i64 0, .int .i64 0, .slice none 0 0, .bool false], .agg #[.int .i64 0, .int .i64 0, .int .i64 0, .int .i64 0, .int .i64 0], .agg #[.int .i64 0, .int .i64 0, .int .i64 0, .int .i64 0]] : Array Value).toList 8 = some ([.agg [.lit (.int .i64 0), .lit (.int .i64 0), .lit (.int .i64 0), .lit (.int .i64 0), .lit (.int .i64 0), .lit (.int .i64 0), .lit (.int .i64 0), .lit (.int .i64 0), .lit (.int .i64 0), .agg [.lit (.int .i64 0), .lit (.int .i64 0), .lit (.int .i64 0), .lit (.int .i64 0)], .lit (.int .i64 0), .nil, .lit (.bool false)], .agg [.lit (.int .i64 0), .lit (.int .i64 0), .lit (.int .i64 0), .lit (.int .i64 0), .lit (.int .i64 0)], .agg [.lit (.int .i64 0), .lit (.int .i64 0), .lit (.int .i64 0), .lit (.int .i64 0)]], [], places) :=
  ⟨[], by kernel_rfl⟩
set_option maxRecDepth 100000 in
theorem lifted (os : Os) (started : os.Started) (H : Type) (enc : TypeId × Value → H) (F : Stop.Interp) :
    ReturnsInHanded {} Tryd.checked os 4 .any ((OpenSpec.ofChange Rows.dabTipsSpec).preRow enc Tryd.prog Tryd.f4 Rows.dabTipsRow.domain false Rows.dabTipsRow.laid) (((OpenSpec.ofChange Rows.dabTipsSpec).at F).post enc Tryd.prog Tryd.f4 false true false false) := by
  obtain ⟨places, hx⟩ := reads os enc
  refine returnsInHanded_of_row (C := Tryd.checked) (s := OpenSpec.ofChange Rows.dabTipsSpec) ownK started (by kernel_rfl) Tryd.func4
    (witness_row_at (enc := enc) (C := Tryd.checked) false (laidWorld os) #[.agg #[.int .i64 0, .int .i64 0, .int .i64 0, .int .i64 0, .int .i64 0, .int .i64 0, .int .i64 0, .int .i64 0, .int .i64 0, .int .i64 0, .int .i64 0, .int .i64 0, .int .i64 0, .int .i64 0, .slice none 0 0, .bool false], .agg #[.int .i64 0, .int .i64 0, .int .i64 0, .int .i64 0, .int .i64 0], .agg #[.int .i64 0, .int .i64 0, .int .i64 0, .int .i64 0]] rfl (by kernel_rfl) (by kernel_rfl) (by kernel_rfl)
      (OpenSpec.preRow_of_cond 8 hx (by kernel_rfl) (fun k hk => by cases hk) (by kernel_rfl) (laid_met os))) ?_
  intro W base args ds gs before hval hW _ _ hsz hL _ _
  exact contract H enc W base args ds gs before hval hW hsz hL
theorem said : Rows.DabTipsSaid :=
  OpenClaim.holds_of_cond 4 Tryd.f4 rfl rfl rfl rfl rfl rfl rfl ⟨rfl, rfl, rfl, rfl, rfl⟩ rfl rfl rfl rfl rfl (by kernel_rfl) Tryd.func4 (by kernel_rfl)
    (of_decide_eq_true (by kernel_rfl)) (by unfold Func.isWrapper; first | (rw [if_pos (by decide +kernel)]; kernel_rfl) | (rw [if_neg (by decide +kernel)]; exact ⟨rfl, rfl⟩))
    (fun os started H enc _ F => by rw [OpenClaim.pre_eq_preRow]; exact lifted os started H enc F)
theorem plain (f : FuncId) (fn : Func) (hf : Tryd.pinned.checked.prog.funcNamed "imageeditor/imageeditorlaw27.DabTips" = some f) (hfn : Tryd.pinned.checked.prog.funcs[f]? = some fn) :
    false = Tryd.pinned.checked.prog.looks [] ∧ ∀ (j : Nat) t, fn.params[j]? = some t → Tryd.pinned.checked.prog.wantsStandIn t = false := by
  obtain rfl : f = 4 := Option.some.inj ((show Tryd.prog.funcNamed "imageeditor/imageeditorlaw27.DabTips" = some 4 by kernel_rfl).symm.trans hf) |>.symm
  obtain rfl : fn = Tryd.f4 := (Option.some.inj (Tryd.func4.symm.trans hfn)).symm
  refine ⟨by kernel_rfl, fun j t ht => ?_⟩
  rw [Tryd.params4] at ht
  have hm : t = 26 ∨ t = 28 ∨ t = 32 := by simpa [or_assoc] using Array.mem_of_getElem? ht
  rcases hm with rfl | rfl | rfl
  · exact (show Tryd.prog.wantsStandIn 26 = false by kernel_rfl)
  · exact (show Tryd.prog.wantsStandIn 28 = false by kernel_rfl)
  · exact (show Tryd.prog.wantsStandIn 32 = false by kernel_rfl)
theorem proved : Rows.DabTipsCardSaid :=
  Claim7.holds_tied_plain_at .later [] _ _ _ _ said (fun _ h => by cases h) (by kernel_rfl) (fun _ h => by cases h) dabTips_row_tie rfl ⟨rfl, rfl⟩ (by kernel_rfl) rfl plain (by kernel_rfl)

end Go.Proofs.YtflegfoalkkkdaaDoor.dabTips
