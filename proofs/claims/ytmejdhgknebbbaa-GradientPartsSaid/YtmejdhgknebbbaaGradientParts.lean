/- GradientParts: a pixel does not depend on out: the image of a part is the part of the image. No conditions. -/
import Derived.Test.YtmejdhgknebbbaaFrame
import Derived.Test.YtmejdhgknebbbaaGAwake
import Derived.Test.YtmejdhgknebbbaaGOpen
import Derived.Test.YtmejdhgknebbbaaGDrawBad
import Derived.Test.YtmejdhgknebbbaaGDrawR
namespace Go.Proofs.Ytmejdhgknebbbaa.gradientParts
open Go.ChangeShapes Go.WideShapes Go.ChangeAt Go.RowKit
set_option linter.unusedVariables false
attribute [local go_sem] Oper.gAt gUponK

/-- The one pixel of the part. -/
theorem part_px (kind spread : Int) (zs : List Int) (ss : List St) (X Y : Int) (W k j : Nat) (hj : j < W) :
    drOut kind zs spread ss (X + (j : Int)) (Y + (k : Int)) 1 1 = [drPx kind zs spread ss X Y W (k * W + j)] := by
  rw [drPx_ref kind spread zs ss X Y W k j hj]
  show [drPx kind zs spread ss (X + (j : Int)) (Y + (k : Int)) 1 0] = _
  unfold drPx
  simp
theorem part_valid {X Y : Int} {W H : Nat} (h : rValid X Y W H = true) (j k : Nat) (hj : j < W) (hk : k < H) : rValid (X + (j : Int)) (Y + (k : Int)) (1 : Nat) (1 : Nat) = true := by
  unfold rValid at h ⊢
  rw [Bool.and_eq_true] at h
  have hx := rSpan_true h.1
  have hy := rSpan_true h.2
  unfold rSpan
  simp
  omega

set_option maxHeartbeats 8000000 in
set_option maxRecDepth 20000 in
theorem good (kind : Int) (v : Value) (zs : List Int) (spread : Int) (u : Value) (ss : List St) (X Y : Int) (W H j k : Nat) (w : World) (hz : Nn w v zs) (hs : Sn w u ss) (h0 : gChk kind zs spread ss = 0) (hv : rValid X Y W H = true) (hW : W ≤ 256) (hH : H ≤ 256) (hj : j < W) (hk : k < H) :
    Calls Try.prog 10 #[.int .i64 kind, v, .int .i64 spread, u, rv X Y W H, .int .i64 j, .int .i64 k] w fun e w' => e = .returned (.bool true) ∧ Below w.heap.size w w' := by
  have I1 := Lib.hid (fun w hz hs => draw_good kind spread X Y W H v u zs ss w hz hs h0 hv (by omega) (by omega))
  have I2 := draw_good kind spread (X + (j : Int)) (Y + (k : Int)) 1 1 v u zs ss
  rw [part_px kind spread zs ss X Y W k j hj] at I2
  have J2 := Lib.hid (fun w hz hs => I2 w hz hs h0 (part_valid hv j k hj hk) (by decide) (by decide))
  clear I2
  have hb2 := hv
  unfold rValid at hb2
  rw [Bool.and_eq_true] at hb2
  have hx := rSpan_true hb2.1
  have hy := rSpan_true hb2.2
  have OL := drOut_len kind zs spread ss X Y W H
  have hWH : W * H ≤ 65536 := Nat.mul_le_mul hW hH
  obtain ⟨n0, hn0⟩ : ∃ n0, W * H = n0 := ⟨_, rfl⟩
  obtain ⟨kw, hkw⟩ : ∃ kw, k * W = kw := ⟨_, rfl⟩
  obtain ⟨idx, hie⟩ : ∃ idx, kw + j = idx := ⟨_, rfl⟩
  have hidx : idx < n0 := by
    have := Nat.mul_le_mul_right W (show k + 1 ≤ H by omega)
    rw [Nat.add_mul, Nat.one_mul, Nat.mul_comm H W] at this
    omega
  have OA := Lib.hid (drOut_at kind zs spread ss X Y W H idx (by omega))
  rw [hn0] at OL hWH
  rw [hkw, hie] at J2
  have e1 : IntKind.i64.wrap ((W : Int) * (H : Int)) = (n0 : Int) := by rw [← hn0, ← Int.natCast_mul]; exact IntWalk.i64_in _ (by omega)
  have m1 : IntKind.i64.wrap ((k : Int) * (W : Int)) = (kw : Int) := by rw [← hkw, ← Int.natCast_mul]; exact IntWalk.i64_in _ (by omega)
  have m2 : IntKind.i64.wrap ((kw : Int) + (j : Int)) = (idx : Int) := by rw [← hie, Int.natCast_add]; exact IntWalk.i64_in _ (by omega)
  have i1 : (0 : Int) ≤ (idx : Int) := by omega
  have i2 : (idx : Int) < (n0 : Int) := by omega
  have HN := Lib.hid hz
  have HS := Lib.hid hs
  have HOL := Lib.hid OL
  obtain ⟨a, cap, rfl, _⟩ := hz.slice
  obtain ⟨a', cap', rfl, _⟩ := hs.slice
  clear hz hs h0 hv hb2 hn0 hkw hie OL
  generalize drOut kind zs spread ss X Y W H = out at *
  generalize drPx kind zs spread ss X Y W idx = px at *
  generalize zs.length = n at *
  generalize ss.length = n' at *
  obtain ⟨p0, p1, p2, p3⟩ := px
  have j0 : ¬ (j : Int) < 0 := by omega
  have k0 : ¬ (k : Int) < 0 := by omega
  have j1 : ¬ (W : Int) ≤ (j : Int) := by omega
  have k1' : ¬ (H : Int) ≤ (k : Int) := by omega
  replace J2 : Hid (∀ w, Nn w (.slice a n cap) zs → Sn w (.slice a' n' cap') ss → Calls Try.prog 18 #[.int .i64 kind, .slice a n cap, .int .i64 spread, .slice a' n' cap', .agg #[.int .i64 (X + (j : Int)), .int .i64 (Y + (k : Int)), .int .i64 1, .int .i64 1]] w fun e w' => ∃ q, e = .returned (.tuple #[.agg #[.int .i64 1, .int .i64 1, q], .int .i64 0]) ∧ Pn w' q [(p0, p1, p2, p3)] ∧ Below w.heap.size w w') := J2
  simp only [rv] at *
  go_enter Try.func10, Try.ntmps10
  go_upto_region 1 with (fail)
  refine name1 (fun W1 k1 hb => ?_)
  have c1 := k1.c4
  go_wp2_with fail
  clear c1
  refine (I1.out _ (HN.out.kept hb) (HS.out.kept hb)).mono ?_
  rintro e W2 ⟨q1, rfl, pq1, hS⟩
  replace k1 := k1.kept hS
  replace hb := hb.trans (hS.mono hb.size)
  clear hS
  have P1 := Lib.hid pq1
  obtain ⟨a1, cap1, rfl⟩ := pq1.slice
  rw [HOL.out] at P1 ⊢
  clear pq1
  go_upto_region 4 with (fail)
  refine name1 (fun W3 k15 hS => ?_)
  replace k1 := k1.kept hS
  replace P1 := Lib.hid (P1.out.kept hS)
  replace hb := hb.trans (hS.mono hb.size)
  clear hS
  have c1 := k1.c4
  go_wp2_with fail
  clear c1
  refine (J2.out _ (HN.out.kept hb) (HS.out.kept hb)).mono ?_
  rintro e W4 ⟨q2, rfl, pq2, hS⟩
  replace k1 := k1.kept hS
  replace k15 := k15.kept hS
  replace P1 := Lib.hid (P1.out.kept hS)
  replace hb := hb.trans (hS.mono hb.size)
  clear hS
  have P2 := Lib.hid pq2
  obtain ⟨a2, cap2, rfl⟩ := pq2.slice
  clear pq2
  replace P2 : Hid (Pn W4 (.slice a2 1 cap2) [(p0, p1, p2, p3)]) := P2
  go_upto_region 7 with (fail)
  refine name1 (fun W5 k17 hS => ?_)
  replace k1 := k1.kept hS
  replace k15 := k15.kept hS
  replace P1 := Lib.hid (P1.out.kept hS)
  replace P2 := Lib.hid (P2.out.kept hS)
  replace hb := hb.trans (hS.mono hb.size)
  clear hS
  obtain ⟨b1, off1, rfl, hbl1, hc1⟩ := P1.out.at idx hidx
  obtain ⟨b2, off2, rfl, hbl2, hc2⟩ := P2.out.at 0 (by omega)
  rw [OA.out] at hc1
  simp only [pxAt, List.getD_cons_zero, Nat.zero_mul, Nat.add_zero] at hc1 hc2
  have HC1 := Lib.hid hc1
  have HC2 := Lib.hid hc2
  clear hc1 hc2
  refine wp_region_grow 39 (fun w' => Below (World.heap W5).size W5 w') (by kernel_rfl) (by kernel_rfl) (Below.refl _ _).drew ?_
  simp only [List.take_succ_cons, List.take_zero, List.drop_succ_cons, List.drop_zero]
  repeat (first | (apply wpG_on; rfl; (intro w' hS K hK; have hc0 := (k1.kept hS).c4; have hc1 := (k15.kept hS).c3; have hc2 := (k17.kept hS).c3; have hr0 := HC1.out _ hS; have hr1 := HC2.out _ hS; go_simp; (first | exact hK.out _ hS | (go_at_call 15; (with_reducible refine (awake_any _).mono ?_); rintro e w'' ⟨rfl, hbb⟩; exact ⟨_, rfl, hK.out _ (hS.trans (hbb.mono hS.size))⟩))); simp only [Act.put, List.setIfInBounds_toArray, List.set_cons_succ, List.set_cons_zero]) | (apply wpG_off; rfl; simp only [Act.put, List.setIfInBounds_toArray, List.set_cons_succ, List.set_cons_zero]))
  apply wpG_nil
  intro W6 hS
  replace k1 := k1.kept hS
  replace k15 := k15.kept hS
  replace k17 := k17.kept hS
  replace hb := hb.trans (hS.mono hb.size)
  clear hS
  go_wp2_with fail
  go_ret
  exact ⟨rfl, hb⟩
set_option maxHeartbeats 4000000 in
theorem bad (kind : Int) (v : Value) (zs : List Int) (spread : Int) (u : Value) (ss : List St) (X Y W H x y E : Int) (w : World) (hz : Nn w v zs) (hs : Sn w u ss) (hB : drBad kind zs spread ss X Y W H = some E) (hE : E ≠ 0) (hx : 0 ≤ x ∧ x < W) (hy : 0 ≤ y ∧ y < H) :
    Calls Try.prog 10 #[.int .i64 kind, v, .int .i64 spread, u, rv X Y W H, .int .i64 x, .int .i64 y] w fun e w' => e = .returned (.bool true) ∧ Below w.heap.size w w' := by
  have I1 := Lib.hid (fun w hz hs => draw_bad kind spread X Y W H E v u zs ss w hz hs hB)
  have HN := Lib.hid hz
  have HS := Lib.hid hs
  have bE : (E != 0) = true := by simpa using hE
  obtain ⟨a, cap, rfl, _⟩ := hz.slice
  obtain ⟨a', cap', rfl, _⟩ := hs.slice
  clear hz hs hB hE
  generalize zs.length = n at *
  generalize ss.length = n' at *
  have j0 : ¬ x < 0 := by omega
  have k0 : ¬ y < 0 := by omega
  have j1 : ¬ W ≤ x := by omega
  have k1' : ¬ H ≤ y := by omega
  simp only [rv, gImg0] at *
  go_enter Try.func10, Try.ntmps10
  go_upto_region 1 with (fail)
  refine name1 (fun W1 k1 hb => ?_)
  have c1 := k1.c4
  go_wp2_with fail
  clear c1
  refine (I1.out _ (HN.out.kept hb) (HS.out.kept hb)).mono ?_
  rintro e W2 ⟨rfl, hS⟩
  replace hb := hb.trans (hS.mono hb.size)
  clear hS
  go_upto_region 4 with (fail)
  refine name1 (fun W3 k15 hS => ?_)
  replace hb := hb.trans (hS.mono hb.size)
  clear hS
  go_wp2_with fail
  refine (awake_any _).mono ?_
  rintro e W4 ⟨rfl, hS⟩
  replace hb := hb.trans (hS.mono hb.size)
  go_wp2_with fail
  go_ret
  exact ⟨rfl, hb⟩

set_option maxHeartbeats 4000000 in
theorem walk (kind : Int) (v : Value) (zs : List Int) (spread : Int) (u : Value) (ss : List St) (X Y W H x y : Int) (w : World) (w0 : (Lit.int .i64 kind).wf = true) (hz : Nn w v zs) (w2 : (Lit.int .i64 spread).wf = true) (hs : Sn w u ss) (w4_0 : (Lit.int .i64 X).wf = true) (w4_1 : (Lit.int .i64 Y).wf = true) (w4_2 : (Lit.int .i64 W).wf = true) (w4_3 : (Lit.int .i64 H).wf = true) (w5 : (Lit.int .i64 x).wf = true) (w6 : (Lit.int .i64 y).wf = true) :
    Calls Try.prog 10 #[.int .i64 kind, v, .int .i64 spread, u, rv X Y W H, .int .i64 x, .int .i64 y] w fun e w' => e = .returned (.bool true) ∧ Below w.heap.size w w' := by
  clear w0 w2 w4_0 w4_1 w4_2 w4_3 w5 w6
  by_cases c0 : x < 0
  · obtain ⟨a, cap, rfl, _⟩ := hz.slice
    obtain ⟨a', cap', rfl, _⟩ := hs.slice
    clear hz hs
    unfold rv
    go_enter Try.func10, Try.ntmps10
    go_upto_region 1 with (fail)
    refine name1 (fun W1 k1 hb => ?_)
    have cc := k1.c4
    go_wp2_with fail
    refine (awake_any _).mono ?_
    rintro e W4 ⟨rfl, hS⟩
    replace hb := hb.trans (hS.mono hb.size)
    go_wp2_with fail
    go_ret
    exact ⟨rfl, hb⟩
  by_cases c1 : W ≤ x
  · obtain ⟨a, cap, rfl, _⟩ := hz.slice
    obtain ⟨a', cap', rfl, _⟩ := hs.slice
    clear hz hs
    unfold rv
    go_enter Try.func10, Try.ntmps10
    go_upto_region 1 with (fail)
    refine name1 (fun W1 k1 hb => ?_)
    have cc := k1.c4
    go_wp2_with fail
    refine (awake_any _).mono ?_
    rintro e W4 ⟨rfl, hS⟩
    replace hb := hb.trans (hS.mono hb.size)
    go_wp2_with fail
    go_ret
    exact ⟨rfl, hb⟩
  by_cases c2 : y < 0
  · obtain ⟨a, cap, rfl, _⟩ := hz.slice
    obtain ⟨a', cap', rfl, _⟩ := hs.slice
    clear hz hs
    unfold rv
    go_enter Try.func10, Try.ntmps10
    go_upto_region 1 with (fail)
    refine name1 (fun W1 k1 hb => ?_)
    have cc := k1.c4
    go_wp2_with fail
    refine (awake_any _).mono ?_
    rintro e W4 ⟨rfl, hS⟩
    replace hb := hb.trans (hS.mono hb.size)
    go_wp2_with fail
    go_ret
    exact ⟨rfl, hb⟩
  by_cases c3 : H ≤ y
  · obtain ⟨a, cap, rfl, _⟩ := hz.slice
    obtain ⟨a', cap', rfl, _⟩ := hs.slice
    clear hz hs
    unfold rv
    go_enter Try.func10, Try.ntmps10
    go_upto_region 1 with (fail)
    refine name1 (fun W1 k1 hb => ?_)
    have cc := k1.c4
    go_wp2_with fail
    refine (awake_any _).mono ?_
    rintro e W4 ⟨rfl, hS⟩
    replace hb := hb.trans (hS.mono hb.size)
    go_wp2_with fail
    go_ret
    exact ⟨rfl, hb⟩
  cases hB : drBad kind zs spread ss X Y W H with
  | some E =>
    refine bad kind v zs spread u ss X Y W H x y E w hz hs hB ?_ (by omega) (by omega)
    unfold drBad at hB
    split at hB
    · rename_i h0
      obtain rfl : gChk kind zs spread ss = E := by simpa using hB
      exact h0
    · split at hB
      · obtain rfl : 2 = E := by simpa using hB
        decide
      · split at hB
        · obtain rfl : 15 = E := by simpa using hB
          decide
        · split at hB
          · rename_i h3
            omega
          · cases hB
  | none =>
    unfold drBad at hB
    split at hB
    · cases hB
    · rename_i h0
      split at hB
      · cases hB
      · rename_i h1
        split at hB
        · cases hB
        · rename_i h2
          split at hB
          · cases hB
          · rename_i h3
            have e0 : gChk kind zs spread ss = 0 := by simpa using h0
            have e1 : rValid X Y W H = true := by simpa using h1
            obtain ⟨w0, rfl⟩ : ∃ w0 : Nat, W = w0 := ⟨W.toNat, by omega⟩
            obtain ⟨h0', rfl⟩ : ∃ h0' : Nat, H = h0' := ⟨H.toNat, by omega⟩
            obtain ⟨j, rfl⟩ : ∃ j : Nat, x = j := ⟨x.toNat, by omega⟩
            obtain ⟨k, rfl⟩ : ∃ k : Nat, y = k := ⟨y.toNat, by omega⟩
            exact good kind v zs spread u ss X Y w0 h0' j k w hz hs e0 e1 (by omega) (by omega) (by omega) (by omega)

set_option maxRecDepth 100000 in
theorem lifted (os : Os) (started : os.Started) (H : Type) (enc : TypeId × Value → H) :
    ReturnsInHanded {} Try.checked os 10 .any (Rows.gradientPartsSpec.pre6 enc Try.prog Try.f10 Rows.gradientPartsRow.domain false) (Rows.gradientPartsSpec.post enc Try.prog Try.f10 false true false false) := by
  refine returnsInHanded_of_change_sized (C := Try.checked) ownK started (by kernel_rfl) Try.func10
    (ChangeSpec.witness6 (enc := enc) (C := Try.checked) false ⟨#[], #[.int .i64 0, .slice none 0 0, .int .i64 0, .slice none 0 0, .agg #[.int .i64 0, .int .i64 0, .int .i64 0, .int .i64 0], .int .i64 0, .int .i64 0], []⟩ 8 (by kernel_rfl) (by kernel_rfl) (by kernel_rfl) (by kernel_rfl)) ?_
  intro W base args ds gs before hval0 hW hcnd hsz0 _
  have hval : ∀ (j : Nat) t v, Try.f10.params[j]? = some t → args[j]? = some v → Value.okWide Try.prog W .any base t v := hval0
  have hW' := hW
  obtain ⟨p, q, hA0, hV, rfl, hfz, hnd⟩ := hW
  have hA : DataW.TrodAll enc Try.prog W 0 (fun _ => true) true Try.f10.params.toList args.toList ds p := hA0
  rw [Try.params10] at hA hval
  have hAll := hA
  obtain ⟨v0, vs0, d0, ds0, p0, q0, hargs, rfl, rfl, h0, r0⟩ := trodAll_cons hA
  obtain ⟨v1, vs1, d1, ds1, p1, q1, rfl, rfl, rfl, h1, r1⟩ := trodAll_cons r0
  obtain ⟨v2, vs2, d2, ds2, p2, q2, rfl, rfl, rfl, h2, r2⟩ := trodAll_cons r1
  obtain ⟨v3, vs3, d3, ds3, p3, q3, rfl, rfl, rfl, h3, r3⟩ := trodAll_cons r2
  obtain ⟨v4, vs4, d4, ds4, p4, q4, rfl, rfl, rfl, h4, r4⟩ := trodAll_cons r3
  obtain ⟨v5, vs5, d5, ds5, p5, q5, rfl, rfl, rfl, h5, r5⟩ := trodAll_cons r4
  obtain ⟨v6, vs6, d6, ds6, p6, q6, rfl, rfl, rfl, h6, r6⟩ := trodAll_cons r5
  obtain ⟨rfl, rfl, rfl⟩ := trodAll_nil r6
  obtain rfl : args = #[v0, v1, v2, v3, v4, v5, v6] := by cases args; simp_all
  obtain ⟨rfl, rfl⟩ := trodVars_none hV
  have hsz : (DataW.weightsEach Try.prog [3, 22, 3, 23, 34, 3, 3] [d0, d1, d2, d3, d4, d5, d6]).all (· ≤ reachBytes) = true := hsz0
  clear hA0 hval0 hsz0
  have hAll' : DataW.TrodAll enc Try.prog W 0 (fun _ => true) true [3, 22, 3, 23, 34, 3, 3] [v0, v1, v2, v3, v4, v5, v6] [d0, d1, d2, d3, d4, d5, d6] _ := hAll
  clear hAll
  have hargsBack : ∀ W' : World, Below W.heap.size W W' → DataW.TrodAll enc Try.prog W' 0 (fun b => decide (b < W.heap.size)) true [3, 22, 3, 23, 34, 3, 3] [v0, v1, v2, v3, v4, v5, v6] [d0, d1, d2, d3, d4, d5, d6] _ := fun W' bel => belowTrodAll laidK bel _ _ _ _ (by kernel_rfl) hAll'
  have hc : Calls Try.prog 10 #[v0, v1, v2, v3, v4, v5, v6] W fun e w' => e = .returned (.bool true) ∧ Below W.heap.size W w' := by
    clear hargsBack hAll' hW'
    obtain ⟨a0, rfl, rfl, rfl, w0⟩ := open_int Try.underlying3 (hval 0 3 v0 rfl rfl) h0
    obtain ⟨zs1, hz1⟩ := openNn (hval 1 22 v1 rfl rfl) h1
    obtain ⟨a2, rfl, rfl, rfl, w2⟩ := open_int Try.underlying3 (hval 2 3 v2 rfl rfl) h2
    obtain ⟨ss3, hs3⟩ := openStops (hval 3 23 v3 rfl rfl) h3
    obtain ⟨a4_0, a4_1, a4_2, a4_3, rfl, w4_0, w4_1, w4_2, w4_3⟩ := openPix Try.underlying34 (by kernel_rfl) (by kernel_rfl) ⟨rfl, rfl, rfl, rfl⟩ Try.underlying3 (hval 4 34 v4 rfl rfl) h4
    obtain ⟨a5, rfl, rfl, rfl, w5⟩ := open_int Try.underlying3 (hval 5 3 v5 rfl rfl) h5
    obtain ⟨a6, rfl, rfl, rfl, w6⟩ := open_int Try.underlying3 (hval 6 3 v6 rfl rfl) h6
    exact walk a0 v1 zs1 a2 v3 ss3 a4_0 a4_1 a4_2 a4_3 a5 a6 W w0 hz1 w2 hs3 w4_0 w4_1 w4_2 w4_3 w5 w6
  refine hc.mono fun e W' ⟨he, bel⟩ => ?_
  subst he
  exact ⟨_, rfl, _, _, _, [], _, [], hW', trodAll_mk1 (shut_bool Try.underlying4 _), hargsBack W' bel, rfl, bel.frame _, fun h => by cases h⟩

theorem over : Rows.gradientPartsRow.holds Try.pinned (OpenSpec.ofChange Rows.gradientPartsSpec) :=
  OpenClaim.holds_of_wide 10 Try.f10 rfl rfl rfl rfl rfl rfl rfl ⟨rfl, rfl, rfl, rfl, rfl⟩ rfl rfl rfl rfl rfl (by kernel_rfl) Try.func10 (by kernel_rfl)
    (of_decide_eq_true (by kernel_rfl)) (by unfold Func.isWrapper; first | (rw [if_pos (by decide +kernel)]; kernel_rfl) | (rw [if_neg (by decide +kernel)]; exact ⟨rfl, rfl⟩))
    (fun os started H enc _ => lifted os started H enc)

theorem proved : Rows.GradientPartsSaid := over

end Go.Proofs.Ytmejdhgknebbbaa.gradientParts
