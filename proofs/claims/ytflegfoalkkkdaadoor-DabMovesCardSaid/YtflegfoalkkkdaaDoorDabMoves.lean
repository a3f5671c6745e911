/- DabMoves: moving a dab and a pixel by whole pixels does not change the coverage, for every brush and dab within the law's own bounds. The package's table of sines is as its text lays it. -/
import Derived.Test.YtflegfoalkkkdaaDoorDabAwake
import Derived.Test.YtflegfoalkkkdaaDoorLOpen
import Derived.Test.YtflegfoalkkkdaaDoorLOpen
import Derived.Test.YtflegfoalkkkdaaDoorLDyn
import Derived.Test.YtflegfoalkkkdaaDoorLKit
import Derived.Test.YtflegfoalkkkdaaDoorCards
import Derived.Test.YtflegfoalkkkdaaDoorTie
namespace Go.Proofs.YtflegfoalkkkdaaDoor.dabMoves
open Go.ChangeShapes Go.WideShapes Go.ChangeAt Go.RowKit
set_option linter.unusedVariables false
attribute [local go_sem] Oper.gAt gUponK Oper.sAt stilK

theorem co_id (x : Int) (h : -16777216 ≤ x ∧ x ≤ 16777216) : co x = x := by unfold co; omega
theorem cc_id (x : Int) (h : -1048576 ≤ x ∧ x ≤ 1048576) : cc x = x := by unfold cc; omega
/-- The coverage depends on the place relative to the dab alone. -/
theorem moved (B : Bru) (D : Dab) (x y i j : Int) (hx : -524288 ≤ x ∧ x ≤ 524288) (hy : -524288 ≤ y ∧ y ≤ 524288) (hi : -524288 ≤ i ∧ i ≤ 524288) (hj : -524288 ≤ j ∧ j ≤ 524288)
    (dx : -8388608 ≤ D.x ∧ D.x ≤ 8388608) (dy : -8388608 ≤ D.y ∧ D.y ≤ 8388608) :
    dcov B ⟨D.x + 16 * i, D.y + 16 * j, D.sz, D.fl, D.an⟩ (x + i) (y + j) = dcov B D x y := by
  unfold dcov
  split
  · unfold lim cvr
    simp only
    rw [co_id (D.x + 16 * i) (by omega), co_id (D.y + 16 * j) (by omega), co_id D.x (by omega), co_id D.y (by omega), cc_id (x + i) (by omega), cc_id (y + j) (by omega), cc_id x (by omega), cc_id y (by omega)]
    rw [show 16 * (16 * (x + i) + 8 - (D.x + 16 * i)) = 16 * (16 * x + 8 - D.x) by omega, show 16 * (16 * (y + j) + 8 - (D.y + 16 * j)) = 16 * (16 * y + 8 - D.y) by omega]
  · rfl

set_option maxRecDepth 20000 in
set_option maxHeartbeats 4000000 in
theorem good (B : Bru) (u : Value) (D : Dab) (x y i j : Int) (w : World) (hs : Sines w) (hD : Dn w u B.ds) (hx : -524288 ≤ x ∧ x ≤ 524288) (hy : -524288 ≤ y ∧ y ≤ 524288) (hi : -524288 ≤ i ∧ i ≤ 524288) (hj : -524288 ≤ j ∧ j ≤ 524288)
    (dx : -8388608 ≤ D.x ∧ D.x ≤ 8388608) (dy : -8388608 ≤ D.y ∧ D.y ≤ 8388608) :
    Calls Tryd.prog 5 #[brv B u, dbv D, .int .i64 x, .int .i64 y, .int .i64 i, .int .i64 j] w fun e w' => e = .returned (.bool true) ∧ Below w.heap.size w w' := by
  have HD := Lib.hid hD
  have HSn := Lib.hid hs
  obtain ⟨a, cap, rfl, _, _⟩ := hD
  clear hs
  have V1 := Lib.hid (fun w hs h => cover_any B ⟨D.x + 16 * i, D.y + 16 * j, D.sz, D.fl, D.an⟩ (x + i) (y + j) (.slice a B.ds.length cap) w hs h)
  rw [moved B D x y i j hx hy hi hj dx dy] at V1
  have V2 := Lib.hid (fun w hs h => cover_any B D x y (.slice a B.ds.length cap) w hs h)
  generalize dcov B D x y = v at *
  generalize B.ds.length = n at *
  have AW := Lib.hid (fun w hs => dabAwake_any w hs)
  go_enter Tryd.func5, Tryd.ntmps5
  go_upto_region 1 with (fail)
  refine name2 (fun W k1 k2 hb => ?_)
  have c2 := k2.c5
  go_upto_region 5 with (fail)
  go_upto_region 6 with (refine wpList_store_blk rfl _ _ _ rfl W.heap.size #[.int .i64 D.x, .int .i64 D.y, .int .i64 D.sz, .int .i64 D.fl, .int .i64 D.an] rfl rfl (heap_alloc_new W _) infoDab rfl (by simp [Value.oneCell']) (fun W3 k3 hkx hbx => ?_))
  clear c2
  have l1 := k1.lt
  have l2 := k2.lt
  replace k1 := hkx _ _ (by omega) (k1.alloc _)
  replace k2 := hkx _ _ (by omega) (k2.alloc _)
  have hB := hb.size
  replace hb : Below w.heap.size w W3 := hb.trans ((((Below.refl _ _).alloc (Nat.le_refl _) _).trans hbx).mono hb.size)
  clear hkx hbx
  generalize W.heap.size = b3 at *
  have n1 : w.heap.size ≠ b3 := by omega
  have n2 : w.heap.size + 1 ≠ b3 := by omega
  have c3 := k3.c5
  have m1 : IntKind.i64.wrap (16 * i) = 16 * i := IntWalk.i64_in _ (by omega)
  have m2 : IntKind.i64.wrap (16 * j) = 16 * j := IntWalk.i64_in _ (by omega)
  have m3 : IntKind.i64.wrap (D.x + 16 * i) = D.x + 16 * i := IntWalk.i64_in _ (by omega)
  have m4 : IntKind.i64.wrap (D.y + 16 * j) = D.y + 16 * j := IntWalk.i64_in _ (by omega)
  refine wp_region_flow (fun w' => ∀ k o, k ≠ b3 → Blk W3 k o → Blk w' k o) (by kernel_rfl) (by kernel_rfl) (fun k o _ hk => hk) ?_
  repeat (first | (apply wpS_on; rfl; rfl; (intro w' hS K hK; have hc0 := (hS _ _ n2 k2).c5; go_simp; exact hK.out); simp only [Act.put, List.setIfInBounds_toArray, List.set_cons_succ, List.set_cons_zero]) | (apply wpS_off; rfl; rfl; simp only [Act.put, List.setIfInBounds_toArray, List.set_cons_succ, List.set_cons_zero]) | (apply wpS_store; rfl; rfl; (intro K hK; go_simp; exact hK.out); (intro k o h1 hk; repeat (first | (with_reducible exact hk) | (with_reducible apply Blk.drewd) | (with_reducible refine Blk.other (hne := h1) ?_ _))); simp only [Act.put]))
  apply wpS_nil
  clear m1 m2 m3 m4 c3
  go_upto_region 7 with (fail)
  refine codeGen (fun W4 hW => ?_)
  replace k3 : Blk W4 b3 (.cells #[.int .i64 (D.x + 16 * i), .int .i64 (D.y + 16 * j), .int .i64 D.sz, .int .i64 D.fl, .int .i64 D.an] 28 (0, 0)) := by rw [hW]; exact ((k3.set1 0 _ (by simp) rfl).set1 1 _ (by simp) rfl).drewd
  replace k1 := ((k1.other (p := ⟨b3, 0, none⟩) n1 (.int .i64 (D.x + 16 * i))).other (p := ⟨b3, 1, none⟩) n1 (.int .i64 (D.y + 16 * j))).drewd
  replace k2 := ((k2.other (p := ⟨b3, 0, none⟩) n2 (.int .i64 (D.x + 16 * i))).other (p := ⟨b3, 1, none⟩) n2 (.int .i64 (D.y + 16 * j))).drewd
  rw [← hW] at k1 k2
  replace hb : Below w.heap.size w W4 := by rw [hW]; exact ((hb.setCell (p := ⟨b3, 0, none⟩) (by simp; omega) _).setCell (p := ⟨b3, 1, none⟩) (by simp; omega) _).drew
  clear hW
  have m1 : IntKind.i64.wrap (x + i) = x + i := IntWalk.i64_in _ (by omega)
  have m2 : IntKind.i64.wrap (y + j) = y + j := IntWalk.i64_in _ (by omega)
  refine wp_region_grow 18 (fun w' => Below (World.heap W4).size W4 w') (by kernel_rfl) (by kernel_rfl) (Below.refl _ _).drew ?_
  simp only [List.take_succ_cons, List.take_zero, List.drop_succ_cons, List.drop_zero]
  repeat (first | (apply wpG_on; rfl; (intro w' hS K hK; have hc0 := (k1.kept hS).c16; have hc1 := (k2.kept hS).c5; have hc2 := (k3.kept hS).c5; go_simp; (first | exact hK.out _ hS | (go_at_call 15; (with_reducible refine (V1.out _ (HSn.out.kept (hb.trans (hS.mono hb.size))) (HD.out.kept (hb.trans (hS.mono hb.size)))).mono ?_); rintro e w'' ⟨rfl, hbb⟩; exact ⟨_, rfl, hK.out _ (hS.trans (hbb.mono hS.size))⟩) | (go_at_call 15; (with_reducible refine (V2.out _ (HSn.out.kept (hb.trans (hS.mono hb.size))) (HD.out.kept (hb.trans (hS.mono hb.size)))).mono ?_); rintro e w'' ⟨rfl, hbb⟩; exact ⟨_, rfl, hK.out _ (hS.trans (hbb.mono hS.size))⟩) | (go_at_call 12; (with_reducible refine (AW.out _ (HSn.out.kept (hb.trans (hS.mono hb.size)))).mono ?_); rintro e w'' ⟨rfl, hbb⟩; exact ⟨_, rfl, hK.out _ (hS.trans (hbb.mono hS.size))⟩))); simp only [Act.put, List.setIfInBounds_toArray, List.set_cons_succ, List.set_cons_zero]) | (apply wpG_off; rfl; simp only [Act.put, List.setIfInBounds_toArray, List.set_cons_succ, List.set_cons_zero]))
  apply wpG_nil
  intro W5 hS
  replace k1 := k1.kept hS
  replace k2 := k2.kept hS
  replace k3 := k3.kept hS
  replace hb := hb.trans (hS.mono hb.size)
  clear hS
  go_wp2_with fail
  go_ret
  exact ⟨rfl, hb⟩

set_option maxRecDepth 20000 in
set_option maxHeartbeats 4000000 in
theorem bad (B : Bru) (u : Value) (D : Dab) (x y i j : Int) (w : World) (hs : Sines w) (hD : Dn w u B.ds) (b0 b1 b2 b3 b4 b5 b6 b7 b8 b9 b10 b11 : Bool) (hor : (b0 || (b1 || (b2 || (b3 || (b4 || (b5 || (b6 || (b7 || (b8 || (b9 || (b10 || b11))))))))))) = true)
    (h0 : decide (x < -524288) = b0) (h1 : decide (524288 < x) = b1) (h2 : decide (y < -524288) = b2) (h3 : decide (524288 < y) = b3) (h4 : decide (i < -524288) = b4) (h5 : decide (524288 < i) = b5) (h6 : decide (j < -524288) = b6) (h7 : decide (524288 < j) = b7) (h8 : decide (D.x < -8388608) = b8) (h9 : decide (8388608 < D.x) = b9) (h10 : decide (D.y < -8388608) = b10) (h11 : decide (8388608 < D.y) = b11) :
    Calls Tryd.prog 5 #[brv B u, dbv D, .int .i64 x, .int .i64 y, .int .i64 i, .int .i64 j] w fun e w' => e = .returned (.bool true) ∧ Below w.heap.size w w' := by
  have HSn := Lib.hid hs
  obtain ⟨a, cap, rfl, _, _⟩ := hD
  clear hs
  generalize B.ds.length = n at *
  have AW := Lib.hid (fun w hs => dabAwake_any w hs)
  go_enter Tryd.func5, Tryd.ntmps5
  go_upto_region 1 with (fail)
  refine name2 (fun W k1 k2 hb => ?_)
  have c2 := k2.c5
  cases b0 with
  | true =>
    clear h1 h2 h3 h4 h5 h6 h7 h8 h9 h10 h11
    go_wp2_with fail
    refine (AW.out _ (HSn.out.kept hb)).mono ?_
    rintro e W1 ⟨rfl, hS⟩
    replace hb := hb.trans (hS.mono hb.size)
    go_wp2_with fail
    go_ret
    exact ⟨rfl, hb⟩
  | false =>
    cases b1 with
    | true =>
      clear h2 h3 h4 h5 h6 h7 h8 h9 h10 h11
      go_wp2_with fail
      refine (AW.out _ (HSn.out.kept hb)).mono ?_
      rintro e W1 ⟨rfl, hS⟩
      replace hb := hb.trans (hS.mono hb.size)
      go_wp2_with fail
      go_ret
      exact ⟨rfl, hb⟩
    | false =>
      cases b2 with
      | true =>
        clear h3 h4 h5 h6 h7 h8 h9 h10 h11
        go_wp2_with fail
        refine (AW.out _ (HSn.out.kept hb)).mono ?_
        rintro e W1 ⟨rfl, hS⟩
        replace hb := hb.trans (hS.mono hb.size)
        go_wp2_with fail
        go_ret
        exact ⟨rfl, hb⟩
      | false =>
        cases b3 with
        | true =>
          clear h4 h5 h6 h7 h8 h9 h10 h11
          go_wp2_with fail
          refine (AW.out _ (HSn.out.kept hb)).mono ?_
          rintro e W1 ⟨rfl, hS⟩
          replace hb := hb.trans (hS.mono hb.size)
          go_wp2_with fail
          go_ret
          exact ⟨rfl, hb⟩
        | false =>
          cases b4 with
          | true =>
            clear h5 h6 h7 h8 h9 h10 h11
            go_wp2_with fail
            refine (AW.out _ (HSn.out.kept hb)).mono ?_
            rintro e W1 ⟨rfl, hS⟩
            replace hb := hb.trans (hS.mono hb.size)
            go_wp2_with fail
            go_ret
            exact ⟨rfl, hb⟩
          | false =>
            cases b5 with
            | true =>
              clear h6 h7 h8 h9 h10 h11
              go_wp2_with fail
              refine (AW.out _ (HSn.out.kept hb)).mono ?_
              rintro e W1 ⟨rfl, hS⟩
              replace hb := hb.trans (hS.mono hb.size)
              go_wp2_with fail
              go_ret
              exact ⟨rfl, hb⟩
            | false =>
              cases b6 with
              | true =>
                clear h7 h8 h9 h10 h11
                go_wp2_with fail
                refine (AW.out _ (HSn.out.kept hb)).mono ?_
                rintro e W1 ⟨rfl, hS⟩
                replace hb := hb.trans (hS.mono hb.size)
                go_wp2_with fail
                go_ret
                exact ⟨rfl, hb⟩
              | false =>
                cases b7 with
                | true =>
                  clear h8 h9 h10 h11
                  go_wp2_with fail
                  refine (AW.out _ (HSn.out.kept hb)).mono ?_
                  rintro e W1 ⟨rfl, hS⟩
                  replace hb := hb.trans (hS.mono hb.size)
                  go_wp2_with fail
                  go_ret
                  exact ⟨rfl, hb⟩
                | false =>
                  cases b8 with
                  | true =>
                    clear h9 h10 h11
                    go_wp2_with fail
                    refine (AW.out _ (HSn.out.kept hb)).mono ?_
                    rintro e W1 ⟨rfl, hS⟩
                    replace hb := hb.trans (hS.mono hb.size)
                    go_wp2_with fail
                    go_ret
                    exact ⟨rfl, hb⟩
                  | false =>
                    cases b9 with
                    | true =>
                      clear h10 h11
                      go_wp2_with fail
                      refine (AW.out _ (HSn.out.kept hb)).mono ?_
                      rintro e W1 ⟨rfl, hS⟩
                      replace hb := hb.trans (hS.mono hb.size)
                      go_wp2_with fail
                      go_ret
                      exact ⟨rfl, hb⟩
                    | false =>
                      cases b10 with
                      | true =>
                        clear h11
                        go_wp2_with fail
                        refine (AW.out _ (HSn.out.kept hb)).mono ?_
                        rintro e W1 ⟨rfl, hS⟩
                        replace hb := hb.trans (hS.mono hb.size)
                        go_wp2_with fail
                        go_ret
                        exact ⟨rfl, hb⟩
                      | false =>
                        cases b11 with
                        | true =>
                          go_wp2_with fail
                          refine (AW.out _ (HSn.out.kept hb)).mono ?_
                          rintro e W1 ⟨rfl, hS⟩
                          replace hb := hb.trans (hS.mono hb.size)
                          go_wp2_with fail
                          go_ret
                          exact ⟨rfl, hb⟩
                        | false => cases hor

theorem walk (B : Bru) (u : Value) (D : Dab) (x y i j : Int) (w : World) (hs : Sines w) (hD : Dn w u B.ds) (_ : (Lit.int .i64 x).wf = true) (_ : (Lit.int .i64 y).wf = true) (_ : (Lit.int .i64 i).wf = true) (_ : (Lit.int .i64 j).wf = true) :
    Calls Tryd.prog 5 #[brv B u, dbv D, .int .i64 x, .int .i64 y, .int .i64 i, .int .i64 j] w fun e w' => e = .returned (.bool true) ∧ Below w.heap.size w w' := by
  cases h : (decide (x < -524288) || (decide (524288 < x) || (decide (y < -524288) || (decide (524288 < y) || (decide (i < -524288) || (decide (524288 < i) || (decide (j < -524288) || (decide (524288 < j) || (decide (D.x < -8388608) || (decide (8388608 < D.x) || (decide (D.y < -8388608) || (decide (8388608 < D.y))))))))))))) with
  | true => exact bad B u D x y i j w hs hD _ _ _ _ _ _ _ _ _ _ _ _ h rfl rfl rfl rfl rfl rfl rfl rfl rfl rfl rfl rfl
  | false =>
    simp only [Bool.or_eq_false_iff, decide_eq_false_iff_not] at h
    exact good B u D x y i j w hs hD (by omega) (by omega) (by omega) (by omega) (by omega) (by omega)


theorem contract (H : Type) (enc : TypeId × Value → H) (W : World) (base : Nat) (args : Array Value) (ds gs : List (DataW H)) (before : List MemPlace)
    (hval0 : ∀ (j : Nat) t v, Tryd.f5.params[j]? = some t → args[j]? = some v → Value.okWide Tryd.prog W .any base t v)
    (hW : DataW.Whole enc Tryd.prog Tryd.f5.params.toList Rows.dabMovesSpec.vars false W args.toList ds gs before)
    (hsz0 : ((DataW.weightsEach Tryd.checked.prog (Tryd.f5.params.toList ++ DataSpec.varTypes Tryd.checked.prog (OpenSpec.ofChange Rows.dabMovesSpec).bare.plain) (ds ++ gs)).all fun x => decide (x ≤ reachBytes)) = true) (hL : laidMetH Tryd.prog Rows.dabMovesRow.laid W) :
    Calls Tryd.prog 5 args W fun e W' => ∃ v, e = .returned v ∧ Rows.dabMovesSpec.post enc Tryd.prog Tryd.f5 false true false false W args v W' := by
  have hval : ∀ (j : Nat) t v, Tryd.f5.params[j]? = some t → args[j]? = some v → Value.okWide Tryd.prog W .any base t v := hval0
  have hW' := hW
  obtain ⟨p, q, hA0, hV, rfl, hfz, hnd⟩ := hW
  have hA : DataW.TrodAll enc Tryd.prog W 0 (fun _ => true) true Tryd.f5.params.toList args.toList ds p := hA0
  rw [Tryd.params5] at hA hval
  have hAll := hA
  obtain ⟨v0, vs0, d0, ds0, p0, q0, hargs, rfl, rfl, h0, r0⟩ := trodAll_cons hA
  obtain ⟨v1, vs1, d1, ds1, p1, q1, rfl, rfl, rfl, h1, r1⟩ := trodAll_cons r0
  obtain ⟨v2, vs2, d2, ds2, p2, q2, rfl, rfl, rfl, h2, r2⟩ := trodAll_cons r1
  obtain ⟨v3, vs3, d3, ds3, p3, q3, rfl, rfl, rfl, h3, r3⟩ := trodAll_cons r2
  obtain ⟨v4, vs4, d4, ds4, p4, q4, rfl, rfl, rfl, h4, r4⟩ := trodAll_cons r3
  obtain ⟨v5, vs5, d5, ds5, p5, q5, rfl, rfl, rfl, h5, r5⟩ := trodAll_cons r4
  obtain ⟨rfl, rfl, rfl⟩ := trodAll_nil r5
  obtain rfl : args = #[v0, v1, v2, v3, v4, v5] := by cases args; simp_all
  obtain ⟨rfl, rfl⟩ := trodVars_none hV
  have hsz : (DataW.weightsEach Tryd.prog [26, 28, 3, 3, 3, 3] [d0, d1, d2, d3, d4, d5]).all (· ≤ reachBytes) = true := hsz0
  clear hA0 hval0 hsz0
  have hAll' : DataW.TrodAll enc Tryd.prog W 0 (fun _ => true) true [26, 28, 3, 3, 3, 3] [v0, v1, v2, v3, v4, v5] [d0, d1, d2, d3, d4, d5] _ := hAll
  clear hAll
  have hargsBack : ∀ W' : World, Below W.heap.size W W' → DataW.TrodAll enc Tryd.prog W' 0 (fun b => decide (b < W.heap.size)) true [26, 28, 3, 3, 3, 3] [v0, v1, v2, v3, v4, v5] [d0, d1, d2, d3, d4, d5] _ := fun W' bel => belowTrodAll laidK bel _ _ _ _ (by kernel_rfl) hAll'
  have hc : Calls Tryd.prog 5 #[v0, v1, v2, v3, v4, v5] W fun e w' => e = .returned (.bool true) ∧ Below W.heap.size W w' := by
    clear hargsBack hAll' hW'
    obtain ⟨B0, u0, rfl, hD0⟩ := openBrush (hval 0 26 v0 rfl rfl) h0
    obtain ⟨D1, rfl⟩ := openDab (hval 1 28 v1 rfl rfl) h1
    obtain ⟨a2, rfl, rfl, rfl, w2⟩ := open_int Tryd.underlying3 (hval 2 3 v2 rfl rfl) h2
    obtain ⟨a3, rfl, rfl, rfl, w3⟩ := open_int Tryd.underlying3 (hval 3 3 v3 rfl rfl) h3
    obtain ⟨a4, rfl, rfl, rfl, w4⟩ := open_int Tryd.underlying3 (hval 4 3 v4 rfl rfl) h4
    obtain ⟨a5, rfl, rfl, rfl, w5⟩ := open_int Tryd.underlying3 (hval 5 3 v5 rfl rfl) h5
    exact walk B0 u0 D1 a2 a3 a4 a5 W (sines_of hL) hD0 w2 w3 w4 w5
  refine hc.mono fun e W' ⟨he, bel⟩ => ?_
  subst he
  exact ⟨_, rfl, _, _, _, [], _, [], hW', trodAll_mk1 (shut_bool Tryd.underlying4 _), hargsBack W' bel, rfl, bel.frame _, fun h => by cases h⟩

noncomputable def laidWorld (os : Os) : World :=
  { World.holding Tryd.prog os ⟨#[], #[], []⟩ with heap := (World.holding Tryd.prog os ⟨#[], #[], []⟩).heap.modify 0 fun
      | .cells _ t frozen => .cells (sinTab.map fun z => Value.int .i64 z).toArray t frozen
      | o => o }
theorem laid_met (os : Os) : laidMet Tryd.prog Rows.dabMovesRow.laid ((laidWorld os).forCall (fun _ _ => 0) ⟨#[], #[.agg #[.int .i64 0, .int .i64 0, .int .i64 0, .int .i64 0, .int .i64 0, .int .i64 0, .int .i64 0, .int .i64 0, .int .i64 0, .int .i64 0, .int .i64 0, .int .i64 0, .int .i64 0, .int .i64 0, .slice none 0 0, .bool false], .agg #[.int .i64 0, .int .i64 0, .int .i64 0, .int .i64 0, .int .i64 0], .int .i64 0, .int .i64 0, .int .i64 0, .int .i64 0], []⟩).memory :=
  laidMet_of_run' 8 (by kernel_rfl) (by kernel_rfl)
theorem reads (os : Os) {H : Type} (enc : TypeId × Value → H) : ∃ places, DataW.whole enc Tryd.prog ((laidWorld os).forCall (fun _ _ => 0) ⟨#[], #[.agg #[.int .i64 0, .int .i64 0, .int .i64 0, .int .i64 0, .int .i64 0, .int .i64 0, .int .i64 0, .int .i64 0, .int .i64 0, .int .i64 0, .int .i64 0, .int .i64 0, .int .i64 0, .int .i64 0, .slice none 0 0, .bool false], .agg #[.int .i64 0, .int .i64 0, .int .i64 0, .int .i64 0, .int .i64 0], .int .i64 0, .int .i64 0, .int .i64 0, .int .i64 0], []⟩).memory Tryd.f5.params.toList Rows.dabMovesSpec.vars false (#[.agg #[.int .i64 0, .int .i64 0, .int .i64 0, .int .i64 0, .int .i64 0, .int .i64 0, .int .i64 0, .int .i64 0, .int .i64 0, .int .i64 0, .int .i64 0, .int .i64 0, .int .i64 0, .int .i64 0, .slice none 0 0, .bool false], .agg #[.int .i64 0, .int .i64 0, .int .i64 0, .int .i64 0, .int .i64 0], .int .i64 0, .int .i64 0, .int .i64 0, .int .i64 0] : Array Value).toList 8 = some ([.agg [.lit (.int .i64 0), .lit (.int .i64 0), .lit (.int .i64 0), .lit (.int .i64 0), .lit (.int .i64 0), .lit (.int .i64 0), .lit (.int .i64 0), .lit (.int .i64 0), .lit (.int .i64 0), .agg [.lit (.int .i64 0), .lit (.int .i64 0), .lit (.int .i64 0), .lit (.int .i64 0)], .lit (.int .i64 0), .nil, .lit (.bool false)], .agg [.lit (.int .i64 0), .lit (.int .i64 0), .lit (.int .i64 0), .lit (.int .i64 0), .lit (.int .i64 0)], .lit (.int .i64 0), .lit (.int .i64 0), .lit (.int .i64 0), .lit (.int .i64 0)], [], places) :=
  ⟨[], by kernel_rfl⟩
set_option maxRecDepth 100000 in
theorem lifted (os : Os) (started : os.Started) (H : Type) (enc : TypeId × Value → H) (F : Stop.Interp) :
    ReturnsInHanded {} Tryd.checked os 5 .any ((OpenSpec.ofChange Rows.dabMovesSpec).preRow enc Tryd.prog Tryd.f5 Rows.dabMovesRow.domain false Rows.dabMovesRow.laid) (((OpenSpec.ofChange Rows.dabMovesSpec).at F).post enc Tryd.prog Tryd.f5 false true false false) := by
  obtain ⟨places, hx⟩ := reads os enc
  refine returnsInHanded_of_row (C := Tryd.checked) (s := OpenSpec.ofChange Rows.dabMovesSpec) ownK started (by kernel_rfl) Tryd.func5
    (witness_row_at (enc := enc) (C := Tryd.checked) false (laidWorld os) #[.agg #[.int .i64 0, .int .i64 0, .int .i64 0, .int .i64 0, .int .i64 0, .int .i64 0, .int .i64 0, .int .i64 0, .int .i64 0, .int .i64 0, .int .i64 0, .int .i64 0, .int .i64 0, .int .i64 0, .slice none 0 0, .bool false], .agg #[.int .i64 0, .int .i64 0, .int .i64 0, .int .i64 0, .int .i64 0], .int .i64 0, .int .i64 0, .int .i64 0, .int .i64 0] rfl (by kernel_rfl) (by kernel_rfl) (by kernel_rfl)
      (OpenSpec.preRow_of_cond 8 hx (by kernel_rfl) (fun k hk => by cases hk) (by kernel_rfl) (laid_met os))) ?_
  intro W base args ds gs before hval hW _ _ hsz hL _ _
  exact contract H enc W base args ds gs before hval hW hsz hL
theorem said : Rows.DabMovesSaid :=
  OpenClaim.holds_of_cond 5 Tryd.f5 rfl rfl rfl rfl rfl rfl rfl ⟨rfl, rfl, rfl, rfl, rfl⟩ rfl rfl rfl rfl rfl (by kernel_rfl) Tryd.func5 (by kernel_rfl)
    (of_decide_eq_true (by kernel_rfl)) (by unfold Func.isWrapper; first | (rw [if_pos (by decide +kernel)]; kernel_rfl) | (rw [if_neg (by decide +kernel)]; exact ⟨rfl, rfl⟩))
    (fun os started H enc _ F => by rw [OpenClaim.pre_eq_preRow]; exact lifted os started H enc F)
theorem plain (f : FuncId) (fn : Func) (hf : Tryd.pinned.checked.prog.funcNamed "imageeditor/imageeditorlaw27.DabMoves" = some f) (hfn : Tryd.pinned.checked.prog.funcs[f]? = some fn) :
    false = Tryd.pinned.checked.prog.looks [] ∧ ∀ (j : Nat) t, fn.params[j]? = some t → Tryd.pinned.checked.prog.wantsStandIn t = false := by
  obtain rfl : f = 5 := Option.some.inj ((show Tryd.prog.funcNamed "imageeditor/imageeditorlaw27.DabMoves" = some 5 by kernel_rfl).symm.trans hf) |>.symm
  obtain rfl : fn = Tryd.f5 := (Option.some.inj (Tryd.func5.symm.trans hfn)).symm
  refine ⟨by kernel_rfl, fun j t ht => ?_⟩
  rw [Tryd.params5] at ht
  have hm : t = 26 ∨ t = 28 ∨ t = 3 ∨ t = 3 ∨ t = 3 ∨ t = 3 := by simpa [or_assoc] using Array.mem_of_getElem? ht
  rcases hm with rfl | rfl | rfl | rfl | rfl | rfl
  · exact (show Tryd.prog.wantsStandIn 26 = false by kernel_rfl)
  · exact (show Tryd.prog.wantsStandIn 28 = false by kernel_rfl)
  · exact (show Tryd.prog.wantsStandIn 3 = false by kernel_rfl)
  · exact (show Tryd.prog.wantsStandIn 3 = false by kernel_rfl)
  · exact (show Tryd.prog.wantsStandIn 3 = false by kernel_rfl)
  · exact (show Tryd.prog.wantsStandIn 3 = false by kernel_rfl)
theorem proved : Rows.DabMovesCardSaid :=
  Claim7.holds_tied_plain_at .later [] _ _ _ _ said (fun _ h => by cases h) (by kernel_rfl) (fun _ h => by cases h) dabMoves_row_tie rfl ⟨rfl, rfl⟩ (by kernel_rfl) rfl plain (by kernel_rfl)

end Go.Proofs.YtflegfoalkkkdaaDoor.dabMoves
