/- DabMirrors: without an angle the coverage by a dab at the center of a pixel is symmetric, does not increase along a row, and a hard tip covers with the flow or not at all, within the law's own bounds. The package's table of sines is as its text lays it. -/
import Derived.Test.YtflegfoalkkkdaaDoorDabMirrA
import Derived.Test.YtflegfoalkkkdaaDoorDabMirrB
import Derived.Test.YtflegfoalkkkdaaDoorCards
import Derived.Test.YtflegfoalkkkdaaDoorTie
namespace Go.Proofs.YtflegfoalkkkdaaDoor.dabMirrors
open Go.ChangeShapes Go.WideShapes Go.ChangeAt Go.RowKit
set_option linter.unusedVariables false
attribute [local go_sem] Oper.gAt gUponK Oper.sAt stilK


set_option maxRecDepth 20000 in
set_option maxHeartbeats 4000000 in
theorem bad (B : Bru) (u : Value) (size flow cx cy i j : Int) (w : World) (hs : Sines w) (hD : Dn w u B.ds) (b0 b1 b2 b3 b4 b5 b6 b7 b8 : Bool) (hor : (b0 || (b1 || (b2 || (b3 || (b4 || (b5 || (b6 || (b7 || b8)))))))) = true)
    (h0 : decide (cx < -524288) = b0) (h1 : decide (524288 < cx) = b1) (h2 : decide (cy < -524288) = b2) (h3 : decide (524288 < cy) = b3) (h4 : decide (i < 0) = b4) (h5 : decide (262144 < i) = b5) (h6 : decide (j < 0) = b6) (h7 : decide (262144 < j) = b7) (h8 : (B.an != 0) = b8) :
    Calls Tryd.prog 6 #[brv B u, .int .i64 size, .int .i64 flow, .int .i64 cx, .int .i64 cy, .int .i64 i, .int .i64 j] w fun e w' => e = .returned (.bool true) ∧ Below w.heap.size w w' := by
  have HSn := Lib.hid hs
  obtain ⟨a, cap, rfl, _, _⟩ := hD
  clear hs
  generalize B.ds.length = n at *
  have AW := Lib.hid (fun w hs => dabAwake_any w hs)
  go_enter Tryd.func6, Tryd.ntmps6
  go_upto_region 1 with (fail)
  refine name1 (fun W k1 hb => ?_)
  have c1 := k1.c16.2.2.2.2.2.2.1
  cases b0 with
  | true =>
    clear h1 h2 h3 h4 h5 h6 h7 h8
    go_wp2_with fail
    refine (AW.out _ (HSn.out.kept hb)).mono ?_
    rintro e W1 ⟨rfl, hS⟩
    replace hb := hb.trans (hS.mono hb.size)
    go_wp2_with fail
    go_ret
    exact ⟨rfl, hb⟩
  | false =>
    cases b1 with
    | true =>
      clear h2 h3 h4 h5 h6 h7 h8
      go_wp2_with fail
      refine (AW.out _ (HSn.out.kept hb)).mono ?_
      rintro e W1 ⟨rfl, hS⟩
      replace hb := hb.trans (hS.mono hb.size)
      go_wp2_with fail
      go_ret
      exact ⟨rfl, hb⟩
    | false =>
      cases b2 with
      | true =>
        clear h3 h4 h5 h6 h7 h8
        go_wp2_with fail
        refine (AW.out _ (HSn.out.kept hb)).mono ?_
        rintro e W1 ⟨rfl, hS⟩
        replace hb := hb.trans (hS.mono hb.size)
        go_wp2_with fail
        go_ret
        exact ⟨rfl, hb⟩
      | false =>
        cases b3 with
        | true =>
          clear h4 h5 h6 h7 h8
          go_wp2_with fail
          refine (AW.out _ (HSn.out.kept hb)).mono ?_
          rintro e W1 ⟨rfl, hS⟩
          replace hb := hb.trans (hS.mono hb.size)
          go_wp2_with fail
          go_ret
          exact ⟨rfl, hb⟩
        | false =>
          cases b4 with
          | true =>
            clear h5 h6 h7 h8
            go_wp2_with fail
            refine (AW.out _ (HSn.out.kept hb)).mono ?_
            rintro e W1 ⟨rfl, hS⟩
            replace hb := hb.trans (hS.mono hb.size)
            go_wp2_with fail
            go_ret
            exact ⟨rfl, hb⟩
          | false =>
            cases b5 with
            | true =>
              clear h6 h7 h8
              go_wp2_with fail
              refine (AW.out _ (HSn.out.kept hb)).mono ?_
              rintro e W1 ⟨rfl, hS⟩
              replace hb := hb.trans (hS.mono hb.size)
              go_wp2_with fail
              go_ret
              exact ⟨rfl, hb⟩
            | false =>
              cases b6 with
              | true =>
                clear h7 h8
                go_wp2_with fail
                refine (AW.out _ (HSn.out.kept hb)).mono ?_
                rintro e W1 ⟨rfl, hS⟩
                replace hb := hb.trans (hS.mono hb.size)
                go_wp2_with fail
                go_ret
                exact ⟨rfl, hb⟩
              | false =>
                cases b7 with
                | true =>
                  clear h8
                  go_wp2_with fail
                  refine (AW.out _ (HSn.out.kept hb)).mono ?_
                  rintro e W1 ⟨rfl, hS⟩
                  replace hb := hb.trans (hS.mono hb.size)
                  go_wp2_with fail
                  go_ret
                  exact ⟨rfl, hb⟩
                | false =>
                  cases b8 with
                  | true =>
                    go_wp2_with fail
                    refine (AW.out _ (HSn.out.kept hb)).mono ?_
                    rintro e W1 ⟨rfl, hS⟩
                    replace hb := hb.trans (hS.mono hb.size)
                    go_wp2_with fail
                    go_ret
                    exact ⟨rfl, hb⟩
                  | false => cases hor

theorem walk (B : Bru) (u : Value) (size flow cx cy i j : Int) (w : World) (hs : Sines w) (hD : Dn w u B.ds) (_ : (Lit.int .i64 size).wf = true) (_ : (Lit.int .i64 flow).wf = true) (_ : (Lit.int .i64 cx).wf = true) (_ : (Lit.int .i64 cy).wf = true) (_ : (Lit.int .i64 i).wf = true) (_ : (Lit.int .i64 j).wf = true) :
    Calls Tryd.prog 6 #[brv B u, .int .i64 size, .int .i64 flow, .int .i64 cx, .int .i64 cy, .int .i64 i, .int .i64 j] w fun e w' => e = .returned (.bool true) ∧ Below w.heap.size w w' := by
  cases h : (decide (cx < -524288) || (decide (524288 < cx) || (decide (cy < -524288) || (decide (524288 < cy) || (decide (i < 0) || (decide (262144 < i) || (decide (j < 0) || (decide (262144 < j) || (B.an != 0))))))))) with
  | true => exact bad B u size flow cx cy i j w hs hD _ _ _ _ _ _ _ _ _ h rfl rfl rfl rfl rfl rfl rfl rfl rfl
  | false =>
    simp only [Bool.or_eq_false_iff, decide_eq_false_iff_not, bne_eq_false_iff_eq] at h
    by_cases hr : B.rn = 65535
    · exact goodA B u size flow cx cy i j w hs hD (by omega) (by omega) (by omega) (by omega) h.2.2.2.2.2.2.2.2 hr
    · exact goodB B u size flow cx cy i j w hs hD (by omega) (by omega) (by omega) (by omega) h.2.2.2.2.2.2.2.2 hr


theorem contract (H : Type) (enc : TypeId × Value → H) (W : World) (base : Nat) (args : Array Value) (ds gs : List (DataW H)) (before : List MemPlace)
    (hval0 : ∀ (j : Nat) t v, Tryd.f6.params[j]? = some t → args[j]? = some v → Value.okWide Tryd.prog W .any base t v)
    (hW : DataW.Whole enc Tryd.prog Tryd.f6.params.toList Rows.dabMirrorsSpec.vars false W args.toList ds gs before)
    (hsz0 : ((DataW.weightsEach Tryd.checked.prog (Tryd.f6.params.toList ++ DataSpec.varTypes Tryd.checked.prog (OpenSpec.ofChange Rows.dabMirrorsSpec).bare.plain) (ds ++ gs)).all fun x => decide (x ≤ reachBytes)) = true) (hL : laidMetH Tryd.prog Rows.dabMirrorsRow.laid W) :
    Calls Tryd.prog 6 args W fun e W' => ∃ v, e = .returned v ∧ Rows.dabMirrorsSpec.post enc Tryd.prog Tryd.f6 false true false false W args v W' := by
  have hval : ∀ (j : Nat) t v, Tryd.f6.params[j]? = some t → args[j]? = some v → Value.okWide Tryd.prog W .any base t v := hval0
  have hW' := hW
  obtain ⟨p, q, hA0, hV, rfl, hfz, hnd⟩ := hW
  have hA : DataW.TrodAll enc Tryd.prog W 0 (fun _ => true) true Tryd.f6.params.toList args.toList ds p := hA0
  rw [Tryd.params6] at hA hval
  have hAll := hA
  obtain ⟨v0, vs0, d0, ds0, p0, q0, hargs, rfl, rfl, h0, r0⟩ := trodAll_cons hA
  obtain ⟨v1, vs1, d1, ds1, p1, q1, rfl, rfl, rfl, h1, r1⟩ := trodAll_cons r0
  obtain ⟨v2, vs2, d2, ds2, p2, q2, rfl, rfl, rfl, h2, r2⟩ := trodAll_cons r1
  obtain ⟨v3, vs3, d3, ds3, p3, q3, rfl, rfl, rfl, h3, r3⟩ := trodAll_cons r2
  obtain ⟨v4, vs4, d4, ds4, p4, q4, rfl, rfl, rfl, h4, r4⟩ := trodAll_cons r3
  obtain ⟨v5, vs5, d5, ds5, p5, q5, rfl, rfl, rfl, h5, r5⟩ := trodAll_cons r4
  obtain ⟨v6, vs6, d6, ds6, p6, q6, rfl, rfl, rfl, h6, r6⟩ := trodAll_cons r5
  obtain ⟨rfl, rfl, rfl⟩ := trodAll_nil r6
  obtain rfl : args = #[v0, v1, v2, v3, v4, v5, v6] := by cases args; simp_all
  obtain ⟨rfl, rfl⟩ := trodVars_none hV
  have hsz : (DataW.weightsEach Tryd.prog [26, 3, 3, 3, 3, 3, 3] [d0, d1, d2, d3, d4, d5, d6]).all (· ≤ reachBytes) = true := hsz0
  clear hA0 hval0 hsz0
  have hAll' : DataW.TrodAll enc Tryd.prog W 0 (fun _ => true) true [26, 3, 3, 3, 3, 3, 3] [v0, v1, v2, v3, v4, v5, v6] [d0, d1, d2, d3, d4, d5, d6] _ := hAll
  clear hAll
  have hargsBack : ∀ W' : World, Below W.heap.size W W' → DataW.TrodAll enc Tryd.prog W' 0 (fun b => decide (b < W.heap.size)) true [26, 3, 3, 3, 3, 3, 3] [v0, v1, v2, v3, v4, v5, v6] [d0, d1, d2, d3, d4, d5, d6] _ := fun W' bel => belowTrodAll laidK bel _ _ _ _ (by kernel_rfl) hAll'
  have hc : Calls Tryd.prog 6 #[v0, v1, v2, v3, v4, v5, v6] W fun e w' => e = .returned (.bool true) ∧ Below W.heap.size W w' := by
    clear hargsBack hAll' hW'
    obtain ⟨B0, u0, rfl, hD0⟩ := openBrush (hval 0 26 v0 rfl rfl) h0
    obtain ⟨a1, rfl, rfl, rfl, w1⟩ := open_int Tryd.underlying3 (hval 1 3 v1 rfl rfl) h1
    obtain ⟨a2, rfl, rfl, rfl, w2⟩ := open_int Tryd.underlying3 (hval 2 3 v2 rfl rfl) h2
    obtain ⟨a3, rfl, rfl, rfl, w3⟩ := open_int Tryd.underlying3 (hval 3 3 v3 rfl rfl) h3
    obtain ⟨a4, rfl, rfl, rfl, w4⟩ := open_int Tryd.underlying3 (hval 4 3 v4 rfl rfl) h4
    obtain ⟨a5, rfl, rfl, rfl, w5⟩ := open_int Tryd.underlying3 (hval 5 3 v5 rfl rfl) h5
    obtain ⟨a6, rfl, rfl, rfl, w6⟩ := open_int Tryd.underlying3 (hval 6 3 v6 rfl rfl) h6
    exact walk B0 u0 a1 a2 a3 a4 a5 a6 W (sines_of hL) hD0 w1 w2 w3 w4 w5 w6
  refine hc.mono fun e W' ⟨he, bel⟩ => ?_
  subst he
  exact ⟨_, rfl, _, _, _, [], _, [], hW', trodAll_mk1 (shut_bool Tryd.underlying4 _), hargsBack W' bel, rfl, bel.frame _, fun h => by cases h⟩

noncomputable def laidWorld (os : Os) : World :=
  { World.holding Tryd.prog os ⟨#[], #[], []⟩ with heap := (World.holding Tryd.prog os ⟨#[], #[], []⟩).heap.modify 0 fun
      | .cells _ t frozen => .cells (sinTab.map fun z => Value.int .i64 z).toArray t frozen
      | o => o }
theorem laid_met (os : Os) : laidMet Tryd.prog Rows.dabMirrorsRow.laid ((laidWorld os).forCall (fun _ _ => 0) ⟨#[], #[.agg #[.int .i64 0, .int .i64 0, .int .i64 0, .int .i64 0, .int .i64 0, .int .i64 0, .int .i64 0, .int .i64 0, .int .i64 0, .int .i64 0, .int .i64 0, .int .i64 0, .int .i64 0, .int .i64 0, .slice none 0 0, .bool false], .int .i64 0, .int .i64 0, .int .i64 0, .int .i64 0, .int .i64 0, .int .i64 0], []⟩).memory :=
  laidMet_of_run' 8 (by kernel_rfl) (by kernel_rfl)
theorem reads (os : Os) {H : Type} (enc : TypeId × Value → H) : ∃ places, DataW.whole enc Tryd.prog ((laidWorld os).forCall (fun _ _ => 0) ⟨#[], #[.agg #[.int .i64 0, .int .i64 0, .int .i64 0, .int .i64 0, .int .i64 0, .int .i64 0, .int .i64 0, .int .i64 0, .int .i64 0, .int .i64 0, .int .i64 0, .int .i64 0, .int .i64 0, .int .i64 0, .slice none 0 0, .bool false], .int .i64 0, .int .i64 0, .int .i64 0, .int .i64 0, .int .i64 0, .int .i64 0], []⟩).memory Tryd.f6.params.toList Rows.dabMirrorsSpec.vars false (#[.agg #[.int .i64 0, .int .i64 0, .int .i64 0, .int .i64 0, .int .i64 0, .int .i64 0, .int .i64 0, .int .i64 0, .int .i64 0, .int .i64 0, .int .i64 0, .int .i64 0, .int .i64 0, .int .i64 0, .slice none 0 0, .bool false], .int .i64 0, .int .i64 0, .int .i64 0, .int .i64 0, .int .i64 0, .int .i64 0] : Array Value).toList 8 = some ([.agg [.lit (.int .i64 0), .lit (.int .i64 0), .lit (.int .i64 0), .lit (.int .i64 0), .lit (.int .i64 0), .lit (.int .i64 0), .lit (.int .i64 0), .lit (.int .i64 0), .lit (.int .i64 0), .agg [.lit (.int .i64 0), .lit (.int .i64 0), .lit (.int .i64 0), .lit (.int .i64 0)], .lit (.int .i64 0), .nil, .lit (.bool false)], .lit (.int .i64 0), .lit (.int .i64 0), .lit (.int .i64 0), .lit (.int .i64 0), .lit (.int .i64 0), .lit (.int .i64 0)], [], places) :=
  ⟨[], by kernel_rfl⟩
set_option maxRecDepth 100000 in
theorem lifted (os : Os) (started : os.Started) (H : Type) (enc : TypeId × Value → H) (F : Stop.Interp) :
    ReturnsInHanded {} Tryd.checked os 6 .any ((OpenSpec.ofChange Rows.dabMirrorsSpec).preRow enc Tryd.prog Tryd.f6 Rows.dabMirrorsRow.domain false Rows.dabMirrorsRow.laid) (((OpenSpec.ofChange Rows.dabMirrorsSpec).at F).post enc Tryd.prog Tryd.f6 false true false false) := by
  obtain ⟨places, hx⟩ := reads os enc
  refine returnsInHanded_of_row (C := Tryd.checked) (s := OpenSpec.ofChange Rows.dabMirrorsSpec) ownK started (by kernel_rfl) Tryd.func6
    (witness_row_at (enc := enc) (C := Tryd.checked) false (laidWorld os) #[.agg #[.int .i64 0, .int .i64 0, .int .i64 0, .int .i64 0, .int .i64 0, .int .i64 0, .int .i64 0, .int .i64 0, .int .i64 0, .int .i64 0, .int .i64 0, .int .i64 0, .int .i64 0, .int .i64 0, .slice none 0 0, .bool false], .int .i64 0, .int .i64 0, .int .i64 0, .int .i64 0, .int .i64 0, .int .i64 0] rfl (by kernel_rfl) (by kernel_rfl) (by kernel_rfl)
      (OpenSpec.preRow_of_cond 8 hx (by kernel_rfl) (fun k hk => by cases hk) (by kernel_rfl) (laid_met os))) ?_
  intro W base args ds gs before hval hW _ _ hsz hL _ _
  exact contract H enc W base args ds gs before hval hW hsz hL
theorem said : Rows.DabMirrorsSaid :=
  OpenClaim.holds_of_cond 6 Tryd.f6 rfl rfl rfl rfl rfl rfl rfl ⟨rfl, rfl, rfl, rfl, rfl⟩ rfl rfl rfl rfl rfl (by kernel_rfl) Tryd.func6 (by kernel_rfl)
    (of_decide_eq_true (by kernel_rfl)) (by unfold Func.isWrapper; first | (rw [if_pos (by decide +kernel)]; kernel_rfl) | (rw [if_neg (by decide +kernel)]; exact ⟨rfl, rfl⟩))
    (fun os started H enc _ F => by rw [OpenClaim.pre_eq_preRow]; exact lifted os started H enc F)
theorem plain (f : FuncId) (fn : Func) (hf : Tryd.pinned.checked.prog.funcNamed "imageeditor/imageeditorlaw27.DabMirrors" = some f) (hfn : Tryd.pinned.checked.prog.funcs[f]? = some fn) :
    false = Tryd.pinned.checked.prog.looks [] ∧ ∀ (j : Nat) t, fn.params[j]? = some t → Tryd.pinned.checked.prog.wantsStandIn t = false := by
  obtain rfl : f = 6 := Option.some.inj ((show Tryd.prog.funcNamed "imageeditor/imageeditorlaw27.DabMirrors" = some 6 by kernel_rfl).symm.trans hf) |>.symm
  obtain rfl : fn = Tryd.f6 := (Option.some.inj (Tryd.func6.symm.trans hfn)).symm
  refine ⟨by kernel_rfl, fun j t ht => ?_⟩
  rw [Tryd.params6] at ht
  have hm : t = 26 ∨ t = 3 ∨ t = 3 ∨ t = 3 ∨ t = 3 ∨ t = 3 ∨ t = 3 := by simpa [or_assoc] using Array.mem_of_getElem? ht
  rcases hm with rfl | rfl | rfl | rfl | rfl | rfl | rfl
  · exact (show Tryd.prog.wantsStandIn 26 = false by kernel_rfl)
  · exact (show Tryd.prog.wantsStandIn 3 = false by kernel_rfl)
  · exact (show Tryd.prog.wantsStandIn 3 = false by kernel_rfl)
  · exact (show Tryd.prog.wantsStandIn 3 = false by kernel_rfl)
  · exact (show Tryd.prog.wantsStandIn 3 = false by kernel_rfl)
  · exact (show Tryd.prog.wantsStandIn 3 = false by kernel_rfl)
  · exact (show Tryd.prog.wantsStandIn 3 = false by kernel_rfl)
theorem proved : Rows.DabMirrorsCardSaid :=
  Claim7.holds_tied_plain_at .later [] _ _ _ _ said (fun _ h => by cases h) (by kernel_rfl) (fun _ h => by cases h) dabMirrors_row_tie rfl ⟨rfl, rfl⟩ (by kernel_rfl) rfl plain (by kernel_rfl)

end Go.Proofs.YtflegfoalkkkdaaDoor.dabMirrors
