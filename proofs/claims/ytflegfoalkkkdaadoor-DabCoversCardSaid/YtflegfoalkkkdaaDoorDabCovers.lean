/- DabCovers: Cover is as its reference, from 0 to the flow, and 0 outside of the box, for every brush, dab and pixel. The package's table of sines is as its text lays it. -/
import Derived.Test.YtflegfoalkkkdaaDoorDabAwake
import Derived.Test.YtflegfoalkkkdaaDoorDabCovR
import Derived.Test.YtflegfoalkkkdaaDoorLOpen
import Derived.Test.YtflegfoalkkkdaaDoorLOpen
import Derived.Test.YtflegfoalkkkdaaDoorLPlain
import Derived.Test.YtflegfoalkkkdaaDoorCards
import Derived.Test.YtflegfoalkkkdaaDoorTie
namespace Go.Proofs.YtflegfoalkkkdaaDoor.dabCovers
open Go.ChangeShapes Go.WideShapes Go.ChangeAt Go.RowKit
set_option linter.unusedVariables false
attribute [local go_sem] Oper.gAt gUponK Oper.sAt stilK

set_option maxHeartbeats 2000000 in
theorem has_true (X Y W H x y : Int) (w : World) (h1 : -1048576 ≤ X ∧ X ≤ 1048576 ∧ 0 ≤ W ∧ W ≤ 1048576 - X) (h2 : -1048576 ≤ Y ∧ Y ≤ 1048576 ∧ 0 ≤ H ∧ H ≤ 1048576 - Y) (h : hasR X Y W H x y) :
    Calls Tryd.prog 18 #[.agg #[.int .i64 X, .int .i64 Y, .int .i64 W, .int .i64 H], .agg #[.int .i64 x, .int .i64 y]] w fun e w' => e = .returned (.bool true) ∧ Below w.heap.size w w' := by
  have V : Hid (∀ w, Calls Tryd.prog 32 #[.agg #[.int .i64 X, .int .i64 Y, .int .i64 W, .int .i64 H]] w fun e w' => e = .returned (.bool true) ∧ Below w.heap.size w w') := fun w => by
    have := rvalid_any X Y W H w
    rw [show rValid X Y W H = true by unfold rValid rSpan; rw [decide_eq_true h1, decide_eq_true h2]; rfl] at this
    exact this
  obtain ⟨a1, a2, a3, a4⟩ := h
  go_enter Tryd.func18, Tryd.ntmps18
  go_upto_region 1 with (fail)
  refine name2 (fun W0 k1 k2 hb => ?_)
  have c1 := k1.c4
  go_wp2_with fail
  clear c1
  refine (V.out _).mono ?_
  rintro e W1 ⟨rfl, hS⟩
  replace k1 := k1.kept hS
  replace k2 := k2.kept hS
  replace hb := hb.trans (hS.mono hb.size)
  clear hS V
  have c1 := k1.c4
  have c2 := k2.c2
  go_wp2_with fail
  go_ret
  exact ⟨rfl, hb⟩

set_option maxRecDepth 20000 in
set_option maxHeartbeats 8000000 in
theorem walk (B : Bru) (u : Value) (D : Dab) (x y : Int) (w : World) (hs : Sines w) (hD : Dn w u B.ds) (_ : (Lit.int .i64 x).wf = true) (_ : (Lit.int .i64 y).wf = true) :
    Calls Tryd.prog 7 #[brv B u, dbv D, .int .i64 x, .int .i64 y] w fun e w' => e = .returned (.bool true) ∧ Below w.heap.size w w' := by
  have HD := Lib.hid hD
  have HSn := Lib.hid hs
  obtain ⟨a, cap, rfl, _, _⟩ := hD
  clear hs
  have V1 := Lib.hid (fun w hs h => cover_any B D x y (.slice a B.ds.length cap) w hs h)
  have V2 := Lib.hid (fun w h => refCover_any B D x y (.slice a B.ds.length cap) w h)
  have BX := Lib.hid (fun w => dabBox_any D w)
  have IB := Lib.hid (in_box B D x y)
  obtain ⟨v0, v1⟩ := dcov_bd B D x y
  have AW := Lib.hid (fun w hs => dabAwake_any w hs)
  generalize dcov B D x y = v at *
  generalize dbox D = bx at *
  obtain ⟨X, Y, W, H⟩ := bx
  simp only at BX IB
  generalize B.ds.length = n at *
  have b0 : decide (v < 0) = false := by simp; omega
  go_enter Tryd.func7, Tryd.ntmps7
  go_upto_region 1 with (fail)
  refine name2 (fun W0 k1 k2 hb => ?_)
  have c1 := k1.c16
  have c2 := k2.c5
  go_wp2_with fail
  refine (V1.out _ (HSn.out.kept hb) (HD.out.kept hb)).mono ?_
  rintro e W1 ⟨rfl, hS⟩
  replace k1 := k1.kept hS
  replace k2 := k2.kept hS
  replace hb := hb.trans (hS.mono hb.size)
  clear hS
  clear c1 c2
  have c1 := k1.c16
  have c2 := k2.c5
  go_wp2_with fail
  refine (V2.out _ (HD.out.kept hb)).mono ?_
  rintro e W2 ⟨rfl, hS⟩
  replace k1 := k1.kept hS
  replace k2 := k2.kept hS
  replace hb := hb.trans (hS.mono hb.size)
  clear hS
  clear c1 c2 V1 V2
  have c2 := k2.c5
  by_cases hv : v = 0
  · subst hv
    clear IB BX v0 v1 b0
    go_wp2_with fail
    refine (AW.out _ (HSn.out.kept hb)).mono ?_
    rintro e W3 ⟨rfl, hS⟩
    replace k1 := k1.kept hS
    replace k2 := k2.kept hS
    replace hb := hb.trans (hS.mono hb.size)
    clear hS
    clear AW
    have c2 := k2.c5
    by_cases r0 : x < -1048576
    · go_wp2_with fail
      go_ret
      exact ⟨rfl, hb⟩
    · skip
      by_cases r1 : 1048576 ≤ x
      · go_wp2_with fail
        go_ret
        exact ⟨rfl, hb⟩
      · skip
        by_cases r2 : y < -1048576
        · go_wp2_with fail
          go_ret
          exact ⟨rfl, hb⟩
        · skip
          by_cases r3 : 1048576 ≤ y
          · go_wp2_with fail
            go_ret
            exact ⟨rfl, hb⟩
          · skip
            go_wp2_with fail
            go_ret
            exact ⟨rfl, hb⟩
  · have p1 : decide (0 < v) = true := by simp; omega
    have p2 : decide (D.fl < v) = false := by simp; omega
    go_wp2_with fail
    refine (AW.out _ (HSn.out.kept hb)).mono ?_
    rintro e W3 ⟨rfl, hS⟩
    replace k1 := k1.kept hS
    replace k2 := k2.kept hS
    replace hb := hb.trans (hS.mono hb.size)
    clear hS
    clear AW
    have c2 := k2.c5
    by_cases r0 : x < -1048576
    · go_wp2_with fail
      go_ret
      exact ⟨rfl, hb⟩
    · skip
      by_cases r1 : 1048576 ≤ x
      · go_wp2_with fail
        go_ret
        exact ⟨rfl, hb⟩
      · skip
        by_cases r2 : y < -1048576
        · go_wp2_with fail
          go_ret
          exact ⟨rfl, hb⟩
        · skip
          by_cases r3 : 1048576 ≤ y
          · go_wp2_with fail
            go_ret
            exact ⟨rfl, hb⟩
          · skip
            obtain ⟨i1, i2, i3⟩ := IB.out (by omega) (by omega) hv
            have HT := Lib.hid (fun w => has_true X Y W H x y w i1 i2 i3)
            clear i1 i2 i3 IB
            have bv : (v == 0) = false := by simpa using hv
            go_wp2_with fail
            refine (BX.out _).mono ?_
            rintro e W4 ⟨rfl, hS⟩
            replace hb := hb.trans (hS.mono hb.size)
            clear hS
            go_wp2_with fail
            refine (HT.out _).mono ?_
            rintro e W5 ⟨rfl, hS⟩
            replace hb := hb.trans (hS.mono hb.size)
            go_wp2_with fail
            go_ret
            exact ⟨rfl, hb⟩


theorem contract (H : Type) (enc : TypeId × Value → H) (W : World) (base : Nat) (args : Array Value) (ds gs : List (DataW H)) (before : List MemPlace)
    (hval0 : ∀ (j : Nat) t v, Tryd.f7.params[j]? = some t → args[j]? = some v → Value.okWide Tryd.prog W .any base t v)
    (hW : DataW.Whole enc Tryd.prog Tryd.f7.params.toList Rows.dabCoversSpec.vars false W args.toList ds gs before)
    (hsz0 : ((DataW.weightsEach Tryd.checked.prog (Tryd.f7.params.toList ++ DataSpec.varTypes Tryd.checked.prog (OpenSpec.ofChange Rows.dabCoversSpec).bare.plain) (ds ++ gs)).all fun x => decide (x ≤ reachBytes)) = true) (hL : laidMetH Tryd.prog Rows.dabCoversRow.laid W) :
    Calls Tryd.prog 7 args W fun e W' => ∃ v, e = .returned v ∧ Rows.dabCoversSpec.post enc Tryd.prog Tryd.f7 false true false false W args v W' := by
  have hval : ∀ (j : Nat) t v, Tryd.f7.params[j]? = some t → args[j]? = some v → Value.okWide Tryd.prog W .any base t v := hval0
  have hW' := hW
  obtain ⟨p, q, hA0, hV, rfl, hfz, hnd⟩ := hW
  have hA : DataW.TrodAll enc Tryd.prog W 0 (fun _ => true) true Tryd.f7.params.toList args.toList ds p := hA0
  rw [Tryd.params7] at hA hval
  have hAll := hA
  obtain ⟨v0, vs0, d0, ds0, p0, q0, hargs, rfl, rfl, h0, r0⟩ := trodAll_cons hA
  obtain ⟨v1, vs1, d1, ds1, p1, q1, rfl, rfl, rfl, h1, r1⟩ := trodAll_cons r0
  obtain ⟨v2, vs2, d2, ds2, p2, q2, rfl, rfl, rfl, h2, r2⟩ := trodAll_cons r1
  obtain ⟨v3, vs3, d3, ds3, p3, q3, rfl, rfl, rfl, h3, r3⟩ := trodAll_cons r2
  obtain ⟨rfl, rfl, rfl⟩ := trodAll_nil r3
  obtain rfl : args = #[v0, v1, v2, v3] := by cases args; simp_all
  obtain ⟨rfl, rfl⟩ := trodVars_none hV
  have hsz : (DataW.weightsEach Tryd.prog [26, 28, 3, 3] [d0, d1, d2, d3]).all (· ≤ reachBytes) = true := hsz0
  clear hA0 hval0 hsz0
  have hAll' : DataW.TrodAll enc Tryd.prog W 0 (fun _ => true) true [26, 28, 3, 3] [v0, v1, v2, v3] [d0, d1, d2, d3] _ := hAll
  clear hAll
  have hargsBack : ∀ W' : World, Below W.heap.size W W' → DataW.TrodAll enc Tryd.prog W' 0 (fun b => decide (b < W.heap.size)) true [26, 28, 3, 3] [v0, v1, v2, v3] [d0, d1, d2, d3] _ := fun W' bel => belowTrodAll laidK bel _ _ _ _ (by kernel_rfl) hAll'
  have hc : Calls Tryd.prog 7 #[v0, v1, v2, v3] W fun e w' => e = .returned (.bool true) ∧ Below W.heap.size W w' := by
    clear hargsBack hAll' hW'
    obtain ⟨B0, u0, rfl, hD0⟩ := openBrush (hval 0 26 v0 rfl rfl) h0
    obtain ⟨D1, rfl⟩ := openDab (hval 1 28 v1 rfl rfl) h1
    obtain ⟨a2, rfl, rfl, rfl, w2⟩ := open_int Tryd.underlying3 (hval 2 3 v2 rfl rfl) h2
    obtain ⟨a3, rfl, rfl, rfl, w3⟩ := open_int Tryd.underlying3 (hval 3 3 v3 rfl rfl) h3
    exact walk B0 u0 D1 a2 a3 W (sines_of hL) hD0 w2 w3
  refine hc.mono fun e W' ⟨he, bel⟩ => ?_
  subst he
  exact ⟨_, rfl, _, _, _, [], _, [], hW', trodAll_mk1 (shut_bool Tryd.underlying4 _), hargsBack W' bel, rfl, bel.frame _, fun h => by cases h⟩

noncomputable def laidWorld (os : Os) : World :=
  { World.holding Tryd.prog os ⟨#[], #[], []⟩ with heap := (World.holding Tryd.prog os ⟨#[], #[], []⟩).heap.modify 0 fun
      | .cells _ t frozen => .cells (sinTab.map fun z => Value.int .i64 z).toArray t frozen
      | o => o }
theorem laid_met (os : Os) : laidMet Tryd.prog Rows.dabCoversRow.laid ((laidWorld os).forCall (fun _ _ => 0) ⟨#[], #[.agg #[.int .i64 0, .int .i64 0, .int .i64 0, .int .i64 0, .int .i64 0, .int .i64 0, .int .i64 0, .int .i64 0, .int .i64 0, .int .i64 0, .int .i64 0, .int .i64 0, .int .i64 0, .int .i64 0, .slice none 0 0, .bool false], .agg #[.int .i64 0, .int .i64 0, .int .i64 0, .int .i64 0, .int .i64 0], .int .i64 0, .int .i64 0], []⟩).memory :=
  laidMet_of_run' 8 (by kernel_rfl) (by kernel_rfl)
theorem reads (os : Os) {H : Type} (enc : TypeId × Value → H) : ∃ places, DataW.whole enc Tryd.prog ((laidWorld os).forCall (fun _ _ => 0) ⟨#[], #[.agg #[.int .i64 0, .int .i64 0, .int .i64 0, .int .i64 0, .int .i64 0, .int .i64 0, .int .i64 0, .int .i64 0, .int .i64 0, .int .i64 0, .int .i64 0, .int .i64 0, .int .i64 0, .int .i64 0, .slice none 0 0, .bool false], .agg #[.int .i64 0, .int .i64 0, .int .i64 0, .int .i64 0, .int .i64 0], .int .i64 0, .int .i64 0], []⟩).memory Tryd.f7.params.toList Rows.dabCoversSpec.vars false (#[.agg #[.int .i64 0, .int .i64 0, .int .i64 0, .int .i64 0, .int .i64 0, .int .i64 0, .int .i64 0, .int .i64 0, .int .i64 0, .int .i64 0, .int .i64 0, .int .i64 0, .int .i64 0, .int .i64 0, .slice none 0 0, .bool false], .agg #[.int .i64 0, .int .i64 0, .int .i64 0, .int .i64 0, .int .i64 0], .int .i64 0, .int .i64 0] : Array Value).toList 8 = some ([.agg [.lit (.int .i64 0), .lit (.int .i64 0), .lit (.int .i64 0), .lit (.int .i64 0), .lit (.int .i64 0), .lit (.int .i64 0), .lit (.int .i64 0), .lit (.int .i64 0), .lit (.int .i64 0), .agg [.lit (.int .i64 0), .lit (.int .i64 0), .lit (.int .i64 0), .lit (.int .i64 0)], .lit (.int .i64 0), .nil, .lit (.bool false)], .agg [.lit (.int .i64 0), .lit (.int .i64 0), .lit (.int .i64 0), .lit (.int .i64 0), .lit (.int .i64 0)], .lit (.int .i64 0), .lit (.int .i64 0)], [], places) :=
  ⟨[], by kernel_rfl⟩
set_option maxRecDepth 100000 in
theorem lifted (os : Os) (started : os.Started) (H : Type) (enc : TypeId × Value → H) (F : Stop.Interp) :
    ReturnsInHanded {} Tryd.checked os 7 .any ((OpenSpec.ofChange Rows.dabCoversSpec).preRow enc Tryd.prog Tryd.f7 Rows.dabCoversRow.domain false Rows.dabCoversRow.laid) (((OpenSpec.ofChange Rows.dabCoversSpec).at F).post enc Tryd.prog Tryd.f7 false true false false) := by
  obtain ⟨places, hx⟩ := reads os enc
  refine returnsInHanded_of_row (C := Tryd.checked) (s := OpenSpec.ofChange Rows.dabCoversSpec) ownK started (by kernel_rfl) Tryd.func7
    (witness_row_at (enc := enc) (C := Tryd.checked) false (laidWorld os) #[.agg #[.int .i64 0, .int .i64 0, .int .i64 0, .int .i64 0, .int .i64 0, .int .i64 0, .int .i64 0, .int .i64 0, .int .i64 0, .int .i64 0, .int .i64 0, .int .i64 0, .int .i64 0, .int .i64 0, .slice none 0 0, .bool false], .agg #[.int .i64 0, .int .i64 0, .int .i64 0, .int .i64 0, .int .i64 0], .int .i64 0, .int .i64 0] rfl (by kernel_rfl) (by kernel_rfl) (by kernel_rfl)
      (OpenSpec.preRow_of_cond 8 hx (by kernel_rfl) (fun k hk => by cases hk) (by kernel_rfl) (laid_met os))) ?_
  intro W base args ds gs before hval hW _ _ hsz hL _ _
  exact contract H enc W base args ds gs before hval hW hsz hL
theorem said : Rows.DabCoversSaid :=
  OpenClaim.holds_of_cond 7 Tryd.f7 rfl rfl rfl rfl rfl rfl rfl ⟨rfl, rfl, rfl, rfl, rfl⟩ rfl rfl rfl rfl rfl (by kernel_rfl) Tryd.func7 (by kernel_rfl)
    (of_decide_eq_true (by kernel_rfl)) (by unfold Func.isWrapper; first | (rw [if_pos (by decide +kernel)]; kernel_rfl) | (rw [if_neg (by decide +kernel)]; exact ⟨rfl, rfl⟩))
    (fun os started H enc _ F => by rw [OpenClaim.pre_eq_preRow]; exact lifted os started H enc F)
theorem plain (f : FuncId) (fn : Func) (hf : Tryd.pinned.checked.prog.funcNamed "imageeditor/imageeditorlaw27.DabCovers" = some f) (hfn : Tryd.pinned.checked.prog.funcs[f]? = some fn) :
    false = Tryd.pinned.checked.prog.looks [] ∧ ∀ (j : Nat) t, fn.params[j]? = some t → Tryd.pinned.checked.prog.wantsStandIn t = false := by
  obtain rfl : f = 7 := Option.some.inj ((show Tryd.prog.funcNamed "imageeditor/imageeditorlaw27.DabCovers" = some 7 by kernel_rfl).symm.trans hf) |>.symm
  obtain rfl : fn = Tryd.f7 := (Option.some.inj (Tryd.func7.symm.trans hfn)).symm
  refine ⟨by kernel_rfl, fun j t ht => ?_⟩
  rw [Tryd.params7] at ht
  have hm : t = 26 ∨ t = 28 ∨ t = 3 ∨ t = 3 := by simpa [or_assoc] using Array.mem_of_getElem? ht
  rcases hm with rfl | rfl | rfl | rfl
  · exact (show Tryd.prog.wantsStandIn 26 = false by kernel_rfl)
  · exact (show Tryd.prog.wantsStandIn 28 = false by kernel_rfl)
  · exact (show Tryd.prog.wantsStandIn 3 = false by kernel_rfl)
  · exact (show Tryd.prog.wantsStandIn 3 = false by kernel_rfl)
theorem proved : Rows.DabCoversCardSaid :=
  Claim7.holds_tied_plain_at .later [] _ _ _ _ said (fun _ h => by cases h) (by kernel_rfl) (fun _ h => by cases h) dabCovers_row_tie rfl ⟨rfl, rfl⟩ (by kernel_rfl) rfl plain (by kernel_rfl)

end Go.Proofs.YtflegfoalkkkdaaDoor.dabCovers
