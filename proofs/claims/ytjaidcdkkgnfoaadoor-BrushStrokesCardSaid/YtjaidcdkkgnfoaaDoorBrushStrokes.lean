/- BrushStrokes: the coverage of any stroke, or the error, is what the reference gives, for every brush, list of samples and size. The package's table of sines is as its text lays it. -/
import Derived.Test.YtjaidcdkkgnfoaaDoorBrFew
import Derived.Test.YtjaidcdkkgnfoaaDoorBrSame
import Derived.Test.YtjaidcdkkgnfoaaDoorBrStroke
import Derived.Test.YtjaidcdkkgnfoaaDoorBrStrokeR
import Derived.Test.YtjaidcdkkgnfoaaDoorBrEx
import Derived.Test.YtjaidcdkkgnfoaaDoorBrOpen
import Derived.Test.YtjaidcdkkgnfoaaDoorLOpen
import Derived.Test.YtjaidcdkkgnfoaaDoorCards
import Derived.Test.YtjaidcdkkgnfoaaDoorTie
namespace Go.Proofs.YtjaidcdkkgnfoaaDoor.brushStrokes
open Go.ChangeShapes Go.WideShapes Go.ChangeAt Go.RowKit
set_option linter.unusedVariables false
attribute [local go_sem] Oper.gAt gUponK Oper.sAt stilK

set_option maxRecDepth 20000 in
set_option maxHeartbeats 8000000 in
theorem walk (B : Bru) (u lv : Value) (ls : List Smp) (W H : Int) (w : World) (hs : Sines w) (hD : Dn w u B.ds) (hL : Sm w lv ls) :
    Calls Tryd.prog 3 #[.agg #[.int .i64 B.sz, .int .i64 B.hd, .int .i64 B.rn, .int .i64 B.fl, .int .i64 B.op, .int .i64 B.sp, .int .i64 B.an, .int .i64 B.sc, .int .i64 B.md, .int .i64 B.r, .int .i64 B.g, .int .i64 B.b, .int .i64 B.a, .int .i64 B.sd, u, .bool B.er, lv, .int .i64 W, .int .i64 H]] w fun e w' => e = .returned (.bool true) ∧ Below w.heap.size w w' := by
  have HD := Lib.hid hD
  have HL := Lib.hid hL
  have HSn := Lib.hid hs
  obtain ⟨Wm, Hm, E, zs, ho⟩ := strk_out B ls W H
  obtain ⟨a, cap, rfl⟩ := Qn.slice hL
  obtain ⟨au, capu, rfl, _, _⟩ := hD
  have FW := Lib.hid (fun w h h' => few_any B (.slice au B.ds.length capu) (.slice a ls.length cap) ls W H w h h')
  have S1 := Lib.hid (fun w hs h h' => stroke_any B (.slice au B.ds.length capu) (.slice a ls.length cap) ls W H Wm Hm E zs w hs h h' ho)
  have S2 := Lib.hid (fun w h h' => refStroke_any B (.slice au B.ds.length capu) (.slice a ls.length cap) ls W H Wm Hm E zs w h h' ho)
  have EX := Lib.hid example_any
  clear hL hs ho
  generalize ls.length = nl at *
  generalize B.ds.length = nd at *
  go_enter Tryd.func3, Tryd.ntmps3
  go_upto_region 1 with (fail)
  refine name1 (fun W0 k0 hb => ?_)
  have c0 := k0.c19
  go_wp2_with fail
  clear c0
  refine (FW.out _ (HD.out.kept hb) (HL.out.kept hb)).mono ?_
  rintro e W1 ⟨bf, rfl, hS⟩
  replace k0 := k0.kept hS
  replace hb := hb.trans (hS.mono hb.size)
  clear hS FW
  cases bf
  · go_wp2_with fail
    go_ret
    exact ⟨rfl, hb⟩
  · have c0 := k0.c19
    go_wp2_with fail
    clear c0
    refine (S1.out _ (HSn.out.kept hb) (HD.out.kept hb) (HL.out.kept hb)).mono ?_
    rintro e W2 ⟨q, rfl, hq, hS⟩
    replace k0 := k0.kept hS
    replace hb := hb.trans (hS.mono hb.size)
    obtain ⟨aq, cq, rfl, _⟩ := hq.slice
    have HQ0 := Lib.hid hq
    clear hS hq S1
    go_upto_region 4 with (refine wpList_store_blk rfl _ _ _ rfl W2.heap.size #[.int .i64 Wm, .int .i64 Hm, .slice aq zs.length cq] rfl rfl (heap_alloc_new W2 _) infoMask2 rfl (by simp [Value.oneCell']) (fun W3 k4 hkx hbx => ?_))
    have HQ1 := Lib.hid (HQ0.out.kept (((Below.refl _ _).alloc (Nat.le_refl _) _).trans hbx))
    replace k0 := hkx _ _ (by have := k0.lt; omega) (k0.alloc _)
    replace hb : Below w.heap.size w W3 := hb.trans ((((Below.refl _ _).alloc (Nat.le_refl _) _).trans hbx).mono hb.size)
    clear hkx hbx HQ0
    generalize W2.heap.size = b4 at *
    have c0 := k0.c19
    go_wp2_with fail
    clear c0
    refine (S2.out _ (HD.out.kept hb) (HL.out.kept hb)).mono ?_
    rintro e W4 ⟨q, rfl, hq, hS⟩
    replace k4 := k4.kept hS
    have HQ2 := Lib.hid (HQ1.out.kept hS)
    replace hb := hb.trans (hS.mono hb.size)
    obtain ⟨ar, cr, rfl, _⟩ := hq.slice
    have HR0 := Lib.hid hq
    clear hS hq S2 HQ1 k0
    go_upto_region 5 with (refine wpList_store_blk rfl _ _ _ rfl W4.heap.size #[.int .i64 Wm, .int .i64 Hm, .slice ar zs.length cr] rfl rfl (heap_alloc_new W4 _) infoMask2 rfl (by simp [Value.oneCell']) (fun W5 k5 hkx hbx => ?_))
    have HR := Lib.hid (HR0.out.kept (((Below.refl _ _).alloc (Nat.le_refl _) _).trans hbx))
    have HQ := Lib.hid (HQ2.out.kept (((Below.refl _ _).alloc (Nat.le_refl _) _).trans hbx))
    replace k4 := hkx _ _ (by have := k4.lt; omega) (k4.alloc _)
    replace hb : Below w.heap.size w W5 := hb.trans ((((Below.refl _ _).alloc (Nat.le_refl _) _).trans hbx).mono hb.size)
    clear hkx hbx HR0 HQ2
    generalize W4.heap.size = b5 at *
    have SM := Lib.hid (sameMask_true _ _ Wm Hm zs W5 HQ.out HR.out)
    generalize zs.length = n at *
    have c4 := k4.c3
    have c5 := k5.c3
    go_wp2_with fail
    clear c4 c5
    refine SM.out.mono ?_
    rintro e W6 ⟨rfl, hS⟩
    replace hb := hb.trans (hS.mono hb.size)
    clear hS
    go_wp2_with fail
    refine (EX.out _).mono ?_
    rintro e W7 ⟨rfl, hS⟩
    replace hb := hb.trans (hS.mono hb.size)
    go_wp2_with fail
    go_ret
    exact ⟨rfl, hb⟩


theorem contract (H : Type) (enc : TypeId × Value → H) (W : World) (base : Nat) (args : Array Value) (ds gs : List (DataW H)) (before : List MemPlace)
    (hval0 : ∀ (j : Nat) t v, Tryd.f3.params[j]? = some t → args[j]? = some v → Value.okWide Tryd.prog W .any base t v)
    (hW : DataW.Whole enc Tryd.prog Tryd.f3.params.toList Rows.brushStrokesSpec.vars false W args.toList ds gs before)
    (hsz0 : ((DataW.weightsEach Tryd.checked.prog (Tryd.f3.params.toList ++ DataSpec.varTypes Tryd.checked.prog (OpenSpec.ofChange Rows.brushStrokesSpec).bare.plain) (ds ++ gs)).all fun x => decide (x ≤ reachBytes)) = true) (hL : laidMetH Tryd.prog Rows.brushStrokesRow.laid W) :
    Calls Tryd.prog 3 args W fun e W' => ∃ v, e = .returned v ∧ Rows.brushStrokesSpec.post enc Tryd.prog Tryd.f3 false true false false W args v W' := by
  have hval : ∀ (j : Nat) t v, Tryd.f3.params[j]? = some t → args[j]? = some v → Value.okWide Tryd.prog W .any base t v := hval0
  have hW' := hW
  obtain ⟨p, q, hA0, hV, rfl, hfz, hnd⟩ := hW
  have hA : DataW.TrodAll enc Tryd.prog W 0 (fun _ => true) true Tryd.f3.params.toList args.toList ds p := hA0
  rw [Tryd.params3] at hA hval
  have hAll := hA
  obtain ⟨v0, vs0, d0, ds0, p0, q0, hargs, rfl, rfl, h0, r0⟩ := trodAll_cons hA
  obtain ⟨rfl, rfl, rfl⟩ := trodAll_nil r0
  obtain rfl : args = #[v0] := by cases args; simp_all
  obtain ⟨rfl, rfl⟩ := trodVars_none hV
  have hsz : (DataW.weightsEach Tryd.prog [29] [d0]).all (· ≤ reachBytes) = true := hsz0
  clear hA0 hval0 hsz0
  have hAll' : DataW.TrodAll enc Tryd.prog W 0 (fun _ => true) true [29] [v0] [d0] _ := hAll
  clear hAll
  have hargsBack : ∀ W' : World, Below W.heap.size W W' → DataW.TrodAll enc Tryd.prog W' 0 (fun b => decide (b < W.heap.size)) true [29] [v0] [d0] _ := fun W' bel => belowTrodAll laidK bel _ _ _ _ (by kernel_rfl) hAll'
  have hc : Calls Tryd.prog 3 #[v0] W fun e w' => e = .returned (.bool true) ∧ Below W.heap.size W w' := by
    clear hargsBack hAll' hW'
    obtain ⟨B0, u0, lv0, ls0, aw0, ah0, rfl, hD0, hL0⟩ := openArea (hval 0 29 v0 rfl rfl) h0
    exact walk B0 u0 lv0 ls0 aw0 ah0 W (sines_of hL) hD0 hL0
  refine hc.mono fun e W' ⟨he, bel⟩ => ?_
  subst he
  exact ⟨_, rfl, _, _, _, [], _, [], hW', trodAll_mk1 (shut_bool Tryd.underlying4 _), hargsBack W' bel, rfl, bel.frame _, fun h => by cases h⟩

noncomputable def laidWorld (os : Os) : World :=
  { World.holding Tryd.prog os ⟨#[], #[], []⟩ with heap := (World.holding Tryd.prog os ⟨#[], #[], []⟩).heap.modify 0 fun
      | .cells _ t frozen => .cells (sinTab.map fun z => Value.int .i64 z).toArray t frozen
      | o => o }
theorem laid_met (os : Os) : laidMet Tryd.prog Rows.brushStrokesRow.laid ((laidWorld os).forCall (fun _ _ => 0) ⟨#[], #[.agg #[.int .i64 0, .int .i64 0, .int .i64 0, .int .i64 0, .int .i64 0, .int .i64 0, .int .i64 0, .int .i64 0, .int .i64 0, .int .i64 0, .int .i64 0, .int .i64 0, .int .i64 0, .int .i64 0, .slice none 0 0, .bool false, .slice none 0 0, .int .i64 0, .int .i64 0]], []⟩).memory :=
  laidMet_of_run' 8 (by kernel_rfl) (by kernel_rfl)
theorem reads (os : Os) {H : Type} (enc : TypeId × Value → H) : ∃ places, DataW.whole enc Tryd.prog ((laidWorld os).forCall (fun _ _ => 0) ⟨#[], #[.agg #[.int .i64 0, .int .i64 0, .int .i64 0, .int .i64 0, .int .i64 0, .int .i64 0, .int .i64 0, .int .i64 0, .int .i64 0, .int .i64 0, .int .i64 0, .int .i64 0, .int .i64 0, .int .i64 0, .slice none 0 0, .bool false, .slice none 0 0, .int .i64 0, .int .i64 0]], []⟩).memory Tryd.f3.params.toList Rows.brushStrokesSpec.vars false (#[.agg #[.int .i64 0, .int .i64 0, .int .i64 0, .int .i64 0, .int .i64 0, .int .i64 0, .int .i64 0, .int .i64 0, .int .i64 0, .int .i64 0, .int .i64 0, .int .i64 0, .int .i64 0, .int .i64 0, .slice none 0 0, .bool false, .slice none 0 0, .int .i64 0, .int .i64 0]] : Array Value).toList 8 = some ([.agg [.agg [.lit (.int .i64 0), .lit (.int .i64 0), .lit (.int .i64 0), .lit (.int .i64 0), .lit (.int .i64 0), .lit (.int .i64 0), .lit (.int .i64 0), .lit (.int .i64 0), .lit (.int .i64 0), .agg [.lit (.int .i64 0), .lit (.int .i64 0), .lit (.int .i64 0), .lit (.int .i64 0)], .lit (.int .i64 0), .nil, .lit (.bool false)], .nil, .lit (.int .i64 0), .lit (.int .i64 0)]], [], places) :=
  ⟨[], by kernel_rfl⟩
set_option maxRecDepth 100000 in
theorem lifted (os : Os) (started : os.Started) (H : Type) (enc : TypeId × Value → H) (F : Stop.Interp) :
    ReturnsInHanded {} Tryd.checked os 3 .any ((OpenSpec.ofChange Rows.brushStrokesSpec).preRow enc Tryd.prog Tryd.f3 Rows.brushStrokesRow.domain false Rows.brushStrokesRow.laid) (((OpenSpec.ofChange Rows.brushStrokesSpec).at F).post enc Tryd.prog Tryd.f3 false true false false) := by
  obtain ⟨places, hx⟩ := reads os enc
  refine returnsInHanded_of_row (C := Tryd.checked) (s := OpenSpec.ofChange Rows.brushStrokesSpec) ownK started (by kernel_rfl) Tryd.func3
    (witness_row_at (enc := enc) (C := Tryd.checked) false (laidWorld os) #[.agg #[.int .i64 0, .int .i64 0, .int .i64 0, .int .i64 0, .int .i64 0, .int .i64 0, .int .i64 0, .int .i64 0, .int .i64 0, .int .i64 0, .int .i64 0, .int .i64 0, .int .i64 0, .int .i64 0, .slice none 0 0, .bool false, .slice none 0 0, .int .i64 0, .int .i64 0]] rfl (by kernel_rfl) (by kernel_rfl) (by kernel_rfl)
      (OpenSpec.preRow_of_cond 8 hx (by kernel_rfl) (fun k hk => by cases hk) (by kernel_rfl) (laid_met os))) ?_
  intro W base args ds gs before hval hW _ _ hsz hL _ _
  exact contract H enc W base args ds gs before hval hW hsz hL
theorem said : Rows.BrushStrokesSaid :=
  OpenClaim.holds_of_cond 3 Tryd.f3 rfl rfl rfl rfl rfl rfl rfl ⟨rfl, rfl, rfl, rfl, rfl⟩ rfl rfl rfl rfl rfl (by kernel_rfl) Tryd.func3 (by kernel_rfl)
    (of_decide_eq_true (by kernel_rfl)) (by unfold Func.isWrapper; first | (rw [if_pos (by decide +kernel)]; kernel_rfl) | (rw [if_neg (by decide +kernel)]; exact ⟨rfl, rfl⟩))
    (fun os started H enc _ F => by rw [OpenClaim.pre_eq_preRow]; exact lifted os started H enc F)
theorem plain (f : FuncId) (fn : Func) (hf : Tryd.pinned.checked.prog.funcNamed "imageeditor/imageeditorlaw28.BrushStrokes" = some f) (hfn : Tryd.pinned.checked.prog.funcs[f]? = some fn) :
    false = Tryd.pinned.checked.prog.looks [] ∧ ∀ (j : Nat) t, fn.params[j]? = some t → Tryd.pinned.checked.prog.wantsStandIn t = false := by
  obtain rfl : f = 3 := Option.some.inj ((show Tryd.prog.funcNamed "imageeditor/imageeditorlaw28.BrushStrokes" = some 3 by kernel_rfl).symm.trans hf) |>.symm
  obtain rfl : fn = Tryd.f3 := (Option.some.inj (Tryd.func3.symm.trans hfn)).symm
  refine ⟨by kernel_rfl, fun j t ht => ?_⟩
  rw [Tryd.params3] at ht
  have hm : t = 29 := by simpa [or_assoc] using Array.mem_of_getElem? ht
  rcases hm with rfl
  · exact (show Tryd.prog.wantsStandIn 29 = false by kernel_rfl)
theorem proved : Rows.BrushStrokesCardSaid :=
  Claim7.holds_tied_plain_at .later [] _ _ _ _ said (fun _ h => by cases h) (by kernel_rfl) (fun _ h => by cases h) brushStrokes_row_tie rfl ⟨rfl, rfl⟩ (by kernel_rfl) rfl plain (by kernel_rfl)

end Go.Proofs.YtjaidcdkkgnfoaaDoor.brushStrokes

