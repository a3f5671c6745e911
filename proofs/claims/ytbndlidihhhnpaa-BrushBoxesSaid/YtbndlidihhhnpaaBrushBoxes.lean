/- BrushBoxes: the box of any dabs is what its reference gives, for every list of dabs. -/
import Derived.Test.YtbndlidihhhnpaaBrBox
import Derived.Test.YtbndlidihhhnpaaBrEx
import Derived.Test.YtbndlidihhhnpaaBrOpen
namespace Go.Proofs.Ytbndlidihhhnpaa.brushBoxes
open Go.ChangeShapes Go.WideShapes Go.ChangeAt Go.RowKit
set_option linter.unusedVariables false
attribute [local go_sem] Oper.gAt gUponK Oper.sAt stilK

set_option maxHeartbeats 4000000 in
theorem walk (v : Value) (ds : List Dab) (w : World) (hd : Bm w v ds) :
    Calls Try.prog 6 #[v] w fun e w' => e = .returned (.bool true) ∧ Below w.heap.size w w' := by
  have HD := Lib.hid hd
  obtain ⟨a, cap, rfl⟩ := Qn.slice hd
  have B1 := Lib.hid (fun w h => brBox_any (.slice a ds.length cap) ds w h)
  have B2 := Lib.hid (fun w h => refBrBox_any (.slice a ds.length cap) ds w h)
  have EX := Lib.hid example_any
  clear hd
  generalize bbox ds = r at *
  obtain ⟨r0', r1, r2, r3⟩ := r
  replace B1 : Hid (∀ w, Bm w (.slice a ds.length cap) ds → Calls Try.prog 20 #[.slice a ds.length cap] w fun e w' => e = .returned (.agg #[.int .i64 r0', .int .i64 r1, .int .i64 r2, .int .i64 r3]) ∧ Below w.heap.size w w') := B1
  replace B2 : Hid (∀ w, Bm w (.slice a ds.length cap) ds → Calls Try.prog 21 #[.slice a ds.length cap] w fun e w' => e = .returned (.agg #[.int .i64 r0', .int .i64 r1, .int .i64 r2, .int .i64 r3]) ∧ Below w.heap.size w w') := B2
  generalize ds.length = n at *
  go_enter Try.func6, Try.ntmps6
  go_wp2_with fail
  refine (B1.out _ HD.out).mono ?_
  rintro e W1 ⟨rfl, hb⟩
  go_wp2_with fail
  refine (B2.out _ (HD.out.kept hb)).mono ?_
  rintro e W2 ⟨rfl, hS⟩
  replace hb := hb.trans (hS.mono hb.size)
  clear hS
  go_wp2_with fail
  refine (EX.out _).mono ?_
  rintro e W3 ⟨rfl, hS⟩
  replace hb := hb.trans (hS.mono hb.size)
  go_wp2_with fail
  go_ret
  exact ⟨rfl, hb⟩


set_option maxRecDepth 100000 in
theorem lifted (os : Os) (started : os.Started) (H : Type) (enc : TypeId × Value → H) :
    ReturnsInHanded {} Try.checked os 6 .any (Rows.brushBoxesSpec.pre6 enc Try.prog Try.f6 Rows.brushBoxesRow.domain false) (Rows.brushBoxesSpec.post enc Try.prog Try.f6 false true false false) := by
  refine returnsInHanded_of_change_sized (C := Try.checked) ownK started (by kernel_rfl) Try.func6
    (ChangeSpec.witness6 (enc := enc) (C := Try.checked) false ⟨#[], #[.slice none 0 0], []⟩ 8 (by kernel_rfl) (by kernel_rfl) (by kernel_rfl) (by kernel_rfl)) ?_
  intro W base args ds gs before hval0 hW hcnd hsz0 _
  have hval : ∀ (j : Nat) t v, Try.f6.params[j]? = some t → args[j]? = some v → Value.okWide Try.prog W .any base t v := hval0
  have hW' := hW
  obtain ⟨p, q, hA0, hV, rfl, hfz, hnd⟩ := hW
  have hA : DataW.TrodAll enc Try.prog W 0 (fun _ => true) true Try.f6.params.toList args.toList ds p := hA0
  rw [Try.params6] at hA hval
  have hAll := hA
  obtain ⟨v0, vs0, d0, ds0, p0, q0, hargs, rfl, rfl, h0, r0⟩ := trodAll_cons hA
  obtain ⟨rfl, rfl, rfl⟩ := trodAll_nil r0
  obtain rfl : args = #[v0] := by cases args; simp_all
  obtain ⟨rfl, rfl⟩ := trodVars_none hV
  have hsz : (DataW.weightsEach Try.prog [43] [d0]).all (· ≤ reachBytes) = true := hsz0
  clear hA0 hval0 hsz0
  have hAll' : DataW.TrodAll enc Try.prog W 0 (fun _ => true) true [43] [v0] [d0] _ := hAll
  clear hAll
  have hargsBack : ∀ W' : World, Below W.heap.size W W' → DataW.TrodAll enc Try.prog W' 0 (fun b => decide (b < W.heap.size)) true [43] [v0] [d0] _ := fun W' bel => belowTrodAll laidK bel _ _ _ _ (by kernel_rfl) hAll'
  have hc : Calls Try.prog 6 #[v0] W fun e w' => e = .returned (.bool true) ∧ Below W.heap.size W w' := by
    clear hargsBack hAll' hW'
    obtain ⟨ds0, hd0⟩ := openDbs (hval 0 43 v0 rfl rfl) h0
    exact walk v0 ds0 W hd0
  refine hc.mono fun e W' ⟨he, bel⟩ => ?_
  subst he
  exact ⟨_, rfl, _, _, _, [], _, [], hW', trodAll_mk1 (shut_bool Try.underlying4 _), hargsBack W' bel, rfl, bel.frame _, fun h => by cases h⟩

theorem over : Rows.brushBoxesRow.holds Try.pinned (OpenSpec.ofChange Rows.brushBoxesSpec) :=
  OpenClaim.holds_of_wide 6 Try.f6 rfl rfl rfl rfl rfl rfl rfl ⟨rfl, rfl, rfl, rfl, rfl⟩ rfl rfl rfl rfl rfl (by kernel_rfl) Try.func6 (by kernel_rfl)
    (of_decide_eq_true (by kernel_rfl)) (by unfold Func.isWrapper; first | (rw [if_pos (by decide +kernel)]; kernel_rfl) | (rw [if_neg (by decide +kernel)]; exact ⟨rfl, rfl⟩))
    (fun os started H enc _ => lifted os started H enc)

theorem proved : Rows.BrushBoxesSaid := over

end Go.Proofs.Ytbndlidihhhnpaa.brushBoxes
