/- GradientColors: for all parameters, stops and positions, Check and Color are the reference's. No conditions. -/
import Derived.Test.YtmejdhgknebbbaaFrame
import Derived.Test.YtmejdhgknebbbaaGAwake
import Derived.Test.YtmejdhgknebbbaaGOpen
namespace Go.Proofs.Ytmejdhgknebbbaa.gradientColors
open Go.ChangeShapes Go.WideShapes Go.ChangeAt Go.RowKit
set_option linter.unusedVariables false
attribute [local go_sem] Oper.gAt gUponK

set_option maxHeartbeats 1000000 in
theorem walk (kind : Int) (v : Value) (zs : List Int) (spread : Int) (u : Value) (ss : List St) (t : Int) (w : World) (w0 : (Lit.int .i64 kind).wf = true) (hz : Nn w v zs) (w2 : (Lit.int .i64 spread).wf = true) (hs : Sn w u ss) (w4 : (Lit.int .i64 t).wf = true) :
    Calls Try.prog 3 #[.int .i64 kind, v, .int .i64 spread, u, .int .i64 t] w fun e w' => e = .returned (.bool true) ∧ Below w.heap.size w w' := by
  clear w0 w2 w4
  have HN := Lib.hid hz
  have HS := Lib.hid hs
  have A1 := Lib.hid (fun w h hs => Check_any kind spread v u zs ss w h hs)
  have A2 := Lib.hid (fun w h hs => refCheck_any kind spread v u zs ss w h hs)
  have A3 := Lib.hid (fun w hs => Color_any u ss t w hs)
  have A4 := Lib.hid (fun w hs => refColor_any u ss t w hs)
  obtain ⟨a, cap, rfl, _⟩ := hz.slice
  obtain ⟨a', cap', rfl, _⟩ := hs.slice
  clear hz hs
  generalize gChk kind zs spread ss = E at *
  generalize gcol ss t = q at *
  obtain ⟨q0, q1, q2, q3⟩ := q
  simp only [pvx] at A3 A4
  generalize zs.length = n at *
  generalize ss.length = n' at *
  go_enter Try.func3, Try.ntmps3
  go_wp2_with fail
  refine (A1.out _ HN.out HS.out).mono ?_
  rintro e W1 ⟨rfl, hb⟩
  go_wp2_with fail
  refine (A2.out _ (HN.out.kept hb) (HS.out.kept hb)).mono ?_
  rintro e W2 ⟨rfl, hS⟩
  replace hb := hb.trans (hS.mono hb.size)
  clear hS
  go_wp2_with fail
  refine (A3.out _ (HS.out.kept hb)).mono ?_
  rintro e W3 ⟨rfl, hS⟩
  replace hb := hb.trans (hS.mono hb.size)
  clear hS
  go_wp2_with fail
  refine (A4.out _ (HS.out.kept hb)).mono ?_
  rintro e W4 ⟨rfl, hS⟩
  replace hb := hb.trans (hS.mono hb.size)
  clear hS
  go_wp2_with fail
  refine (awake_any _).mono ?_
  rintro e W5 ⟨rfl, hS⟩
  replace hb := hb.trans (hS.mono hb.size)
  go_wp2_with fail
  go_ret
  exact ⟨ret_bool (by simp), hb⟩

set_option maxRecDepth 100000 in
theorem lifted (os : Os) (started : os.Started) (H : Type) (enc : TypeId × Value → H) :
    ReturnsInHanded {} Try.checked os 3 .any (Rows.gradientColorsSpec.pre6 enc Try.prog Try.f3 Rows.gradientColorsRow.domain false) (Rows.gradientColorsSpec.post enc Try.prog Try.f3 false true false false) := by
  refine returnsInHanded_of_change_sized (C := Try.checked) ownK started (by kernel_rfl) Try.func3
    (ChangeSpec.witness6 (enc := enc) (C := Try.checked) false ⟨#[], #[.int .i64 0, .slice none 0 0, .int .i64 0, .slice none 0 0, .int .i64 0], []⟩ 8 (by kernel_rfl) (by kernel_rfl) (by kernel_rfl) (by kernel_rfl)) ?_
  intro W base args ds gs before hval0 hW hcnd hsz0 _
  have hval : ∀ (j : Nat) t v, Try.f3.params[j]? = some t → args[j]? = some v → Value.okWide Try.prog W .any base t v := hval0
  have hW' := hW
  obtain ⟨p, q, hA0, hV, rfl, hfz, hnd⟩ := hW
  have hA : DataW.TrodAll enc Try.prog W 0 (fun _ => true) true Try.f3.params.toList args.toList ds p := hA0
  rw [Try.params3] at hA hval
  have hAll := hA
  obtain ⟨v0, vs0, d0, ds0, p0, q0, hargs, rfl, rfl, h0, r0⟩ := trodAll_cons hA
  obtain ⟨v1, vs1, d1, ds1, p1, q1, rfl, rfl, rfl, h1, r1⟩ := trodAll_cons r0
  obtain ⟨v2, vs2, d2, ds2, p2, q2, rfl, rfl, rfl, h2, r2⟩ := trodAll_cons r1
  obtain ⟨v3, vs3, d3, ds3, p3, q3, rfl, rfl, rfl, h3, r3⟩ := trodAll_cons r2
  obtain ⟨v4, vs4, d4, ds4, p4, q4, rfl, rfl, rfl, h4, r4⟩ := trodAll_cons r3
  obtain ⟨rfl, rfl, rfl⟩ := trodAll_nil r4
  obtain rfl : args = #[v0, v1, v2, v3, v4] := by cases args; simp_all
  obtain ⟨rfl, rfl⟩ := trodVars_none hV
  have hsz : (DataW.weightsEach Try.prog [3, 22, 3, 23, 3] [d0, d1, d2, d3, d4]).all (· ≤ reachBytes) = true := hsz0
  clear hA0 hval0 hsz0
  have hAll' : DataW.TrodAll enc Try.prog W 0 (fun _ => true) true [3, 22, 3, 23, 3] [v0, v1, v2, v3, v4] [d0, d1, d2, d3, d4] _ := hAll
  clear hAll
  have hargsBack : ∀ W' : World, Below W.heap.size W W' → DataW.TrodAll enc Try.prog W' 0 (fun b => decide (b < W.heap.size)) true [3, 22, 3, 23, 3] [v0, v1, v2, v3, v4] [d0, d1, d2, d3, d4] _ := fun W' bel => belowTrodAll laidK bel _ _ _ _ (by kernel_rfl) hAll'
  have hc : Calls Try.prog 3 #[v0, v1, v2, v3, v4] W fun e w' => e = .returned (.bool true) ∧ Below W.heap.size W w' := by
    clear hargsBack hAll' hW'
    obtain ⟨a0, rfl, rfl, rfl, w0⟩ := open_int Try.underlying3 (hval 0 3 v0 rfl rfl) h0
    obtain ⟨zs1, hz1⟩ := openNn (hval 1 22 v1 rfl rfl) h1
    obtain ⟨a2, rfl, rfl, rfl, w2⟩ := open_int Try.underlying3 (hval 2 3 v2 rfl rfl) h2
    obtain ⟨ss3, hs3⟩ := openStops (hval 3 23 v3 rfl rfl) h3
    obtain ⟨a4, rfl, rfl, rfl, w4⟩ := open_int Try.underlying3 (hval 4 3 v4 rfl rfl) h4
    exact walk a0 v1 zs1 a2 v3 ss3 a4 W w0 hz1 w2 hs3 w4
  refine hc.mono fun e W' ⟨he, bel⟩ => ?_
  subst he
  exact ⟨_, rfl, _, _, _, [], _, [], hW', trodAll_mk1 (shut_bool Try.underlying4 _), hargsBack W' bel, rfl, bel.frame _, fun h => by cases h⟩

theorem over : Rows.gradientColorsRow.holds Try.pinned (OpenSpec.ofChange Rows.gradientColorsSpec) :=
  OpenClaim.holds_of_wide 3 Try.f3 rfl rfl rfl rfl rfl rfl rfl ⟨rfl, rfl, rfl, rfl, rfl⟩ rfl rfl rfl rfl rfl (by kernel_rfl) Try.func3 (by kernel_rfl)
    (of_decide_eq_true (by kernel_rfl)) (by unfold Func.isWrapper; first | (rw [if_pos (by decide +kernel)]; kernel_rfl) | (rw [if_neg (by decide +kernel)]; exact ⟨rfl, rfl⟩))
    (fun os started H enc _ => lifted os started H enc)

theorem proved : Rows.GradientColorsSaid := over

end Go.Proofs.Ytmejdhgknebbbaa.gradientColors
