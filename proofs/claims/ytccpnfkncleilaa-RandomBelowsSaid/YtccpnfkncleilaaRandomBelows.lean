/- RandomBelows: for every seed and all limits the numbers below a limit are those of the reference, in range, and grow with the limit. No conditions. -/
import Derived.Test.YtccpnfkncleilaaFrame
import Derived.Test.YtccpnfkncleilaaRandSrc
namespace Go.Proofs.Ytccpnfkncleilaa.randomBelows
open Go.ChangeShapes Go.WideShapes Go.ChangeAt Go.RowKit
set_option linter.unusedVariables false

set_option maxHeartbeats 400000 in
theorem walkMLo (a0 a1 a2 : Int) (w : World) (hm : a1 < a2) (hn : a1 < 1) (hA0 : 0 ≤ belowI a0 a1 0 a1) (hA1 : a1 < 1 ∨ belowI a0 a1 0 a1 < a1) (hA2 : a1 < 1 → belowI a0 a1 0 a1 = 0) (hU0 : 0 ≤ atI a0 a1 a2 / 65537) (hU1 : atI a0 a1 a2 / 65537 ≤ 65535) (hB : belowI a0 a1 0 a1 ≤ belowI a0 a1 0 a2) :
    Calls Try.prog 5 #[.int .i64 a0, .int .i64 a1, .int .i64 a2] w fun e w' => e = .returned (.bool true) ∧ Below w.heap.size w w' := by
  have hx : a1 < 1 := by omega
  clear hA1
  have hz := hA2 hn
  clear hA2
  have HZ := Lib.hid hz
  clear hz
  go_enter Try.func5, Try.ntmps5
  go_wp2_with fail
  refine (below_any _ _ _ _ _).mono ?_
  rintro e w' ⟨rfl, rfl⟩
  go_wp2_with fail
  refine (below_any _ _ _ _ _).mono ?_
  rintro e w' ⟨rfl, rfl⟩
  rw [HZ.out]
  go_wp2_with fail
  refine (unit_any _ _ _ _).mono ?_
  rintro e w' ⟨rfl, rfl⟩
  go_wp2_with fail
  refine (refBelow_any _ _ _ _ _).mono ?_
  rintro e w' ⟨rfl, rfl⟩
  rw [HZ.out]
  go_wp2_with fail
  refine (refBelow_any _ _ _ _ _).mono ?_
  rintro e w' ⟨rfl, rfl⟩
  go_wp2_with fail
  refine (example_any _).mono ?_
  rintro e w' ⟨rfl, hb⟩
  go_wp2_with fail
  go_ret
  exact ⟨rfl, hb⟩

set_option maxHeartbeats 400000 in
theorem walkMHi (a0 a1 a2 : Int) (w : World) (hm : a1 < a2) (hn : 1 ≤ a1) (hA0 : 0 ≤ belowI a0 a1 0 a1) (hA1 : a1 < 1 ∨ belowI a0 a1 0 a1 < a1) (hA2 : a1 < 1 → belowI a0 a1 0 a1 = 0) (hU0 : 0 ≤ atI a0 a1 a2 / 65537) (hU1 : atI a0 a1 a2 / 65537 ≤ 65535) (hB : belowI a0 a1 0 a1 ≤ belowI a0 a1 0 a2) :
    Calls Try.prog 5 #[.int .i64 a0, .int .i64 a1, .int .i64 a2] w fun e w' => e = .returned (.bool true) ∧ Below w.heap.size w w' := by
  have hx : belowI a0 a1 0 a1 < a1 := by omega
  clear hA1
  clear hA2
  go_enter Try.func5, Try.ntmps5
  go_wp2_with fail
  refine (below_any _ _ _ _ _).mono ?_
  rintro e w' ⟨rfl, rfl⟩
  go_wp2_with fail
  refine (below_any _ _ _ _ _).mono ?_
  rintro e w' ⟨rfl, rfl⟩
  go_wp2_with fail
  refine (unit_any _ _ _ _).mono ?_
  rintro e w' ⟨rfl, rfl⟩
  go_wp2_with fail
  refine (refBelow_any _ _ _ _ _).mono ?_
  rintro e w' ⟨rfl, rfl⟩
  go_wp2_with fail
  refine (refBelow_any _ _ _ _ _).mono ?_
  rintro e w' ⟨rfl, rfl⟩
  go_wp2_with fail
  refine (example_any _).mono ?_
  rintro e w' ⟨rfl, hb⟩
  go_wp2_with fail
  go_ret
  exact ⟨rfl, hb⟩

theorem walkM (a0 a1 a2 : Int) (w : World) (hm : a1 < a2) (hA0 : 0 ≤ belowI a0 a1 0 a1) (hA1 : a1 < 1 ∨ belowI a0 a1 0 a1 < a1) (hA2 : a1 < 1 → belowI a0 a1 0 a1 = 0) (hU0 : 0 ≤ atI a0 a1 a2 / 65537) (hU1 : atI a0 a1 a2 / 65537 ≤ 65535) (hB : belowI a0 a1 0 a1 ≤ belowI a0 a1 0 a2) :
    Calls Try.prog 5 #[.int .i64 a0, .int .i64 a1, .int .i64 a2] w fun e w' => e = .returned (.bool true) ∧ Below w.heap.size w w' := by
  by_cases hn : a1 < 1
  · exact walkMLo a0 a1 a2 w hm hn hA0 hA1 hA2 hU0 hU1 hB
  · exact walkMHi a0 a1 a2 w hm (by omega) hA0 hA1 hA2 hU0 hU1 hB

set_option maxHeartbeats 400000 in
theorem walkNLo (a0 a1 a2 : Int) (w : World) (hm : a2 ≤ a1) (hn : a1 < 1) (hA0 : 0 ≤ belowI a0 a1 0 a1) (hA1 : a1 < 1 ∨ belowI a0 a1 0 a1 < a1) (hA2 : a1 < 1 → belowI a0 a1 0 a1 = 0) (hU0 : 0 ≤ atI a0 a1 a2 / 65537) (hU1 : atI a0 a1 a2 / 65537 ≤ 65535)  :
    Calls Try.prog 5 #[.int .i64 a0, .int .i64 a1, .int .i64 a2] w fun e w' => e = .returned (.bool true) ∧ Below w.heap.size w w' := by
  have hx : a1 < 1 := by omega
  clear hA1
  have hz := hA2 hn
  clear hA2
  have HZ := Lib.hid hz
  clear hz
  go_enter Try.func5, Try.ntmps5
  go_wp2_with fail
  refine (below_any _ _ _ _ _).mono ?_
  rintro e w' ⟨rfl, rfl⟩
  go_wp2_with fail
  refine (below_any _ _ _ _ _).mono ?_
  rintro e w' ⟨rfl, rfl⟩
  rw [HZ.out]
  go_wp2_with fail
  refine (unit_any _ _ _ _).mono ?_
  rintro e w' ⟨rfl, rfl⟩
  go_wp2_with fail
  refine (refBelow_any _ _ _ _ _).mono ?_
  rintro e w' ⟨rfl, rfl⟩
  rw [HZ.out]
  go_wp2_with fail
  refine (refBelow_any _ _ _ _ _).mono ?_
  rintro e w' ⟨rfl, rfl⟩
  rw [HZ.out]
  go_wp2_with fail
  refine (example_any _).mono ?_
  rintro e w' ⟨rfl, hb⟩
  go_wp2_with fail
  go_ret
  exact ⟨rfl, hb⟩

set_option maxHeartbeats 400000 in
theorem walkNHi (a0 a1 a2 : Int) (w : World) (hm : a2 ≤ a1) (hn : 1 ≤ a1) (hA0 : 0 ≤ belowI a0 a1 0 a1) (hA1 : a1 < 1 ∨ belowI a0 a1 0 a1 < a1) (hA2 : a1 < 1 → belowI a0 a1 0 a1 = 0) (hU0 : 0 ≤ atI a0 a1 a2 / 65537) (hU1 : atI a0 a1 a2 / 65537 ≤ 65535)  :
    Calls Try.prog 5 #[.int .i64 a0, .int .i64 a1, .int .i64 a2] w fun e w' => e = .returned (.bool true) ∧ Below w.heap.size w w' := by
  have hx : belowI a0 a1 0 a1 < a1 := by omega
  clear hA1
  clear hA2
  go_enter Try.func5, Try.ntmps5
  go_wp2_with fail
  refine (below_any _ _ _ _ _).mono ?_
  rintro e w' ⟨rfl, rfl⟩
  go_wp2_with fail
  refine (below_any _ _ _ _ _).mono ?_
  rintro e w' ⟨rfl, rfl⟩
  go_wp2_with fail
  refine (unit_any _ _ _ _).mono ?_
  rintro e w' ⟨rfl, rfl⟩
  go_wp2_with fail
  refine (refBelow_any _ _ _ _ _).mono ?_
  rintro e w' ⟨rfl, rfl⟩
  go_wp2_with fail
  refine (refBelow_any _ _ _ _ _).mono ?_
  rintro e w' ⟨rfl, rfl⟩
  go_wp2_with fail
  refine (example_any _).mono ?_
  rintro e w' ⟨rfl, hb⟩
  go_wp2_with fail
  go_ret
  exact ⟨rfl, hb⟩

theorem walkN (a0 a1 a2 : Int) (w : World) (hm : a2 ≤ a1) (hA0 : 0 ≤ belowI a0 a1 0 a1) (hA1 : a1 < 1 ∨ belowI a0 a1 0 a1 < a1) (hA2 : a1 < 1 → belowI a0 a1 0 a1 = 0) (hU0 : 0 ≤ atI a0 a1 a2 / 65537) (hU1 : atI a0 a1 a2 / 65537 ≤ 65535)  :
    Calls Try.prog 5 #[.int .i64 a0, .int .i64 a1, .int .i64 a2] w fun e w' => e = .returned (.bool true) ∧ Below w.heap.size w w' := by
  by_cases hn : a1 < 1
  · exact walkNLo a0 a1 a2 w hm hn hA0 hA1 hA2 hU0 hU1 
  · exact walkNHi a0 a1 a2 w hm (by omega) hA0 hA1 hA2 hU0 hU1 

set_option maxHeartbeats 400000 in
theorem walk (a0 a1 a2 : Int) (w : World) (w0 : (Lit.int .i64 a0).wf = true) (w1 : (Lit.int .i64 a1).wf = true) (w2 : (Lit.int .i64 a2).wf = true) :
    Calls Try.prog 5 #[.int .i64 a0, .int .i64 a1, .int .i64 a2] w fun e w' => e = .returned (.bool true) ∧ Below w.heap.size w w' := by
  have hA0 := below_nonneg a0 a1 0 a1
  have hA1 : a1 < 1 ∨ belowI a0 a1 0 a1 < a1 := by
    by_cases h : a1 < 1
    · exact .inl h
    · exact .inr (below_bd a0 a1 0 a1 (by omega)).2
  have hA2 : a1 < 1 → belowI a0 a1 0 a1 = 0 := fun h => below_zero _ _ _ _ h
  have hU := at_bd a0 a1 a2
  have hU0 : 0 ≤ atI a0 a1 a2 / 65537 := by omega
  have hU1 : atI a0 a1 a2 / 65537 ≤ 65535 := by omega
  by_cases hm : a1 < a2
  · have hB := below_mono a0 a1 0 a1 a2 (by omega)
    exact walkM a0 a1 a2 w hm hA0 hA1 hA2 hU0 hU1 hB
  · exact walkN a0 a1 a2 w (by omega) hA0 hA1 hA2 hU0 hU1

set_option maxRecDepth 100000 in
theorem lifted (os : Os) (started : os.Started) (H : Type) (enc : TypeId × Value → H) :
    ReturnsInHanded {} Try.checked os 5 .any (Rows.randomBelowsSpec.pre6 enc Try.prog Try.f5 Rows.randomBelowsRow.domain false) (Rows.randomBelowsSpec.post enc Try.prog Try.f5 false true false false) := by
  refine returnsInHanded_of_change (C := Try.checked) ownK started (by kernel_rfl) Try.func5
    (ChangeSpec.witness6 (enc := enc) (C := Try.checked) false ⟨#[], #[.int .i64 0, .int .i64 0, .int .i64 0], []⟩ 8 (by kernel_rfl) (by kernel_rfl) (by kernel_rfl) (by kernel_rfl)) ?_
  intro W base args ds gs before hval0 hW hcnd _
  have hval : ∀ (j : Nat) t v, Try.f5.params[j]? = some t → args[j]? = some v → Value.okWide Try.prog W .any base t v := hval0
  have hW' := hW
  obtain ⟨p, q, hA0, hV, rfl, hfz, hnd⟩ := hW
  have hA : DataW.TrodAll enc Try.prog W 0 (fun _ => true) true Try.f5.params.toList args.toList ds p := hA0
  rw [Try.params5] at hA hval
  have hAll := hA
  obtain ⟨v0, vs0, d0, ds0, p0, q0, hargs, rfl, rfl, h0, r0⟩ := trodAll_cons hA
  obtain ⟨v1, vs1, d1, ds1, p1, q1, rfl, rfl, rfl, h1, r1⟩ := trodAll_cons r0
  obtain ⟨v2, vs2, d2, ds2, p2, q2, rfl, rfl, rfl, h2, r2⟩ := trodAll_cons r1
  obtain ⟨rfl, rfl, rfl⟩ := trodAll_nil r2
  obtain rfl : args = #[v0, v1, v2] := by cases args; simp_all
  obtain ⟨rfl, rfl⟩ := trodVars_none hV
  clear hA0 hval0
  have hAll' : DataW.TrodAll enc Try.prog W 0 (fun _ => true) true [3, 3, 3] [v0, v1, v2] [d0, d1, d2] _ := hAll
  clear hAll
  have hargsBack : ∀ W' : World, Below W.heap.size W W' → DataW.TrodAll enc Try.prog W' 0 (fun b => decide (b < W.heap.size)) true [3, 3, 3] [v0, v1, v2] [d0, d1, d2] _ := fun W' bel => belowTrodAll laidK bel _ _ _ _ (by kernel_rfl) hAll'
  have hc : Calls Try.prog 5 #[v0, v1, v2] W fun e w' => e = .returned (.bool true) ∧ Below W.heap.size W w' := by
    clear hargsBack hAll' hW'
    obtain ⟨a0, rfl, rfl, rfl, w0⟩ := open_int Try.underlying3 (hval 0 3 v0 rfl rfl) h0
    obtain ⟨a1, rfl, rfl, rfl, w1⟩ := open_int Try.underlying3 (hval 1 3 v1 rfl rfl) h1
    obtain ⟨a2, rfl, rfl, rfl, w2⟩ := open_int Try.underlying3 (hval 2 3 v2 rfl rfl) h2
    exact walk a0 a1 a2 W w0 w1 w2
  refine hc.mono fun e W' ⟨he, bel⟩ => ?_
  subst he
  exact ⟨_, rfl, _, _, _, [], _, [], hW', trodAll_mk1 (shut_bool Try.underlying4 _), hargsBack W' bel, rfl, bel.frame _, fun h => by cases h⟩

theorem over : Rows.randomBelowsRow.holds Try.pinned (OpenSpec.ofChange Rows.randomBelowsSpec) :=
  OpenClaim.holds_of_wide 5 Try.f5 rfl rfl rfl rfl rfl rfl rfl ⟨rfl, rfl, rfl, rfl, rfl⟩ rfl rfl rfl rfl rfl (by kernel_rfl) Try.func5 (by kernel_rfl)
    (of_decide_eq_true (by kernel_rfl)) (by unfold Func.isWrapper; first | (rw [if_pos (by decide +kernel)]; kernel_rfl) | (rw [if_neg (by decide +kernel)]; exact ⟨rfl, rfl⟩))
    (fun os started H enc _ => lifted os started H enc)

theorem proved : Rows.RandomBelowsSaid := over
end Go.Proofs.Ytccpnfkncleilaa.randomBelows
