/- DynamicsMore: one more element at the end changes Value only if it has the target, and then by the factor that it contributes; an element whose curve is Unit everywhere changes nothing; for every list and arguments. -/
import Derived.Test.YtjaidcdkkgnfoaaDynMoreJ
namespace Go.Proofs.Ytjaidcdkkgnfoaa.dynamicsMore
open Go.ChangeShapes Go.WideShapes Go.ChangeAt Go.RowKit
set_option linter.unusedVariables false

theorem walk (aa : Option Addr) (cap : Nat) (ds : Dyns) (dt dk : Int) (dv : Value) (ks : Knots) (a2 x y p t m a4 a5 : Int) (w : World) (ha : aa = none → ds.length = 0 ∧ cap = 0) (hd : Dn w (.slice aa ds.length cap) ds) (hz : ds.length * 40 ≤ 140737488351232) (hk : Kn w dv ks) (_ : (Lit.int .i64 a2).wf = true) (_ : (Lit.int .i64 a4).wf = true) (_ : (Lit.int .i64 a5).wf = true) :
    Calls Try.prog 3 #[.slice aa ds.length cap, .agg #[.int .i64 dt, .int .i64 dk, dv], .int .i64 a2, sv x y p t m, .int .i64 a4, .int .i64 a5] w fun e w' => e = .returned (.bool true) ∧ Below w.heap.size w w' :=
  more_go aa cap ds dt dk dv ks a2 a4 a5 x y p t m w ha hd hz hk


set_option maxRecDepth 100000 in
theorem lifted (os : Os) (started : os.Started) (H : Type) (enc : TypeId × Value → H) :
    ReturnsInHanded {} Try.checked os 3 .any (Rows.dynamicsMoreSpec.pre6 enc Try.prog Try.f3 Rows.dynamicsMoreRow.domain false) (Rows.dynamicsMoreSpec.post enc Try.prog Try.f3 false true false false) := by
  refine returnsInHanded_of_change_sized (C := Try.checked) ownK started (by kernel_rfl) Try.func3
    (ChangeSpec.witness6 (enc := enc) (C := Try.checked) false ⟨#[], #[.slice none 0 0, .agg #[.int .i64 0, .int .i64 0, .slice none 0 0], .int .i64 0, .agg #[.int .i64 0, .int .i64 0, .int .i64 0, .int .i64 0, .int .i64 0], .int .i64 0, .int .i64 0], []⟩ 8 (by kernel_rfl) (by kernel_rfl) (by kernel_rfl) (by kernel_rfl)) ?_
  intro W base args ds gs before hval0 hW hcnd hsz0 _
  have hval : ∀ (j : Nat) t v, Try.f3.params[j]? = some t → args[j]? = some v → Value.okWide Try.prog W .any base t v := hval0
  have hW' := hW
  obtain ⟨p, q, hA0, hV, rfl, hfz, hnd⟩ := hW
  have hA : DataW.TrodAll enc Try.prog W 0 (fun _ => true) true Try.f3.params.toList args.toList ds p := hA0
  rw [Try.params3] at hA hval
  have hAll := hA
  obtain ⟨v0, vs0, d0, ds0, p0, q0, hargs, rfl, rfl, h0, r0⟩ := trodAll_cons hA
  obtain ⟨v1, vs1, d1, ds1, p1, q1, rfl, rfl, rfl, h1, r1⟩ := trodAll_cons r0
  obtain ⟨v2, vs2, d2, ds2, p2, q2, rfl, rfl, rfl, h2, r2⟩ := trodAll_cons r1
  obtain ⟨v3, vs3, d3, ds3, p3, q3, rfl, rfl, rfl, h3, r3⟩ := trodAll_cons r2
  obtain ⟨v4, vs4, d4, ds4, p4, q4, rfl, rfl, rfl, h4, r4⟩ := trodAll_cons r3
  obtain ⟨v5, vs5, d5, ds5, p5, q5, rfl, rfl, rfl, h5, r5⟩ := trodAll_cons r4
  obtain ⟨rfl, rfl, rfl⟩ := trodAll_nil r5
  obtain rfl : args = #[v0, v1, v2, v3, v4, v5] := by cases args; simp_all
  obtain ⟨rfl, rfl⟩ := trodVars_none hV
  have hsz : (DataW.weightsEach Try.prog [22, 25, 3, 27, 3, 3] [d0, d1, d2, d3, d4, d5]).all (· ≤ reachBytes) = true := hsz0
  clear hA0 hval0 hsz0
  have hAll' : DataW.TrodAll enc Try.prog W 0 (fun _ => true) true [22, 25, 3, 27, 3, 3] [v0, v1, v2, v3, v4, v5] [d0, d1, d2, d3, d4, d5] _ := hAll
  clear hAll
  have hargsBack : ∀ W' : World, Below W.heap.size W W' → DataW.TrodAll enc Try.prog W' 0 (fun b => decide (b < W.heap.size)) true [22, 25, 3, 27, 3, 3] [v0, v1, v2, v3, v4, v5] [d0, d1, d2, d3, d4, d5] _ := fun W' bel => belowTrodAll laidK bel _ _ _ _ (by kernel_rfl) hAll'
  have hc : Calls Try.prog 3 #[v0, v1, v2, v3, v4, v5] W fun e w' => e = .returned (.bool true) ∧ Below W.heap.size W w' := by
    clear hargsBack hAll' hW'
    obtain ⟨aa0, cap0, ds0, rfl, ha0, hd0, hz0⟩ := openDynsZ (j := 0) hsz rfl rfl (hval 0 22 v0 rfl rfl) h0
    obtain ⟨dt1, dk1, dv1, ks1, rfl, hk1⟩ := openDyn (hval 1 25 v1 rfl rfl) h1
    obtain ⟨a2, rfl, rfl, rfl, w2⟩ := open_int Try.underlying3 (hval 2 3 v2 rfl rfl) h2
    obtain ⟨sx3, sy3, sp3, st3, sm3, rfl⟩ := openSample (hval 3 27 v3 rfl rfl) h3
    obtain ⟨a4, rfl, rfl, rfl, w4⟩ := open_int Try.underlying3 (hval 4 3 v4 rfl rfl) h4
    obtain ⟨a5, rfl, rfl, rfl, w5⟩ := open_int Try.underlying3 (hval 5 3 v5 rfl rfl) h5
    exact walk aa0 cap0 ds0 dt1 dk1 dv1 ks1 a2 sx3 sy3 sp3 st3 sm3 a4 a5 W ha0 hd0 hz0 hk1 w2 w4 w5
  refine hc.mono fun e W' ⟨he, bel⟩ => ?_
  subst he
  exact ⟨_, rfl, _, _, _, [], _, [], hW', trodAll_mk1 (shut_bool Try.underlying4 _), hargsBack W' bel, rfl, bel.frame _, fun h => by cases h⟩

theorem over : Rows.dynamicsMoreRow.holds Try.pinned (OpenSpec.ofChange Rows.dynamicsMoreSpec) :=
  OpenClaim.holds_of_wide 3 Try.f3 rfl rfl rfl rfl rfl rfl rfl ⟨rfl, rfl, rfl, rfl, rfl⟩ rfl rfl rfl rfl rfl (by kernel_rfl) Try.func3 (by kernel_rfl)
    (of_decide_eq_true (by kernel_rfl)) (by unfold Func.isWrapper; first | (rw [if_pos (by decide +kernel)]; kernel_rfl) | (rw [if_neg (by decide +kernel)]; exact ⟨rfl, rfl⟩))
    (fun os started H enc _ => lifted os started H enc)

theorem proved : Rows.DynamicsMoreSaid := over

end Go.Proofs.Ytjaidcdkkgnfoaa.dynamicsMore

