/- DynamicsBounds: Speed, Source and Value are unit values, fading does not rise, chance depends on index and seed alone, for all arguments. No conditions. -/
import Derived.Test.YtnnginappckfcaaDynAwake
import Derived.Test.YtnnginappckfcaaDynOpen
namespace Go.Proofs.Ytnnginappckfcaa.dynamicsBounds
open Go.ChangeShapes Go.WideShapes Go.ChangeAt Go.RowKit
set_option linter.unusedVariables false
attribute [local go_sem] Oper.gAt gUponK

theorem wf_bd (a : Int) (h : (Lit.int .i64 a).wf = true) : -9223372036854775808 ≤ a ∧ a ≤ 9223372036854775807 := by
  simp only [Lit.wf, Bool.and_eq_true, decide_eq_true_eq] at h
  exact h
theorem dfrom_bd (ds : Dyns) (target : Int) (f : Int → Int) : ∀ (m i : Nat) (v : Int), 0 ≤ v ∧ v ≤ 65535 → 0 ≤ dfrom ds target f m i v ∧ dfrom ds target f m i v ≤ 65535
  | 0, _, _, h => h
  | m + 1, i, v, h => dfrom_bd ds target f m (i + 1) _ (dstep_bd ds target f i v h)
theorem dvalue_bd (ds : Dyns) (target : Int) (f : Int → Int) : 0 ≤ dvalue ds target f ∧ dvalue ds target f ≤ 65535 := by
  unfold dvalue
  split
  · exact dfrom_bd _ _ _ _ _ _ (by omega)
  · omega
theorem spd_bd (ax ay at_ bx by_ bt : Int) : 0 ≤ spd ax ay at_ bx by_ bt ∧ spd ax ay at_ bx by_ bt ≤ 65535 := by
  unfold spd
  split
  · omega
  · exact cl_bd _
theorem fade_falls (p t p' t' i : Int) : src 5 p t 0 (i + 1) 0 ≤ src 5 p' t' 0 i 0 := by
  rw [src_5, src_5]; omega

set_option maxHeartbeats 1000000 in
theorem walk (v0 : Value) (ds : Dyns) (kind target a0 a1 a2 a3 a4 b0 b1 b2 b3 b4 speed index seed : Int) (w : World) (hd : Dn w v0 ds) (w1 : (Lit.int .i64 kind).wf = true) (w2 : (Lit.int .i64 target).wf = true) (w3 : (Lit.int .i64 speed).wf = true) (w4 : (Lit.int .i64 index).wf = true) (w5 : (Lit.int .i64 seed).wf = true) :
    Calls Try.prog 8 #[v0, .int .i64 kind, .int .i64 target, sv a0 a1 a2 a3 a4, sv b0 b1 b2 b3 b4, .int .i64 speed, .int .i64 index, .int .i64 seed] w fun e w' => e = .returned (.bool true) ∧ Below w.heap.size w w' := by
  have hix := wf_bd index w4
  clear w1 w2 w3 w4 w5
  have HD := Lib.hid hd
  obtain ⟨a, cap, rfl, _, _⟩ := hd
  generalize ds.length = n at *
  have b1' := spd_bd a0 a1 a4 b0 b1 b4
  have b2' := src_bd kind a2 a3 speed index seed
  have b3' := dvalue_bd ds target (fun k => src k a2 a3 speed index seed)
  have hff := fade_falls a2 a3 b2 b3 index
  have HR : Hid (src 4 a2 a3 speed index seed = src 4 b2 b3 0 index seed) := rfl
  by_cases hi : index < 9223372036854775807
  · have g1 : decide (index < 9223372036854775807) = true := by simpa using hi
    have e1 : IntKind.i64.wrap (index + 1) = index + 1 := IntWalk.i64_in _ (by omega)
    go_enter Try.func8, Try.ntmps8
    go_wp2
    refine name2 (fun W k1 k2 hb => ?_)
    refine wp_region_grow 19 (fun w' => Below (World.heap W).size W w') (by kernel_rfl) (by kernel_rfl) (Below.refl _ _).drew ?_
    simp only [List.take_succ_cons, List.take_zero, List.drop_succ_cons, List.drop_zero]
    repeat (first | (apply wpG_on; rfl; (intro w' hS K hK; have hc0 := (k1.kept hS).c5; have hc1 := (k2.kept hS).c5; go_simp; (first | exact hK.out _ hS | (go_at_call 13; (with_reducible refine (speed_any _ _ _ _ _ _ _ _ _ _ _).mono ?_); rintro e w'' ⟨rfl, hbb⟩; exact ⟨_, rfl, hK.out _ (hS.trans (hbb.mono hS.size))⟩) | (go_at_call 15; (with_reducible refine (source_any _ _ _ _ _ _ _ _ _ _).mono ?_); rintro e w'' ⟨rfl, hbb⟩; exact ⟨_, rfl, hK.out _ (hS.trans (hbb.mono hS.size))⟩) | (go_at_call 17; (with_reducible refine (dynValue_any _ ds _ _ _ _ _ _ _ _ _ _ (HD.out.kept (hb.trans (hS.mono hb.size)))).mono ?_); rintro e w'' ⟨rfl, hbb⟩; exact ⟨_, rfl, hK.out _ (hS.trans (hbb.mono hS.size))⟩))); simp only [Act.put, List.setIfInBounds_toArray, List.set_cons_succ, List.set_cons_zero]) | (apply wpG_off; rfl; simp only [Act.put, List.setIfInBounds_toArray, List.set_cons_succ, List.set_cons_zero]))
    apply wpG_nil
    intro W1 hS
    replace k1 := k1.kept hS
    replace k2 := k2.kept hS
    replace hb := hb.trans (hS.mono hb.size)
    clear hS
    clear e1
    generalize spd a0 a1 a4 b0 b1 b4 = q1 at *
    generalize src kind a2 a3 speed index seed = q2 at *
    generalize dvalue ds target (fun k => src k a2 a3 speed index seed) = q3 at *
    go_wp2_with fail
    refine (awake_any _).mono ?_
    rintro e W2 ⟨rfl, hS⟩
    replace k1 := k1.kept hS
    replace k2 := k2.kept hS
    replace hb := hb.trans (hS.mono hb.size)
    clear hS
    go_wp2_with fail
    have e1 : IntKind.i64.wrap (index + 1) = index + 1 := IntWalk.i64_in _ (by omega)
    have g2 : decide (src 5 a2 a3 0 (index + 1) 0 > src 5 b2 b3 0 index 0) = false := by simp; exact hff
    have g3 : decide (src 5 b2 b3 0 index 0 < src 5 a2 a3 0 (index + 1) 0) = false := by simp; exact hff
    refine wp_region_grow 12 (fun w' => Below (World.heap W2).size W2 w') (by kernel_rfl) (by kernel_rfl) (Below.refl _ _).drew ?_
    simp only [List.take_succ_cons, List.take_zero, List.drop_succ_cons, List.drop_zero]
    repeat (first | (apply wpG_on; rfl; (intro w' hS K hK; have hc0 := (k1.kept hS).c5; have hc1 := (k2.kept hS).c5; go_simp; (first | exact hK.out _ hS | (go_at_call 15; (with_reducible refine (source_any _ _ _ _ _ _ _ _ _ _).mono ?_); rintro e w'' ⟨rfl, hbb⟩; exact ⟨_, rfl, hK.out _ (hS.trans (hbb.mono hS.size))⟩))); simp only [Act.put, List.setIfInBounds_toArray, List.set_cons_succ, List.set_cons_zero]) | (apply wpG_off; rfl; simp only [Act.put, List.setIfInBounds_toArray, List.set_cons_succ, List.set_cons_zero]))
    apply wpG_nil
    intro W3 hS
    replace k1 := k1.kept hS
    replace k2 := k2.kept hS
    replace hb := hb.trans (hS.mono hb.size)
    clear hS
    clear e1 g2 g3 hff
    go_wp2_with fail
    refine wp_region_grow 11 (fun w' => Below (World.heap W3).size W3 w') (by kernel_rfl) (by kernel_rfl) (Below.refl _ _).drew ?_
    simp only [List.take_succ_cons, List.take_zero, List.drop_succ_cons, List.drop_zero]
    repeat (first | (apply wpG_on; rfl; (intro w' hS K hK; have hc0 := (k1.kept hS).c5; have hc1 := (k2.kept hS).c5; go_simp; (first | exact hK.out _ hS | (go_at_call 15; (with_reducible refine (source_any _ _ _ _ _ _ _ _ _ _).mono ?_); rintro e w'' ⟨rfl, hbb⟩; exact ⟨_, rfl, hK.out _ (hS.trans (hbb.mono hS.size))⟩))); simp only [Act.put, List.setIfInBounds_toArray, List.set_cons_succ, List.set_cons_zero]) | (apply wpG_off; rfl; simp only [Act.put, List.setIfInBounds_toArray, List.set_cons_succ, List.set_cons_zero]))
    apply wpG_nil
    intro W4 hS
    replace k1 := k1.kept hS
    replace k2 := k2.kept hS
    replace hb := hb.trans (hS.mono hb.size)
    clear hS
    rw [← HR.out]
    go_wp2_with fail
    go_ret
    exact ⟨ret_bool (by simp), hb⟩
  · have g1 : decide (index < 9223372036854775807) = false := by simpa using hi
    clear hff
    go_enter Try.func8, Try.ntmps8
    go_wp2
    refine name2 (fun W k1 k2 hb => ?_)
    refine wp_region_grow 19 (fun w' => Below (World.heap W).size W w') (by kernel_rfl) (by kernel_rfl) (Below.refl _ _).drew ?_
    simp only [List.take_succ_cons, List.take_zero, List.drop_succ_cons, List.drop_zero]
    repeat (first | (apply wpG_on; rfl; (intro w' hS K hK; have hc0 := (k1.kept hS).c5; have hc1 := (k2.kept hS).c5; go_simp; (first | exact hK.out _ hS | (go_at_call 13; (with_reducible refine (speed_any _ _ _ _ _ _ _ _ _ _ _).mono ?_); rintro e w'' ⟨rfl, hbb⟩; exact ⟨_, rfl, hK.out _ (hS.trans (hbb.mono hS.size))⟩) | (go_at_call 15; (with_reducible refine (source_any _ _ _ _ _ _ _ _ _ _).mono ?_); rintro e w'' ⟨rfl, hbb⟩; exact ⟨_, rfl, hK.out _ (hS.trans (hbb.mono hS.size))⟩) | (go_at_call 17; (with_reducible refine (dynValue_any _ ds _ _ _ _ _ _ _ _ _ _ (HD.out.kept (hb.trans (hS.mono hb.size)))).mono ?_); rintro e w'' ⟨rfl, hbb⟩; exact ⟨_, rfl, hK.out _ (hS.trans (hbb.mono hS.size))⟩))); simp only [Act.put, List.setIfInBounds_toArray, List.set_cons_succ, List.set_cons_zero]) | (apply wpG_off; rfl; simp only [Act.put, List.setIfInBounds_toArray, List.set_cons_succ, List.set_cons_zero]))
    apply wpG_nil
    intro W1 hS
    replace k1 := k1.kept hS
    replace k2 := k2.kept hS
    replace hb := hb.trans (hS.mono hb.size)
    clear hS
    generalize spd a0 a1 a4 b0 b1 b4 = q1 at *
    generalize src kind a2 a3 speed index seed = q2 at *
    generalize dvalue ds target (fun k => src k a2 a3 speed index seed) = q3 at *
    go_wp2_with fail
    refine (awake_any _).mono ?_
    rintro e W2 ⟨rfl, hS⟩
    replace k1 := k1.kept hS
    replace k2 := k2.kept hS
    replace hb := hb.trans (hS.mono hb.size)
    clear hS
    go_wp2_with fail
    refine wp_region_grow 12 (fun w' => Below (World.heap W2).size W2 w') (by kernel_rfl) (by kernel_rfl) (Below.refl _ _).drew ?_
    simp only [List.take_succ_cons, List.take_zero, List.drop_succ_cons, List.drop_zero]
    repeat (first | (apply wpG_on; rfl; (intro w' hS K hK; have hc0 := (k1.kept hS).c5; have hc1 := (k2.kept hS).c5; go_simp; (first | exact hK.out _ hS | (go_at_call 15; (with_reducible refine (source_any _ _ _ _ _ _ _ _ _ _).mono ?_); rintro e w'' ⟨rfl, hbb⟩; exact ⟨_, rfl, hK.out _ (hS.trans (hbb.mono hS.size))⟩))); simp only [Act.put, List.setIfInBounds_toArray, List.set_cons_succ, List.set_cons_zero]) | (apply wpG_off; rfl; simp only [Act.put, List.setIfInBounds_toArray, List.set_cons_succ, List.set_cons_zero]))
    apply wpG_nil
    intro W3 hS
    replace k1 := k1.kept hS
    replace k2 := k2.kept hS
    replace hb := hb.trans (hS.mono hb.size)
    clear hS
    go_wp2_with fail
    refine wp_region_grow 11 (fun w' => Below (World.heap W3).size W3 w') (by kernel_rfl) (by kernel_rfl) (Below.refl _ _).drew ?_
    simp only [List.take_succ_cons, List.take_zero, List.drop_succ_cons, List.drop_zero]
    repeat (first | (apply wpG_on; rfl; (intro w' hS K hK; have hc0 := (k1.kept hS).c5; have hc1 := (k2.kept hS).c5; go_simp; (first | exact hK.out _ hS | (go_at_call 15; (with_reducible refine (source_any _ _ _ _ _ _ _ _ _ _).mono ?_); rintro e w'' ⟨rfl, hbb⟩; exact ⟨_, rfl, hK.out _ (hS.trans (hbb.mono hS.size))⟩))); simp only [Act.put, List.setIfInBounds_toArray, List.set_cons_succ, List.set_cons_zero]) | (apply wpG_off; rfl; simp only [Act.put, List.setIfInBounds_toArray, List.set_cons_succ, List.set_cons_zero]))
    apply wpG_nil
    intro W4 hS
    replace k1 := k1.kept hS
    replace k2 := k2.kept hS
    replace hb := hb.trans (hS.mono hb.size)
    clear hS
    rw [← HR.out]
    go_wp2_with fail
    go_ret
    exact ⟨ret_bool (by simp), hb⟩


set_option maxRecDepth 100000 in
theorem lifted (os : Os) (started : os.Started) (H : Type) (enc : TypeId × Value → H) :
    ReturnsInHanded {} Try.checked os 8 .any (Rows.dynamicsBoundsSpec.pre6 enc Try.prog Try.f8 Rows.dynamicsBoundsRow.domain false) (Rows.dynamicsBoundsSpec.post enc Try.prog Try.f8 false true false false) := by
  refine returnsInHanded_of_change_sized (C := Try.checked) ownK started (by kernel_rfl) Try.func8
    (ChangeSpec.witness6 (enc := enc) (C := Try.checked) false ⟨#[], #[.slice none 0 0, .int .i64 0, .int .i64 0, .agg #[.int .i64 0, .int .i64 0, .int .i64 0, .int .i64 0, .int .i64 0], .agg #[.int .i64 0, .int .i64 0, .int .i64 0, .int .i64 0, .int .i64 0], .int .i64 0, .int .i64 0, .int .i64 0], []⟩ 8 (by kernel_rfl) (by kernel_rfl) (by kernel_rfl) (by kernel_rfl)) ?_
  intro W base args ds gs before hval0 hW hcnd hsz0 _
  have hval : ∀ (j : Nat) t v, Try.f8.params[j]? = some t → args[j]? = some v → Value.okWide Try.prog W .any base t v := hval0
  have hW' := hW
  obtain ⟨p, q, hA0, hV, rfl, hfz, hnd⟩ := hW
  have hA : DataW.TrodAll enc Try.prog W 0 (fun _ => true) true Try.f8.params.toList args.toList ds p := hA0
  rw [Try.params8] at hA hval
  have hAll := hA
  obtain ⟨v0, vs0, d0, ds0, p0, q0, hargs, rfl, rfl, h0, r0⟩ := trodAll_cons hA
  obtain ⟨v1, vs1, d1, ds1, p1, q1, rfl, rfl, rfl, h1, r1⟩ := trodAll_cons r0
  obtain ⟨v2, vs2, d2, ds2, p2, q2, rfl, rfl, rfl, h2, r2⟩ := trodAll_cons r1
  obtain ⟨v3, vs3, d3, ds3, p3, q3, rfl, rfl, rfl, h3, r3⟩ := trodAll_cons r2
  obtain ⟨v4, vs4, d4, ds4, p4, q4, rfl, rfl, rfl, h4, r4⟩ := trodAll_cons r3
  obtain ⟨v5, vs5, d5, ds5, p5, q5, rfl, rfl, rfl, h5, r5⟩ := trodAll_cons r4
  obtain ⟨v6, vs6, d6, ds6, p6, q6, rfl, rfl, rfl, h6, r6⟩ := trodAll_cons r5
  obtain ⟨v7, vs7, d7, ds7, p7, q7, rfl, rfl, rfl, h7, r7⟩ := trodAll_cons r6
  obtain ⟨rfl, rfl, rfl⟩ := trodAll_nil r7
  obtain rfl : args = #[v0, v1, v2, v3, v4, v5, v6, v7] := by cases args; simp_all
  obtain ⟨rfl, rfl⟩ := trodVars_none hV
  have hsz : (DataW.weightsEach Try.prog [22, 3, 3, 28, 28, 3, 3, 3] [d0, d1, d2, d3, d4, d5, d6, d7]).all (· ≤ reachBytes) = true := hsz0
  clear hA0 hval0 hsz0
  have hAll' : DataW.TrodAll enc Try.prog W 0 (fun _ => true) true [22, 3, 3, 28, 28, 3, 3, 3] [v0, v1, v2, v3, v4, v5, v6, v7] [d0, d1, d2, d3, d4, d5, d6, d7] _ := hAll
  clear hAll
  have hargsBack : ∀ W' : World, Below W.heap.size W W' → DataW.TrodAll enc Try.prog W' 0 (fun b => decide (b < W.heap.size)) true [22, 3, 3, 28, 28, 3, 3, 3] [v0, v1, v2, v3, v4, v5, v6, v7] [d0, d1, d2, d3, d4, d5, d6, d7] _ := fun W' bel => belowTrodAll laidK bel _ _ _ _ (by kernel_rfl) hAll'
  have hc : Calls Try.prog 8 #[v0, v1, v2, v3, v4, v5, v6, v7] W fun e w' => e = .returned (.bool true) ∧ Below W.heap.size W w' := by
    clear hargsBack hAll' hW'
    obtain ⟨ds0, hd0⟩ := openDyns (hval 0 22 v0 rfl rfl) h0
    obtain ⟨a1, rfl, rfl, rfl, w1⟩ := open_int Try.underlying3 (hval 1 3 v1 rfl rfl) h1
    obtain ⟨a2, rfl, rfl, rfl, w2⟩ := open_int Try.underlying3 (hval 2 3 v2 rfl rfl) h2
    obtain ⟨sx3, sy3, sp3, st3, sm3, rfl⟩ := openSample (hval 3 28 v3 rfl rfl) h3
    obtain ⟨sx4, sy4, sp4, st4, sm4, rfl⟩ := openSample (hval 4 28 v4 rfl rfl) h4
    obtain ⟨a5, rfl, rfl, rfl, w5⟩ := open_int Try.underlying3 (hval 5 3 v5 rfl rfl) h5
    obtain ⟨a6, rfl, rfl, rfl, w6⟩ := open_int Try.underlying3 (hval 6 3 v6 rfl rfl) h6
    obtain ⟨a7, rfl, rfl, rfl, w7⟩ := open_int Try.underlying3 (hval 7 3 v7 rfl rfl) h7
    exact walk v0 ds0 a1 a2 sx3 sy3 sp3 st3 sm3 sx4 sy4 sp4 st4 sm4 a5 a6 a7 W hd0 w1 w2 w5 w6 w7
  refine hc.mono fun e W' ⟨he, bel⟩ => ?_
  subst he
  exact ⟨_, rfl, _, _, _, [], _, [], hW', trodAll_mk1 (shut_bool Try.underlying4 _), hargsBack W' bel, rfl, bel.frame _, fun h => by cases h⟩

theorem over : Rows.dynamicsBoundsRow.holds Try.pinned (OpenSpec.ofChange Rows.dynamicsBoundsSpec) :=
  OpenClaim.holds_of_wide 8 Try.f8 rfl rfl rfl rfl rfl rfl rfl ⟨rfl, rfl, rfl, rfl, rfl⟩ rfl rfl rfl rfl rfl (by kernel_rfl) Try.func8 (by kernel_rfl)
    (of_decide_eq_true (by kernel_rfl)) (by unfold Func.isWrapper; first | (rw [if_pos (by decide +kernel)]; kernel_rfl) | (rw [if_neg (by decide +kernel)]; exact ⟨rfl, rfl⟩))
    (fun os started H enc _ => lifted os started H enc)

theorem proved : Rows.DynamicsBoundsSaid := over

end Go.Proofs.Ytnnginappckfcaa.dynamicsBounds
