/- GradientDraws: for all arguments, Draw is the reference's. No conditions. -/
import Derived.Test.YtmejdhgknebbbaaFrame
import Derived.Test.YtmejdhgknebbbaaGAwake
import Derived.Test.YtmejdhgknebbbaaGOpen
import Derived.Test.YtmejdhgknebbbaaGDrawBad
import Derived.Test.YtmejdhgknebbbaaGDrawR
import Derived.Test.YtmejdhgknebbbaaGSame
namespace Go.Proofs.Ytmejdhgknebbbaa.gradientDraws
open Go.ChangeShapes Go.WideShapes Go.ChangeAt Go.RowKit
set_option linter.unusedVariables false
attribute [local go_sem] Oper.gAt gUponK

/-- Both come to the same image, or to the same error. -/
theorem draws (kind spread X Y W H : Int) (v u : Value) (zs : List Int) (ss : List St) : ∃ (W' H' E : Int) (ps : List Px),
    (∀ w, Nn w v zs → Sn w u ss → Calls Try.prog 18 #[.int .i64 kind, v, .int .i64 spread, u, rv X Y W H] w fun e w' => ∃ q, e = .returned (.tuple #[.agg #[.int .i64 W', .int .i64 H', q], .int .i64 E]) ∧ Pn w' q ps ∧ Below w.heap.size w w') ∧
    (∀ w, Nn w v zs → Sn w u ss → Calls Try.prog 19 #[.int .i64 kind, v, .int .i64 spread, u, rv X Y W H] w fun e w' => ∃ q, e = .returned (.tuple #[.agg #[.int .i64 W', .int .i64 H', q], .int .i64 E]) ∧ Pn w' q ps ∧ Below w.heap.size w w') := by
  cases hB : drBad kind zs spread ss X Y W H with
  | some E =>
    exact ⟨0, 0, E, [], fun w h hs => (draw_bad kind spread X Y W H E v u zs ss w h hs hB).mono fun e w' ⟨he, hw⟩ => ⟨_, he, Pn.nil _, hw⟩,
      fun w h hs => (refDraw_bad kind spread X Y W H E v u zs ss w h hs hB).mono fun e w' ⟨he, hw⟩ => ⟨_, he, Pn.nil _, hw⟩⟩
  | none =>
    unfold drBad at hB
    split at hB
    · cases hB
    · rename_i h0
      split at hB
      · cases hB
      · rename_i h1
        split at hB
        · cases hB
        · rename_i h2
          split at hB
          · cases hB
          · rename_i h3
            have e0 : gChk kind zs spread ss = 0 := by simpa using h0
            have e1 : rValid X Y W H = true := by simpa using h1
            have hb2 := e1
            unfold rValid at hb2
            rw [Bool.and_eq_true] at hb2
            have hx := rSpan_true hb2.1
            have hy := rSpan_true hb2.2
            obtain ⟨w0, rfl⟩ : ∃ w0 : Nat, W = w0 := ⟨W.toNat, by omega⟩
            obtain ⟨h0', rfl⟩ : ∃ h0' : Nat, H = h0' := ⟨H.toNat, by omega⟩
            exact ⟨w0, h0', 0, drOut kind zs spread ss X Y w0 h0', fun w h hs => draw_good kind spread X Y w0 h0' v u zs ss w h hs e0 e1 (by omega) (by omega),
              fun w h hs => refDraw_good kind spread X Y w0 h0' v u zs ss w h hs e0 e1 (by omega) (by omega)⟩

set_option maxHeartbeats 2000000 in
theorem walk (kind : Int) (v : Value) (zs : List Int) (spread : Int) (u : Value) (ss : List St) (X Y W H : Int) (w : World) (w0 : (Lit.int .i64 kind).wf = true) (hz : Nn w v zs) (w2 : (Lit.int .i64 spread).wf = true) (hs : Sn w u ss) (w4_0 : (Lit.int .i64 X).wf = true) (w4_1 : (Lit.int .i64 Y).wf = true) (w4_2 : (Lit.int .i64 W).wf = true) (w4_3 : (Lit.int .i64 H).wf = true) :
    Calls Try.prog 5 #[.int .i64 kind, v, .int .i64 spread, u, rv X Y W H] w fun e w' => e = .returned (.bool true) ∧ Below w.heap.size w w' := by
  clear w0 w2 w4_0 w4_1 w4_2 w4_3
  have HN := Lib.hid hz
  have HS := Lib.hid hs
  obtain ⟨W', H', E, ps, I1, I2⟩ := draws kind spread X Y W H v u zs ss
  obtain ⟨a, cap, rfl, _⟩ := hz.slice
  obtain ⟨a', cap', rfl, _⟩ := hs.slice
  replace I1 := Lib.hid I1
  replace I2 := Lib.hid I2
  clear hz hs
  generalize zs.length = n at *
  generalize ss.length = n' at *
  simp only [rv] at *
  go_enter Try.func5, Try.ntmps5
  go_upto_region 1 with (fail)
  refine name1 (fun W1 k1 hb => ?_)
  have c1 := k1.c4
  go_wp2_with fail
  clear c1
  refine (I1.out _ (HN.out.kept hb) (HS.out.kept hb)).mono ?_
  rintro e W2 ⟨v1, rfl, p1, hS⟩
  replace k1 := k1.kept hS
  replace hb := hb.trans (hS.mono hb.size)
  clear hS
  have HP1 := Lib.hid p1
  obtain ⟨a1, cap1, rfl⟩ := p1.slice
  clear p1
  go_upto_region 2 with (fail)
  refine name1 (fun W3 k3 hS => ?_)
  replace k1 := k1.kept hS
  replace HP1 := Lib.hid (HP1.out.kept hS)
  replace hb := hb.trans (hS.mono hb.size)
  clear hS
  have c1 := k1.c4
  go_wp2_with fail
  clear c1
  refine (I2.out _ (HN.out.kept hb) (HS.out.kept hb)).mono ?_
  rintro e W4 ⟨v2, rfl, p2, hS⟩
  replace k3 := k3.kept hS
  replace HP1 := Lib.hid (HP1.out.kept hS)
  replace hb := hb.trans (hS.mono hb.size)
  clear hS
  have HP2 := Lib.hid p2
  obtain ⟨a2, cap2, rfl⟩ := p2.slice
  clear p2
  go_upto_region 3 with (fail)
  refine name1 (fun W5 k5 hS => ?_)
  replace k3 := k3.kept hS
  replace HP1 := Lib.hid (HP1.out.kept hS)
  replace HP2 := Lib.hid (HP2.out.kept hS)
  replace hb := hb.trans (hS.mono hb.size)
  clear hS
  have c3 := k3.c3
  have c5 := k5.c3
  go_wp2_with fail
  clear c3 c5
  refine (gsame_true _ _ _ _ _ _ HP1.out HP2.out).mono ?_
  rintro e W6 ⟨rfl, hS⟩
  replace hb := hb.trans (hS.mono hb.size)
  clear hS
  go_wp2_with fail
  refine (awake_any _).mono ?_
  rintro e w2 ⟨rfl, hb2⟩
  go_wp2_with fail
  go_ret
  exact ⟨ret_bool (by simp), hb.trans (hb2.mono hb.size)⟩

set_option maxRecDepth 100000 in
theorem lifted (os : Os) (started : os.Started) (H : Type) (enc : TypeId × Value → H) :
    ReturnsInHanded {} Try.checked os 5 .any (Rows.gradientDrawsSpec.pre6 enc Try.prog Try.f5 Rows.gradientDrawsRow.domain false) (Rows.gradientDrawsSpec.post enc Try.prog Try.f5 false true false false) := by
  refine returnsInHanded_of_change_sized (C := Try.checked) ownK started (by kernel_rfl) Try.func5
    (ChangeSpec.witness6 (enc := enc) (C := Try.checked) false ⟨#[], #[.int .i64 0, .slice none 0 0, .int .i64 0, .slice none 0 0, .agg #[.int .i64 0, .int .i64 0, .int .i64 0, .int .i64 0]], []⟩ 8 (by kernel_rfl) (by kernel_rfl) (by kernel_rfl) (by kernel_rfl)) ?_
  intro W base args ds gs before hval0 hW hcnd hsz0 _
  have hval : ∀ (j : Nat) t v, Try.f5.params[j]? = some t → args[j]? = some v → Value.okWide Try.prog W .any base t v := hval0
  have hW' := hW
  obtain ⟨p, q, hA0, hV, rfl, hfz, hnd⟩ := hW
  have hA : DataW.TrodAll enc Try.prog W 0 (fun _ => true) true Try.f5.params.toList args.toList ds p := hA0
  rw [Try.params5] at hA hval
  have hAll := hA
  obtain ⟨v0, vs0, d0, ds0, p0, q0, hargs, rfl, rfl, h0, r0⟩ := trodAll_cons hA
  obtain ⟨v1, vs1, d1, ds1, p1, q1, rfl, rfl, rfl, h1, r1⟩ := trodAll_cons r0
  obtain ⟨v2, vs2, d2, ds2, p2, q2, rfl, rfl, rfl, h2, r2⟩ := trodAll_cons r1
  obtain ⟨v3, vs3, d3, ds3, p3, q3, rfl, rfl, rfl, h3, r3⟩ := trodAll_cons r2
  obtain ⟨v4, vs4, d4, ds4, p4, q4, rfl, rfl, rfl, h4, r4⟩ := trodAll_cons r3
  obtain ⟨rfl, rfl, rfl⟩ := trodAll_nil r4
  obtain rfl : args = #[v0, v1, v2, v3, v4] := by cases args; simp_all
  obtain ⟨rfl, rfl⟩ := trodVars_none hV
  have hsz : (DataW.weightsEach Try.prog [3, 22, 3, 23, 34] [d0, d1, d2, d3, d4]).all (· ≤ reachBytes) = true := hsz0
  clear hA0 hval0 hsz0
  have hAll' : DataW.TrodAll enc Try.prog W 0 (fun _ => true) true [3, 22, 3, 23, 34] [v0, v1, v2, v3, v4] [d0, d1, d2, d3, d4] _ := hAll
  clear hAll
  have hargsBack : ∀ W' : World, Below W.heap.size W W' → DataW.TrodAll enc Try.prog W' 0 (fun b => decide (b < W.heap.size)) true [3, 22, 3, 23, 34] [v0, v1, v2, v3, v4] [d0, d1, d2, d3, d4] _ := fun W' bel => belowTrodAll laidK bel _ _ _ _ (by kernel_rfl) hAll'
  have hc : Calls Try.prog 5 #[v0, v1, v2, v3, v4] W fun e w' => e = .returned (.bool true) ∧ Below W.heap.size W w' := by
    clear hargsBack hAll' hW'
    obtain ⟨a0, rfl, rfl, rfl, w0⟩ := open_int Try.underlying3 (hval 0 3 v0 rfl rfl) h0
    obtain ⟨zs1, hz1⟩ := openNn (hval 1 22 v1 rfl rfl) h1
    obtain ⟨a2, rfl, rfl, rfl, w2⟩ := open_int Try.underlying3 (hval 2 3 v2 rfl rfl) h2
    obtain ⟨ss3, hs3⟩ := openStops (hval 3 23 v3 rfl rfl) h3
    obtain ⟨a4_0, a4_1, a4_2, a4_3, rfl, w4_0, w4_1, w4_2, w4_3⟩ := openPix Try.underlying34 (by kernel_rfl) (by kernel_rfl) ⟨rfl, rfl, rfl, rfl⟩ Try.underlying3 (hval 4 34 v4 rfl rfl) h4
    exact walk a0 v1 zs1 a2 v3 ss3 a4_0 a4_1 a4_2 a4_3 W w0 hz1 w2 hs3 w4_0 w4_1 w4_2 w4_3
  refine hc.mono fun e W' ⟨he, bel⟩ => ?_
  subst he
  exact ⟨_, rfl, _, _, _, [], _, [], hW', trodAll_mk1 (shut_bool Try.underlying4 _), hargsBack W' bel, rfl, bel.frame _, fun h => by cases h⟩

theorem over : Rows.gradientDrawsRow.holds Try.pinned (OpenSpec.ofChange Rows.gradientDrawsSpec) :=
  OpenClaim.holds_of_wide 5 Try.f5 rfl rfl rfl rfl rfl rfl rfl ⟨rfl, rfl, rfl, rfl, rfl⟩ rfl rfl rfl rfl rfl (by kernel_rfl) Try.func5 (by kernel_rfl)
    (of_decide_eq_true (by kernel_rfl)) (by unfold Func.isWrapper; first | (rw [if_pos (by decide +kernel)]; kernel_rfl) | (rw [if_neg (by decide +kernel)]; exact ⟨rfl, rfl⟩))
    (fun os started H enc _ => lifted os started H enc)

theorem proved : Rows.GradientDrawsSaid := over

end Go.Proofs.Ytmejdhgknebbbaa.gradientDraws
