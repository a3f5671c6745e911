/- GradientMoves: moving a gradient by whole pixels moves the positions. No conditions. -/
import Derived.Test.YtmejdhgknebbbaaGMovesA
import Derived.Test.YtmejdhgknebbbaaGMovesB
import Derived.Test.YtmejdhgknebbbaaGMovesC
import Derived.Test.YtmejdhgknebbbaaGMovesD
import Derived.Test.YtmejdhgknebbbaaGMovesE
namespace Go.Proofs.Ytmejdhgknebbbaa.gradientMoves
open Go.ChangeShapes Go.WideShapes Go.ChangeAt Go.RowKit
set_option linter.unusedVariables false
attribute [local go_sem] Oper.gAt gUponK Oper.sAt stilK Oper.vAt valK


set_option maxRecDepth 20000 in
set_option maxHeartbeats 4000000 in
theorem walk (kind : Int) (v : Value) (zs : List Int) (s x y a b : Int) (w : World) (w0 : (Lit.int .i64 kind).wf = true) (h : Nn w v zs) (w2 : (Lit.int .i64 s).wf = true) (w3 : (Lit.int .i64 x).wf = true) (w4 : (Lit.int .i64 y).wf = true) (w5 : (Lit.int .i64 a).wf = true) (w6 : (Lit.int .i64 b).wf = true) :
    Calls Try.prog 7 #[.int .i64 kind, v, .int .i64 s, .int .i64 x, .int .i64 y, .int .i64 a, .int .i64 b] w fun e w' => e = .returned (.bool true) ∧ Below w.heap.size w w' := by
  clear w0 w2 w3 w4 w5 w6
  by_cases hl : zs.length < 3
  · obtain ⟨ad, cap, rfl, hlen⟩ := h.slice
    clear h
    generalize zs.length = n at *
    have hl3 : (n : Int) < 3 := by omega
    go_enter Try.func7, Try.ntmps7
    go_wp2_with fail
    refine (awake_any _).mono ?_
    rintro e W1 ⟨rfl, hb⟩
    go_wp2_with fail
    go_ret
    exact ⟨rfl, hb⟩
  by_cases hbd : (-1048576 ≤ a ∧ a ≤ 1048576) ∧ (-1048576 ≤ b ∧ b ≤ 1048576) ∧ (-1048576 ≤ x ∧ x ≤ 1048576) ∧ (-1048576 ≤ y ∧ y ≤ 1048576) ∧ (-1048576 ≤ x + a ∧ x + a ≤ 1048576) ∧ (-1048576 ≤ y + b ∧ y + b ≤ 1048576)
  · by_cases h0 : gChk kind zs s graysL = 0
    · obtain ⟨_, ⟨rfl, p0, p1, p2, p3, rfl, q0, q1, q2, q3⟩ | ⟨hk, p0, p1, p2, rfl, q0, q1, q2, _⟩⟩ := gOk_form (gChk_zero h0).1
      · exact good4 p0 p1 p2 p3 s x y a b v w h h0 q0 q1 q2 q3 hbd.1 hbd.2.1 hbd.2.2.1 hbd.2.2.2.1 hbd.2.2.2.2.1 hbd.2.2.2.2.2
      · exact good3 kind p0 p1 p2 s x y a b v w h hk h0 q0 q1 q2 hbd.1 hbd.2.1 hbd.2.2.1 hbd.2.2.2.1 hbd.2.2.2.2.1 hbd.2.2.2.2.2
    · have C := Lib.hid (fun u w h hs => refCheck_any kind s v u zs graysL w h hs)
      have HN := Lib.hid h
      generalize gChk kind zs s graysL = E at *
      obtain ⟨ad, cap, rfl, hlen⟩ := h.slice
      clear h
      generalize zs.length = n at *
      have hl3 : ¬ (n : Int) < 3 := by omega
      have bE : (E != 0) = true := by simpa using h0
      obtain ⟨ba, bb, bx, by', bxa, byb⟩ := hbd
      clear hl h0
      go_enter Try.func7, Try.ntmps7
      go_wp2_with fail
      refine (grays_any _).mono ?_
      rintro e V1 ⟨ag, cg, rfl, sg, hb⟩
      have SG := Lib.hid sg
      clear sg
      go_wp2_with fail
      refine (C.out _ _ (HN.out.kept hb) SG.out).mono ?_
      rintro e V2 ⟨rfl, hS⟩
      replace hb := hb.trans (hS.mono hb.size)
      clear hS
      go_wp2_with fail
      refine (awake_any _).mono ?_
      rintro e V9 ⟨rfl, hS⟩
      replace hb := hb.trans (hS.mono hb.size)
      go_wp2_with fail
      go_ret
      exact ⟨rfl, hb⟩
  obtain ⟨ad, cap, rfl, hlen⟩ := h.slice
  clear h
  generalize zs.length = n at *
  have hl3 : ¬ (n : Int) < 3 := by omega
  clear hl
  by_cases c0 : a < -1048576
  · exact bad0 kind s x y a b ad n cap w hlen hl3  c0
  by_cases c1 : 1048576 < a
  · exact bad1 kind s x y a b ad n cap w hlen hl3 c0 c1
  by_cases c2 : b < -1048576
  · exact bad2 kind s x y a b ad n cap w hlen hl3 c0 c1 c2
  by_cases c3 : 1048576 < b
  · exact bad3 kind s x y a b ad n cap w hlen hl3 c0 c1 c2 c3
  by_cases c4 : x < -1048576
  · exact bad4 kind s x y a b ad n cap w hlen hl3 c0 c1 c2 c3 c4
  by_cases c5 : 1048576 < x
  · exact bad5 kind s x y a b ad n cap w hlen hl3 c0 c1 c2 c3 c4 c5
  by_cases c6 : y < -1048576
  · exact bad6 kind s x y a b ad n cap w hlen hl3 c0 c1 c2 c3 c4 c5 c6
  by_cases c7 : 1048576 < y
  · exact bad7 kind s x y a b ad n cap w hlen hl3 c0 c1 c2 c3 c4 c5 c6 c7
  by_cases c8 : x + a < -1048576
  · exact bad8 kind s x y a b ad n cap w hlen hl3 c0 c1 c2 c3 c4 c5 c6 c7 c8
  by_cases c9 : 1048576 < x + a
  · exact bad9 kind s x y a b ad n cap w hlen hl3 c0 c1 c2 c3 c4 c5 c6 c7 c8 c9
  by_cases c10 : y + b < -1048576
  · exact bad10 kind s x y a b ad n cap w hlen hl3 c0 c1 c2 c3 c4 c5 c6 c7 c8 c9 c10
  by_cases c11 : 1048576 < y + b
  · exact bad11 kind s x y a b ad n cap w hlen hl3 c0 c1 c2 c3 c4 c5 c6 c7 c8 c9 c10 c11
  exact absurd ⟨⟨by omega, by omega⟩, ⟨by omega, by omega⟩, ⟨by omega, by omega⟩, ⟨by omega, by omega⟩, ⟨by omega, by omega⟩, ⟨by omega, by omega⟩⟩ hbd

set_option maxRecDepth 100000 in
theorem lifted (os : Os) (started : os.Started) (H : Type) (enc : TypeId × Value → H) :
    ReturnsInHanded {} Try.checked os 7 .any (Rows.gradientMovesSpec.pre6 enc Try.prog Try.f7 Rows.gradientMovesRow.domain false) (Rows.gradientMovesSpec.post enc Try.prog Try.f7 false true false false) := by
  refine returnsInHanded_of_change_sized (C := Try.checked) ownK started (by kernel_rfl) Try.func7
    (ChangeSpec.witness6 (enc := enc) (C := Try.checked) false ⟨#[], #[.int .i64 0, .slice none 0 0, .int .i64 0, .int .i64 0, .int .i64 0, .int .i64 0, .int .i64 0], []⟩ 8 (by kernel_rfl) (by kernel_rfl) (by kernel_rfl) (by kernel_rfl)) ?_
  intro W base args ds gs before hval0 hW hcnd hsz0 _
  have hval : ∀ (j : Nat) t v, Try.f7.params[j]? = some t → args[j]? = some v → Value.okWide Try.prog W .any base t v := hval0
  have hW' := hW
  obtain ⟨p, q, hA0, hV, rfl, hfz, hnd⟩ := hW
  have hA : DataW.TrodAll enc Try.prog W 0 (fun _ => true) true Try.f7.params.toList args.toList ds p := hA0
  rw [Try.params7] at hA hval
  have hAll := hA
  obtain ⟨v0, vs0, d0, ds0, p0, q0, hargs, rfl, rfl, h0, r0⟩ := trodAll_cons hA
  obtain ⟨v1, vs1, d1, ds1, p1, q1, rfl, rfl, rfl, h1, r1⟩ := trodAll_cons r0
  obtain ⟨v2, vs2, d2, ds2, p2, q2, rfl, rfl, rfl, h2, r2⟩ := trodAll_cons r1
  obtain ⟨v3, vs3, d3, ds3, p3, q3, rfl, rfl, rfl, h3, r3⟩ := trodAll_cons r2
  obtain ⟨v4, vs4, d4, ds4, p4, q4, rfl, rfl, rfl, h4, r4⟩ := trodAll_cons r3
  obtain ⟨v5, vs5, d5, ds5, p5, q5, rfl, rfl, rfl, h5, r5⟩ := trodAll_cons r4
  obtain ⟨v6, vs6, d6, ds6, p6, q6, rfl, rfl, rfl, h6, r6⟩ := trodAll_cons r5
  obtain ⟨rfl, rfl, rfl⟩ := trodAll_nil r6
  obtain rfl : args = #[v0, v1, v2, v3, v4, v5, v6] := by cases args; simp_all
  obtain ⟨rfl, rfl⟩ := trodVars_none hV
  have hsz : (DataW.weightsEach Try.prog [3, 22, 3, 3, 3, 3, 3] [d0, d1, d2, d3, d4, d5, d6]).all (· ≤ reachBytes) = true := hsz0
  clear hA0 hval0 hsz0
  have hAll' : DataW.TrodAll enc Try.prog W 0 (fun _ => true) true [3, 22, 3, 3, 3, 3, 3] [v0, v1, v2, v3, v4, v5, v6] [d0, d1, d2, d3, d4, d5, d6] _ := hAll
  clear hAll
  have hargsBack : ∀ W' : World, Below W.heap.size W W' → DataW.TrodAll enc Try.prog W' 0 (fun b => decide (b < W.heap.size)) true [3, 22, 3, 3, 3, 3, 3] [v0, v1, v2, v3, v4, v5, v6] [d0, d1, d2, d3, d4, d5, d6] _ := fun W' bel => belowTrodAll laidK bel _ _ _ _ (by kernel_rfl) hAll'
  have hc : Calls Try.prog 7 #[v0, v1, v2, v3, v4, v5, v6] W fun e w' => e = .returned (.bool true) ∧ Below W.heap.size W w' := by
    clear hargsBack hAll' hW'
    obtain ⟨a0, rfl, rfl, rfl, w0⟩ := open_int Try.underlying3 (hval 0 3 v0 rfl rfl) h0
    obtain ⟨zs1, hz1⟩ := openNn (hval 1 22 v1 rfl rfl) h1
    obtain ⟨a2, rfl, rfl, rfl, w2⟩ := open_int Try.underlying3 (hval 2 3 v2 rfl rfl) h2
    obtain ⟨a3, rfl, rfl, rfl, w3⟩ := open_int Try.underlying3 (hval 3 3 v3 rfl rfl) h3
    obtain ⟨a4, rfl, rfl, rfl, w4⟩ := open_int Try.underlying3 (hval 4 3 v4 rfl rfl) h4
    obtain ⟨a5, rfl, rfl, rfl, w5⟩ := open_int Try.underlying3 (hval 5 3 v5 rfl rfl) h5
    obtain ⟨a6, rfl, rfl, rfl, w6⟩ := open_int Try.underlying3 (hval 6 3 v6 rfl rfl) h6
    exact walk a0 v1 zs1 a2 a3 a4 a5 a6 W w0 hz1 w2 w3 w4 w5 w6
  refine hc.mono fun e W' ⟨he, bel⟩ => ?_
  subst he
  exact ⟨_, rfl, _, _, _, [], _, [], hW', trodAll_mk1 (shut_bool Try.underlying4 _), hargsBack W' bel, rfl, bel.frame _, fun h => by cases h⟩

theorem over : Rows.gradientMovesRow.holds Try.pinned (OpenSpec.ofChange Rows.gradientMovesSpec) :=
  OpenClaim.holds_of_wide 7 Try.f7 rfl rfl rfl rfl rfl rfl rfl ⟨rfl, rfl, rfl, rfl, rfl⟩ rfl rfl rfl rfl rfl (by kernel_rfl) Try.func7 (by kernel_rfl)
    (of_decide_eq_true (by kernel_rfl)) (by unfold Func.isWrapper; first | (rw [if_pos (by decide +kernel)]; kernel_rfl) | (rw [if_neg (by decide +kernel)]; exact ⟨rfl, rfl⟩))
    (fun os started H enc _ => lifted os started H enc)

theorem proved : Rows.GradientMovesSaid := over

end Go.Proofs.Ytmejdhgknebbbaa.gradientMoves
