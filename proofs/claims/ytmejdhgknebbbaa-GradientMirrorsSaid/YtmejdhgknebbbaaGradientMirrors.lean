/- GradientMirrors: a radial and a diamond gradient about the center of a pixel are symmetric. No conditions. -/
import Derived.Test.YtmejdhgknebbbaaFrame
import Derived.Test.YtmejdhgknebbbaaGAwake
namespace Go.Proofs.Ytmejdhgknebbbaa.gradientMirrors
open Go.ChangeShapes Go.WideShapes Go.ChangeAt Go.RowKit
set_option linter.unusedVariables false
attribute [local go_sem] Oper.gAt gUponK

theorem hypot_negl (x y : Int) : hypot (-x) y = hypot x y := by unfold hypot; rw [Int.neg_mul_neg]
theorem hypot_negr (x y : Int) : hypot x (-y) = hypot x y := by unfold hypot; rw [Int.neg_mul_neg]
theorem hypot_comm (x y : Int) : hypot x y = hypot y x := by unfold hypot; rw [Int.add_comm]
theorem gabs_neg (x : Int) : gabs (-x) = gabs x := by unfold gabs; omega
/-- The position, by the distance alone. -/
theorem mir {kind : Int} (hk : kind = 2 ∨ kind = 4) (cx cy r s i j : Int) (h1 : -65535 ≤ cx ∧ cx ≤ 65535) (h2 : -65535 ≤ cy ∧ cy ≤ 65535) (h3 : -524288 ≤ i ∧ i ≤ 524288) (h4 : -524288 ≤ j ∧ j ≤ 524288) :
    gPlace kind [16 * cx + 8, 16 * cy + 8, r] s (cx + i) (cy + j) = if gOk kind [16 * cx + 8, 16 * cy + 8, r] s = true then fol s (plc kind (16 * cx + 8) (16 * cy + 8) r 0 (16 * i) (16 * j)) else 0 := by
  unfold gPlace
  have e1 : cc (cx + i) = cx + i := cc_id _ (by omega)
  have e2 : cc (cy + j) = cy + j := cc_id _ (by omega)
  rw [e1, e2]
  show (if _ then fol s (plc kind (16 * cx + 8) (16 * cy + 8) r 0 (16 * (cx + i) + 8 - (16 * cx + 8)) (16 * (cy + j) + 8 - (16 * cy + 8))) else 0) = _
  rw [show 16 * (cx + i) + 8 - (16 * cx + 8) = 16 * i by omega, show 16 * (cy + j) + 8 - (16 * cy + 8) = 16 * j by omega]
theorem plc_sym {kind : Int} (hk : kind = 2 ∨ kind = 4) (p0 p1 r i j : Int) : plc kind p0 p1 r 0 (16 * -i) (16 * j) = plc kind p0 p1 r 0 (16 * i) (16 * j) ∧ plc kind p0 p1 r 0 (16 * i) (16 * -j) = plc kind p0 p1 r 0 (16 * i) (16 * j) ∧ plc kind p0 p1 r 0 (16 * j) (16 * i) = plc kind p0 p1 r 0 (16 * i) (16 * j) := by
  rcases hk with rfl | rfl
  · unfold plc
    simp only [show ¬ ((2 : Int) = 1) by decide, if_false, if_true]
    refine ⟨?_, ?_, ?_⟩
    · rw [show 16 * (16 * -i) = -(16 * (16 * i)) by omega, hypot_negl]
    · rw [show 16 * (16 * -j) = -(16 * (16 * j)) by omega, hypot_negr]
    · rw [hypot_comm]
  · unfold plc
    simp only [show ¬ ((4 : Int) = 1) by decide, show ¬ ((4 : Int) = 2) by decide, show ¬ ((4 : Int) = 3) by decide, if_false]
    refine ⟨?_, ?_, ?_⟩
    · rw [show 16 * -i = -(16 * i) by omega, gabs_neg]
    · rw [show 16 * -j = -(16 * j) by omega, gabs_neg]
    · rw [Int.add_comm (gabs (16 * j))]
/-- The four positions are one. -/
theorem four {kind : Int} (hk : kind = 2 ∨ kind = 4) (cx cy r s i j : Int) (h1 : -65535 ≤ cx ∧ cx ≤ 65535) (h2 : -65535 ≤ cy ∧ cy ≤ 65535) (h3 : -524288 ≤ i ∧ i ≤ 524288) (h4 : -524288 ≤ j ∧ j ≤ 524288) :
    gPlace kind [16 * cx + 8, 16 * cy + 8, r] s (cx - i) (cy + j) = gPlace kind [16 * cx + 8, 16 * cy + 8, r] s (cx + i) (cy + j) ∧ gPlace kind [16 * cx + 8, 16 * cy + 8, r] s (cx + i) (cy - j) = gPlace kind [16 * cx + 8, 16 * cy + 8, r] s (cx + i) (cy + j) ∧ gPlace kind [16 * cx + 8, 16 * cy + 8, r] s (cx + j) (cy + i) = gPlace kind [16 * cx + 8, 16 * cy + 8, r] s (cx + i) (cy + j) := by
  have p := plc_sym hk (16 * cx + 8) (16 * cy + 8) r i j
  rw [Int.sub_eq_add_neg, Int.sub_eq_add_neg, mir hk cx cy r s (-i) j h1 h2 (by omega) h4, mir hk cx cy r s i (-j) h1 h2 h3 (by omega), mir hk cx cy r s j i h1 h2 h4 h3, mir hk cx cy r s i j h1 h2 h3 h4, p.1, p.2.1, p.2.2]
  exact ⟨rfl, rfl, rfl⟩

set_option maxHeartbeats 4000000 in
theorem good (kind : Int) (dm : Bool) (cx cy r s i j : Int) (w : World) (hd : (dm = false ∧ kind = 2) ∨ (dm = true ∧ kind = 4)) (h1 : -65535 ≤ cx ∧ cx ≤ 65535) (h2 : -65535 ≤ cy ∧ cy ≤ 65535) (h3 : -524288 ≤ i ∧ i ≤ 524288) (h4 : -524288 ≤ j ∧ j ≤ 524288) (h5 : 0 ≤ r ∧ r ≤ 1048576) (h6 : 0 ≤ s ∧ s ≤ 2) :
    Calls Try.prog 8 #[.bool dm, .int .i64 cx, .int .i64 cy, .int .i64 r, .int .i64 s, .int .i64 i, .int .i64 j] w fun e w' => e = .returned (.bool true) ∧ Below w.heap.size w w' := by
  have hk : kind = 2 ∨ kind = 4 := by rcases hd with h | h <;> omega
  have E := Lib.hid (four hk cx cy r s i j h1 h2 h3 h4)
  have P := Lib.hid (fun v x y w h => Place_any kind s x y v [16 * cx + 8, 16 * cy + 8, r] w h)
  clear hk
  rcases hd with ⟨rfl, rfl⟩ | ⟨rfl, rfl⟩
  · go_enter Try.func8, Try.ntmps8
    go_wp2_with fail
    refine callName1 (fun W k1 hb => ?_)
    have NC := Lib.hid (nn3 k1)
    clear k1
    refine (P.out _ _ _ _ NC.out).mono ?_
    rintro e W1 ⟨rfl, hS⟩
    replace NC := Lib.hid (NC.out.kept hS)
    replace hb := hb.trans (hS.mono hb.size)
    clear hS
    go_wp2_with fail
    refine (P.out _ _ _ _ NC.out).mono ?_
    rintro e W2 ⟨rfl, hS⟩
    replace NC := Lib.hid (NC.out.kept hS)
    replace hb := hb.trans (hS.mono hb.size)
    clear hS
    rw [E.out.1]
    go_wp2_with fail
    refine (P.out _ _ _ _ NC.out).mono ?_
    rintro e W3 ⟨rfl, hS⟩
    replace NC := Lib.hid (NC.out.kept hS)
    replace hb := hb.trans (hS.mono hb.size)
    clear hS
    rw [E.out.2.1]
    go_wp2_with fail
    refine (P.out _ _ _ _ NC.out).mono ?_
    rintro e W4 ⟨rfl, hS⟩
    replace hb := hb.trans (hS.mono hb.size)
    clear hS
    rw [E.out.2.2]
    go_wp2_with fail
    refine (awake_any _).mono ?_
    rintro e W5 ⟨rfl, hS⟩
    replace hb := hb.trans (hS.mono hb.size)
    go_wp2_with fail
    go_ret
    exact ⟨ret_bool (by simp), hb⟩
  · go_enter Try.func8, Try.ntmps8
    go_wp2_with fail
    refine callName1 (fun W k1 hb => ?_)
    have NC := Lib.hid (nn3 k1)
    clear k1
    refine (P.out _ _ _ _ NC.out).mono ?_
    rintro e W1 ⟨rfl, hS⟩
    replace NC := Lib.hid (NC.out.kept hS)
    replace hb := hb.trans (hS.mono hb.size)
    clear hS
    go_wp2_with fail
    refine (P.out _ _ _ _ NC.out).mono ?_
    rintro e W2 ⟨rfl, hS⟩
    replace NC := Lib.hid (NC.out.kept hS)
    replace hb := hb.trans (hS.mono hb.size)
    clear hS
    rw [E.out.1]
    go_wp2_with fail
    refine (P.out _ _ _ _ NC.out).mono ?_
    rintro e W3 ⟨rfl, hS⟩
    replace NC := Lib.hid (NC.out.kept hS)
    replace hb := hb.trans (hS.mono hb.size)
    clear hS
    rw [E.out.2.1]
    go_wp2_with fail
    refine (P.out _ _ _ _ NC.out).mono ?_
    rintro e W4 ⟨rfl, hS⟩
    replace hb := hb.trans (hS.mono hb.size)
    clear hS
    rw [E.out.2.2]
    go_wp2_with fail
    refine (awake_any _).mono ?_
    rintro e W5 ⟨rfl, hS⟩
    replace hb := hb.trans (hS.mono hb.size)
    go_wp2_with fail
    go_ret
    exact ⟨ret_bool (by simp), hb⟩

set_option maxHeartbeats 4000000 in
theorem walk (dm : Bool) (cx cy r s i j : Int) (w : World) (w1 : (Lit.int .i64 cx).wf = true) (w2 : (Lit.int .i64 cy).wf = true) (w3 : (Lit.int .i64 r).wf = true) (w4 : (Lit.int .i64 s).wf = true) (w5 : (Lit.int .i64 i).wf = true) (w6 : (Lit.int .i64 j).wf = true) :
    Calls Try.prog 8 #[.bool dm, .int .i64 cx, .int .i64 cy, .int .i64 r, .int .i64 s, .int .i64 i, .int .i64 j] w fun e w' => e = .returned (.bool true) ∧ Below w.heap.size w w' := by
  clear w1 w2 w3 w4 w5 w6
  by_cases c0 : cx < -65535
  · go_enter Try.func8, Try.ntmps8
    go_wp2_with fail
    refine (awake_any _).mono ?_
    rintro e W1 ⟨rfl, hb⟩
    go_wp2_with fail
    go_ret
    exact ⟨rfl, hb⟩
  by_cases c1 : 65535 < cx
  · go_enter Try.func8, Try.ntmps8
    go_wp2_with fail
    refine (awake_any _).mono ?_
    rintro e W1 ⟨rfl, hb⟩
    go_wp2_with fail
    go_ret
    exact ⟨rfl, hb⟩
  by_cases c2 : cy < -65535
  · go_enter Try.func8, Try.ntmps8
    go_wp2_with fail
    refine (awake_any _).mono ?_
    rintro e W1 ⟨rfl, hb⟩
    go_wp2_with fail
    go_ret
    exact ⟨rfl, hb⟩
  by_cases c3 : 65535 < cy
  · go_enter Try.func8, Try.ntmps8
    go_wp2_with fail
    refine (awake_any _).mono ?_
    rintro e W1 ⟨rfl, hb⟩
    go_wp2_with fail
    go_ret
    exact ⟨rfl, hb⟩
  by_cases c4 : i < -524288
  · go_enter Try.func8, Try.ntmps8
    go_wp2_with fail
    refine (awake_any _).mono ?_
    rintro e W1 ⟨rfl, hb⟩
    go_wp2_with fail
    go_ret
    exact ⟨rfl, hb⟩
  by_cases c5 : 524288 < i
  · go_enter Try.func8, Try.ntmps8
    go_wp2_with fail
    refine (awake_any _).mono ?_
    rintro e W1 ⟨rfl, hb⟩
    go_wp2_with fail
    go_ret
    exact ⟨rfl, hb⟩
  by_cases c6 : j < -524288
  · go_enter Try.func8, Try.ntmps8
    go_wp2_with fail
    refine (awake_any _).mono ?_
    rintro e W1 ⟨rfl, hb⟩
    go_wp2_with fail
    go_ret
    exact ⟨rfl, hb⟩
  by_cases c7 : 524288 < j
  · go_enter Try.func8, Try.ntmps8
    go_wp2_with fail
    refine (awake_any _).mono ?_
    rintro e W1 ⟨rfl, hb⟩
    go_wp2_with fail
    go_ret
    exact ⟨rfl, hb⟩
  by_cases c8 : r < 0
  · go_enter Try.func8, Try.ntmps8
    go_wp2_with fail
    refine (awake_any _).mono ?_
    rintro e W1 ⟨rfl, hb⟩
    go_wp2_with fail
    go_ret
    exact ⟨rfl, hb⟩
  by_cases c9 : 1048576 < r
  · go_enter Try.func8, Try.ntmps8
    go_wp2_with fail
    refine (awake_any _).mono ?_
    rintro e W1 ⟨rfl, hb⟩
    go_wp2_with fail
    go_ret
    exact ⟨rfl, hb⟩
  by_cases c10 : s < 0
  · go_enter Try.func8, Try.ntmps8
    go_wp2_with fail
    refine (awake_any _).mono ?_
    rintro e W1 ⟨rfl, hb⟩
    go_wp2_with fail
    go_ret
    exact ⟨rfl, hb⟩
  by_cases c11 : 2 < s
  · go_enter Try.func8, Try.ntmps8
    go_wp2_with fail
    refine (awake_any _).mono ?_
    rintro e W1 ⟨rfl, hb⟩
    go_wp2_with fail
    go_ret
    exact ⟨rfl, hb⟩
  cases dm with
  | false => exact good 2 false cx cy r s i j w (.inl ⟨rfl, rfl⟩) (by omega) (by omega) (by omega) (by omega) (by omega) (by omega)
  | true => exact good 4 true cx cy r s i j w (.inr ⟨rfl, rfl⟩) (by omega) (by omega) (by omega) (by omega) (by omega) (by omega)

set_option maxRecDepth 100000 in
theorem lifted (os : Os) (started : os.Started) (H : Type) (enc : TypeId × Value → H) :
    ReturnsInHanded {} Try.checked os 8 .any (Rows.gradientMirrorsSpec.pre6 enc Try.prog Try.f8 Rows.gradientMirrorsRow.domain false) (Rows.gradientMirrorsSpec.post enc Try.prog Try.f8 false true false false) := by
  refine returnsInHanded_of_change_sized (C := Try.checked) ownK started (by kernel_rfl) Try.func8
    (ChangeSpec.witness6 (enc := enc) (C := Try.checked) false ⟨#[], #[.bool false, .int .i64 0, .int .i64 0, .int .i64 0, .int .i64 0, .int .i64 0, .int .i64 0], []⟩ 8 (by kernel_rfl) (by kernel_rfl) (by kernel_rfl) (by kernel_rfl)) ?_
  intro W base args ds gs before hval0 hW hcnd hsz0 _
  have hval : ∀ (j : Nat) t v, Try.f8.params[j]? = some t → args[j]? = some v → Value.okWide Try.prog W .any base t v := hval0
  have hW' := hW
  obtain ⟨p, q, hA0, hV, rfl, hfz, hnd⟩ := hW
  have hA : DataW.TrodAll enc Try.prog W 0 (fun _ => true) true Try.f8.params.toList args.toList ds p := hA0
  rw [Try.params8] at hA hval
  have hAll := hA
  obtain ⟨v0, vs0, d0, ds0, p0, q0, hargs, rfl, rfl, h0, r0⟩ := trodAll_cons hA
  obtain ⟨v1, vs1, d1, ds1, p1, q1, rfl, rfl, rfl, h1, r1⟩ := trodAll_cons r0
  obtain ⟨v2, vs2, d2, ds2, p2, q2, rfl, rfl, rfl, h2, r2⟩ := trodAll_cons r1
  obtain ⟨v3, vs3, d3, ds3, p3, q3, rfl, rfl, rfl, h3, r3⟩ := trodAll_cons r2
  obtain ⟨v4, vs4, d4, ds4, p4, q4, rfl, rfl, rfl, h4, r4⟩ := trodAll_cons r3
  obtain ⟨v5, vs5, d5, ds5, p5, q5, rfl, rfl, rfl, h5, r5⟩ := trodAll_cons r4
  obtain ⟨v6, vs6, d6, ds6, p6, q6, rfl, rfl, rfl, h6, r6⟩ := trodAll_cons r5
  obtain ⟨rfl, rfl, rfl⟩ := trodAll_nil r6
  obtain rfl : args = #[v0, v1, v2, v3, v4, v5, v6] := by cases args; simp_all
  obtain ⟨rfl, rfl⟩ := trodVars_none hV
  have hsz : (DataW.weightsEach Try.prog [4, 3, 3, 3, 3, 3, 3] [d0, d1, d2, d3, d4, d5, d6]).all (· ≤ reachBytes) = true := hsz0
  clear hA0 hval0 hsz0
  have hAll' : DataW.TrodAll enc Try.prog W 0 (fun _ => true) true [4, 3, 3, 3, 3, 3, 3] [v0, v1, v2, v3, v4, v5, v6] [d0, d1, d2, d3, d4, d5, d6] _ := hAll
  clear hAll
  have hargsBack : ∀ W' : World, Below W.heap.size W W' → DataW.TrodAll enc Try.prog W' 0 (fun b => decide (b < W.heap.size)) true [4, 3, 3, 3, 3, 3, 3] [v0, v1, v2, v3, v4, v5, v6] [d0, d1, d2, d3, d4, d5, d6] _ := fun W' bel => belowTrodAll laidK bel _ _ _ _ (by kernel_rfl) hAll'
  have hc : Calls Try.prog 8 #[v0, v1, v2, v3, v4, v5, v6] W fun e w' => e = .returned (.bool true) ∧ Below W.heap.size W w' := by
    clear hargsBack hAll' hW'
    obtain ⟨a0, rfl, rfl, rfl⟩ := open_bool Try.underlying4 (hval 0 4 v0 rfl rfl) h0
    obtain ⟨a1, rfl, rfl, rfl, w1⟩ := open_int Try.underlying3 (hval 1 3 v1 rfl rfl) h1
    obtain ⟨a2, rfl, rfl, rfl, w2⟩ := open_int Try.underlying3 (hval 2 3 v2 rfl rfl) h2
    obtain ⟨a3, rfl, rfl, rfl, w3⟩ := open_int Try.underlying3 (hval 3 3 v3 rfl rfl) h3
    obtain ⟨a4, rfl, rfl, rfl, w4⟩ := open_int Try.underlying3 (hval 4 3 v4 rfl rfl) h4
    obtain ⟨a5, rfl, rfl, rfl, w5⟩ := open_int Try.underlying3 (hval 5 3 v5 rfl rfl) h5
    obtain ⟨a6, rfl, rfl, rfl, w6⟩ := open_int Try.underlying3 (hval 6 3 v6 rfl rfl) h6
    exact walk a0 a1 a2 a3 a4 a5 a6 W w1 w2 w3 w4 w5 w6
  refine hc.mono fun e W' ⟨he, bel⟩ => ?_
  subst he
  exact ⟨_, rfl, _, _, _, [], _, [], hW', trodAll_mk1 (shut_bool Try.underlying4 _), hargsBack W' bel, rfl, bel.frame _, fun h => by cases h⟩

theorem over : Rows.gradientMirrorsRow.holds Try.pinned (OpenSpec.ofChange Rows.gradientMirrorsSpec) :=
  OpenClaim.holds_of_wide 8 Try.f8 rfl rfl rfl rfl rfl rfl rfl ⟨rfl, rfl, rfl, rfl, rfl⟩ rfl rfl rfl rfl rfl (by kernel_rfl) Try.func8 (by kernel_rfl)
    (of_decide_eq_true (by kernel_rfl)) (by unfold Func.isWrapper; first | (rw [if_pos (by decide +kernel)]; kernel_rfl) | (rw [if_neg (by decide +kernel)]; exact ⟨rfl, rfl⟩))
    (fun os started H enc _ => lifted os started H enc)

theorem proved : Rows.GradientMirrorsSaid := over

end Go.Proofs.Ytmejdhgknebbbaa.gradientMirrors
