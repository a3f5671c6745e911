/- GradientTurns: exchanging the two ends of a linear gradient gives Unit - t, or one more or less. No conditions. -/
import Derived.Test.YtmejdhgknebbbaaFrame
import Derived.Test.YtmejdhgknebbbaaGAwake
namespace Go.Proofs.Ytmejdhgknebbbaa.gradientTurns
open Go.ChangeShapes Go.WideShapes Go.ChangeAt Go.RowKit
set_option linter.unusedVariables false
attribute [local go_sem] Oper.gAt gUponK

/-- Two rounded quotients whose numerators add up to 65535 times the divisor. -/
theorem dv_pair (N M D : Int) (hD : 0 < D) (h : N + M = 65535 * D) : 65535 ≤ dv N D + dv M D ∧ dv N D + dv M D ≤ 65536 := by
  have a := dv_spec N D hD
  have b := dv_spec M D hD
  generalize dv N D = x at *
  generalize dv M D = y at *
  have e1 : 2 * D * x = D * (2 * x) := by rw [Int.mul_assoc, Int.mul_left_comm]
  have e2 : 2 * D * y = D * (2 * y) := by rw [Int.mul_assoc, Int.mul_left_comm]
  rw [e1] at a
  rw [e2] at b
  have s1 : D * (2 * x) + D * (2 * y) = D * (2 * (x + y)) := by rw [← Int.mul_add]; congr 1; omega
  constructor
  · have : D * 131070 < D * (2 * (x + y) + 2) := by rw [Int.mul_add]; omega
    have := Int.lt_of_mul_lt_mul_left this (by omega)
    omega
  · have : D * (2 * (x + y)) ≤ D * 131072 := by omega
    have := Int.le_of_mul_le_mul_left this hD
    omega
theorem sq_pos {x : Int} (h : x ≠ 0) : 0 < x * x := by
  rcases Int.lt_or_gt_of_ne h with h | h
  · exact Int.mul_pos_of_neg_of_neg h h
  · exact Int.mul_pos h h
theorem gOk_turn (a b c d : Int) (h : gOk 1 [a, b, c, d] 0 = true) : gOk 1 [c, d, a, b] 0 = true := by
  obtain ⟨_, ⟨_, p0, p1, p2, p3, he, h0, h1, h2, h3⟩ | ⟨hk, _⟩⟩ := gOk_form h
  · simp only [List.cons.injEq, and_true] at he
    obtain ⟨rfl, rfl, rfl, rfl⟩ := he
    have hh : gHead 1 4 0 = 0 := by decide
    have hn : gNums [c, d, a, b] = 0 := by
      refine ferr_of _ _ _ (fun j _ hj => ?_)
      have hj4 : j < 4 := by simpa using hj
      unfold gbad
      obtain rfl | rfl | rfl | rfl : j = 0 ∨ j = 1 ∨ j = 2 ∨ j = 3 := by omega
      · rw [if_neg (by simp; omega)]
      · rw [if_neg (by simp; omega)]
      · rw [if_neg (by simp; omega)]
      · rw [if_neg (by simp; omega)]
    have hg : gNum 1 [c, d, a, b] = 0 := gNum_pos hn (by omega)
    unfold gOk
    rw [hg]
    rfl
  · omega
theorem turn_sum (x0 y0 x1 y1 x y : Int) (hok : gOk 1 [x0, y0, x1, y1] 0 = true) (hne : ¬ (x0 = x1 ∧ y0 = y1)) :
    0 ≤ gPlace 1 [x0, y0, x1, y1] 0 x y ∧ gPlace 1 [x0, y0, x1, y1] 0 x y ≤ 65535 ∧ 0 ≤ gPlace 1 [x1, y1, x0, y0] 0 x y ∧ gPlace 1 [x1, y1, x0, y0] 0 x y ≤ 65535 ∧ gPlace 1 [x0, y0, x1, y1] 0 x y + gPlace 1 [x1, y1, x0, y0] 0 x y - 65535 ≤ 1 ∧ 65535 - gPlace 1 [x0, y0, x1, y1] 0 x y - gPlace 1 [x1, y1, x0, y0] 0 x y ≤ 1 := by
  have hok' := gOk_turn _ _ _ _ hok
  have b1 := gPlace_bd 1 [x0, y0, x1, y1] 0 x y
  have b2 := gPlace_bd 1 [x1, y1, x0, y0] 0 x y
  refine ⟨b1.1, b1.2, b2.1, b2.2, ?_⟩
  have e1 : gPlace 1 [x0, y0, x1, y1] 0 x y = cl (adv (65535 * ((16 * cc x + 8 - x0) * (x1 - x0) + (16 * cc y + 8 - y0) * (y1 - y0))) ((x1 - x0) * (x1 - x0) + (y1 - y0) * (y1 - y0))) := by
    unfold gPlace
    rw [if_pos hok]
    rfl
  have e2 : gPlace 1 [x1, y1, x0, y0] 0 x y = cl (adv (65535 * ((16 * cc x + 8 - x1) * (x0 - x1) + (16 * cc y + 8 - y1) * (y0 - y1))) ((x0 - x1) * (x0 - x1) + (y0 - y1) * (y0 - y1))) := by
    unfold gPlace
    rw [if_pos hok']
    rfl
  rw [e1, e2]
  generalize 16 * cc x + 8 = X
  generalize 16 * cc y + 8 = Y
  have f1 : (x0 - x1) * (x0 - x1) = (x1 - x0) * (x1 - x0) := by rw [← Int.neg_mul_neg, Int.neg_sub]
  have f2 : (y0 - y1) * (y0 - y1) = (y1 - y0) * (y1 - y0) := by rw [← Int.neg_mul_neg, Int.neg_sub]
  have f3 : (X - x1) * (x0 - x1) = (x1 - X) * (x1 - x0) := by rw [← Int.neg_mul_neg, Int.neg_sub, Int.neg_sub]
  have f4 : (Y - y1) * (y0 - y1) = (y1 - Y) * (y1 - y0) := by rw [← Int.neg_mul_neg, Int.neg_sub, Int.neg_sub]
  rw [f1, f2, f3, f4]
  have s1 : (X - x0) * (x1 - x0) + (x1 - X) * (x1 - x0) = (x1 - x0) * (x1 - x0) := by rw [← Int.add_mul]; congr 1; omega
  have s2 : (Y - y0) * (y1 - y0) + (y1 - Y) * (y1 - y0) = (y1 - y0) * (y1 - y0) := by rw [← Int.add_mul]; congr 1; omega
  have n1 := mul_self_nonneg' (x1 - x0)
  have n2 := mul_self_nonneg' (y1 - y0)
  have hD : 0 < (x1 - x0) * (x1 - x0) + (y1 - y0) * (y1 - y0) := by
    by_cases h1 : x1 - x0 = 0
    · have h2 : y1 - y0 ≠ 0 := by omega
      have := sq_pos h2
      omega
    · have := sq_pos h1
      omega
  generalize (x1 - x0) * (x1 - x0) = A at *
  generalize (y1 - y0) * (y1 - y0) = B at *
  generalize (X - x0) * (x1 - x0) = P at *
  generalize (x1 - X) * (x1 - x0) = P' at *
  generalize (Y - y0) * (y1 - y0) = Q at *
  generalize (y1 - Y) * (y1 - y0) = Q' at *
  rw [show adv (65535 * (P + Q)) (A + B) = dv (65535 * (P + Q)) (A + B) from if_neg (by omega), show adv (65535 * (P' + Q')) (A + B) = dv (65535 * (P' + Q')) (A + B) from if_neg (by omega)]
  have h := dv_pair (65535 * (P + Q)) (65535 * (P' + Q')) (A + B) hD (by omega)
  generalize dv (65535 * (P + Q)) (A + B) = a at *
  generalize dv (65535 * (P' + Q')) (A + B) = b at *
  unfold cl
  repeat' split
  all_goals omega
theorem chk_ok (x0 y0 x1 y1 : Int) (h : gChk 1 [x0, y0, x1, y1] 0 graysL = 0) : gOk 1 [x0, y0, x1, y1] 0 = true := (gChk_zero h).1

set_option maxHeartbeats 4000000 in
theorem walk (x0 y0 x1 y1 x y : Int) (w : World) (w0 : (Lit.int .i64 x0).wf = true) (w1 : (Lit.int .i64 y0).wf = true) (w2 : (Lit.int .i64 x1).wf = true) (w3 : (Lit.int .i64 y1).wf = true) (w4 : (Lit.int .i64 x).wf = true) (w5 : (Lit.int .i64 y).wf = true) :
    Calls Try.prog 9 #[.int .i64 x0, .int .i64 y0, .int .i64 x1, .int .i64 y1, .int .i64 x, .int .i64 y] w fun e w' => e = .returned (.bool true) ∧ Below w.heap.size w w' := by
  clear w0 w1 w2 w3 w4 w5
  have C := Lib.hid (fun v u w h hs => refCheck_any 1 0 v u [x0, y0, x1, y1] graysL w h hs)
  have P := Lib.hid (fun v w h => Place_any 1 0 x y v [x0, y0, x1, y1] w h)
  have Q := Lib.hid (fun v w h => Place_any 1 0 x y v [x1, y1, x0, y0] w h)
  have T := Lib.hid (fun h hne => turn_sum x0 y0 x1 y1 x y (chk_ok x0 y0 x1 y1 h) hne)
  generalize gPlace 1 [x0, y0, x1, y1] 0 x y = t at *
  generalize gPlace 1 [x1, y1, x0, y0] 0 x y = u at *
  generalize gChk 1 [x0, y0, x1, y1] 0 graysL = E at *
  by_cases hE : E = 0
  · subst hE
    by_cases hx : x0 = x1
    · subst hx
      by_cases hy : y0 = y1
      · subst hy
        go_enter Try.func9, Try.ntmps9
        go_wp2_with fail
        refine callName2 (fun W k1 k2 hb => ?_)
        have N1 := Lib.hid (nn4 k1)
        clear k1 k2
        refine (grays_any _).mono ?_
        rintro e V1 ⟨ag, cg, rfl, sg, hS⟩
        have SG := Lib.hid sg
        clear sg
        replace N1 := Lib.hid (N1.out.kept hS)
        replace hb := hb.trans (hS.mono hb.size)
        clear hS
        go_wp2_with fail
        refine (C.out _ _ _ N1.out SG.out).mono ?_
        rintro e V2 ⟨rfl, hS⟩
        replace hb := hb.trans (hS.mono hb.size)
        clear hS
        go_wp2_with fail
        refine (awake_any _).mono ?_
        rintro e V3 ⟨rfl, hS⟩
        replace hb := hb.trans (hS.mono hb.size)
        go_wp2_with fail
        go_ret
        exact ⟨rfl, hb⟩
      · have b := T.out rfl (by omega)
        have by0 : (y0 == y1) = false := by simpa using hy
        go_enter Try.func9, Try.ntmps9
        go_wp2_with fail
        refine callName2 (fun W k1 k2 hb => ?_)
        have N1 := Lib.hid (nn4 k1)
        have N2 := Lib.hid (nn4 k2)
        clear k1 k2
        refine (grays_any _).mono ?_
        rintro e V1 ⟨ag, cg, rfl, sg, hS⟩
        have SG := Lib.hid sg
        clear sg
        replace N1 := Lib.hid (N1.out.kept hS)
        replace N2 := Lib.hid (N2.out.kept hS)
        replace hb := hb.trans (hS.mono hb.size)
        clear hS
        go_wp2_with fail
        refine (C.out _ _ _ N1.out SG.out).mono ?_
        rintro e V2 ⟨rfl, hS⟩
        replace N1 := Lib.hid (N1.out.kept hS)
        replace N2 := Lib.hid (N2.out.kept hS)
        replace hb := hb.trans (hS.mono hb.size)
        clear hS
        go_wp2_with fail
        refine (P.out _ _ N1.out).mono ?_
        rintro e V3 ⟨rfl, hS⟩
        replace N2 := Lib.hid (N2.out.kept hS)
        replace hb := hb.trans (hS.mono hb.size)
        clear hS
        go_wp2_with fail
        refine (Q.out _ _ N2.out).mono ?_
        rintro e V4 ⟨rfl, hS⟩
        replace hb := hb.trans (hS.mono hb.size)
        clear hS
        go_wp2_with fail
        refine (awake_any _).mono ?_
        rintro e V5 ⟨rfl, hS⟩
        replace hb := hb.trans (hS.mono hb.size)
        go_wp2_with fail
        go_ret
        exact ⟨ret_bool (by simp), hb⟩
    · have b := T.out rfl (by omega)
      have bx0 : (x0 == x1) = false := by simpa using hx
      go_enter Try.func9, Try.ntmps9
      go_wp2_with fail
      refine callName2 (fun W k1 k2 hb => ?_)
      have N1 := Lib.hid (nn4 k1)
      have N2 := Lib.hid (nn4 k2)
      clear k1 k2
      refine (grays_any _).mono ?_
      rintro e V1 ⟨ag, cg, rfl, sg, hS⟩
      have SG := Lib.hid sg
      clear sg
      replace N1 := Lib.hid (N1.out.kept hS)
      replace N2 := Lib.hid (N2.out.kept hS)
      replace hb := hb.trans (hS.mono hb.size)
      clear hS
      go_wp2_with fail
      refine (C.out _ _ _ N1.out SG.out).mono ?_
      rintro e V2 ⟨rfl, hS⟩
      replace N1 := Lib.hid (N1.out.kept hS)
      replace N2 := Lib.hid (N2.out.kept hS)
      replace hb := hb.trans (hS.mono hb.size)
      clear hS
      go_wp2_with fail
      refine (P.out _ _ N1.out).mono ?_
      rintro e V3 ⟨rfl, hS⟩
      replace N2 := Lib.hid (N2.out.kept hS)
      replace hb := hb.trans (hS.mono hb.size)
      clear hS
      go_wp2_with fail
      refine (Q.out _ _ N2.out).mono ?_
      rintro e V4 ⟨rfl, hS⟩
      replace hb := hb.trans (hS.mono hb.size)
      clear hS
      go_wp2_with fail
      refine (awake_any _).mono ?_
      rintro e V5 ⟨rfl, hS⟩
      replace hb := hb.trans (hS.mono hb.size)
      go_wp2_with fail
      go_ret
      exact ⟨ret_bool (by simp), hb⟩
  · have bE : (E != 0) = true := by simpa using hE
    go_enter Try.func9, Try.ntmps9
    go_wp2_with fail
    refine callName2 (fun W k1 k2 hb => ?_)
    have N1 := Lib.hid (nn4 k1)
    clear k1 k2
    refine (grays_any _).mono ?_
    rintro e V1 ⟨ag, cg, rfl, sg, hS⟩
    have SG := Lib.hid sg
    clear sg
    replace N1 := Lib.hid (N1.out.kept hS)
    replace hb := hb.trans (hS.mono hb.size)
    clear hS
    go_wp2_with fail
    refine (C.out _ _ _ N1.out SG.out).mono ?_
    rintro e V2 ⟨rfl, hS⟩
    replace hb := hb.trans (hS.mono hb.size)
    clear hS
    go_wp2_with fail
    refine (awake_any _).mono ?_
    rintro e V3 ⟨rfl, hS⟩
    replace hb := hb.trans (hS.mono hb.size)
    go_wp2_with fail
    go_ret
    exact ⟨rfl, hb⟩

set_option maxRecDepth 100000 in
theorem lifted (os : Os) (started : os.Started) (H : Type) (enc : TypeId × Value → H) :
    ReturnsInHanded {} Try.checked os 9 .any (Rows.gradientTurnsSpec.pre6 enc Try.prog Try.f9 Rows.gradientTurnsRow.domain false) (Rows.gradientTurnsSpec.post enc Try.prog Try.f9 false true false false) := by
  refine returnsInHanded_of_change_sized (C := Try.checked) ownK started (by kernel_rfl) Try.func9
    (ChangeSpec.witness6 (enc := enc) (C := Try.checked) false ⟨#[], #[.int .i64 0, .int .i64 0, .int .i64 0, .int .i64 0, .int .i64 0, .int .i64 0], []⟩ 8 (by kernel_rfl) (by kernel_rfl) (by kernel_rfl) (by kernel_rfl)) ?_
  intro W base args ds gs before hval0 hW hcnd hsz0 _
  have hval : ∀ (j : Nat) t v, Try.f9.params[j]? = some t → args[j]? = some v → Value.okWide Try.prog W .any base t v := hval0
  have hW' := hW
  obtain ⟨p, q, hA0, hV, rfl, hfz, hnd⟩ := hW
  have hA : DataW.TrodAll enc Try.prog W 0 (fun _ => true) true Try.f9.params.toList args.toList ds p := hA0
  rw [Try.params9] at hA hval
  have hAll := hA
  obtain ⟨v0, vs0, d0, ds0, p0, q0, hargs, rfl, rfl, h0, r0⟩ := trodAll_cons hA
  obtain ⟨v1, vs1, d1, ds1, p1, q1, rfl, rfl, rfl, h1, r1⟩ := trodAll_cons r0
  obtain ⟨v2, vs2, d2, ds2, p2, q2, rfl, rfl, rfl, h2, r2⟩ := trodAll_cons r1
  obtain ⟨v3, vs3, d3, ds3, p3, q3, rfl, rfl, rfl, h3, r3⟩ := trodAll_cons r2
  obtain ⟨v4, vs4, d4, ds4, p4, q4, rfl, rfl, rfl, h4, r4⟩ := trodAll_cons r3
  obtain ⟨v5, vs5, d5, ds5, p5, q5, rfl, rfl, rfl, h5, r5⟩ := trodAll_cons r4
  obtain ⟨rfl, rfl, rfl⟩ := trodAll_nil r5
  obtain rfl : args = #[v0, v1, v2, v3, v4, v5] := by cases args; simp_all
  obtain ⟨rfl, rfl⟩ := trodVars_none hV
  have hsz : (DataW.weightsEach Try.prog [3, 3, 3, 3, 3, 3] [d0, d1, d2, d3, d4, d5]).all (· ≤ reachBytes) = true := hsz0
  clear hA0 hval0 hsz0
  have hAll' : DataW.TrodAll enc Try.prog W 0 (fun _ => true) true [3, 3, 3, 3, 3, 3] [v0, v1, v2, v3, v4, v5] [d0, d1, d2, d3, d4, d5] _ := hAll
  clear hAll
  have hargsBack : ∀ W' : World, Below W.heap.size W W' → DataW.TrodAll enc Try.prog W' 0 (fun b => decide (b < W.heap.size)) true [3, 3, 3, 3, 3, 3] [v0, v1, v2, v3, v4, v5] [d0, d1, d2, d3, d4, d5] _ := fun W' bel => belowTrodAll laidK bel _ _ _ _ (by kernel_rfl) hAll'
  have hc : Calls Try.prog 9 #[v0, v1, v2, v3, v4, v5] W fun e w' => e = .returned (.bool true) ∧ Below W.heap.size W w' := by
    clear hargsBack hAll' hW'
    obtain ⟨a0, rfl, rfl, rfl, w0⟩ := open_int Try.underlying3 (hval 0 3 v0 rfl rfl) h0
    obtain ⟨a1, rfl, rfl, rfl, w1⟩ := open_int Try.underlying3 (hval 1 3 v1 rfl rfl) h1
    obtain ⟨a2, rfl, rfl, rfl, w2⟩ := open_int Try.underlying3 (hval 2 3 v2 rfl rfl) h2
    obtain ⟨a3, rfl, rfl, rfl, w3⟩ := open_int Try.underlying3 (hval 3 3 v3 rfl rfl) h3
    obtain ⟨a4, rfl, rfl, rfl, w4⟩ := open_int Try.underlying3 (hval 4 3 v4 rfl rfl) h4
    obtain ⟨a5, rfl, rfl, rfl, w5⟩ := open_int Try.underlying3 (hval 5 3 v5 rfl rfl) h5
    exact walk a0 a1 a2 a3 a4 a5 W w0 w1 w2 w3 w4 w5
  refine hc.mono fun e W' ⟨he, bel⟩ => ?_
  subst he
  exact ⟨_, rfl, _, _, _, [], _, [], hW', trodAll_mk1 (shut_bool Try.underlying4 _), hargsBack W' bel, rfl, bel.frame _, fun h => by cases h⟩

theorem over : Rows.gradientTurnsRow.holds Try.pinned (OpenSpec.ofChange Rows.gradientTurnsSpec) :=
  OpenClaim.holds_of_wide 9 Try.f9 rfl rfl rfl rfl rfl rfl rfl ⟨rfl, rfl, rfl, rfl, rfl⟩ rfl rfl rfl rfl rfl (by kernel_rfl) Try.func9 (by kernel_rfl)
    (of_decide_eq_true (by kernel_rfl)) (by unfold Func.isWrapper; first | (rw [if_pos (by decide +kernel)]; kernel_rfl) | (rw [if_neg (by decide +kernel)]; exact ⟨rfl, rfl⟩))
    (fun os started H enc _ => lifted os started H enc)

theorem proved : Rows.GradientTurnsSaid := over

end Go.Proofs.Ytmejdhgknebbbaa.gradientTurns
