/- BlendRanges: the walk. -/
import Derived.Test.YtfgkgibomgcmpaaDoorFrame
import Derived.Test.YtfgkgibomgcmpaaDoorBlendEx
import Derived.Test.YtfgkgibomgcmpaaDoorOvp
namespace Go.Proofs.YtfgkgibomgcmpaaDoor.blendRanges
open Go.ChangeShapes Go.WideShapes Go.ChangeAt Go.RowKit
set_option linter.unusedVariables false
attribute [local go_sem] Oper.gAt gUponK Oper.sAt stilK

theorem valid_true {r g b a : Int} (h : Ux (r, g, b, a)) : decide (r = cl r ∧ g = cl g ∧ b = cl b ∧ a = cl a) = true := by
  obtain ⟨h1, h2, h3, h4⟩ := h
  rw [decide_eq_true_eq]
  exact ⟨(cl_id _ h1.1 h1.2).symm, (cl_id _ h2.1 h2.2).symm, (cl_id _ h3.1 h3.2).symm, (cl_id _ h4.1 h4.2).symm⟩
theorem valid_calls {r g b a : Int} (h : Ux (r, g, b, a)) (w : World) :
    Calls Tryd.prog 22 #[pv r g b a] w fun e w' => e = .returned (.bool true) ∧ Below w.heap.size w w' := by
  have := refValid_any r g b a w
  rw [valid_true h] at this
  exact this

set_option maxHeartbeats 2000000 in
theorem walk (m r g b a r' g' b' a' : Int) (w : World) (hN : Names w) (w0 : (Lit.int .i64 m).wf = true) (w1_0 : (Lit.int .i64 r).wf = true) (w1_1 : (Lit.int .i64 g).wf = true) (w1_2 : (Lit.int .i64 b).wf = true) (w1_3 : (Lit.int .i64 a).wf = true) (w2_0 : (Lit.int .i64 r').wf = true) (w2_1 : (Lit.int .i64 g').wf = true) (w2_2 : (Lit.int .i64 b').wf = true) (w2_3 : (Lit.int .i64 a').wf = true) :
    Calls Tryd.prog 7 #[.int .i64 m, pv r g b a, pv r' g' b' a'] w fun e w' => e = .returned (.bool true) ∧ Below w.heap.size w w' := by
  clear w0 w1_0 w1_1 w1_2 w1_3 w2_0 w2_1 w2_2 w2_3
  have HN := Lib.hid hN
  clear hN
  have C0 := Lib.hid (fun w => channel_any m r r' w)
  have C1 := Lib.hid (fun w => colors_any m r g b a r' g' b' a' w)
  have C2 : ∀ w, Calls Tryd.prog 17 #[.int .i64 m, pv r g b a, pv r' g' b' a'] w fun e w' => e = .returned (pvx (ovP m (r, g, b, a) (r', g', b', a'))) ∧ Below w.heap.size w w' := fun w => over_any m (r, g, b, a) (r', g', b', a') w
  have u0 := chU_bd m (cl r) (cl r') (cl_bd _) (cl_bd _)
  have u1 := col3_u m (cl r, cl g, cl b) (cl r', cl g', cl b') ⟨cl_bd _, cl_bd _, cl_bd _⟩ ⟨cl_bd _, cl_bd _, cl_bd _⟩
  have u2 := ovP_u m (r, g, b, a) (r', g', b', a')
  have u3 := ovP_zero m (r, g, b, a) (r', g', b', a')
  generalize ovP m (r, g, b, a) (r', g', b', a') = q at *
  generalize col3 m (cl r, cl g, cl b) (cl r', cl g', cl b') = p at *
  generalize chU m (cl r) (cl r') = c at *
  obtain ⟨q0, q1, q2, q3⟩ := q
  obtain ⟨p0, p1, p2⟩ := p
  simp only [pvx] at C2
  replace C2 := Lib.hid C2
  have V1 := Lib.hid (fun w => valid_calls (r := p0) (g := p1) (b := p2) (a := 65535) ⟨u1.1, u1.2.1, u1.2.2, u_top⟩ w)
  have V2 := Lib.hid (fun w => valid_calls (r := q0) (g := q1) (b := q2) (a := q3) u2 w)
  have g0 : decide (0 ≤ c) = true := decide_eq_true u0.1
  have g1 : decide (c ≤ 65535) = true := decide_eq_true u0.2
  clear u1 u2
  go_enter Tryd.func7, Tryd.ntmps7
  go_upto_region 1 with (fail)
  refine name2 (fun W k1 k2 hb => ?_)
  have c1 := k1.c4
  have c2 := k2.c4
  go_wp2_with fail
  clear c1 c2
  refine (C0.out _).mono ?_
  rintro e w' ⟨rfl, rfl⟩
  go_wp2_with fail
  have hb' := hb.size
  refine wp_region_make 10 (by kernel_rfl) (by kernel_rfl) ?_
  simp only [makeOrder, numbered, mkB, List.take_succ_cons, List.take_zero, List.drop_succ_cons, List.drop_zero, List.filter_cons, List.filter_nil, Bool.not_true, Bool.not_false, Bool.false_eq_true, List.cons_append, List.nil_append, ↓reduceIte]
  repeat (first | (apply wpN_on; rfl; rfl; (intro w' hS K hK; have hc0 := (k1.kept hS).c4; have hc1 := (k2.kept hS).c4; go_simp; (first | exact hK.out _ (Below.refl _ _) | (go_at_call 15; (with_reducible refine (C1.out _).mono ?_); rintro e w'' ⟨rfl, hbb⟩; exact ⟨_, rfl, hK.out _ hbb⟩) | (go_at_call 17; (with_reducible refine (C2.out _).mono ?_); rintro e w'' ⟨rfl, hbb⟩; exact ⟨_, rfl, hK.out _ hbb⟩))); simp only [Act.put, List.setIfInBounds_toArray, List.set_cons_succ, List.set_cons_zero]) | (apply wpN_off; rfl; rfl; simp only [Act.put, List.setIfInBounds_toArray, List.set_cons_succ, List.set_cons_zero]))
  apply wpN_new
  rfl
  rfl
  · intro w' hS K hK; have hc0 := (k1.kept hS).c4; have hc1 := (k2.kept hS).c4; go_simp; exact hK.out
  intro x8 hx8 nx8
  simp only [Act.put, mkOf, List.setIfInBounds_toArray, List.set_cons_succ, List.set_cons_zero]
  apply wpN_new
  rfl
  rfl
  · intro w' hS K hK; have hc0 := (k1.kept hS).c4; have hc1 := (k2.kept hS).c4; go_simp; exact hK.out
  intro x9 hx9 nx9
  simp only [Act.put, mkOf, List.setIfInBounds_toArray, List.set_cons_succ, List.set_cons_zero]
  apply wpN_nil
  rintro W1 hS ⟨⟨-, kx8⟩, kx9⟩
  replace k1 := k1.kept hS
  replace k2 := k2.kept hS
  replace hb := hb.trans (hS.mono hb.size)
  have hx89 : x9 ≠ x8 := by simpa using nx9
  have c8 := kx8.c4
  have c9 := kx9.c4
  clear hS nx8 nx9
  go_upto_region 3 with (fail)
  clear c8 c9
  refine mid44 hb kx8 kx9 hx89 (by omega) (by omega) (fun W2 k8 k9 kk hb => ?_)
  clear kk kx8 kx9
  have c8 := k8.c4
  go_wp2_with fail
  clear c8
  refine (V1.out _).mono ?_
  rintro e W3 ⟨rfl, hS⟩
  replace k8 := k8.kept hS
  replace k9 := k9.kept hS
  replace hb := hb.trans (hS.mono hb.size)
  clear hS
  have c8 := k8.c4
  have c9 := k9.c4
  go_wp2_with fail
  clear c8 c9
  refine (V2.out _).mono ?_
  rintro e W4 ⟨rfl, hS⟩
  replace k8 := k8.kept hS
  replace k9 := k9.kept hS
  replace hb := hb.trans (hS.mono hb.size)
  clear hS
  have c9 := k9.c4
  rcases u3 with u3 | u3
  · replace u3 : 0 < q3 := u3
    go_wp2_with fail
    clear c9
    refine (example_any _ (HN.out.kept hb)).mono ?_
    rintro e w2 ⟨rfl, hb2⟩
    go_wp2_with fail
    go_ret
    exact ⟨ret_bool (by simp), hb.trans (hb2.mono hb.size)⟩
  · obtain ⟨rfl, rfl, rfl, rfl⟩ : q0 = 0 ∧ q1 = 0 ∧ q2 = 0 ∧ q3 = 0 := by simpa using u3
    go_wp2_with fail
    clear c9
    refine (example_any _ (HN.out.kept hb)).mono ?_
    rintro e w2 ⟨rfl, hb2⟩
    go_wp2_with fail
    go_ret
    exact ⟨ret_bool (by simp), hb.trans (hb2.mono hb.size)⟩
end Go.Proofs.YtfgkgibomgcmpaaDoor.blendRanges
