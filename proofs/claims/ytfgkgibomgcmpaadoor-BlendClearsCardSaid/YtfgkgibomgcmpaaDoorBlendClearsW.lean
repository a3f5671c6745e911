/- BlendClears: the walk (printed by genclears.py). -/
import Derived.Test.YtfgkgibomgcmpaaDoorFrame
import Derived.Test.YtfgkgibomgcmpaaDoorBlendEx
import Derived.Test.YtfgkgibomgcmpaaDoorOvp
namespace Go.Proofs.YtfgkgibomgcmpaaDoor.blendClears
open Go.ChangeShapes Go.WideShapes Go.ChangeAt Go.RowKit
set_option linter.unusedVariables false
attribute [local go_sem] Oper.gAt gUponK Oper.sAt stilK

theorem ov_none (m : Int) (p q : Px) (hp : Ux p) (h : 0 < p.2.2.2 ∨ p = (0, 0, 0, 0)) (hq : q.2.2.2 = 0) : ovP m p q = p := by
  obtain ⟨r, g, b, a⟩ := p
  obtain ⟨r', g', b', a'⟩ := q
  obtain ⟨h1, h2, h3, h4⟩ := hp
  replace hq : a' = 0 := hq
  subst hq
  have c1 : cl r = r := cl_id _ h1.1 h1.2
  have c2 : cl g = g := cl_id _ h2.1 h2.2
  have c3 : cl b = b := cl_id _ h3.1 h3.2
  have c4 : cl a = a := cl_id _ h4.1 h4.2
  have c0 : cl 0 = 0 := rfl
  have ha : alU a 0 = a := by
    unfold alU dU
    rw [show 65535 * (0 + a) - 0 * a = a * 65535 by omega]
    exact dv_mul a 65535 (by omega)
  have hc : ∀ x y z, 0 < a → ovC x y z a 0 = x := fun x y z ha0 => by
    unfold ovC nU dU
    rw [show y * 0 * (65535 - a) + x * a * (65535 - 0) + z * 0 * a = x * (a * 65535) by rw [← Int.mul_assoc]; simp, show 65535 * (0 + a) - 0 * a = a * 65535 by omega]
    exact dv_mul x _ (by omega)
  simp only [ovP, ovC3, c1, c2, c3, c4, c0, ha]
  split
  · rename_i e
    rcases h with h | h
    · replace h : 0 < a := h
      omega
    · exact h.symm
  · rename_i e
    replace h4 : U a := h4
    have ha0 : 0 < a := by unfold U at h4; omega
    rw [hc _ _ _ ha0, hc _ _ _ ha0, hc _ _ _ ha0]
theorem ov_clear (m x : Int) (q : Px) (hq : Ux q) (h : 0 < q.2.2.2) : ovP m (x, 0, 0, 0) q = q := by
  obtain ⟨r, g, b, a⟩ := q
  obtain ⟨h1, h2, h3, h4⟩ := hq
  have c1 : cl r = r := cl_id _ h1.1 h1.2
  have c2 : cl g = g := cl_id _ h2.1 h2.2
  have c3 : cl b = b := cl_id _ h3.1 h3.2
  have c4 : cl a = a := cl_id _ h4.1 h4.2
  have c0 : cl 0 = 0 := rfl
  replace h : 0 < a := h
  have ha : alU 0 a = a := by
    unfold alU dU
    rw [show 65535 * (a + 0) - a * 0 = a * 65535 by omega]
    exact dv_mul a 65535 (by omega)
  have hc : ∀ x y z, ovC x y z 0 a = y := fun x y z => by
    unfold ovC nU dU
    rw [show y * a * (65535 - 0) + x * 0 * (65535 - a) + z * a * 0 = y * (a * 65535) by rw [← Int.mul_assoc]; simp, show 65535 * (a + 0) - a * 0 = a * 65535 by omega]
    exact dv_mul y _ (by omega)
  simp only [ovP, ovC3, c1, c2, c3, c4, c0, ha, hc]
  rw [if_neg (by omega)]
theorem ov_all (p q : Px) (hp : Ux p) (hq : Ux q) (h : q.2.2.2 = 65535) : ovP 0 p q = q := by
  obtain ⟨x, y, z, k⟩ := p
  obtain ⟨r, g, b, a⟩ := q
  replace h : a = 65535 := h
  subst h
  obtain ⟨h1, h2, h3, h4⟩ := hq
  have c1 : cl r = r := cl_id _ h1.1 h1.2
  have c2 : cl g = g := cl_id _ h2.1 h2.2
  have c3 : cl b = b := cl_id _ h3.1 h3.2
  have c4 : cl 65535 = 65535 := rfl
  have ck : cl k = k := cl_id _ hp.2.2.2.1 hp.2.2.2.2
  have ha : alU k 65535 = 65535 := by
    unfold alU dU
    rw [show 65535 * (65535 + k) - 65535 * k = 65535 * 65535 by omega]
    exact dv_mul 65535 65535 (by omega)
  have hc : ∀ u v, ovC u v v k 65535 = v := fun u v => by
    unfold ovC nU dU
    rw [show v * 65535 * (65535 - k) + u * k * (65535 - 65535) + v * 65535 * k = v * (65535 * 65535) by rw [Int.mul_sub, ← Int.mul_assoc]; simp, show 65535 * (65535 + k) - 65535 * k = 65535 * 65535 by omega]
    exact dv_mul v _ (by omega)
  have e : ∀ u v, chU 0 u v = v := fun u v => rfl
  have e3 : ∀ c d : C3, col3 0 c d = d := fun c d => rfl
  simp only [ovP, ovC3, c1, c2, c3, c4, ck, ha, e3, hc]
  rw [if_neg (by omega)]

set_option maxHeartbeats 8000000 in
theorem walkU (m r g b a r' g' b' a' : Int) (w : World) (hN : Names w) (R G B A R' G' B' A' : Int) (u : Ux (R, G, B, A)) (u' : Ux (R', G', B', A'))
    (L1 : ∀ w, Calls Tryd.prog 23 #[pv r g b a] w fun e w' => e = .returned (pv R G B A) ∧ Below w.heap.size w w')
    (L2 : ∀ w, Calls Tryd.prog 23 #[pv r' g' b' a'] w fun e w' => e = .returned (pv R' G' B' A') ∧ Below w.heap.size w w') :
    Calls Tryd.prog 8 #[.int .i64 m, pv r g b a, pv r' g' b' a'] w fun e w' => e = .returned (.bool true) ∧ Below w.heap.size w w' := by
  have HN := Lib.hid hN
  clear hN
  have D1 : 0 < A ∨ (R, G, B, A) = ((0, 0, 0, 0) : Px) → ∀ w, Calls Tryd.prog 17 #[.int .i64 m, pv R G B A, pv R' G' B' 0] w fun e w' => e = .returned (pv R G B A) ∧ Below w.heap.size w w' := fun h w => by
    have := over_any m (R, G, B, A) (R', G', B', 0) w
    rw [ov_none m (R, G, B, A) (R', G', B', 0) u h rfl] at this
    exact this
  have D2 : 0 < A' → ∀ w, Calls Tryd.prog 17 #[.int .i64 m, pv R 0 0 0, pv R' G' B' A'] w fun e w' => e = .returned (pv R' G' B' A') ∧ Below w.heap.size w w' := fun h w => by
    have := over_any m (R, 0, 0, 0) (R', G', B', A') w
    rw [ov_clear m R (R', G', B', A') u' h] at this
    exact this
  have D3 : ∀ w, Calls Tryd.prog 17 #[.int .i64 0, pv R G B A, pv R' G' B' 65535] w fun e w' => e = .returned (pv R' G' B' 65535) ∧ Below w.heap.size w w' := fun w => by
    have := over_any 0 (R, G, B, A) (R', G', B', 65535) w
    rw [ov_all (R, G, B, A) (R', G', B', 65535) u ⟨u'.1, u'.2.1, u'.2.2.1, u_top⟩ rfl] at this
    exact this
  have hA : 0 ≤ A := u.2.2.2.1
  have hA' : 0 ≤ A' := u'.2.2.2.1
  clear u u'
  replace L1 := Lib.hid L1
  replace L2 := Lib.hid L2
  replace D1 := Lib.hid D1
  replace D2 := Lib.hid D2
  replace D3 := Lib.hid D3
  go_enter Tryd.func8, Tryd.ntmps8
  go_upto_region 1 with (fail)
  refine name2 (fun W k1 k2 hb => ?_)
  refine wp_region_grow 4 (fun w' => Below (World.heap W).size W w') (by kernel_rfl) (by kernel_rfl) (Below.refl _ _).drew ?_
  simp only [List.take_succ_cons, List.take_zero, List.drop_succ_cons, List.drop_zero]
  repeat (first | (apply wpG_on; rfl; (intro w' hS K hK; have hc0 := (k1.kept hS).c4; have hc1 := (k2.kept hS).c4; go_simp; (first | exact hK.out _ hS | (go_at_call 23; (with_reducible refine (L1.out _).mono ?_); rintro e w'' ⟨rfl, hbb⟩; exact ⟨_, rfl, hK.out _ (hS.trans (hbb.mono hS.size))⟩) | (go_at_call 23; (with_reducible refine (L2.out _).mono ?_); rintro e w'' ⟨rfl, hbb⟩; exact ⟨_, rfl, hK.out _ (hS.trans (hbb.mono hS.size))⟩))); simp only [Act.put, List.setIfInBounds_toArray, List.set_cons_succ, List.set_cons_zero]) | (apply wpG_off; rfl; simp only [Act.put, List.setIfInBounds_toArray, List.set_cons_succ, List.set_cons_zero]))
  apply wpG_nil
  intro W1 hS
  replace k1 := k1.kept hS
  replace k2 := k2.kept hS
  replace hb := hb.trans (hS.mono hb.size)
  clear hS
  have c1 := k1.c4
  have c2 := k2.c4
  go_upto_region 2 with (fail)
  clear c1 c2 L1 L2
  refine mid44 hb k1 k2 (by omega) (Nat.le_refl _) (by omega) (fun W2 k1' k2' kk hb => ?_)
  clear kk k1 k2
  have c1 := k1'.c4
  have c2 := k2'.c4
  have hl1 := k1'.lt
  have hl2 := k2'.lt
  go_region
  all_goals go_upto_region 4 with (fail)
  · clear c1 c2
    refine name2d (fun W5 k7 k8 hS => ?_)
    replace k1' := k1'.kept hS
    replace k2' := k2'.kept hS
    replace hb := hb.trans (hS.mono hb.size)
    clear hS
    have cases3 : 0 < A ∨ (R = 0 ∧ G = 0 ∧ B = 0 ∧ A = 0) ∨ (A = 0 ∧ R ≠ 0) ∨ (A = 0 ∧ R = 0 ∧ G ≠ 0) ∨ (A = 0 ∧ R = 0 ∧ G = 0 ∧ B ≠ 0) := by omega
    rcases cases3 with hc | hc | hc | hc | hc
    · have g1 : decide (0 < A) = true := decide_eq_true hc
      have E1 := Lib.hid (fun w => D1.out (.inl hc) w)
      clear D1
      refine wp_region_grow 16 (fun w' => Below (World.heap W5).size W5 w') (by kernel_rfl) (by kernel_rfl) (Below.refl _ _).drew ?_
      simp only [List.take_succ_cons, List.take_zero, List.drop_succ_cons, List.drop_zero]
      repeat (first | (apply wpG_on; rfl; (intro w' hS K hK; have hc0 := (k1'.kept hS).c4; have hc1 := (k2'.kept hS).c4; have hc2 := (k7.kept hS).c4; have hc3 := (k8.kept hS).c4; go_simp; (first | exact hK.out _ hS | (go_at_call 17; (with_reducible refine (E1.out _).mono ?_); rintro e w'' ⟨rfl, hbb⟩; exact ⟨_, rfl, hK.out _ (hS.trans (hbb.mono hS.size))⟩))); simp only [Act.put, List.setIfInBounds_toArray, List.set_cons_succ, List.set_cons_zero]) | (apply wpG_off; rfl; simp only [Act.put, List.setIfInBounds_toArray, List.set_cons_succ, List.set_cons_zero]))
      apply wpG_nil
      intro W6 hS
      replace k1' := k1'.kept hS
      replace k2' := k2'.kept hS
      replace k7 := k7.kept hS
      replace k8 := k8.kept hS
      replace hb := hb.trans (hS.mono hb.size)
      clear hS
      by_cases hp : 0 < A'
      · have E2 := Lib.hid (fun w => D2.out hp w)
        clear D2
        have g2 : decide (0 < A') = true := decide_eq_true hp
        go_wp2_with fail
        refine wp_region_grow 13 (fun w' => Below (World.heap W6).size W6 w') (by kernel_rfl) (by kernel_rfl) (Below.refl _ _).drew ?_
        simp only [List.take_succ_cons, List.take_zero, List.drop_succ_cons, List.drop_zero]
        repeat (first | (apply wpG_on; rfl; (intro w' hS K hK; have hc0 := (k1'.kept hS).c4; have hc1 := (k2'.kept hS).c4; have hc2 := (k7.kept hS).c4; have hc3 := (k8.kept hS).c4; go_simp; (first | exact hK.out _ hS | (go_at_call 17; (with_reducible refine (E2.out _).mono ?_); rintro e w'' ⟨rfl, hbb⟩; exact ⟨_, rfl, hK.out _ (hS.trans (hbb.mono hS.size))⟩))); simp only [Act.put, List.setIfInBounds_toArray, List.set_cons_succ, List.set_cons_zero]) | (apply wpG_off; rfl; simp only [Act.put, List.setIfInBounds_toArray, List.set_cons_succ, List.set_cons_zero]))
        apply wpG_nil
        intro W7 hS
        replace k1' := k1'.kept hS
        replace k2' := k2'.kept hS
        replace k7 := k7.kept hS
        replace k8 := k8.kept hS
        replace hb := hb.trans (hS.mono hb.size)
        clear hS
        go_wp2_with fail
        replace HN := Lib.hid (HN.out.kept hb)
        refine wp_region_grow 8 (fun w' => Below (World.heap W7).size W7 w') (by kernel_rfl) (by kernel_rfl) (Below.refl _ _).drew ?_
        simp only [List.take_succ_cons, List.take_zero, List.drop_succ_cons, List.drop_zero]
        repeat (first | (apply wpG_on; rfl; (intro w' hS K hK; have hc0 := (k1'.kept hS).c4; have hc1 := (k2'.kept hS).c4; have hc2 := (k7.kept hS).c4; have hc3 := (k8.kept hS).c4; go_simp; (first | exact hK.out _ hS | (go_at_call 17; (with_reducible refine (D3.out _).mono ?_); rintro e w'' ⟨rfl, hbb⟩; exact ⟨_, rfl, hK.out _ (hS.trans (hbb.mono hS.size))⟩) | (go_at_call 14; (with_reducible refine (example_any _ (HN.out.kept hS)).mono ?_); rintro e w'' ⟨rfl, hbb⟩; exact ⟨_, rfl, hK.out _ (hS.trans (hbb.mono hS.size))⟩))); simp only [Act.put, List.setIfInBounds_toArray, List.set_cons_succ, List.set_cons_zero]) | (apply wpG_off; rfl; simp only [Act.put, List.setIfInBounds_toArray, List.set_cons_succ, List.set_cons_zero]))
        apply wpG_nil
        intro W8 hS
        replace k1' := k1'.kept hS
        replace k2' := k2'.kept hS
        replace k7 := k7.kept hS
        replace k8 := k8.kept hS
        replace hb := hb.trans (hS.mono hb.size)
        clear hS
        go_wp2_with fail
        go_ret
        exact ⟨rfl, hb⟩
      · obtain rfl : A' = 0 := by omega
        clear D2
        go_wp2_with fail
        refine wp_region_grow 13 (fun w' => Below (World.heap W6).size W6 w') (by kernel_rfl) (by kernel_rfl) (Below.refl _ _).drew ?_
        simp only [List.take_succ_cons, List.take_zero, List.drop_succ_cons, List.drop_zero]
        repeat (first | (apply wpG_on; rfl; (intro w' hS K hK; have hc0 := (k1'.kept hS).c4; have hc1 := (k2'.kept hS).c4; have hc2 := (k7.kept hS).c4; have hc3 := (k8.kept hS).c4; go_simp; (first | exact hK.out _ hS)); simp only [Act.put, List.setIfInBounds_toArray, List.set_cons_succ, List.set_cons_zero]) | (apply wpG_off; rfl; simp only [Act.put, List.setIfInBounds_toArray, List.set_cons_succ, List.set_cons_zero]))
        apply wpG_nil
        intro W7 hS
        replace k1' := k1'.kept hS
        replace k2' := k2'.kept hS
        replace k7 := k7.kept hS
        replace k8 := k8.kept hS
        replace hb := hb.trans (hS.mono hb.size)
        clear hS
        go_wp2_with fail
        replace HN := Lib.hid (HN.out.kept hb)
        refine wp_region_grow 8 (fun w' => Below (World.heap W7).size W7 w') (by kernel_rfl) (by kernel_rfl) (Below.refl _ _).drew ?_
        simp only [List.take_succ_cons, List.take_zero, List.drop_succ_cons, List.drop_zero]
        repeat (first | (apply wpG_on; rfl; (intro w' hS K hK; have hc0 := (k1'.kept hS).c4; have hc1 := (k2'.kept hS).c4; have hc2 := (k7.kept hS).c4; have hc3 := (k8.kept hS).c4; go_simp; (first | exact hK.out _ hS | (go_at_call 17; (with_reducible refine (D3.out _).mono ?_); rintro e w'' ⟨rfl, hbb⟩; exact ⟨_, rfl, hK.out _ (hS.trans (hbb.mono hS.size))⟩) | (go_at_call 14; (with_reducible refine (example_any _ (HN.out.kept hS)).mono ?_); rintro e w'' ⟨rfl, hbb⟩; exact ⟨_, rfl, hK.out _ (hS.trans (hbb.mono hS.size))⟩))); simp only [Act.put, List.setIfInBounds_toArray, List.set_cons_succ, List.set_cons_zero]) | (apply wpG_off; rfl; simp only [Act.put, List.setIfInBounds_toArray, List.set_cons_succ, List.set_cons_zero]))
        apply wpG_nil
        intro W8 hS
        replace k1' := k1'.kept hS
        replace k2' := k2'.kept hS
        replace k7 := k7.kept hS
        replace k8 := k8.kept hS
        replace hb := hb.trans (hS.mono hb.size)
        clear hS
        go_wp2_with fail
        go_ret
        exact ⟨rfl, hb⟩
    · obtain ⟨rfl, rfl, rfl, rfl⟩ : R = 0 ∧ G = 0 ∧ B = 0 ∧ A = 0 := hc
      have E1 := Lib.hid (fun w => D1.out (.inr rfl) w)
      clear D1
      refine wp_region_grow 16 (fun w' => Below (World.heap W5).size W5 w') (by kernel_rfl) (by kernel_rfl) (Below.refl _ _).drew ?_
      simp only [List.take_succ_cons, List.take_zero, List.drop_succ_cons, List.drop_zero]
      repeat (first | (apply wpG_on; rfl; (intro w' hS K hK; have hc0 := (k1'.kept hS).c4; have hc1 := (k2'.kept hS).c4; have hc2 := (k7.kept hS).c4; have hc3 := (k8.kept hS).c4; go_simp; (first | exact hK.out _ hS | (go_at_call 17; (with_reducible refine (E1.out _).mono ?_); rintro e w'' ⟨rfl, hbb⟩; exact ⟨_, rfl, hK.out _ (hS.trans (hbb.mono hS.size))⟩))); simp only [Act.put, List.setIfInBounds_toArray, List.set_cons_succ, List.set_cons_zero]) | (apply wpG_off; rfl; simp only [Act.put, List.setIfInBounds_toArray, List.set_cons_succ, List.set_cons_zero]))
      apply wpG_nil
      intro W6 hS
      replace k1' := k1'.kept hS
      replace k2' := k2'.kept hS
      replace k7 := k7.kept hS
      replace k8 := k8.kept hS
      replace hb := hb.trans (hS.mono hb.size)
      clear hS
      by_cases hp : 0 < A'
      · have E2 := Lib.hid (fun w => D2.out hp w)
        clear D2
        have g2 : decide (0 < A') = true := decide_eq_true hp
        go_wp2_with fail
        refine wp_region_grow 13 (fun w' => Below (World.heap W6).size W6 w') (by kernel_rfl) (by kernel_rfl) (Below.refl _ _).drew ?_
        simp only [List.take_succ_cons, List.take_zero, List.drop_succ_cons, List.drop_zero]
        repeat (first | (apply wpG_on; rfl; (intro w' hS K hK; have hc0 := (k1'.kept hS).c4; have hc1 := (k2'.kept hS).c4; have hc2 := (k7.kept hS).c4; have hc3 := (k8.kept hS).c4; go_simp; (first | exact hK.out _ hS | (go_at_call 17; (with_reducible refine (E2.out _).mono ?_); rintro e w'' ⟨rfl, hbb⟩; exact ⟨_, rfl, hK.out _ (hS.trans (hbb.mono hS.size))⟩))); simp only [Act.put, List.setIfInBounds_toArray, List.set_cons_succ, List.set_cons_zero]) | (apply wpG_off; rfl; simp only [Act.put, List.setIfInBounds_toArray, List.set_cons_succ, List.set_cons_zero]))
        apply wpG_nil
        intro W7 hS
        replace k1' := k1'.kept hS
        replace k2' := k2'.kept hS
        replace k7 := k7.kept hS
        replace k8 := k8.kept hS
        replace hb := hb.trans (hS.mono hb.size)
        clear hS
        go_wp2_with fail
        replace HN := Lib.hid (HN.out.kept hb)
        refine wp_region_grow 8 (fun w' => Below (World.heap W7).size W7 w') (by kernel_rfl) (by kernel_rfl) (Below.refl _ _).drew ?_
        simp only [List.take_succ_cons, List.take_zero, List.drop_succ_cons, List.drop_zero]
        repeat (first | (apply wpG_on; rfl; (intro w' hS K hK; have hc0 := (k1'.kept hS).c4; have hc1 := (k2'.kept hS).c4; have hc2 := (k7.kept hS).c4; have hc3 := (k8.kept hS).c4; go_simp; (first | exact hK.out _ hS | (go_at_call 17; (with_reducible refine (D3.out _).mono ?_); rintro e w'' ⟨rfl, hbb⟩; exact ⟨_, rfl, hK.out _ (hS.trans (hbb.mono hS.size))⟩) | (go_at_call 14; (with_reducible refine (example_any _ (HN.out.kept hS)).mono ?_); rintro e w'' ⟨rfl, hbb⟩; exact ⟨_, rfl, hK.out _ (hS.trans (hbb.mono hS.size))⟩))); simp only [Act.put, List.setIfInBounds_toArray, List.set_cons_succ, List.set_cons_zero]) | (apply wpG_off; rfl; simp only [Act.put, List.setIfInBounds_toArray, List.set_cons_succ, List.set_cons_zero]))
        apply wpG_nil
        intro W8 hS
        replace k1' := k1'.kept hS
        replace k2' := k2'.kept hS
        replace k7 := k7.kept hS
        replace k8 := k8.kept hS
        replace hb := hb.trans (hS.mono hb.size)
        clear hS
        go_wp2_with fail
        go_ret
        exact ⟨rfl, hb⟩
      · obtain rfl : A' = 0 := by omega
        clear D2
        go_wp2_with fail
        refine wp_region_grow 13 (fun w' => Below (World.heap W6).size W6 w') (by kernel_rfl) (by kernel_rfl) (Below.refl _ _).drew ?_
        simp only [List.take_succ_cons, List.take_zero, List.drop_succ_cons, List.drop_zero]
        repeat (first | (apply wpG_on; rfl; (intro w' hS K hK; have hc0 := (k1'.kept hS).c4; have hc1 := (k2'.kept hS).c4; have hc2 := (k7.kept hS).c4; have hc3 := (k8.kept hS).c4; go_simp; (first | exact hK.out _ hS)); simp only [Act.put, List.setIfInBounds_toArray, List.set_cons_succ, List.set_cons_zero]) | (apply wpG_off; rfl; simp only [Act.put, List.setIfInBounds_toArray, List.set_cons_succ, List.set_cons_zero]))
        apply wpG_nil
        intro W7 hS
        replace k1' := k1'.kept hS
        replace k2' := k2'.kept hS
        replace k7 := k7.kept hS
        replace k8 := k8.kept hS
        replace hb := hb.trans (hS.mono hb.size)
        clear hS
        go_wp2_with fail
        replace HN := Lib.hid (HN.out.kept hb)
        refine wp_region_grow 8 (fun w' => Below (World.heap W7).size W7 w') (by kernel_rfl) (by kernel_rfl) (Below.refl _ _).drew ?_
        simp only [List.take_succ_cons, List.take_zero, List.drop_succ_cons, List.drop_zero]
        repeat (first | (apply wpG_on; rfl; (intro w' hS K hK; have hc0 := (k1'.kept hS).c4; have hc1 := (k2'.kept hS).c4; have hc2 := (k7.kept hS).c4; have hc3 := (k8.kept hS).c4; go_simp; (first | exact hK.out _ hS | (go_at_call 17; (with_reducible refine (D3.out _).mono ?_); rintro e w'' ⟨rfl, hbb⟩; exact ⟨_, rfl, hK.out _ (hS.trans (hbb.mono hS.size))⟩) | (go_at_call 14; (with_reducible refine (example_any _ (HN.out.kept hS)).mono ?_); rintro e w'' ⟨rfl, hbb⟩; exact ⟨_, rfl, hK.out _ (hS.trans (hbb.mono hS.size))⟩))); simp only [Act.put, List.setIfInBounds_toArray, List.set_cons_succ, List.set_cons_zero]) | (apply wpG_off; rfl; simp only [Act.put, List.setIfInBounds_toArray, List.set_cons_succ, List.set_cons_zero]))
        apply wpG_nil
        intro W8 hS
        replace k1' := k1'.kept hS
        replace k2' := k2'.kept hS
        replace k7 := k7.kept hS
        replace k8 := k8.kept hS
        replace hb := hb.trans (hS.mono hb.size)
        clear hS
        go_wp2_with fail
        go_ret
        exact ⟨rfl, hb⟩
    · obtain rfl : A = 0 := hc.1
      have g1 : ¬ R = 0 := hc.2
      clear D1
      refine wp_region_grow 16 (fun w' => Below (World.heap W5).size W5 w') (by kernel_rfl) (by kernel_rfl) (Below.refl _ _).drew ?_
      simp only [List.take_succ_cons, List.take_zero, List.drop_succ_cons, List.drop_zero]
      repeat (first | (apply wpG_on; rfl; (intro w' hS K hK; have hc0 := (k1'.kept hS).c4; have hc1 := (k2'.kept hS).c4; have hc2 := (k7.kept hS).c4; have hc3 := (k8.kept hS).c4; go_simp; (first | exact hK.out _ hS)); simp only [Act.put, List.setIfInBounds_toArray, List.set_cons_succ, List.set_cons_zero]) | (apply wpG_off; rfl; simp only [Act.put, List.setIfInBounds_toArray, List.set_cons_succ, List.set_cons_zero]))
      apply wpG_nil
      intro W6 hS
      replace k1' := k1'.kept hS
      replace k2' := k2'.kept hS
      replace k7 := k7.kept hS
      replace k8 := k8.kept hS
      replace hb := hb.trans (hS.mono hb.size)
      clear hS
      by_cases hp : 0 < A'
      · have E2 := Lib.hid (fun w => D2.out hp w)
        clear D2
        have g2 : decide (0 < A') = true := decide_eq_true hp
        go_wp2_with fail
        refine wp_region_grow 13 (fun w' => Below (World.heap W6).size W6 w') (by kernel_rfl) (by kernel_rfl) (Below.refl _ _).drew ?_
        simp only [List.take_succ_cons, List.take_zero, List.drop_succ_cons, List.drop_zero]
        repeat (first | (apply wpG_on; rfl; (intro w' hS K hK; have hc0 := (k1'.kept hS).c4; have hc1 := (k2'.kept hS).c4; have hc2 := (k7.kept hS).c4; have hc3 := (k8.kept hS).c4; go_simp; (first | exact hK.out _ hS | (go_at_call 17; (with_reducible refine (E2.out _).mono ?_); rintro e w'' ⟨rfl, hbb⟩; exact ⟨_, rfl, hK.out _ (hS.trans (hbb.mono hS.size))⟩))); simp only [Act.put, List.setIfInBounds_toArray, List.set_cons_succ, List.set_cons_zero]) | (apply wpG_off; rfl; simp only [Act.put, List.setIfInBounds_toArray, List.set_cons_succ, List.set_cons_zero]))
        apply wpG_nil
        intro W7 hS
        replace k1' := k1'.kept hS
        replace k2' := k2'.kept hS
        replace k7 := k7.kept hS
        replace k8 := k8.kept hS
        replace hb := hb.trans (hS.mono hb.size)
        clear hS
        go_wp2_with fail
        replace HN := Lib.hid (HN.out.kept hb)
        refine wp_region_grow 8 (fun w' => Below (World.heap W7).size W7 w') (by kernel_rfl) (by kernel_rfl) (Below.refl _ _).drew ?_
        simp only [List.take_succ_cons, List.take_zero, List.drop_succ_cons, List.drop_zero]
        repeat (first | (apply wpG_on; rfl; (intro w' hS K hK; have hc0 := (k1'.kept hS).c4; have hc1 := (k2'.kept hS).c4; have hc2 := (k7.kept hS).c4; have hc3 := (k8.kept hS).c4; go_simp; (first | exact hK.out _ hS | (go_at_call 17; (with_reducible refine (D3.out _).mono ?_); rintro e w'' ⟨rfl, hbb⟩; exact ⟨_, rfl, hK.out _ (hS.trans (hbb.mono hS.size))⟩) | (go_at_call 14; (with_reducible refine (example_any _ (HN.out.kept hS)).mono ?_); rintro e w'' ⟨rfl, hbb⟩; exact ⟨_, rfl, hK.out _ (hS.trans (hbb.mono hS.size))⟩))); simp only [Act.put, List.setIfInBounds_toArray, List.set_cons_succ, List.set_cons_zero]) | (apply wpG_off; rfl; simp only [Act.put, List.setIfInBounds_toArray, List.set_cons_succ, List.set_cons_zero]))
        apply wpG_nil
        intro W8 hS
        replace k1' := k1'.kept hS
        replace k2' := k2'.kept hS
        replace k7 := k7.kept hS
        replace k8 := k8.kept hS
        replace hb := hb.trans (hS.mono hb.size)
        clear hS
        go_wp2_with fail
        go_ret
        exact ⟨rfl, hb⟩
      · obtain rfl : A' = 0 := by omega
        clear D2
        go_wp2_with fail
        refine wp_region_grow 13 (fun w' => Below (World.heap W6).size W6 w') (by kernel_rfl) (by kernel_rfl) (Below.refl _ _).drew ?_
        simp only [List.take_succ_cons, List.take_zero, List.drop_succ_cons, List.drop_zero]
        repeat (first | (apply wpG_on; rfl; (intro w' hS K hK; have hc0 := (k1'.kept hS).c4; have hc1 := (k2'.kept hS).c4; have hc2 := (k7.kept hS).c4; have hc3 := (k8.kept hS).c4; go_simp; (first | exact hK.out _ hS)); simp only [Act.put, List.setIfInBounds_toArray, List.set_cons_succ, List.set_cons_zero]) | (apply wpG_off; rfl; simp only [Act.put, List.setIfInBounds_toArray, List.set_cons_succ, List.set_cons_zero]))
        apply wpG_nil
        intro W7 hS
        replace k1' := k1'.kept hS
        replace k2' := k2'.kept hS
        replace k7 := k7.kept hS
        replace k8 := k8.kept hS
        replace hb := hb.trans (hS.mono hb.size)
        clear hS
        go_wp2_with fail
        replace HN := Lib.hid (HN.out.kept hb)
        refine wp_region_grow 8 (fun w' => Below (World.heap W7).size W7 w') (by kernel_rfl) (by kernel_rfl) (Below.refl _ _).drew ?_
        simp only [List.take_succ_cons, List.take_zero, List.drop_succ_cons, List.drop_zero]
        repeat (first | (apply wpG_on; rfl; (intro w' hS K hK; have hc0 := (k1'.kept hS).c4; have hc1 := (k2'.kept hS).c4; have hc2 := (k7.kept hS).c4; have hc3 := (k8.kept hS).c4; go_simp; (first | exact hK.out _ hS | (go_at_call 17; (with_reducible refine (D3.out _).mono ?_); rintro e w'' ⟨rfl, hbb⟩; exact ⟨_, rfl, hK.out _ (hS.trans (hbb.mono hS.size))⟩) | (go_at_call 14; (with_reducible refine (example_any _ (HN.out.kept hS)).mono ?_); rintro e w'' ⟨rfl, hbb⟩; exact ⟨_, rfl, hK.out _ (hS.trans (hbb.mono hS.size))⟩))); simp only [Act.put, List.setIfInBounds_toArray, List.set_cons_succ, List.set_cons_zero]) | (apply wpG_off; rfl; simp only [Act.put, List.setIfInBounds_toArray, List.set_cons_succ, List.set_cons_zero]))
        apply wpG_nil
        intro W8 hS
        replace k1' := k1'.kept hS
        replace k2' := k2'.kept hS
        replace k7 := k7.kept hS
        replace k8 := k8.kept hS
        replace hb := hb.trans (hS.mono hb.size)
        clear hS
        go_wp2_with fail
        go_ret
        exact ⟨rfl, hb⟩
    · obtain ⟨rfl, rfl⟩ : A = 0 ∧ R = 0 := ⟨hc.1, hc.2.1⟩
      have g1 : ¬ G = 0 := hc.2.2
      clear D1
      refine wp_region_grow 16 (fun w' => Below (World.heap W5).size W5 w') (by kernel_rfl) (by kernel_rfl) (Below.refl _ _).drew ?_
      simp only [List.take_succ_cons, List.take_zero, List.drop_succ_cons, List.drop_zero]
      repeat (first | (apply wpG_on; rfl; (intro w' hS K hK; have hc0 := (k1'.kept hS).c4; have hc1 := (k2'.kept hS).c4; have hc2 := (k7.kept hS).c4; have hc3 := (k8.kept hS).c4; go_simp; (first | exact hK.out _ hS)); simp only [Act.put, List.setIfInBounds_toArray, List.set_cons_succ, List.set_cons_zero]) | (apply wpG_off; rfl; simp only [Act.put, List.setIfInBounds_toArray, List.set_cons_succ, List.set_cons_zero]))
      apply wpG_nil
      intro W6 hS
      replace k1' := k1'.kept hS
      replace k2' := k2'.kept hS
      replace k7 := k7.kept hS
      replace k8 := k8.kept hS
      replace hb := hb.trans (hS.mono hb.size)
      clear hS
      by_cases hp : 0 < A'
      · have E2 := Lib.hid (fun w => D2.out hp w)
        clear D2
        have g2 : decide (0 < A') = true := decide_eq_true hp
        go_wp2_with fail
        refine wp_region_grow 13 (fun w' => Below (World.heap W6).size W6 w') (by kernel_rfl) (by kernel_rfl) (Below.refl _ _).drew ?_
        simp only [List.take_succ_cons, List.take_zero, List.drop_succ_cons, List.drop_zero]
        repeat (first | (apply wpG_on; rfl; (intro w' hS K hK; have hc0 := (k1'.kept hS).c4; have hc1 := (k2'.kept hS).c4; have hc2 := (k7.kept hS).c4; have hc3 := (k8.kept hS).c4; go_simp; (first | exact hK.out _ hS | (go_at_call 17; (with_reducible refine (E2.out _).mono ?_); rintro e w'' ⟨rfl, hbb⟩; exact ⟨_, rfl, hK.out _ (hS.trans (hbb.mono hS.size))⟩))); simp only [Act.put, List.setIfInBounds_toArray, List.set_cons_succ, List.set_cons_zero]) | (apply wpG_off; rfl; simp only [Act.put, List.setIfInBounds_toArray, List.set_cons_succ, List.set_cons_zero]))
        apply wpG_nil
        intro W7 hS
        replace k1' := k1'.kept hS
        replace k2' := k2'.kept hS
        replace k7 := k7.kept hS
        replace k8 := k8.kept hS
        replace hb := hb.trans (hS.mono hb.size)
        clear hS
        go_wp2_with fail
        replace HN := Lib.hid (HN.out.kept hb)
        refine wp_region_grow 8 (fun w' => Below (World.heap W7).size W7 w') (by kernel_rfl) (by kernel_rfl) (Below.refl _ _).drew ?_
        simp only [List.take_succ_cons, List.take_zero, List.drop_succ_cons, List.drop_zero]
        repeat (first | (apply wpG_on; rfl; (intro w' hS K hK; have hc0 := (k1'.kept hS).c4; have hc1 := (k2'.kept hS).c4; have hc2 := (k7.kept hS).c4; have hc3 := (k8.kept hS).c4; go_simp; (first | exact hK.out _ hS | (go_at_call 17; (with_reducible refine (D3.out _).mono ?_); rintro e w'' ⟨rfl, hbb⟩; exact ⟨_, rfl, hK.out _ (hS.trans (hbb.mono hS.size))⟩) | (go_at_call 14; (with_reducible refine (example_any _ (HN.out.kept hS)).mono ?_); rintro e w'' ⟨rfl, hbb⟩; exact ⟨_, rfl, hK.out _ (hS.trans (hbb.mono hS.size))⟩))); simp only [Act.put, List.setIfInBounds_toArray, List.set_cons_succ, List.set_cons_zero]) | (apply wpG_off; rfl; simp only [Act.put, List.setIfInBounds_toArray, List.set_cons_succ, List.set_cons_zero]))
        apply wpG_nil
        intro W8 hS
        replace k1' := k1'.kept hS
        replace k2' := k2'.kept hS
        replace k7 := k7.kept hS
        replace k8 := k8.kept hS
        replace hb := hb.trans (hS.mono hb.size)
        clear hS
        go_wp2_with fail
        go_ret
        exact ⟨rfl, hb⟩
      · obtain rfl : A' = 0 := by omega
        clear D2
        go_wp2_with fail
        refine wp_region_grow 13 (fun w' => Below (World.heap W6).size W6 w') (by kernel_rfl) (by kernel_rfl) (Below.refl _ _).drew ?_
        simp only [List.take_succ_cons, List.take_zero, List.drop_succ_cons, List.drop_zero]
        repeat (first | (apply wpG_on; rfl; (intro w' hS K hK; have hc0 := (k1'.kept hS).c4; have hc1 := (k2'.kept hS).c4; have hc2 := (k7.kept hS).c4; have hc3 := (k8.kept hS).c4; go_simp; (first | exact hK.out _ hS)); simp only [Act.put, List.setIfInBounds_toArray, List.set_cons_succ, List.set_cons_zero]) | (apply wpG_off; rfl; simp only [Act.put, List.setIfInBounds_toArray, List.set_cons_succ, List.set_cons_zero]))
        apply wpG_nil
        intro W7 hS
        replace k1' := k1'.kept hS
        replace k2' := k2'.kept hS
        replace k7 := k7.kept hS
        replace k8 := k8.kept hS
        replace hb := hb.trans (hS.mono hb.size)
        clear hS
        go_wp2_with fail
        replace HN := Lib.hid (HN.out.kept hb)
        refine wp_region_grow 8 (fun w' => Below (World.heap W7).size W7 w') (by kernel_rfl) (by kernel_rfl) (Below.refl _ _).drew ?_
        simp only [List.take_succ_cons, List.take_zero, List.drop_succ_cons, List.drop_zero]
        repeat (first | (apply wpG_on; rfl; (intro w' hS K hK; have hc0 := (k1'.kept hS).c4; have hc1 := (k2'.kept hS).c4; have hc2 := (k7.kept hS).c4; have hc3 := (k8.kept hS).c4; go_simp; (first | exact hK.out _ hS | (go_at_call 17; (with_reducible refine (D3.out _).mono ?_); rintro e w'' ⟨rfl, hbb⟩; exact ⟨_, rfl, hK.out _ (hS.trans (hbb.mono hS.size))⟩) | (go_at_call 14; (with_reducible refine (example_any _ (HN.out.kept hS)).mono ?_); rintro e w'' ⟨rfl, hbb⟩; exact ⟨_, rfl, hK.out _ (hS.trans (hbb.mono hS.size))⟩))); simp only [Act.put, List.setIfInBounds_toArray, List.set_cons_succ, List.set_cons_zero]) | (apply wpG_off; rfl; simp only [Act.put, List.setIfInBounds_toArray, List.set_cons_succ, List.set_cons_zero]))
        apply wpG_nil
        intro W8 hS
        replace k1' := k1'.kept hS
        replace k2' := k2'.kept hS
        replace k7 := k7.kept hS
        replace k8 := k8.kept hS
        replace hb := hb.trans (hS.mono hb.size)
        clear hS
        go_wp2_with fail
        go_ret
        exact ⟨rfl, hb⟩
    · obtain ⟨rfl, rfl, rfl⟩ : A = 0 ∧ R = 0 ∧ G = 0 := ⟨hc.1, hc.2.1, hc.2.2.1⟩
      have g1 : ¬ B = 0 := hc.2.2.2
      clear D1
      refine wp_region_grow 16 (fun w' => Below (World.heap W5).size W5 w') (by kernel_rfl) (by kernel_rfl) (Below.refl _ _).drew ?_
      simp only [List.take_succ_cons, List.take_zero, List.drop_succ_cons, List.drop_zero]
      repeat (first | (apply wpG_on; rfl; (intro w' hS K hK; have hc0 := (k1'.kept hS).c4; have hc1 := (k2'.kept hS).c4; have hc2 := (k7.kept hS).c4; have hc3 := (k8.kept hS).c4; go_simp; (first | exact hK.out _ hS)); simp only [Act.put, List.setIfInBounds_toArray, List.set_cons_succ, List.set_cons_zero]) | (apply wpG_off; rfl; simp only [Act.put, List.setIfInBounds_toArray, List.set_cons_succ, List.set_cons_zero]))
      apply wpG_nil
      intro W6 hS
      replace k1' := k1'.kept hS
      replace k2' := k2'.kept hS
      replace k7 := k7.kept hS
      replace k8 := k8.kept hS
      replace hb := hb.trans (hS.mono hb.size)
      clear hS
      by_cases hp : 0 < A'
      · have E2 := Lib.hid (fun w => D2.out hp w)
        clear D2
        have g2 : decide (0 < A') = true := decide_eq_true hp
        go_wp2_with fail
        refine wp_region_grow 13 (fun w' => Below (World.heap W6).size W6 w') (by kernel_rfl) (by kernel_rfl) (Below.refl _ _).drew ?_
        simp only [List.take_succ_cons, List.take_zero, List.drop_succ_cons, List.drop_zero]
        repeat (first | (apply wpG_on; rfl; (intro w' hS K hK; have hc0 := (k1'.kept hS).c4; have hc1 := (k2'.kept hS).c4; have hc2 := (k7.kept hS).c4; have hc3 := (k8.kept hS).c4; go_simp; (first | exact hK.out _ hS | (go_at_call 17; (with_reducible refine (E2.out _).mono ?_); rintro e w'' ⟨rfl, hbb⟩; exact ⟨_, rfl, hK.out _ (hS.trans (hbb.mono hS.size))⟩))); simp only [Act.put, List.setIfInBounds_toArray, List.set_cons_succ, List.set_cons_zero]) | (apply wpG_off; rfl; simp only [Act.put, List.setIfInBounds_toArray, List.set_cons_succ, List.set_cons_zero]))
        apply wpG_nil
        intro W7 hS
        replace k1' := k1'.kept hS
        replace k2' := k2'.kept hS
        replace k7 := k7.kept hS
        replace k8 := k8.kept hS
        replace hb := hb.trans (hS.mono hb.size)
        clear hS
        go_wp2_with fail
        replace HN := Lib.hid (HN.out.kept hb)
        refine wp_region_grow 8 (fun w' => Below (World.heap W7).size W7 w') (by kernel_rfl) (by kernel_rfl) (Below.refl _ _).drew ?_
        simp only [List.take_succ_cons, List.take_zero, List.drop_succ_cons, List.drop_zero]
        repeat (first | (apply wpG_on; rfl; (intro w' hS K hK; have hc0 := (k1'.kept hS).c4; have hc1 := (k2'.kept hS).c4; have hc2 := (k7.kept hS).c4; have hc3 := (k8.kept hS).c4; go_simp; (first | exact hK.out _ hS | (go_at_call 17; (with_reducible refine (D3.out _).mono ?_); rintro e w'' ⟨rfl, hbb⟩; exact ⟨_, rfl, hK.out _ (hS.trans (hbb.mono hS.size))⟩) | (go_at_call 14; (with_reducible refine (example_any _ (HN.out.kept hS)).mono ?_); rintro e w'' ⟨rfl, hbb⟩; exact ⟨_, rfl, hK.out _ (hS.trans (hbb.mono hS.size))⟩))); simp only [Act.put, List.setIfInBounds_toArray, List.set_cons_succ, List.set_cons_zero]) | (apply wpG_off; rfl; simp only [Act.put, List.setIfInBounds_toArray, List.set_cons_succ, List.set_cons_zero]))
        apply wpG_nil
        intro W8 hS
        replace k1' := k1'.kept hS
        replace k2' := k2'.kept hS
        replace k7 := k7.kept hS
        replace k8 := k8.kept hS
        replace hb := hb.trans (hS.mono hb.size)
        clear hS
        go_wp2_with fail
        go_ret
        exact ⟨rfl, hb⟩
      · obtain rfl : A' = 0 := by omega
        clear D2
        go_wp2_with fail
        refine wp_region_grow 13 (fun w' => Below (World.heap W6).size W6 w') (by kernel_rfl) (by kernel_rfl) (Below.refl _ _).drew ?_
        simp only [List.take_succ_cons, List.take_zero, List.drop_succ_cons, List.drop_zero]
        repeat (first | (apply wpG_on; rfl; (intro w' hS K hK; have hc0 := (k1'.kept hS).c4; have hc1 := (k2'.kept hS).c4; have hc2 := (k7.kept hS).c4; have hc3 := (k8.kept hS).c4; go_simp; (first | exact hK.out _ hS)); simp only [Act.put, List.setIfInBounds_toArray, List.set_cons_succ, List.set_cons_zero]) | (apply wpG_off; rfl; simp only [Act.put, List.setIfInBounds_toArray, List.set_cons_succ, List.set_cons_zero]))
        apply wpG_nil
        intro W7 hS
        replace k1' := k1'.kept hS
        replace k2' := k2'.kept hS
        replace k7 := k7.kept hS
        replace k8 := k8.kept hS
        replace hb := hb.trans (hS.mono hb.size)
        clear hS
        go_wp2_with fail
        replace HN := Lib.hid (HN.out.kept hb)
        refine wp_region_grow 8 (fun w' => Below (World.heap W7).size W7 w') (by kernel_rfl) (by kernel_rfl) (Below.refl _ _).drew ?_
        simp only [List.take_succ_cons, List.take_zero, List.drop_succ_cons, List.drop_zero]
        repeat (first | (apply wpG_on; rfl; (intro w' hS K hK; have hc0 := (k1'.kept hS).c4; have hc1 := (k2'.kept hS).c4; have hc2 := (k7.kept hS).c4; have hc3 := (k8.kept hS).c4; go_simp; (first | exact hK.out _ hS | (go_at_call 17; (with_reducible refine (D3.out _).mono ?_); rintro e w'' ⟨rfl, hbb⟩; exact ⟨_, rfl, hK.out _ (hS.trans (hbb.mono hS.size))⟩) | (go_at_call 14; (with_reducible refine (example_any _ (HN.out.kept hS)).mono ?_); rintro e w'' ⟨rfl, hbb⟩; exact ⟨_, rfl, hK.out _ (hS.trans (hbb.mono hS.size))⟩))); simp only [Act.put, List.setIfInBounds_toArray, List.set_cons_succ, List.set_cons_zero]) | (apply wpG_off; rfl; simp only [Act.put, List.setIfInBounds_toArray, List.set_cons_succ, List.set_cons_zero]))
        apply wpG_nil
        intro W8 hS
        replace k1' := k1'.kept hS
        replace k2' := k2'.kept hS
        replace k7 := k7.kept hS
        replace k8 := k8.kept hS
        replace hb := hb.trans (hS.mono hb.size)
        clear hS
        go_wp2_with fail
        go_ret
        exact ⟨rfl, hb⟩
  · clear c1 c2
    refine name2d (fun W5 k8 k7 hS => ?_)
    replace k1' := k1'.kept hS
    replace k2' := k2'.kept hS
    replace hb := hb.trans (hS.mono hb.size)
    clear hS
    have cases3 : 0 < A ∨ (R = 0 ∧ G = 0 ∧ B = 0 ∧ A = 0) ∨ (A = 0 ∧ R ≠ 0) ∨ (A = 0 ∧ R = 0 ∧ G ≠ 0) ∨ (A = 0 ∧ R = 0 ∧ G = 0 ∧ B ≠ 0) := by omega
    rcases cases3 with hc | hc | hc | hc | hc
    · have g1 : decide (0 < A) = true := decide_eq_true hc
      have E1 := Lib.hid (fun w => D1.out (.inl hc) w)
      clear D1
      refine wp_region_grow 16 (fun w' => Below (World.heap W5).size W5 w') (by kernel_rfl) (by kernel_rfl) (Below.refl _ _).drew ?_
      simp only [List.take_succ_cons, List.take_zero, List.drop_succ_cons, List.drop_zero]
      repeat (first | (apply wpG_on; rfl; (intro w' hS K hK; have hc0 := (k1'.kept hS).c4; have hc1 := (k2'.kept hS).c4; have hc2 := (k7.kept hS).c4; have hc3 := (k8.kept hS).c4; go_simp; (first | exact hK.out _ hS | (go_at_call 17; (with_reducible refine (E1.out _).mono ?_); rintro e w'' ⟨rfl, hbb⟩; exact ⟨_, rfl, hK.out _ (hS.trans (hbb.mono hS.size))⟩))); simp only [Act.put, List.setIfInBounds_toArray, List.set_cons_succ, List.set_cons_zero]) | (apply wpG_off; rfl; simp only [Act.put, List.setIfInBounds_toArray, List.set_cons_succ, List.set_cons_zero]))
      apply wpG_nil
      intro W6 hS
      replace k1' := k1'.kept hS
      replace k2' := k2'.kept hS
      replace k7 := k7.kept hS
      replace k8 := k8.kept hS
      replace hb := hb.trans (hS.mono hb.size)
      clear hS
      by_cases hp : 0 < A'
      · have E2 := Lib.hid (fun w => D2.out hp w)
        clear D2
        have g2 : decide (0 < A') = true := decide_eq_true hp
        go_wp2_with fail
        refine wp_region_grow 13 (fun w' => Below (World.heap W6).size W6 w') (by kernel_rfl) (by kernel_rfl) (Below.refl _ _).drew ?_
        simp only [List.take_succ_cons, List.take_zero, List.drop_succ_cons, List.drop_zero]
        repeat (first | (apply wpG_on; rfl; (intro w' hS K hK; have hc0 := (k1'.kept hS).c4; have hc1 := (k2'.kept hS).c4; have hc2 := (k7.kept hS).c4; have hc3 := (k8.kept hS).c4; go_simp; (first | exact hK.out _ hS | (go_at_call 17; (with_reducible refine (E2.out _).mono ?_); rintro e w'' ⟨rfl, hbb⟩; exact ⟨_, rfl, hK.out _ (hS.trans (hbb.mono hS.size))⟩))); simp only [Act.put, List.setIfInBounds_toArray, List.set_cons_succ, List.set_cons_zero]) | (apply wpG_off; rfl; simp only [Act.put, List.setIfInBounds_toArray, List.set_cons_succ, List.set_cons_zero]))
        apply wpG_nil
        intro W7 hS
        replace k1' := k1'.kept hS
        replace k2' := k2'.kept hS
        replace k7 := k7.kept hS
        replace k8 := k8.kept hS
        replace hb := hb.trans (hS.mono hb.size)
        clear hS
        go_wp2_with fail
        replace HN := Lib.hid (HN.out.kept hb)
        refine wp_region_grow 8 (fun w' => Below (World.heap W7).size W7 w') (by kernel_rfl) (by kernel_rfl) (Below.refl _ _).drew ?_
        simp only [List.take_succ_cons, List.take_zero, List.drop_succ_cons, List.drop_zero]
        repeat (first | (apply wpG_on; rfl; (intro w' hS K hK; have hc0 := (k1'.kept hS).c4; have hc1 := (k2'.kept hS).c4; have hc2 := (k7.kept hS).c4; have hc3 := (k8.kept hS).c4; go_simp; (first | exact hK.out _ hS | (go_at_call 17; (with_reducible refine (D3.out _).mono ?_); rintro e w'' ⟨rfl, hbb⟩; exact ⟨_, rfl, hK.out _ (hS.trans (hbb.mono hS.size))⟩) | (go_at_call 14; (with_reducible refine (example_any _ (HN.out.kept hS)).mono ?_); rintro e w'' ⟨rfl, hbb⟩; exact ⟨_, rfl, hK.out _ (hS.trans (hbb.mono hS.size))⟩))); simp only [Act.put, List.setIfInBounds_toArray, List.set_cons_succ, List.set_cons_zero]) | (apply wpG_off; rfl; simp only [Act.put, List.setIfInBounds_toArray, List.set_cons_succ, List.set_cons_zero]))
        apply wpG_nil
        intro W8 hS
        replace k1' := k1'.kept hS
        replace k2' := k2'.kept hS
        replace k7 := k7.kept hS
        replace k8 := k8.kept hS
        replace hb := hb.trans (hS.mono hb.size)
        clear hS
        go_wp2_with fail
        go_ret
        exact ⟨rfl, hb⟩
      · obtain rfl : A' = 0 := by omega
        clear D2
        go_wp2_with fail
        refine wp_region_grow 13 (fun w' => Below (World.heap W6).size W6 w') (by kernel_rfl) (by kernel_rfl) (Below.refl _ _).drew ?_
        simp only [List.take_succ_cons, List.take_zero, List.drop_succ_cons, List.drop_zero]
        repeat (first | (apply wpG_on; rfl; (intro w' hS K hK; have hc0 := (k1'.kept hS).c4; have hc1 := (k2'.kept hS).c4; have hc2 := (k7.kept hS).c4; have hc3 := (k8.kept hS).c4; go_simp; (first | exact hK.out _ hS)); simp only [Act.put, List.setIfInBounds_toArray, List.set_cons_succ, List.set_cons_zero]) | (apply wpG_off; rfl; simp only [Act.put, List.setIfInBounds_toArray, List.set_cons_succ, List.set_cons_zero]))
        apply wpG_nil
        intro W7 hS
        replace k1' := k1'.kept hS
        replace k2' := k2'.kept hS
        replace k7 := k7.kept hS
        replace k8 := k8.kept hS
        replace hb := hb.trans (hS.mono hb.size)
        clear hS
        go_wp2_with fail
        replace HN := Lib.hid (HN.out.kept hb)
        refine wp_region_grow 8 (fun w' => Below (World.heap W7).size W7 w') (by kernel_rfl) (by kernel_rfl) (Below.refl _ _).drew ?_
        simp only [List.take_succ_cons, List.take_zero, List.drop_succ_cons, List.drop_zero]
        repeat (first | (apply wpG_on; rfl; (intro w' hS K hK; have hc0 := (k1'.kept hS).c4; have hc1 := (k2'.kept hS).c4; have hc2 := (k7.kept hS).c4; have hc3 := (k8.kept hS).c4; go_simp; (first | exact hK.out _ hS | (go_at_call 17; (with_reducible refine (D3.out _).mono ?_); rintro e w'' ⟨rfl, hbb⟩; exact ⟨_, rfl, hK.out _ (hS.trans (hbb.mono hS.size))⟩) | (go_at_call 14; (with_reducible refine (example_any _ (HN.out.kept hS)).mono ?_); rintro e w'' ⟨rfl, hbb⟩; exact ⟨_, rfl, hK.out _ (hS.trans (hbb.mono hS.size))⟩))); simp only [Act.put, List.setIfInBounds_toArray, List.set_cons_succ, List.set_cons_zero]) | (apply wpG_off; rfl; simp only [Act.put, List.setIfInBounds_toArray, List.set_cons_succ, List.set_cons_zero]))
        apply wpG_nil
        intro W8 hS
        replace k1' := k1'.kept hS
        replace k2' := k2'.kept hS
        replace k7 := k7.kept hS
        replace k8 := k8.kept hS
        replace hb := hb.trans (hS.mono hb.size)
        clear hS
        go_wp2_with fail
        go_ret
        exact ⟨rfl, hb⟩
    · obtain ⟨rfl, rfl, rfl, rfl⟩ : R = 0 ∧ G = 0 ∧ B = 0 ∧ A = 0 := hc
      have E1 := Lib.hid (fun w => D1.out (.inr rfl) w)
      clear D1
      refine wp_region_grow 16 (fun w' => Below (World.heap W5).size W5 w') (by kernel_rfl) (by kernel_rfl) (Below.refl _ _).drew ?_
      simp only [List.take_succ_cons, List.take_zero, List.drop_succ_cons, List.drop_zero]
      repeat (first | (apply wpG_on; rfl; (intro w' hS K hK; have hc0 := (k1'.kept hS).c4; have hc1 := (k2'.kept hS).c4; have hc2 := (k7.kept hS).c4; have hc3 := (k8.kept hS).c4; go_simp; (first | exact hK.out _ hS | (go_at_call 17; (with_reducible refine (E1.out _).mono ?_); rintro e w'' ⟨rfl, hbb⟩; exact ⟨_, rfl, hK.out _ (hS.trans (hbb.mono hS.size))⟩))); simp only [Act.put, List.setIfInBounds_toArray, List.set_cons_succ, List.set_cons_zero]) | (apply wpG_off; rfl; simp only [Act.put, List.setIfInBounds_toArray, List.set_cons_succ, List.set_cons_zero]))
      apply wpG_nil
      intro W6 hS
      replace k1' := k1'.kept hS
      replace k2' := k2'.kept hS
      replace k7 := k7.kept hS
      replace k8 := k8.kept hS
      replace hb := hb.trans (hS.mono hb.size)
      clear hS
      by_cases hp : 0 < A'
      · have E2 := Lib.hid (fun w => D2.out hp w)
        clear D2
        have g2 : decide (0 < A') = true := decide_eq_true hp
        go_wp2_with fail
        refine wp_region_grow 13 (fun w' => Below (World.heap W6).size W6 w') (by kernel_rfl) (by kernel_rfl) (Below.refl _ _).drew ?_
        simp only [List.take_succ_cons, List.take_zero, List.drop_succ_cons, List.drop_zero]
        repeat (first | (apply wpG_on; rfl; (intro w' hS K hK; have hc0 := (k1'.kept hS).c4; have hc1 := (k2'.kept hS).c4; have hc2 := (k7.kept hS).c4; have hc3 := (k8.kept hS).c4; go_simp; (first | exact hK.out _ hS | (go_at_call 17; (with_reducible refine (E2.out _).mono ?_); rintro e w'' ⟨rfl, hbb⟩; exact ⟨_, rfl, hK.out _ (hS.trans (hbb.mono hS.size))⟩))); simp only [Act.put, List.setIfInBounds_toArray, List.set_cons_succ, List.set_cons_zero]) | (apply wpG_off; rfl; simp only [Act.put, List.setIfInBounds_toArray, List.set_cons_succ, List.set_cons_zero]))
        apply wpG_nil
        intro W7 hS
        replace k1' := k1'.kept hS
        replace k2' := k2'.kept hS
        replace k7 := k7.kept hS
        replace k8 := k8.kept hS
        replace hb := hb.trans (hS.mono hb.size)
        clear hS
        go_wp2_with fail
        replace HN := Lib.hid (HN.out.kept hb)
        refine wp_region_grow 8 (fun w' => Below (World.heap W7).size W7 w') (by kernel_rfl) (by kernel_rfl) (Below.refl _ _).drew ?_
        simp only [List.take_succ_cons, List.take_zero, List.drop_succ_cons, List.drop_zero]
        repeat (first | (apply wpG_on; rfl; (intro w' hS K hK; have hc0 := (k1'.kept hS).c4; have hc1 := (k2'.kept hS).c4; have hc2 := (k7.kept hS).c4; have hc3 := (k8.kept hS).c4; go_simp; (first | exact hK.out _ hS | (go_at_call 17; (with_reducible refine (D3.out _).mono ?_); rintro e w'' ⟨rfl, hbb⟩; exact ⟨_, rfl, hK.out _ (hS.trans (hbb.mono hS.size))⟩) | (go_at_call 14; (with_reducible refine (example_any _ (HN.out.kept hS)).mono ?_); rintro e w'' ⟨rfl, hbb⟩; exact ⟨_, rfl, hK.out _ (hS.trans (hbb.mono hS.size))⟩))); simp only [Act.put, List.setIfInBounds_toArray, List.set_cons_succ, List.set_cons_zero]) | (apply wpG_off; rfl; simp only [Act.put, List.setIfInBounds_toArray, List.set_cons_succ, List.set_cons_zero]))
        apply wpG_nil
        intro W8 hS
        replace k1' := k1'.kept hS
        replace k2' := k2'.kept hS
        replace k7 := k7.kept hS
        replace k8 := k8.kept hS
        replace hb := hb.trans (hS.mono hb.size)
        clear hS
        go_wp2_with fail
        go_ret
        exact ⟨rfl, hb⟩
      · obtain rfl : A' = 0 := by omega
        clear D2
        go_wp2_with fail
        refine wp_region_grow 13 (fun w' => Below (World.heap W6).size W6 w') (by kernel_rfl) (by kernel_rfl) (Below.refl _ _).drew ?_
        simp only [List.take_succ_cons, List.take_zero, List.drop_succ_cons, List.drop_zero]
        repeat (first | (apply wpG_on; rfl; (intro w' hS K hK; have hc0 := (k1'.kept hS).c4; have hc1 := (k2'.kept hS).c4; have hc2 := (k7.kept hS).c4; have hc3 := (k8.kept hS).c4; go_simp; (first | exact hK.out _ hS)); simp only [Act.put, List.setIfInBounds_toArray, List.set_cons_succ, List.set_cons_zero]) | (apply wpG_off; rfl; simp only [Act.put, List.setIfInBounds_toArray, List.set_cons_succ, List.set_cons_zero]))
        apply wpG_nil
        intro W7 hS
        replace k1' := k1'.kept hS
        replace k2' := k2'.kept hS
        replace k7 := k7.kept hS
        replace k8 := k8.kept hS
        replace hb := hb.trans (hS.mono hb.size)
        clear hS
        go_wp2_with fail
        replace HN := Lib.hid (HN.out.kept hb)
        refine wp_region_grow 8 (fun w' => Below (World.heap W7).size W7 w') (by kernel_rfl) (by kernel_rfl) (Below.refl _ _).drew ?_
        simp only [List.take_succ_cons, List.take_zero, List.drop_succ_cons, List.drop_zero]
        repeat (first | (apply wpG_on; rfl; (intro w' hS K hK; have hc0 := (k1'.kept hS).c4; have hc1 := (k2'.kept hS).c4; have hc2 := (k7.kept hS).c4; have hc3 := (k8.kept hS).c4; go_simp; (first | exact hK.out _ hS | (go_at_call 17; (with_reducible refine (D3.out _).mono ?_); rintro e w'' ⟨rfl, hbb⟩; exact ⟨_, rfl, hK.out _ (hS.trans (hbb.mono hS.size))⟩) | (go_at_call 14; (with_reducible refine (example_any _ (HN.out.kept hS)).mono ?_); rintro e w'' ⟨rfl, hbb⟩; exact ⟨_, rfl, hK.out _ (hS.trans (hbb.mono hS.size))⟩))); simp only [Act.put, List.setIfInBounds_toArray, List.set_cons_succ, List.set_cons_zero]) | (apply wpG_off; rfl; simp only [Act.put, List.setIfInBounds_toArray, List.set_cons_succ, List.set_cons_zero]))
        apply wpG_nil
        intro W8 hS
        replace k1' := k1'.kept hS
        replace k2' := k2'.kept hS
        replace k7 := k7.kept hS
        replace k8 := k8.kept hS
        replace hb := hb.trans (hS.mono hb.size)
        clear hS
        go_wp2_with fail
        go_ret
        exact ⟨rfl, hb⟩
    · obtain rfl : A = 0 := hc.1
      have g1 : ¬ R = 0 := hc.2
      clear D1
      refine wp_region_grow 16 (fun w' => Below (World.heap W5).size W5 w') (by kernel_rfl) (by kernel_rfl) (Below.refl _ _).drew ?_
      simp only [List.take_succ_cons, List.take_zero, List.drop_succ_cons, List.drop_zero]
      repeat (first | (apply wpG_on; rfl; (intro w' hS K hK; have hc0 := (k1'.kept hS).c4; have hc1 := (k2'.kept hS).c4; have hc2 := (k7.kept hS).c4; have hc3 := (k8.kept hS).c4; go_simp; (first | exact hK.out _ hS)); simp only [Act.put, List.setIfInBounds_toArray, List.set_cons_succ, List.set_cons_zero]) | (apply wpG_off; rfl; simp only [Act.put, List.setIfInBounds_toArray, List.set_cons_succ, List.set_cons_zero]))
      apply wpG_nil
      intro W6 hS
      replace k1' := k1'.kept hS
      replace k2' := k2'.kept hS
      replace k7 := k7.kept hS
      replace k8 := k8.kept hS
      replace hb := hb.trans (hS.mono hb.size)
      clear hS
      by_cases hp : 0 < A'
      · have E2 := Lib.hid (fun w => D2.out hp w)
        clear D2
        have g2 : decide (0 < A') = true := decide_eq_true hp
        go_wp2_with fail
        refine wp_region_grow 13 (fun w' => Below (World.heap W6).size W6 w') (by kernel_rfl) (by kernel_rfl) (Below.refl _ _).drew ?_
        simp only [List.take_succ_cons, List.take_zero, List.drop_succ_cons, List.drop_zero]
        repeat (first | (apply wpG_on; rfl; (intro w' hS K hK; have hc0 := (k1'.kept hS).c4; have hc1 := (k2'.kept hS).c4; have hc2 := (k7.kept hS).c4; have hc3 := (k8.kept hS).c4; go_simp; (first | exact hK.out _ hS | (go_at_call 17; (with_reducible refine (E2.out _).mono ?_); rintro e w'' ⟨rfl, hbb⟩; exact ⟨_, rfl, hK.out _ (hS.trans (hbb.mono hS.size))⟩))); simp only [Act.put, List.setIfInBounds_toArray, List.set_cons_succ, List.set_cons_zero]) | (apply wpG_off; rfl; simp only [Act.put, List.setIfInBounds_toArray, List.set_cons_succ, List.set_cons_zero]))
        apply wpG_nil
        intro W7 hS
        replace k1' := k1'.kept hS
        replace k2' := k2'.kept hS
        replace k7 := k7.kept hS
        replace k8 := k8.kept hS
        replace hb := hb.trans (hS.mono hb.size)
        clear hS
        go_wp2_with fail
        replace HN := Lib.hid (HN.out.kept hb)
        refine wp_region_grow 8 (fun w' => Below (World.heap W7).size W7 w') (by kernel_rfl) (by kernel_rfl) (Below.refl _ _).drew ?_
        simp only [List.take_succ_cons, List.take_zero, List.drop_succ_cons, List.drop_zero]
        repeat (first | (apply wpG_on; rfl; (intro w' hS K hK; have hc0 := (k1'.kept hS).c4; have hc1 := (k2'.kept hS).c4; have hc2 := (k7.kept hS).c4; have hc3 := (k8.kept hS).c4; go_simp; (first | exact hK.out _ hS | (go_at_call 17; (with_reducible refine (D3.out _).mono ?_); rintro e w'' ⟨rfl, hbb⟩; exact ⟨_, rfl, hK.out _ (hS.trans (hbb.mono hS.size))⟩) | (go_at_call 14; (with_reducible refine (example_any _ (HN.out.kept hS)).mono ?_); rintro e w'' ⟨rfl, hbb⟩; exact ⟨_, rfl, hK.out _ (hS.trans (hbb.mono hS.size))⟩))); simp only [Act.put, List.setIfInBounds_toArray, List.set_cons_succ, List.set_cons_zero]) | (apply wpG_off; rfl; simp only [Act.put, List.setIfInBounds_toArray, List.set_cons_succ, List.set_cons_zero]))
        apply wpG_nil
        intro W8 hS
        replace k1' := k1'.kept hS
        replace k2' := k2'.kept hS
        replace k7 := k7.kept hS
        replace k8 := k8.kept hS
        replace hb := hb.trans (hS.mono hb.size)
        clear hS
        go_wp2_with fail
        go_ret
        exact ⟨rfl, hb⟩
      · obtain rfl : A' = 0 := by omega
        clear D2
        go_wp2_with fail
        refine wp_region_grow 13 (fun w' => Below (World.heap W6).size W6 w') (by kernel_rfl) (by kernel_rfl) (Below.refl _ _).drew ?_
        simp only [List.take_succ_cons, List.take_zero, List.drop_succ_cons, List.drop_zero]
        repeat (first | (apply wpG_on; rfl; (intro w' hS K hK; have hc0 := (k1'.kept hS).c4; have hc1 := (k2'.kept hS).c4; have hc2 := (k7.kept hS).c4; have hc3 := (k8.kept hS).c4; go_simp; (first | exact hK.out _ hS)); simp only [Act.put, List.setIfInBounds_toArray, List.set_cons_succ, List.set_cons_zero]) | (apply wpG_off; rfl; simp only [Act.put, List.setIfInBounds_toArray, List.set_cons_succ, List.set_cons_zero]))
        apply wpG_nil
        intro W7 hS
        replace k1' := k1'.kept hS
        replace k2' := k2'.kept hS
        replace k7 := k7.kept hS
        replace k8 := k8.kept hS
        replace hb := hb.trans (hS.mono hb.size)
        clear hS
        go_wp2_with fail
        replace HN := Lib.hid (HN.out.kept hb)
        refine wp_region_grow 8 (fun w' => Below (World.heap W7).size W7 w') (by kernel_rfl) (by kernel_rfl) (Below.refl _ _).drew ?_
        simp only [List.take_succ_cons, List.take_zero, List.drop_succ_cons, List.drop_zero]
        repeat (first | (apply wpG_on; rfl; (intro w' hS K hK; have hc0 := (k1'.kept hS).c4; have hc1 := (k2'.kept hS).c4; have hc2 := (k7.kept hS).c4; have hc3 := (k8.kept hS).c4; go_simp; (first | exact hK.out _ hS | (go_at_call 17; (with_reducible refine (D3.out _).mono ?_); rintro e w'' ⟨rfl, hbb⟩; exact ⟨_, rfl, hK.out _ (hS.trans (hbb.mono hS.size))⟩) | (go_at_call 14; (with_reducible refine (example_any _ (HN.out.kept hS)).mono ?_); rintro e w'' ⟨rfl, hbb⟩; exact ⟨_, rfl, hK.out _ (hS.trans (hbb.mono hS.size))⟩))); simp only [Act.put, List.setIfInBounds_toArray, List.set_cons_succ, List.set_cons_zero]) | (apply wpG_off; rfl; simp only [Act.put, List.setIfInBounds_toArray, List.set_cons_succ, List.set_cons_zero]))
        apply wpG_nil
        intro W8 hS
        replace k1' := k1'.kept hS
        replace k2' := k2'.kept hS
        replace k7 := k7.kept hS
        replace k8 := k8.kept hS
        replace hb := hb.trans (hS.mono hb.size)
        clear hS
        go_wp2_with fail
        go_ret
        exact ⟨rfl, hb⟩
    · obtain ⟨rfl, rfl⟩ : A = 0 ∧ R = 0 := ⟨hc.1, hc.2.1⟩
      have g1 : ¬ G = 0 := hc.2.2
      clear D1
      refine wp_region_grow 16 (fun w' => Below (World.heap W5).size W5 w') (by kernel_rfl) (by kernel_rfl) (Below.refl _ _).drew ?_
      simp only [List.take_succ_cons, List.take_zero, List.drop_succ_cons, List.drop_zero]
      repeat (first | (apply wpG_on; rfl; (intro w' hS K hK; have hc0 := (k1'.kept hS).c4; have hc1 := (k2'.kept hS).c4; have hc2 := (k7.kept hS).c4; have hc3 := (k8.kept hS).c4; go_simp; (first | exact hK.out _ hS)); simp only [Act.put, List.setIfInBounds_toArray, List.set_cons_succ, List.set_cons_zero]) | (apply wpG_off; rfl; simp only [Act.put, List.setIfInBounds_toArray, List.set_cons_succ, List.set_cons_zero]))
      apply wpG_nil
      intro W6 hS
      replace k1' := k1'.kept hS
      replace k2' := k2'.kept hS
      replace k7 := k7.kept hS
      replace k8 := k8.kept hS
      replace hb := hb.trans (hS.mono hb.size)
      clear hS
      by_cases hp : 0 < A'
      · have E2 := Lib.hid (fun w => D2.out hp w)
        clear D2
        have g2 : decide (0 < A') = true := decide_eq_true hp
        go_wp2_with fail
        refine wp_region_grow 13 (fun w' => Below (World.heap W6).size W6 w') (by kernel_rfl) (by kernel_rfl) (Below.refl _ _).drew ?_
        simp only [List.take_succ_cons, List.take_zero, List.drop_succ_cons, List.drop_zero]
        repeat (first | (apply wpG_on; rfl; (intro w' hS K hK; have hc0 := (k1'.kept hS).c4; have hc1 := (k2'.kept hS).c4; have hc2 := (k7.kept hS).c4; have hc3 := (k8.kept hS).c4; go_simp; (first | exact hK.out _ hS | (go_at_call 17; (with_reducible refine (E2.out _).mono ?_); rintro e w'' ⟨rfl, hbb⟩; exact ⟨_, rfl, hK.out _ (hS.trans (hbb.mono hS.size))⟩))); simp only [Act.put, List.setIfInBounds_toArray, List.set_cons_succ, List.set_cons_zero]) | (apply wpG_off; rfl; simp only [Act.put, List.setIfInBounds_toArray, List.set_cons_succ, List.set_cons_zero]))
        apply wpG_nil
        intro W7 hS
        replace k1' := k1'.kept hS
        replace k2' := k2'.kept hS
        replace k7 := k7.kept hS
        replace k8 := k8.kept hS
        replace hb := hb.trans (hS.mono hb.size)
        clear hS
        go_wp2_with fail
        replace HN := Lib.hid (HN.out.kept hb)
        refine wp_region_grow 8 (fun w' => Below (World.heap W7).size W7 w') (by kernel_rfl) (by kernel_rfl) (Below.refl _ _).drew ?_
        simp only [List.take_succ_cons, List.take_zero, List.drop_succ_cons, List.drop_zero]
        repeat (first | (apply wpG_on; rfl; (intro w' hS K hK; have hc0 := (k1'.kept hS).c4; have hc1 := (k2'.kept hS).c4; have hc2 := (k7.kept hS).c4; have hc3 := (k8.kept hS).c4; go_simp; (first | exact hK.out _ hS | (go_at_call 17; (with_reducible refine (D3.out _).mono ?_); rintro e w'' ⟨rfl, hbb⟩; exact ⟨_, rfl, hK.out _ (hS.trans (hbb.mono hS.size))⟩) | (go_at_call 14; (with_reducible refine (example_any _ (HN.out.kept hS)).mono ?_); rintro e w'' ⟨rfl, hbb⟩; exact ⟨_, rfl, hK.out _ (hS.trans (hbb.mono hS.size))⟩))); simp only [Act.put, List.setIfInBounds_toArray, List.set_cons_succ, List.set_cons_zero]) | (apply wpG_off; rfl; simp only [Act.put, List.setIfInBounds_toArray, List.set_cons_succ, List.set_cons_zero]))
        apply wpG_nil
        intro W8 hS
        replace k1' := k1'.kept hS
        replace k2' := k2'.kept hS
        replace k7 := k7.kept hS
        replace k8 := k8.kept hS
        replace hb := hb.trans (hS.mono hb.size)
        clear hS
        go_wp2_with fail
        go_ret
        exact ⟨rfl, hb⟩
      · obtain rfl : A' = 0 := by omega
        clear D2
        go_wp2_with fail
        refine wp_region_grow 13 (fun w' => Below (World.heap W6).size W6 w') (by kernel_rfl) (by kernel_rfl) (Below.refl _ _).drew ?_
        simp only [List.take_succ_cons, List.take_zero, List.drop_succ_cons, List.drop_zero]
        repeat (first | (apply wpG_on; rfl; (intro w' hS K hK; have hc0 := (k1'.kept hS).c4; have hc1 := (k2'.kept hS).c4; have hc2 := (k7.kept hS).c4; have hc3 := (k8.kept hS).c4; go_simp; (first | exact hK.out _ hS)); simp only [Act.put, List.setIfInBounds_toArray, List.set_cons_succ, List.set_cons_zero]) | (apply wpG_off; rfl; simp only [Act.put, List.setIfInBounds_toArray, List.set_cons_succ, List.set_cons_zero]))
        apply wpG_nil
        intro W7 hS
        replace k1' := k1'.kept hS
        replace k2' := k2'.kept hS
        replace k7 := k7.kept hS
        replace k8 := k8.kept hS
        replace hb := hb.trans (hS.mono hb.size)
        clear hS
        go_wp2_with fail
        replace HN := Lib.hid (HN.out.kept hb)
        refine wp_region_grow 8 (fun w' => Below (World.heap W7).size W7 w') (by kernel_rfl) (by kernel_rfl) (Below.refl _ _).drew ?_
        simp only [List.take_succ_cons, List.take_zero, List.drop_succ_cons, List.drop_zero]
        repeat (first | (apply wpG_on; rfl; (intro w' hS K hK; have hc0 := (k1'.kept hS).c4; have hc1 := (k2'.kept hS).c4; have hc2 := (k7.kept hS).c4; have hc3 := (k8.kept hS).c4; go_simp; (first | exact hK.out _ hS | (go_at_call 17; (with_reducible refine (D3.out _).mono ?_); rintro e w'' ⟨rfl, hbb⟩; exact ⟨_, rfl, hK.out _ (hS.trans (hbb.mono hS.size))⟩) | (go_at_call 14; (with_reducible refine (example_any _ (HN.out.kept hS)).mono ?_); rintro e w'' ⟨rfl, hbb⟩; exact ⟨_, rfl, hK.out _ (hS.trans (hbb.mono hS.size))⟩))); simp only [Act.put, List.setIfInBounds_toArray, List.set_cons_succ, List.set_cons_zero]) | (apply wpG_off; rfl; simp only [Act.put, List.setIfInBounds_toArray, List.set_cons_succ, List.set_cons_zero]))
        apply wpG_nil
        intro W8 hS
        replace k1' := k1'.kept hS
        replace k2' := k2'.kept hS
        replace k7 := k7.kept hS
        replace k8 := k8.kept hS
        replace hb := hb.trans (hS.mono hb.size)
        clear hS
        go_wp2_with fail
        go_ret
        exact ⟨rfl, hb⟩
    · obtain ⟨rfl, rfl, rfl⟩ : A = 0 ∧ R = 0 ∧ G = 0 := ⟨hc.1, hc.2.1, hc.2.2.1⟩
      have g1 : ¬ B = 0 := hc.2.2.2
      clear D1
      refine wp_region_grow 16 (fun w' => Below (World.heap W5).size W5 w') (by kernel_rfl) (by kernel_rfl) (Below.refl _ _).drew ?_
      simp only [List.take_succ_cons, List.take_zero, List.drop_succ_cons, List.drop_zero]
      repeat (first | (apply wpG_on; rfl; (intro w' hS K hK; have hc0 := (k1'.kept hS).c4; have hc1 := (k2'.kept hS).c4; have hc2 := (k7.kept hS).c4; have hc3 := (k8.kept hS).c4; go_simp; (first | exact hK.out _ hS)); simp only [Act.put, List.setIfInBounds_toArray, List.set_cons_succ, List.set_cons_zero]) | (apply wpG_off; rfl; simp only [Act.put, List.setIfInBounds_toArray, List.set_cons_succ, List.set_cons_zero]))
      apply wpG_nil
      intro W6 hS
      replace k1' := k1'.kept hS
      replace k2' := k2'.kept hS
      replace k7 := k7.kept hS
      replace k8 := k8.kept hS
      replace hb := hb.trans (hS.mono hb.size)
      clear hS
      by_cases hp : 0 < A'
      · have E2 := Lib.hid (fun w => D2.out hp w)
        clear D2
        have g2 : decide (0 < A') = true := decide_eq_true hp
        go_wp2_with fail
        refine wp_region_grow 13 (fun w' => Below (World.heap W6).size W6 w') (by kernel_rfl) (by kernel_rfl) (Below.refl _ _).drew ?_
        simp only [List.take_succ_cons, List.take_zero, List.drop_succ_cons, List.drop_zero]
        repeat (first | (apply wpG_on; rfl; (intro w' hS K hK; have hc0 := (k1'.kept hS).c4; have hc1 := (k2'.kept hS).c4; have hc2 := (k7.kept hS).c4; have hc3 := (k8.kept hS).c4; go_simp; (first | exact hK.out _ hS | (go_at_call 17; (with_reducible refine (E2.out _).mono ?_); rintro e w'' ⟨rfl, hbb⟩; exact ⟨_, rfl, hK.out _ (hS.trans (hbb.mono hS.size))⟩))); simp only [Act.put, List.setIfInBounds_toArray, List.set_cons_succ, List.set_cons_zero]) | (apply wpG_off; rfl; simp only [Act.put, List.setIfInBounds_toArray, List.set_cons_succ, List.set_cons_zero]))
        apply wpG_nil
        intro W7 hS
        replace k1' := k1'.kept hS
        replace k2' := k2'.kept hS
        replace k7 := k7.kept hS
        replace k8 := k8.kept hS
        replace hb := hb.trans (hS.mono hb.size)
        clear hS
        go_wp2_with fail
        replace HN := Lib.hid (HN.out.kept hb)
        refine wp_region_grow 8 (fun w' => Below (World.heap W7).size W7 w') (by kernel_rfl) (by kernel_rfl) (Below.refl _ _).drew ?_
        simp only [List.take_succ_cons, List.take_zero, List.drop_succ_cons, List.drop_zero]
        repeat (first | (apply wpG_on; rfl; (intro w' hS K hK; have hc0 := (k1'.kept hS).c4; have hc1 := (k2'.kept hS).c4; have hc2 := (k7.kept hS).c4; have hc3 := (k8.kept hS).c4; go_simp; (first | exact hK.out _ hS | (go_at_call 17; (with_reducible refine (D3.out _).mono ?_); rintro e w'' ⟨rfl, hbb⟩; exact ⟨_, rfl, hK.out _ (hS.trans (hbb.mono hS.size))⟩) | (go_at_call 14; (with_reducible refine (example_any _ (HN.out.kept hS)).mono ?_); rintro e w'' ⟨rfl, hbb⟩; exact ⟨_, rfl, hK.out _ (hS.trans (hbb.mono hS.size))⟩))); simp only [Act.put, List.setIfInBounds_toArray, List.set_cons_succ, List.set_cons_zero]) | (apply wpG_off; rfl; simp only [Act.put, List.setIfInBounds_toArray, List.set_cons_succ, List.set_cons_zero]))
        apply wpG_nil
        intro W8 hS
        replace k1' := k1'.kept hS
        replace k2' := k2'.kept hS
        replace k7 := k7.kept hS
        replace k8 := k8.kept hS
        replace hb := hb.trans (hS.mono hb.size)
        clear hS
        go_wp2_with fail
        go_ret
        exact ⟨rfl, hb⟩
      · obtain rfl : A' = 0 := by omega
        clear D2
        go_wp2_with fail
        refine wp_region_grow 13 (fun w' => Below (World.heap W6).size W6 w') (by kernel_rfl) (by kernel_rfl) (Below.refl _ _).drew ?_
        simp only [List.take_succ_cons, List.take_zero, List.drop_succ_cons, List.drop_zero]
        repeat (first | (apply wpG_on; rfl; (intro w' hS K hK; have hc0 := (k1'.kept hS).c4; have hc1 := (k2'.kept hS).c4; have hc2 := (k7.kept hS).c4; have hc3 := (k8.kept hS).c4; go_simp; (first | exact hK.out _ hS)); simp only [Act.put, List.setIfInBounds_toArray, List.set_cons_succ, List.set_cons_zero]) | (apply wpG_off; rfl; simp only [Act.put, List.setIfInBounds_toArray, List.set_cons_succ, List.set_cons_zero]))
        apply wpG_nil
        intro W7 hS
        replace k1' := k1'.kept hS
        replace k2' := k2'.kept hS
        replace k7 := k7.kept hS
        replace k8 := k8.kept hS
        replace hb := hb.trans (hS.mono hb.size)
        clear hS
        go_wp2_with fail
        replace HN := Lib.hid (HN.out.kept hb)
        refine wp_region_grow 8 (fun w' => Below (World.heap W7).size W7 w') (by kernel_rfl) (by kernel_rfl) (Below.refl _ _).drew ?_
        simp only [List.take_succ_cons, List.take_zero, List.drop_succ_cons, List.drop_zero]
        repeat (first | (apply wpG_on; rfl; (intro w' hS K hK; have hc0 := (k1'.kept hS).c4; have hc1 := (k2'.kept hS).c4; have hc2 := (k7.kept hS).c4; have hc3 := (k8.kept hS).c4; go_simp; (first | exact hK.out _ hS | (go_at_call 17; (with_reducible refine (D3.out _).mono ?_); rintro e w'' ⟨rfl, hbb⟩; exact ⟨_, rfl, hK.out _ (hS.trans (hbb.mono hS.size))⟩) | (go_at_call 14; (with_reducible refine (example_any _ (HN.out.kept hS)).mono ?_); rintro e w'' ⟨rfl, hbb⟩; exact ⟨_, rfl, hK.out _ (hS.trans (hbb.mono hS.size))⟩))); simp only [Act.put, List.setIfInBounds_toArray, List.set_cons_succ, List.set_cons_zero]) | (apply wpG_off; rfl; simp only [Act.put, List.setIfInBounds_toArray, List.set_cons_succ, List.set_cons_zero]))
        apply wpG_nil
        intro W8 hS
        replace k1' := k1'.kept hS
        replace k2' := k2'.kept hS
        replace k7 := k7.kept hS
        replace k8 := k8.kept hS
        replace hb := hb.trans (hS.mono hb.size)
        clear hS
        go_wp2_with fail
        go_ret
        exact ⟨rfl, hb⟩

theorem walk (m r g b a r' g' b' a' : Int) (w : World) (hN : Names w) (w0 : (Lit.int .i64 m).wf = true) (w1_0 : (Lit.int .i64 r).wf = true) (w1_1 : (Lit.int .i64 g).wf = true) (w1_2 : (Lit.int .i64 b).wf = true) (w1_3 : (Lit.int .i64 a).wf = true) (w2_0 : (Lit.int .i64 r').wf = true) (w2_1 : (Lit.int .i64 g').wf = true) (w2_2 : (Lit.int .i64 b').wf = true) (w2_3 : (Lit.int .i64 a').wf = true) :
    Calls Tryd.prog 8 #[.int .i64 m, pv r g b a, pv r' g' b' a'] w fun e w' => e = .returned (.bool true) ∧ Below w.heap.size w w' :=
  walkU m r g b a r' g' b' a' w hN _ _ _ _ _ _ _ _ ⟨cl_bd _, cl_bd _, cl_bd _, cl_bd _⟩ ⟨cl_bd _, cl_bd _, cl_bd _, cl_bd _⟩ (fun w => refLimit_any r g b a w) (fun w => refLimit_any r' g' b' a' w)
end Go.Proofs.YtfgkgibomgcmpaaDoor.blendClears
