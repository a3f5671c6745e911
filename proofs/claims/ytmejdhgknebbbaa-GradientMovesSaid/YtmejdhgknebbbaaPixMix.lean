/- The walk of pixel.Mix. -/
import Derived.Test.YtmejdhgknebbbaaPix2
namespace Go.Proofs.Ytmejdhgknebbbaa
open Go.RowKit
set_option linter.unusedVariables false
attribute [local go_sem] Oper.gAt gUponK

/-- The two weights of Mix, its alpha and its channels. -/
def mxU (a t : Int) : Int := cl a * (65535 - cl t)
def mxV (a t : Int) : Int := cl a * cl t
def mxA (a a' t : Int) : Int := dv (mxU a t + mxV a' t) 65535
def mxC (x x' a a' t : Int) : Int := dv (cl x * mxU a t + cl x' * mxV a' t) (mxU a t + mxV a' t)

theorem mxU_bd (a t : Int) : 0 ≤ mxU a t ∧ mxU a t ≤ 4294836225 := by
  have h1 := cl_bd a
  have h2 := cl_bd t
  exact mul_unit_bd _ _ h1.1 h1.2 (by omega) (by omega)
theorem mxV_bd (a t : Int) : 0 ≤ mxV a t ∧ mxV a t ≤ 4294836225 := by
  have h1 := cl_bd a
  have h2 := cl_bd t
  exact mul_unit_bd _ _ h1.1 h1.2 (by omega) (by omega)
theorem mul_bd3 (x u : Int) (h : 0 ≤ x ∧ x ≤ 65535) (h' : 0 ≤ u ∧ u ≤ 4294836225) : 0 ≤ x * u ∧ x * u ≤ 281462092005375 := by
  have a := Int.mul_le_mul h.2 h'.2 h'.1 (by omega)
  exact ⟨Int.mul_nonneg h.1 h'.1, by omega⟩

theorem mx_pos (a a' t : Int) (ha : mxA a a' t ≠ 0) : 0 < mxU a t + mxV a' t := by
  have hU := mxU_bd a t
  have hV := mxV_bd a' t
  rcases Int.lt_or_le 0 (mxU a t + mxV a' t) with h | h
  · exact h
  · exfalso
    apply ha
    have h0 : mxU a t + mxV a' t = 0 * 65535 := by omega
    unfold mxA
    rw [h0]
    exact dv_mul 0 65535 (by omega)

set_option maxHeartbeats 1000000 in
theorem mix_zero (r g b a r' g' b' a' t : Int) (w : World) (ha : mxA a a' t = 0) :
    Calls Try.prog 43 #[pv r g b a, pv r' g' b' a', .int .i64 t] w fun e w' => e = .returned (pv 0 0 0 0) ∧ Below w.heap.size w w' := by
  have hU := mxU_bd a t
  have hV := mxV_bd a' t
  have ht := cl_bd t
  have HA := Lib.hid ha
  clear ha
  go_enter Try.func43, Try.ntmps43
  go_wp2
  refine name3 (fun W k1 k2 k3 hb => ?_)
  refine wp_region_grow 6 (fun w' => Below (World.heap W).size W w') (by kernel_rfl) (by kernel_rfl) (Below.refl _ _).drew ?_
  simp only [List.take_succ_cons, List.take_zero, List.drop_succ_cons, List.drop_zero]
  repeat (first | (apply wpG_on; rfl; (intro w' hS K hK; have hc0 := (k1.kept hS).c4; have hc1 := (k2.kept hS).c4; have hc2 := (k3.kept hS).c4; go_simp; (first | exact hK.out _ hS | (go_at_call 57; (with_reducible refine (limit_any _ _ _ _ _).mono ?_); rintro e w'' ⟨rfl, hbb⟩; exact ⟨_, rfl, hK.out _ (hS.trans (hbb.mono hS.size))⟩) | (go_at_call 58; (with_reducible refine (unit_p _ _).mono ?_); rintro e w'' ⟨rfl, rfl⟩; exact ⟨_, rfl, hK.out _ hS⟩))); simp only [Act.put, List.setIfInBounds_toArray, List.set_cons_succ, List.set_cons_zero]) | (apply wpG_off; rfl; simp only [Act.put, List.setIfInBounds_toArray, List.set_cons_succ, List.set_cons_zero]))
  apply wpG_nil
  intro W1 hS
  replace k1 := k1.kept hS
  replace k2 := k2.kept hS
  replace k3 := k3.kept hS
  replace hb := hb.trans (hS.mono hb.size)
  clear hS
  have c1 := k1.c4
  have c2 := k2.c4
  go_wp2
  clear c1 c2
  refine mid44 hb k1 k2 (by omega) (by omega) (by omega) (fun W2 k1' k2' kk hb => ?_)
  replace k3 := kk _ _ (by omega) (by omega) k3
  clear kk k1 k2
  have e1 : IntKind.i64.wrap (65535 - cl t) = 65535 - cl t := IntWalk.i64_in _ (by omega)
  have e2 : IntKind.i64.wrap (cl a * (65535 - cl t)) = mxU a t := IntWalk.i64_in _ (by unfold mxU at hU; omega)
  have e3 : IntKind.i64.wrap (cl a' * cl t) = mxV a' t := IntWalk.i64_in _ (by unfold mxV at hV; omega)
  refine wp_region_grow 11 (fun w' => Below (World.heap W2).size W2 w') (by kernel_rfl) (by kernel_rfl) (Below.refl _ _).drew ?_
  simp only [List.take_succ_cons, List.take_zero, List.drop_succ_cons, List.drop_zero]
  repeat (first | (apply wpG_on; rfl; (intro w' hS K hK; have hc0 := (k1'.kept hS).c4; have hc1 := (k2'.kept hS).c4; have hc2 := (k3.kept hS).c4; go_simp; (first | exact hK.out _ hS)); simp only [Act.put, List.setIfInBounds_toArray, List.set_cons_succ, List.set_cons_zero]) | (apply wpG_off; rfl; simp only [Act.put, List.setIfInBounds_toArray, List.set_cons_succ, List.set_cons_zero]))
  apply wpG_nil
  intro W3 hS
  replace k1' := k1'.kept hS
  replace k2' := k2'.kept hS
  replace k3 := k3.kept hS
  replace hb := hb.trans (hS.mono hb.size)
  clear hS
  clear e1 e2 e3
  go_wp2_with fail
  refine (div_any _ _ _ (by omega) (by omega) (by omega) (by omega)).mono ?_
  rintro e w' ⟨rfl, rfl⟩
  rw [← mxA, HA.out]
  have c3 := k3.c4
  go_wp2_with fail
  refine end4 hb k3 (by omega) (fun w3 e => by simp [results, Try.results43, go_sem, e]) rfl (fun w3 hb3 => ⟨rfl, hb3⟩)

set_option maxHeartbeats 1000000 in
theorem mix_pos (r g b a r' g' b' a' t : Int) (w : World) (ha : mxA a a' t ≠ 0) :
    Calls Try.prog 43 #[pv r g b a, pv r' g' b' a', .int .i64 t] w fun e w' => e = .returned (pv (mxC r r' a a' t) (mxC g g' a a' t) (mxC b b' a a' t) (mxA a a' t)) ∧ Below w.heap.size w w' := by
  have hU := mxU_bd a t
  have hV := mxV_bd a' t
  have ht := cl_bd t
  have hf : (mxA a a' t == 0) = false := by simpa using ha
  have hD : 0 < mxU a t + mxV a' t := by
    rcases Int.lt_or_le 0 (mxU a t + mxV a' t) with h | h
    · exact h
    · exfalso
      apply ha
      have h0 : mxU a t + mxV a' t = 0 * 65535 := by omega
      unfold mxA
      rw [h0]
      exact dv_mul 0 65535 (by omega)
  clear ha
  go_enter Try.func43, Try.ntmps43
  go_wp2
  refine name3 (fun W k1 k2 k3 hb => ?_)
  refine wp_region_grow 6 (fun w' => Below (World.heap W).size W w') (by kernel_rfl) (by kernel_rfl) (Below.refl _ _).drew ?_
  simp only [List.take_succ_cons, List.take_zero, List.drop_succ_cons, List.drop_zero]
  repeat (first | (apply wpG_on; rfl; (intro w' hS K hK; have hc0 := (k1.kept hS).c4; have hc1 := (k2.kept hS).c4; have hc2 := (k3.kept hS).c4; go_simp; (first | exact hK.out _ hS | (go_at_call 57; (with_reducible refine (limit_any _ _ _ _ _).mono ?_); rintro e w'' ⟨rfl, hbb⟩; exact ⟨_, rfl, hK.out _ (hS.trans (hbb.mono hS.size))⟩) | (go_at_call 58; (with_reducible refine (unit_p _ _).mono ?_); rintro e w'' ⟨rfl, rfl⟩; exact ⟨_, rfl, hK.out _ hS⟩))); simp only [Act.put, List.setIfInBounds_toArray, List.set_cons_succ, List.set_cons_zero]) | (apply wpG_off; rfl; simp only [Act.put, List.setIfInBounds_toArray, List.set_cons_succ, List.set_cons_zero]))
  apply wpG_nil
  intro W1 hS
  replace k1 := k1.kept hS
  replace k2 := k2.kept hS
  replace k3 := k3.kept hS
  replace hb := hb.trans (hS.mono hb.size)
  clear hS
  have c1 := k1.c4
  have c2 := k2.c4
  go_wp2
  clear c1 c2
  refine mid44 hb k1 k2 (by omega) (by omega) (by omega) (fun W2 k1' k2' kk hb => ?_)
  replace k3 := kk _ _ (by omega) (by omega) k3
  clear kk k1 k2
  have e1 : IntKind.i64.wrap (65535 - cl t) = 65535 - cl t := IntWalk.i64_in _ (by omega)
  have e2 : IntKind.i64.wrap (cl a * (65535 - cl t)) = mxU a t := IntWalk.i64_in _ (by unfold mxU at hU; omega)
  have e3 : IntKind.i64.wrap (cl a' * cl t) = mxV a' t := IntWalk.i64_in _ (by unfold mxV at hV; omega)
  refine wp_region_grow 11 (fun w' => Below (World.heap W2).size W2 w') (by kernel_rfl) (by kernel_rfl) (Below.refl _ _).drew ?_
  simp only [List.take_succ_cons, List.take_zero, List.drop_succ_cons, List.drop_zero]
  repeat (first | (apply wpG_on; rfl; (intro w' hS K hK; have hc0 := (k1'.kept hS).c4; have hc1 := (k2'.kept hS).c4; have hc2 := (k3.kept hS).c4; go_simp; (first | exact hK.out _ hS)); simp only [Act.put, List.setIfInBounds_toArray, List.set_cons_succ, List.set_cons_zero]) | (apply wpG_off; rfl; simp only [Act.put, List.setIfInBounds_toArray, List.set_cons_succ, List.set_cons_zero]))
  apply wpG_nil
  intro W3 hS
  replace k1' := k1'.kept hS
  replace k2' := k2'.kept hS
  replace k3 := k3.kept hS
  replace hb := hb.trans (hS.mono hb.size)
  clear hS
  clear e1 e2 e3
  go_wp2_with fail
  refine (div_any _ _ _ (by omega) (by omega) (by omega) (by omega)).mono ?_
  rintro e w' ⟨rfl, rfl⟩
  rw [← mxA]
  go_wp2_with fail
  have hr := cl_bd r
  have hg := cl_bd g
  have hbb := cl_bd b
  have hr' := cl_bd r'
  have hg' := cl_bd g'
  have hb' := cl_bd b'
  have m0 := mul_bd3 _ _ hr hU
  have m1 := mul_bd3 _ _ hg hU
  have m2 := mul_bd3 _ _ hbb hU
  have m0' := mul_bd3 _ _ hr' hV
  have m1' := mul_bd3 _ _ hg' hV
  have m2' := mul_bd3 _ _ hb' hV
  have e0 : IntKind.i64.wrap (cl r * mxU a t) = cl r * mxU a t := IntWalk.i64_in _ (by omega)
  have e1 : IntKind.i64.wrap (cl g * mxU a t) = cl g * mxU a t := IntWalk.i64_in _ (by omega)
  have e2 : IntKind.i64.wrap (cl b * mxU a t) = cl b * mxU a t := IntWalk.i64_in _ (by omega)
  have e0' : IntKind.i64.wrap (cl r' * mxV a' t) = cl r' * mxV a' t := IntWalk.i64_in _ (by omega)
  have e1' : IntKind.i64.wrap (cl g' * mxV a' t) = cl g' * mxV a' t := IntWalk.i64_in _ (by omega)
  have e2' : IntKind.i64.wrap (cl b' * mxV a' t) = cl b' * mxV a' t := IntWalk.i64_in _ (by omega)
  have s0 : IntKind.i64.wrap (cl r * mxU a t + cl r' * mxV a' t) = cl r * mxU a t + cl r' * mxV a' t := IntWalk.i64_in _ (by omega)
  have s1 : IntKind.i64.wrap (cl g * mxU a t + cl g' * mxV a' t) = cl g * mxU a t + cl g' * mxV a' t := IntWalk.i64_in _ (by omega)
  have s2 : IntKind.i64.wrap (cl b * mxU a t + cl b' * mxV a' t) = cl b * mxU a t + cl b' * mxV a' t := IntWalk.i64_in _ (by omega)
  have HD : ∀ x : Int, 0 ≤ x ∧ x ≤ 562924184010750 → ∀ w : World, Calls Try.prog 44 #[.int .i64 x, .int .i64 (mxU a t + mxV a' t)] w fun e w' => e = .returned (.int .i64 (dv x (mxU a t + mxV a' t))) ∧ w = w' :=
    fun x hx w => div_any _ _ _ hD (by omega) (by omega) (by omega)
  have h0 : 0 ≤ cl r * mxU a t + cl r' * mxV a' t ∧ cl r * mxU a t + cl r' * mxV a' t ≤ 562924184010750 := by omega
  have h1 : 0 ≤ cl g * mxU a t + cl g' * mxV a' t ∧ cl g * mxU a t + cl g' * mxV a' t ≤ 562924184010750 := by omega
  have h2 : 0 ≤ cl b * mxU a t + cl b' * mxV a' t ∧ cl b * mxU a t + cl b' * mxV a' t ≤ 562924184010750 := by omega
  have HD0 := Lib.hid (HD _ h0)
  have HD1 := Lib.hid (HD _ h1)
  have HD2 := Lib.hid (HD _ h2)
  clear m0 m1 m2 m0' m1' m2' hr hg hbb hr' hg' hb' h0 h1 h2 HD
  refine wp_region_grow 35 (fun w' => Below (World.heap W3).size W3 w') (by kernel_rfl) (by kernel_rfl) (Below.refl _ _).drew ?_
  simp only [List.take_succ_cons, List.take_zero, List.drop_succ_cons, List.drop_zero]
  repeat (first | (apply wpG_on; rfl; (intro w' hS K hK; have hc0 := (k1'.kept hS).c4; have hc1 := (k2'.kept hS).c4; have hc2 := (k3.kept hS).c4; go_simp; (first | exact hK.out _ hS | (go_at_call 44; (with_reducible refine (HD0.out _).mono ?_); rintro e w'' ⟨rfl, rfl⟩; exact ⟨_, rfl, hK.out _ hS⟩) | (go_at_call 44; (with_reducible refine (HD1.out _).mono ?_); rintro e w'' ⟨rfl, rfl⟩; exact ⟨_, rfl, hK.out _ hS⟩) | (go_at_call 44; (with_reducible refine (HD2.out _).mono ?_); rintro e w'' ⟨rfl, rfl⟩; exact ⟨_, rfl, hK.out _ hS⟩))); simp only [Act.put, List.setIfInBounds_toArray, List.set_cons_succ, List.set_cons_zero]) | (apply wpG_off; rfl; simp only [Act.put, List.setIfInBounds_toArray, List.set_cons_succ, List.set_cons_zero]))
  apply wpG_nil
  intro W4 hS
  replace k1' := k1'.kept hS
  replace k2' := k2'.kept hS
  replace k3 := k3.kept hS
  replace hb := hb.trans (hS.mono hb.size)
  clear hS
  clear e0 e1 e2 e0' e1' e2' s0 s1 s2 HD0 HD1 HD2
  have c3 := k3.c4
  go_wp2_with fail
  refine end4 hb k3 (by omega) (fun w3 e => by simp [results, Try.results43, go_sem, e]) rfl (fun w3 hb3 => ⟨by simp only [mxC], hb3⟩)
end Go.Proofs.Ytmejdhgknebbbaa
