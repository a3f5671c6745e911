/- Several texts in one: Pix, Pix2, PixMix, PixRef. -/
import Derived.Test.YtieacbccadbdbaaGreatDoorLNum
import Derived.Test.YtieacbccadbdbaaGreatDoorLKit

/- The walks of package pixel: each function returns what the plain functions compute; nothing that was in memory before changes. -/
namespace Go.Proofs.YtieacbccadbdbaaGreatDoor
open Go.RowKit
set_option linter.unusedVariables false
attribute [local go_sem] Oper.gAt gUponK

abbrev pv (r g b a : Int) : Value := .agg #[.int .i64 r, .int .i64 g, .int .i64 b, .int .i64 a]

set_option maxHeartbeats 400000 in
theorem limit_any (r g b a : Int) (w : World) :
    Calls Tryz.prog 63 #[pv r g b a] w fun e w' => e = .returned (pv (cl r) (cl g) (cl b) (cl a)) ∧ Below w.heap.size w w' := by
  go_enter Tryz.func63, Tryz.ntmps63
  go_wp2
  refine name2 (fun W k1 k2 hb => ?_)
  refine wp_region_grow 13 (fun w' => Below (World.heap W).size W w') (by kernel_rfl) (by kernel_rfl) (Below.refl _ _).drew ?_
  simp only [List.take_succ_cons, List.take_zero, List.drop_succ_cons, List.drop_zero]
  repeat (first | (apply wpG_on; rfl; (intro w' hS K hK; have hc0 := (k1.kept hS).c4; have hc1 := (k2.kept hS).c4; go_simp; (first | exact hK.out _ hS | (go_at_call 79; (with_reducible refine (unit_p _ _).mono ?_); rintro e w'' ⟨rfl, rfl⟩; exact ⟨_, rfl, hK.out _ hS⟩))); simp only [Act.put, List.setIfInBounds_toArray, List.set_cons_succ, List.set_cons_zero]) | (apply wpG_off; rfl; simp only [Act.put, List.setIfInBounds_toArray, List.set_cons_succ, List.set_cons_zero]))
  apply wpG_nil
  intro W1 hS
  replace k1 := k1.kept hS
  replace k2 := k2.kept hS
  replace hb := hb.trans (hS.mono hb.size)
  clear hS
  have c2 := k2.c4
  go_wp2
  refine end4 hb k2 (by omega) (fun w3 e => by simp [results, Tryz.results63, go_sem, e]) rfl (fun w3 hb3 => ⟨rfl, hb3⟩)

set_option maxHeartbeats 400000 in
theorem pre_any (r g b a : Int) (w : World) :
    Calls Tryz.prog 90 #[pv r g b a] w fun e w' => e = .returned (pv (dv (cl r * cl a) 65535) (dv (cl g * cl a) 65535) (dv (cl b * cl a) 65535) (cl a)) ∧ Below w.heap.size w w' := by
  go_enter Tryz.func90, Tryz.ntmps90
  go_wp2_with fail
  refine callName2 (fun W k1 k2 hb => ?_)
  refine (limit_any _ _ _ _ _).mono ?_
  rintro e W1 ⟨rfl, hS⟩
  replace k1 := k1.kept hS
  replace k2 := k2.kept hS
  replace hb := hb.trans (hS.mono hb.size)
  clear hS
  have c1 := k1.c4
  go_wp2_with fail
  clear c1
  refine mid4 hb k1 (by omega) (fun W2 k1' kk hb => ?_)
  replace k2 := kk _ _ (by omega) k2
  clear kk k1
  refine wp_region_grow 18 (fun w' => Below (World.heap W2).size W2 w') (by kernel_rfl) (by kernel_rfl) (Below.refl _ _).drew ?_
  simp only [List.take_succ_cons, List.take_zero, List.drop_succ_cons, List.drop_zero]
  repeat (first | (apply wpG_on; rfl; (intro w' hS K hK; have hc0 := (k1'.kept hS).c4; have hc1 := (k2.kept hS).c4; go_simp; (first | exact hK.out _ hS | (go_at_call 17; (with_reducible refine (mul_any _ _ _).mono ?_); rintro e w'' ⟨rfl, rfl⟩; exact ⟨_, rfl, hK.out _ hS⟩))); simp only [Act.put, List.setIfInBounds_toArray, List.set_cons_succ, List.set_cons_zero]) | (apply wpG_off; rfl; simp only [Act.put, List.setIfInBounds_toArray, List.set_cons_succ, List.set_cons_zero]))
  apply wpG_nil
  intro W3 hS
  replace k1' := k1'.kept hS
  replace k2 := k2.kept hS
  replace hb := hb.trans (hS.mono hb.size)
  clear hS
  have c2 := k2.c4
  go_wp2
  simp only [cl_cl]
  refine end4 hb k2 (by omega) (fun w3 e => by simp [results, Tryz.results90, go_sem, e]) rfl (fun w3 hb3 => ⟨rfl, hb3⟩)

def ap (x y : Int) : Int := max (x - y) (y - x)
theorem ap_bd (x y : Int) (h : 0 ≤ x ∧ x ≤ 65535) (h' : 0 ≤ y ∧ y ≤ 65535) : 0 ≤ ap x y ∧ ap x y ≤ 65535 := by unfold ap; omega


theorem run_max_int4 {P : Program} {w : World} (ts : Array TypeId) (t : TypeId) (k : IntKind) (x y z u : Int) : (Builtin.max_ ts t #[.int k x, .int k y, .int k z, .int k u]).run P w = .ok (.int k (max (max (max x y) z) u)) w := by
  simp [Builtin.max_, Builtin.max2]
  omega
attribute [local go_sem] run_max_int4

end Go.Proofs.YtieacbccadbdbaaGreatDoor


/- The walks of package pixel, continued. -/
namespace Go.Proofs.YtieacbccadbdbaaGreatDoor
open Go.RowKit
set_option linter.unusedVariables false
attribute [local go_sem] Oper.gAt gUponK

set_option maxHeartbeats 400000 in
theorem valid_any (r g b a : Int) (w : World) :
    Calls Tryz.prog 87 #[pv r g b a] w fun e w' => e = .returned (.bool (decide (r = cl r ∧ g = cl g ∧ b = cl b ∧ a = cl a))) ∧ Below w.heap.size w w' := by
  go_enter Tryz.func87, Tryz.ntmps87
  go_wp2
  refine name1 (fun W k1 hb => ?_)
  refine wp_region_grow 3 (fun w' => Below (World.heap W).size W w') (by kernel_rfl) (by kernel_rfl) (Below.refl _ _).drew ?_
  simp only [List.take_succ_cons, List.take_zero, List.drop_succ_cons, List.drop_zero]
  repeat (first | (apply wpG_on; rfl; (intro w' hS K hK; have hc0 := (k1.kept hS).c4; go_simp; (first | exact hK.out _ hS | (go_at_call 63; (with_reducible refine (limit_any _ _ _ _ _).mono ?_); rintro e w'' ⟨rfl, hbb⟩; exact ⟨_, rfl, hK.out _ (hS.trans (hbb.mono hS.size))⟩))); simp only [Act.put, List.setIfInBounds_toArray, List.set_cons_succ, List.set_cons_zero]) | (apply wpG_off; rfl; simp only [Act.put, List.setIfInBounds_toArray, List.set_cons_succ, List.set_cons_zero]))
  apply wpG_nil
  intro W1 hS
  replace k1 := k1.kept hS
  replace hb := hb.trans (hS.mono hb.size)
  clear hS
  generalize hr : cl r = x0
  generalize hg : cl g = x1
  generalize hbb : cl b = x2
  generalize ha : cl a = x3
  have HR := Lib.hid hr
  have HG := Lib.hid hg
  have HB := Lib.hid hbb
  have HA := Lib.hid ha
  clear hr hg hbb ha
  go_wp2_with fail
  all_goals go_ret
  all_goals refine ⟨ret_bool ?_, hb⟩
  all_goals rw [HR.out, HG.out, HB.out, HA.out]
  all_goals simp [*]



/-- Straight, Fade and Mix, channel by channel. -/
def stC (x a : Int) : Int := min 65535 (dv (cl x * 65535) (cl a))
def fdA (a k : Int) : Int := dv (cl a * cl k) 65535

set_option maxHeartbeats 400000 in
theorem straight_zero (r g b a : Int) (w : World) (ha : cl a = 0) :
    Calls Tryz.prog 92 #[pv r g b a] w fun e w' => e = .returned (pv 0 0 0 0) ∧ Below w.heap.size w w' := by
  have HA := Lib.hid ha
  clear ha
  go_enter Tryz.func92, Tryz.ntmps92
  go_wp2_with fail
  refine callName2 (fun W k1 k2 hb => ?_)
  refine (limit_any _ _ _ _ _).mono ?_
  rintro e W1 ⟨rfl, hS⟩
  replace k1 := k1.kept hS
  replace k2 := k2.kept hS
  replace hb := hb.trans (hS.mono hb.size)
  clear hS
  rw [HA.out]
  have c1 := k1.c4
  have c2 := k2.c4
  go_wp2_with fail
  refine bodyPost_ret (v := pv 0 0 0 0) (by simp [results, Tryz.results92, go_sem, c2]) rfl ⟨rfl, ?_⟩
  exact below4 (below4 hb (Nat.le_refl _) _ _ _ _) (by omega) _ _ _ _

set_option maxHeartbeats 400000 in
theorem straight_pos (r g b a : Int) (w : World) (ha : 0 < cl a) :
    Calls Tryz.prog 92 #[pv r g b a] w fun e w' => e = .returned (pv (stC r a) (stC g a) (stC b a) (cl a)) ∧ Below w.heap.size w w' := by
  have HQ : 0 < cl (cl a) := by rw [cl_cl]; exact ha
  have hf : (cl a == 0) = false := by simp; omega
  go_enter Tryz.func92, Tryz.ntmps92
  go_wp2_with fail
  refine callName2 (fun W k1 k2 hb => ?_)
  refine (limit_any _ _ _ _ _).mono ?_
  rintro e W1 ⟨rfl, hS⟩
  replace k1 := k1.kept hS
  replace k2 := k2.kept hS
  replace hb := hb.trans (hS.mono hb.size)
  clear hS
  have c1 := k1.c4
  go_wp2_with fail
  clear c1
  refine mid4 hb k1 (by omega) (fun W2 k1' kk hb => ?_)
  replace k2 := kk _ _ (by omega) k2
  clear kk k1
  refine wp_region_grow 18 (fun w' => Below (World.heap W2).size W2 w') (by kernel_rfl) (by kernel_rfl) (Below.refl _ _).drew ?_
  simp only [List.take_succ_cons, List.take_zero, List.drop_succ_cons, List.drop_zero]
  repeat (first | (apply wpG_on; rfl; (intro w' hS K hK; have hc0 := (k1'.kept hS).c4; have hc1 := (k2.kept hS).c4; go_simp; (first | exact hK.out _ hS | (go_at_call 124; (with_reducible refine (quo_any _ _ _ HQ).mono ?_); rintro e w'' ⟨rfl, rfl⟩; exact ⟨_, rfl, hK.out _ hS⟩))); simp only [Act.put, List.setIfInBounds_toArray, List.set_cons_succ, List.set_cons_zero]) | (apply wpG_off; rfl; simp only [Act.put, List.setIfInBounds_toArray, List.set_cons_succ, List.set_cons_zero]))
  apply wpG_nil
  intro W3 hS
  replace k1' := k1'.kept hS
  replace k2 := k2.kept hS
  replace hb := hb.trans (hS.mono hb.size)
  clear hS
  have c2 := k2.c4
  go_wp2
  simp only [cl_cl]
  refine end4 hb k2 (by omega) (fun w3 e => by simp [results, Tryz.results92, go_sem, e]) rfl (fun w3 hb3 => ⟨by simp only [stC], hb3⟩)

set_option maxHeartbeats 400000 in
theorem fade_zero (r g b a k : Int) (w : World) (ha : fdA a k = 0) :
    Calls Tryz.prog 21 #[pv r g b a, .int .i64 k] w fun e w' => e = .returned (pv 0 0 0 0) ∧ Below w.heap.size w w' := by
  unfold fdA at ha
  have HA := Lib.hid ha
  clear ha
  go_enter Tryz.func21, Tryz.ntmps21
  go_wp2_with fail
  refine callName2 (fun W k1 k2 hb => ?_)
  refine (limit_any _ _ _ _ _).mono ?_
  rintro e W1 ⟨rfl, hS⟩
  replace k1 := k1.kept hS
  replace k2 := k2.kept hS
  replace hb := hb.trans (hS.mono hb.size)
  clear hS
  have c1 := k1.c4
  go_wp2_with fail
  clear c1
  refine callMid4 hb k1 (by omega) (fun W2 k1' kk hb => ?_)
  replace k2 := kk _ _ (by omega) k2
  clear kk k1
  refine (mul_any _ _ _).mono ?_
  rintro e w' ⟨rfl, rfl⟩
  rw [cl_cl, HA.out]
  have c1 := k1'.c4
  have c2 := k2.c4
  go_wp2_with fail
  refine bodyPost_ret (v := pv 0 0 0 0) (by simp [results, Tryz.results21, go_sem, c2]) rfl ⟨rfl, ?_⟩
  exact below4 (hb.setCell (p := ⟨w.heap.size, 3, none⟩) (Nat.le_refl _) _) (by omega) _ _ _ _

set_option maxHeartbeats 400000 in
theorem fade_pos (r g b a k : Int) (w : World) (ha : fdA a k ≠ 0) :
    Calls Tryz.prog 21 #[pv r g b a, .int .i64 k] w fun e w' => e = .returned (pv (cl r) (cl g) (cl b) (fdA a k)) ∧ Below w.heap.size w w' := by
  have hf : (fdA a k == 0) = false := by simpa using ha
  have HA : Hid (fdA a k = dv (cl a * cl k) 65535) := rfl
  clear ha
  go_enter Tryz.func21, Tryz.ntmps21
  go_wp2_with fail
  refine callName2 (fun W k1 k2 hb => ?_)
  refine (limit_any _ _ _ _ _).mono ?_
  rintro e W1 ⟨rfl, hS⟩
  replace k1 := k1.kept hS
  replace k2 := k2.kept hS
  replace hb := hb.trans (hS.mono hb.size)
  clear hS
  have c1 := k1.c4
  go_wp2_with fail
  clear c1
  refine callMid4 hb k1 (by omega) (fun W2 k1' kk hb => ?_)
  replace k2 := kk _ _ (by omega) k2
  clear kk k1
  refine (mul_any _ _ _).mono ?_
  rintro e w' ⟨rfl, rfl⟩
  rw [cl_cl, ← HA.out]
  have c1 := k1'.c4
  have c2 := k2.c4
  go_wp2_with fail
  refine bodyPost_ret (v := pv (cl r) (cl g) (cl b) (fdA a k)) (by simp [results, Tryz.results21, go_sem, c2]) rfl ⟨rfl, ?_⟩
  exact below4 (hb.setCell (p := ⟨w.heap.size, 3, none⟩) (Nat.le_refl _) _) (by omega) _ _ _ _
end Go.Proofs.YtieacbccadbdbaaGreatDoor


/- The walk of pixel.Mix. -/
namespace Go.Proofs.YtieacbccadbdbaaGreatDoor
open Go.RowKit
set_option linter.unusedVariables false
attribute [local go_sem] Oper.gAt gUponK

/-- The two weights of Mix, its alpha and its channels. -/
def mxU (a t : Int) : Int := cl a * (65535 - cl t)
def mxV (a t : Int) : Int := cl a * cl t
def mxA (a a' t : Int) : Int := dv (mxU a t + mxV a' t) 65535
def mxC (x x' a a' t : Int) : Int := dv (cl x * mxU a t + cl x' * mxV a' t) (mxU a t + mxV a' t)

theorem mxU_bd (a t : Int) : 0 ≤ mxU a t ∧ mxU a t ≤ 4294836225 := by
  have h1 := cl_bd a
  have h2 := cl_bd t
  exact mul_unit_bd _ _ h1.1 h1.2 (by omega) (by omega)
theorem mxV_bd (a t : Int) : 0 ≤ mxV a t ∧ mxV a t ≤ 4294836225 := by
  have h1 := cl_bd a
  have h2 := cl_bd t
  exact mul_unit_bd _ _ h1.1 h1.2 (by omega) (by omega)
theorem mul_bd3 (x u : Int) (h : 0 ≤ x ∧ x ≤ 65535) (h' : 0 ≤ u ∧ u ≤ 4294836225) : 0 ≤ x * u ∧ x * u ≤ 281462092005375 := by
  have a := Int.mul_le_mul h.2 h'.2 h'.1 (by omega)
  exact ⟨Int.mul_nonneg h.1 h'.1, by omega⟩

theorem mx_pos (a a' t : Int) (ha : mxA a a' t ≠ 0) : 0 < mxU a t + mxV a' t := by
  have hU := mxU_bd a t
  have hV := mxV_bd a' t
  rcases Int.lt_or_le 0 (mxU a t + mxV a' t) with h | h
  · exact h
  · exfalso
    apply ha
    have h0 : mxU a t + mxV a' t = 0 * 65535 := by omega
    unfold mxA
    rw [h0]
    exact dv_mul 0 65535 (by omega)

set_option maxHeartbeats 1000000 in
theorem mix_zero (r g b a r' g' b' a' t : Int) (w : World) (ha : mxA a a' t = 0) :
    Calls Tryz.prog 35 #[pv r g b a, pv r' g' b' a', .int .i64 t] w fun e w' => e = .returned (pv 0 0 0 0) ∧ Below w.heap.size w w' := by
  have hU := mxU_bd a t
  have hV := mxV_bd a' t
  have ht := cl_bd t
  have HA := Lib.hid ha
  clear ha
  go_enter Tryz.func35, Tryz.ntmps35
  go_wp2
  refine name3 (fun W k1 k2 k3 hb => ?_)
  refine wp_region_grow 6 (fun w' => Below (World.heap W).size W w') (by kernel_rfl) (by kernel_rfl) (Below.refl _ _).drew ?_
  simp only [List.take_succ_cons, List.take_zero, List.drop_succ_cons, List.drop_zero]
  repeat (first | (apply wpG_on; rfl; (intro w' hS K hK; have hc0 := (k1.kept hS).c4; have hc1 := (k2.kept hS).c4; have hc2 := (k3.kept hS).c4; go_simp; (first | exact hK.out _ hS | (go_at_call 63; (with_reducible refine (limit_any _ _ _ _ _).mono ?_); rintro e w'' ⟨rfl, hbb⟩; exact ⟨_, rfl, hK.out _ (hS.trans (hbb.mono hS.size))⟩) | (go_at_call 79; (with_reducible refine (unit_p _ _).mono ?_); rintro e w'' ⟨rfl, rfl⟩; exact ⟨_, rfl, hK.out _ hS⟩))); simp only [Act.put, List.setIfInBounds_toArray, List.set_cons_succ, List.set_cons_zero]) | (apply wpG_off; rfl; simp only [Act.put, List.setIfInBounds_toArray, List.set_cons_succ, List.set_cons_zero]))
  apply wpG_nil
  intro W1 hS
  replace k1 := k1.kept hS
  replace k2 := k2.kept hS
  replace k3 := k3.kept hS
  replace hb := hb.trans (hS.mono hb.size)
  clear hS
  have c1 := k1.c4
  have c2 := k2.c4
  go_wp2
  clear c1 c2
  refine mid44 hb k1 k2 (by omega) (by omega) (by omega) (fun W2 k1' k2' kk hb => ?_)
  replace k3 := kk _ _ (by omega) (by omega) k3
  clear kk k1 k2
  have e1 : IntKind.i64.wrap (65535 - cl t) = 65535 - cl t := IntWalk.i64_in _ (by omega)
  have e2 : IntKind.i64.wrap (cl a * (65535 - cl t)) = mxU a t := IntWalk.i64_in _ (by unfold mxU at hU; omega)
  have e3 : IntKind.i64.wrap (cl a' * cl t) = mxV a' t := IntWalk.i64_in _ (by unfold mxV at hV; omega)
  refine wp_region_grow 11 (fun w' => Below (World.heap W2).size W2 w') (by kernel_rfl) (by kernel_rfl) (Below.refl _ _).drew ?_
  simp only [List.take_succ_cons, List.take_zero, List.drop_succ_cons, List.drop_zero]
  repeat (first | (apply wpG_on; rfl; (intro w' hS K hK; have hc0 := (k1'.kept hS).c4; have hc1 := (k2'.kept hS).c4; have hc2 := (k3.kept hS).c4; go_simp; (first | exact hK.out _ hS)); simp only [Act.put, List.setIfInBounds_toArray, List.set_cons_succ, List.set_cons_zero]) | (apply wpG_off; rfl; simp only [Act.put, List.setIfInBounds_toArray, List.set_cons_succ, List.set_cons_zero]))
  apply wpG_nil
  intro W3 hS
  replace k1' := k1'.kept hS
  replace k2' := k2'.kept hS
  replace k3 := k3.kept hS
  replace hb := hb.trans (hS.mono hb.size)
  clear hS
  clear e1 e2 e3
  go_wp2_with fail
  refine (div_any _ _ _ (by omega) (by omega) (by omega) (by omega)).mono ?_
  rintro e w' ⟨rfl, rfl⟩
  rw [← mxA, HA.out]
  have c3 := k3.c4
  go_wp2_with fail
  refine end4 hb k3 (by omega) (fun w3 e => by simp [results, Tryz.results35, go_sem, e]) rfl (fun w3 hb3 => ⟨rfl, hb3⟩)

set_option maxHeartbeats 1000000 in
theorem mix_pos (r g b a r' g' b' a' t : Int) (w : World) (ha : mxA a a' t ≠ 0) :
    Calls Tryz.prog 35 #[pv r g b a, pv r' g' b' a', .int .i64 t] w fun e w' => e = .returned (pv (mxC r r' a a' t) (mxC g g' a a' t) (mxC b b' a a' t) (mxA a a' t)) ∧ Below w.heap.size w w' := by
  have hU := mxU_bd a t
  have hV := mxV_bd a' t
  have ht := cl_bd t
  have hf : (mxA a a' t == 0) = false := by simpa using ha
  have hD : 0 < mxU a t + mxV a' t := by
    rcases Int.lt_or_le 0 (mxU a t + mxV a' t) with h | h
    · exact h
    · exfalso
      apply ha
      have h0 : mxU a t + mxV a' t = 0 * 65535 := by omega
      unfold mxA
      rw [h0]
      exact dv_mul 0 65535 (by omega)
  clear ha
  go_enter Tryz.func35, Tryz.ntmps35
  go_wp2
  refine name3 (fun W k1 k2 k3 hb => ?_)
  refine wp_region_grow 6 (fun w' => Below (World.heap W).size W w') (by kernel_rfl) (by kernel_rfl) (Below.refl _ _).drew ?_
  simp only [List.take_succ_cons, List.take_zero, List.drop_succ_cons, List.drop_zero]
  repeat (first | (apply wpG_on; rfl; (intro w' hS K hK; have hc0 := (k1.kept hS).c4; have hc1 := (k2.kept hS).c4; have hc2 := (k3.kept hS).c4; go_simp; (first | exact hK.out _ hS | (go_at_call 63; (with_reducible refine (limit_any _ _ _ _ _).mono ?_); rintro e w'' ⟨rfl, hbb⟩; exact ⟨_, rfl, hK.out _ (hS.trans (hbb.mono hS.size))⟩) | (go_at_call 79; (with_reducible refine (unit_p _ _).mono ?_); rintro e w'' ⟨rfl, rfl⟩; exact ⟨_, rfl, hK.out _ hS⟩))); simp only [Act.put, List.setIfInBounds_toArray, List.set_cons_succ, List.set_cons_zero]) | (apply wpG_off; rfl; simp only [Act.put, List.setIfInBounds_toArray, List.set_cons_succ, List.set_cons_zero]))
  apply wpG_nil
  intro W1 hS
  replace k1 := k1.kept hS
  replace k2 := k2.kept hS
  replace k3 := k3.kept hS
  replace hb := hb.trans (hS.mono hb.size)
  clear hS
  have c1 := k1.c4
  have c2 := k2.c4
  go_wp2
  clear c1 c2
  refine mid44 hb k1 k2 (by omega) (by omega) (by omega) (fun W2 k1' k2' kk hb => ?_)
  replace k3 := kk _ _ (by omega) (by omega) k3
  clear kk k1 k2
  have e1 : IntKind.i64.wrap (65535 - cl t) = 65535 - cl t := IntWalk.i64_in _ (by omega)
  have e2 : IntKind.i64.wrap (cl a * (65535 - cl t)) = mxU a t := IntWalk.i64_in _ (by unfold mxU at hU; omega)
  have e3 : IntKind.i64.wrap (cl a' * cl t) = mxV a' t := IntWalk.i64_in _ (by unfold mxV at hV; omega)
  refine wp_region_grow 11 (fun w' => Below (World.heap W2).size W2 w') (by kernel_rfl) (by kernel_rfl) (Below.refl _ _).drew ?_
  simp only [List.take_succ_cons, List.take_zero, List.drop_succ_cons, List.drop_zero]
  repeat (first | (apply wpG_on; rfl; (intro w' hS K hK; have hc0 := (k1'.kept hS).c4; have hc1 := (k2'.kept hS).c4; have hc2 := (k3.kept hS).c4; go_simp; (first | exact hK.out _ hS)); simp only [Act.put, List.setIfInBounds_toArray, List.set_cons_succ, List.set_cons_zero]) | (apply wpG_off; rfl; simp only [Act.put, List.setIfInBounds_toArray, List.set_cons_succ, List.set_cons_zero]))
  apply wpG_nil
  intro W3 hS
  replace k1' := k1'.kept hS
  replace k2' := k2'.kept hS
  replace k3 := k3.kept hS
  replace hb := hb.trans (hS.mono hb.size)
  clear hS
  clear e1 e2 e3
  go_wp2_with fail
  refine (div_any _ _ _ (by omega) (by omega) (by omega) (by omega)).mono ?_
  rintro e w' ⟨rfl, rfl⟩
  rw [← mxA]
  go_wp2_with fail
  have hr := cl_bd r
  have hg := cl_bd g
  have hbb := cl_bd b
  have hr' := cl_bd r'
  have hg' := cl_bd g'
  have hb' := cl_bd b'
  have m0 := mul_bd3 _ _ hr hU
  have m1 := mul_bd3 _ _ hg hU
  have m2 := mul_bd3 _ _ hbb hU
  have m0' := mul_bd3 _ _ hr' hV
  have m1' := mul_bd3 _ _ hg' hV
  have m2' := mul_bd3 _ _ hb' hV
  have e0 : IntKind.i64.wrap (cl r * mxU a t) = cl r * mxU a t := IntWalk.i64_in _ (by omega)
  have e1 : IntKind.i64.wrap (cl g * mxU a t) = cl g * mxU a t := IntWalk.i64_in _ (by omega)
  have e2 : IntKind.i64.wrap (cl b * mxU a t) = cl b * mxU a t := IntWalk.i64_in _ (by omega)
  have e0' : IntKind.i64.wrap (cl r' * mxV a' t) = cl r' * mxV a' t := IntWalk.i64_in _ (by omega)
  have e1' : IntKind.i64.wrap (cl g' * mxV a' t) = cl g' * mxV a' t := IntWalk.i64_in _ (by omega)
  have e2' : IntKind.i64.wrap (cl b' * mxV a' t) = cl b' * mxV a' t := IntWalk.i64_in _ (by omega)
  have s0 : IntKind.i64.wrap (cl r * mxU a t + cl r' * mxV a' t) = cl r * mxU a t + cl r' * mxV a' t := IntWalk.i64_in _ (by omega)
  have s1 : IntKind.i64.wrap (cl g * mxU a t + cl g' * mxV a' t) = cl g * mxU a t + cl g' * mxV a' t := IntWalk.i64_in _ (by omega)
  have s2 : IntKind.i64.wrap (cl b * mxU a t + cl b' * mxV a' t) = cl b * mxU a t + cl b' * mxV a' t := IntWalk.i64_in _ (by omega)
  have HD : ∀ x : Int, 0 ≤ x ∧ x ≤ 562924184010750 → ∀ w : World, Calls Tryz.prog 61 #[.int .i64 x, .int .i64 (mxU a t + mxV a' t)] w fun e w' => e = .returned (.int .i64 (dv x (mxU a t + mxV a' t))) ∧ w = w' :=
    fun x hx w => div_any _ _ _ hD (by omega) (by omega) (by omega)
  have h0 : 0 ≤ cl r * mxU a t + cl r' * mxV a' t ∧ cl r * mxU a t + cl r' * mxV a' t ≤ 562924184010750 := by omega
  have h1 : 0 ≤ cl g * mxU a t + cl g' * mxV a' t ∧ cl g * mxU a t + cl g' * mxV a' t ≤ 562924184010750 := by omega
  have h2 : 0 ≤ cl b * mxU a t + cl b' * mxV a' t ∧ cl b * mxU a t + cl b' * mxV a' t ≤ 562924184010750 := by omega
  have HD0 := Lib.hid (HD _ h0)
  have HD1 := Lib.hid (HD _ h1)
  have HD2 := Lib.hid (HD _ h2)
  clear m0 m1 m2 m0' m1' m2' hr hg hbb hr' hg' hb' h0 h1 h2 HD
  refine wp_region_grow 35 (fun w' => Below (World.heap W3).size W3 w') (by kernel_rfl) (by kernel_rfl) (Below.refl _ _).drew ?_
  simp only [List.take_succ_cons, List.take_zero, List.drop_succ_cons, List.drop_zero]
  repeat (first | (apply wpG_on; rfl; (intro w' hS K hK; have hc0 := (k1'.kept hS).c4; have hc1 := (k2'.kept hS).c4; have hc2 := (k3.kept hS).c4; go_simp; (first | exact hK.out _ hS | (go_at_call 61; (with_reducible refine (HD0.out _).mono ?_); rintro e w'' ⟨rfl, rfl⟩; exact ⟨_, rfl, hK.out _ hS⟩) | (go_at_call 61; (with_reducible refine (HD1.out _).mono ?_); rintro e w'' ⟨rfl, rfl⟩; exact ⟨_, rfl, hK.out _ hS⟩) | (go_at_call 61; (with_reducible refine (HD2.out _).mono ?_); rintro e w'' ⟨rfl, rfl⟩; exact ⟨_, rfl, hK.out _ hS⟩))); simp only [Act.put, List.setIfInBounds_toArray, List.set_cons_succ, List.set_cons_zero]) | (apply wpG_off; rfl; simp only [Act.put, List.setIfInBounds_toArray, List.set_cons_succ, List.set_cons_zero]))
  apply wpG_nil
  intro W4 hS
  replace k1' := k1'.kept hS
  replace k2' := k2'.kept hS
  replace k3 := k3.kept hS
  replace hb := hb.trans (hS.mono hb.size)
  clear hS
  clear e0 e1 e2 e0' e1' e2' s0 s1 s2 HD0 HD1 HD2
  have c3 := k3.c4
  go_wp2_with fail
  refine end4 hb k3 (by omega) (fun w3 e => by simp [results, Tryz.results35, go_sem, e]) rfl (fun w3 hb3 => ⟨by simp only [mxC], hb3⟩)
end Go.Proofs.YtieacbccadbdbaaGreatDoor


/- The walks of the reference of package pixel: the same plain functions. -/
namespace Go.Proofs.YtieacbccadbdbaaGreatDoor
open Go.RowKit
set_option linter.unusedVariables false
attribute [local go_sem] Oper.gAt gUponK

set_option maxHeartbeats 400000 in
theorem refU_any (x : Int) (w : World) :
    Calls Tryz.prog 72 #[.int .i64 x] w fun e w' => e = .returned (.int .i64 (cl x)) ∧ w = w' := by
  go_enter Tryz.func72, Tryz.ntmps72
  go_wp2_with fail
  refine (refClamp_any _ _ _ _).mono ?_
  rintro e w' ⟨rfl, rfl⟩
  go_wp2_with fail
  go_ret
  exact ⟨ret_int (cl_min x), rfl⟩

set_option maxHeartbeats 400000 in
theorem refLimit_any (r g b a : Int) (w : World) :
    Calls Tryz.prog 69 #[pv r g b a] w fun e w' => e = .returned (pv (cl r) (cl g) (cl b) (cl a)) ∧ Below w.heap.size w w' := by
  go_enter Tryz.func69, Tryz.ntmps69
  go_wp2
  refine name2 (fun W k1 k2 hb => ?_)
  refine wp_region_grow 13 (fun w' => Below (World.heap W).size W w') (by kernel_rfl) (by kernel_rfl) (Below.refl _ _).drew ?_
  simp only [List.take_succ_cons, List.take_zero, List.drop_succ_cons, List.drop_zero]
  repeat (first | (apply wpG_on; rfl; (intro w' hS K hK; have hc0 := (k1.kept hS).c4; have hc1 := (k2.kept hS).c4; go_simp; (first | exact hK.out _ hS | (go_at_call 72; (with_reducible refine (refU_any _ _).mono ?_); rintro e w'' ⟨rfl, rfl⟩; exact ⟨_, rfl, hK.out _ hS⟩))); simp only [Act.put, List.setIfInBounds_toArray, List.set_cons_succ, List.set_cons_zero]) | (apply wpG_off; rfl; simp only [Act.put, List.setIfInBounds_toArray, List.set_cons_succ, List.set_cons_zero]))
  apply wpG_nil
  intro W1 hS
  replace k1 := k1.kept hS
  replace k2 := k2.kept hS
  replace hb := hb.trans (hS.mono hb.size)
  clear hS
  have c2 := k2.c4
  go_wp2
  refine end4 hb k2 (by omega) (fun w3 e => by simp [results, Tryz.results69, go_sem, e]) rfl (fun w3 hb3 => ⟨rfl, hb3⟩)

set_option maxHeartbeats 400000 in
theorem refValid_any (r g b a : Int) (w : World) :
    Calls Tryz.prog 93 #[pv r g b a] w fun e w' => e = .returned (.bool (decide (r = cl r ∧ g = cl g ∧ b = cl b ∧ a = cl a))) ∧ Below w.heap.size w w' := by
  go_enter Tryz.func93, Tryz.ntmps93
  go_wp2
  refine name1 (fun W k1 hb => ?_)
  refine wp_region_grow 3 (fun w' => Below (World.heap W).size W w') (by kernel_rfl) (by kernel_rfl) (Below.refl _ _).drew ?_
  simp only [List.take_succ_cons, List.take_zero, List.drop_succ_cons, List.drop_zero]
  repeat (first | (apply wpG_on; rfl; (intro w' hS K hK; have hc0 := (k1.kept hS).c4; go_simp; (first | exact hK.out _ hS | (go_at_call 69; (with_reducible refine (refLimit_any _ _ _ _ _).mono ?_); rintro e w'' ⟨rfl, hbb⟩; exact ⟨_, rfl, hK.out _ (hS.trans (hbb.mono hS.size))⟩))); simp only [Act.put, List.setIfInBounds_toArray, List.set_cons_succ, List.set_cons_zero]) | (apply wpG_off; rfl; simp only [Act.put, List.setIfInBounds_toArray, List.set_cons_succ, List.set_cons_zero]))
  apply wpG_nil
  intro W1 hS
  replace k1 := k1.kept hS
  replace hb := hb.trans (hS.mono hb.size)
  clear hS
  generalize hr : cl r = x0
  generalize hg : cl g = x1
  generalize hbb : cl b = x2
  generalize ha : cl a = x3
  have HR := Lib.hid hr
  have HG := Lib.hid hg
  have HB := Lib.hid hbb
  have HA := Lib.hid ha
  clear hr hg hbb ha
  go_wp2_with fail
  all_goals go_ret
  all_goals refine ⟨ret_bool ?_, hb⟩
  all_goals rw [HR.out, HG.out, HB.out, HA.out]
  all_goals first | (simp [*]; done) | (simp; omega)

set_option maxHeartbeats 1000000 in
theorem refPre_any (r g b a : Int) (w : World) :
    Calls Tryz.prog 95 #[pv r g b a] w fun e w' => e = .returned (pv (dv (cl r * cl a) 65535) (dv (cl g * cl a) 65535) (dv (cl b * cl a) 65535) (cl a)) ∧ Below w.heap.size w w' := by
  go_enter Tryz.func95, Tryz.ntmps95
  go_wp2_with fail
  refine callName2 (fun W k1 k2 hb => ?_)
  refine (refLimit_any _ _ _ _ _).mono ?_
  rintro e W1 ⟨rfl, hS⟩
  replace k1 := k1.kept hS
  replace k2 := k2.kept hS
  replace hb := hb.trans (hS.mono hb.size)
  clear hS
  have c1 := k1.c4
  go_wp2_with fail
  clear c1
  refine mid4 hb k1 (by omega) (fun W2 k1' kk hb => ?_)
  replace k2 := kk _ _ (by omega) k2
  clear kk k1
  have ha := cl_bd a
  have m0 := mul_unit_bd _ _ (cl_bd r).1 (cl_bd r).2 ha.1 ha.2
  have m1 := mul_unit_bd _ _ (cl_bd g).1 (cl_bd g).2 ha.1 ha.2
  have m2 := mul_unit_bd _ _ (cl_bd b).1 (cl_bd b).2 ha.1 ha.2
  have e0 : IntKind.i64.wrap (cl r * cl a) = cl r * cl a := IntWalk.i64_in _ (by omega)
  have e1 : IntKind.i64.wrap (cl g * cl a) = cl g * cl a := IntWalk.i64_in _ (by omega)
  have e2 : IntKind.i64.wrap (cl b * cl a) = cl b * cl a := IntWalk.i64_in _ (by omega)
  have D0 := Lib.hid (fun w => refDiv_new (cl r * cl a) 65535 w (by omega) (by omega) (by omega) (by omega))
  have D1 := Lib.hid (fun w => refDiv_new (cl g * cl a) 65535 w (by omega) (by omega) (by omega) (by omega))
  have D2 := Lib.hid (fun w => refDiv_new (cl b * cl a) 65535 w (by omega) (by omega) (by omega) (by omega))
  clear m0 m1 m2
  refine wp_region_grow 21 (fun w' => Below (World.heap W2).size W2 w') (by kernel_rfl) (by kernel_rfl) (Below.refl _ _).drew ?_
  simp only [List.take_succ_cons, List.take_zero, List.drop_succ_cons, List.drop_zero]
  repeat (first | (apply wpG_on; rfl; (intro w' hS K hK; have hc0 := (k1'.kept hS).c4; have hc1 := (k2.kept hS).c4; go_simp; (first | exact hK.out _ hS | (go_at_call 67; (with_reducible refine (D0.out _).mono ?_); rintro e w'' ⟨rfl, hbb⟩; exact ⟨_, rfl, hK.out _ (hS.trans (hbb.mono hS.size))⟩) | (go_at_call 67; (with_reducible refine (D1.out _).mono ?_); rintro e w'' ⟨rfl, hbb⟩; exact ⟨_, rfl, hK.out _ (hS.trans (hbb.mono hS.size))⟩) | (go_at_call 67; (with_reducible refine (D2.out _).mono ?_); rintro e w'' ⟨rfl, hbb⟩; exact ⟨_, rfl, hK.out _ (hS.trans (hbb.mono hS.size))⟩))); simp only [Act.put, List.setIfInBounds_toArray, List.set_cons_succ, List.set_cons_zero]) | (apply wpG_off; rfl; simp only [Act.put, List.setIfInBounds_toArray, List.set_cons_succ, List.set_cons_zero]))
  apply wpG_nil
  intro W3 hS
  replace k1' := k1'.kept hS
  replace k2 := k2.kept hS
  replace hb := hb.trans (hS.mono hb.size)
  clear hS
  clear e0 e1 e2 D0 D1 D2
  have c2 := k2.c4
  go_wp2
  refine end4 hb k2 (by omega) (fun w3 e => by simp [results, Tryz.results95, go_sem, e]) rfl (fun w3 hb3 => ⟨rfl, hb3⟩)

set_option maxHeartbeats 400000 in
theorem refStraight_zero (r g b a : Int) (w : World) (ha : cl a = 0) :
    Calls Tryz.prog 57 #[pv r g b a] w fun e w' => e = .returned (pv 0 0 0 0) ∧ Below w.heap.size w w' := by
  have HA := Lib.hid ha
  clear ha
  go_enter Tryz.func57, Tryz.ntmps57
  go_wp2_with fail
  refine callName2 (fun W k1 k2 hb => ?_)
  refine (refLimit_any _ _ _ _ _).mono ?_
  rintro e W1 ⟨rfl, hS⟩
  replace k1 := k1.kept hS
  replace k2 := k2.kept hS
  replace hb := hb.trans (hS.mono hb.size)
  clear hS
  rw [HA.out]
  have c1 := k1.c4
  have c2 := k2.c4
  go_wp2_with fail
  refine bodyPost_ret (v := pv 0 0 0 0) (by simp [results, Tryz.results57, go_sem, c2]) rfl ⟨rfl, ?_⟩
  exact below4 (below4 hb (Nat.le_refl _) _ _ _ _) (by omega) _ _ _ _

theorem stC_cl (x a : Int) (ha : 0 < cl a) : stC x a = cl (dv (cl x * 65535) (cl a)) := by
  have h := dv_nonneg (cl x * 65535) (cl a) ha (by have := cl_bd x; omega)
  have h2 := cl_min (dv (cl x * 65535) (cl a))
  unfold stC
  omega

set_option maxHeartbeats 1000000 in
theorem refStraight_pos (r g b a : Int) (w : World) (ha : 0 < cl a) :
    Calls Tryz.prog 57 #[pv r g b a] w fun e w' => e = .returned (pv (stC r a) (stC g a) (stC b a) (cl a)) ∧ Below w.heap.size w w' := by
  have hf : (cl a == 0) = false := by simp; omega
  have S0 := Lib.hid (stC_cl r a ha)
  have S1 := Lib.hid (stC_cl g a ha)
  have S2 := Lib.hid (stC_cl b a ha)
  go_enter Tryz.func57, Tryz.ntmps57
  go_wp2_with fail
  refine callName2 (fun W k1 k2 hb => ?_)
  refine (refLimit_any _ _ _ _ _).mono ?_
  rintro e W1 ⟨rfl, hS⟩
  replace k1 := k1.kept hS
  replace k2 := k2.kept hS
  replace hb := hb.trans (hS.mono hb.size)
  clear hS
  have c1 := k1.c4
  go_wp2_with fail
  clear c1
  refine mid4 hb k1 (by omega) (fun W2 k1' kk hb => ?_)
  replace k2 := kk _ _ (by omega) k2
  clear kk k1
  have h0 := cl_bd r
  have h1 := cl_bd g
  have h2 := cl_bd b
  have h3 := cl_bd a
  have e0 : IntKind.i64.wrap (cl r * 65535) = cl r * 65535 := IntWalk.i64_in _ (by omega)
  have e1 : IntKind.i64.wrap (cl g * 65535) = cl g * 65535 := IntWalk.i64_in _ (by omega)
  have e2 : IntKind.i64.wrap (cl b * 65535) = cl b * 65535 := IntWalk.i64_in _ (by omega)
  have D0 := Lib.hid (fun w => refDiv_new (cl r * 65535) (cl a) w (by omega) (by omega) (by omega) (by omega))
  have D1 := Lib.hid (fun w => refDiv_new (cl g * 65535) (cl a) w (by omega) (by omega) (by omega) (by omega))
  have D2 := Lib.hid (fun w => refDiv_new (cl b * 65535) (cl a) w (by omega) (by omega) (by omega) (by omega))
  clear h0 h1 h2 h3
  refine wp_region_grow 24 (fun w' => Below (World.heap W2).size W2 w') (by kernel_rfl) (by kernel_rfl) (Below.refl _ _).drew ?_
  simp only [List.take_succ_cons, List.take_zero, List.drop_succ_cons, List.drop_zero]
  repeat (first | (apply wpG_on; rfl; (intro w' hS K hK; have hc0 := (k1'.kept hS).c4; have hc1 := (k2.kept hS).c4; go_simp; (first | exact hK.out _ hS | (go_at_call 67; (with_reducible refine (D0.out _).mono ?_); rintro e w'' ⟨rfl, hbb⟩; exact ⟨_, rfl, hK.out _ (hS.trans (hbb.mono hS.size))⟩) | (go_at_call 67; (with_reducible refine (D1.out _).mono ?_); rintro e w'' ⟨rfl, hbb⟩; exact ⟨_, rfl, hK.out _ (hS.trans (hbb.mono hS.size))⟩) | (go_at_call 67; (with_reducible refine (D2.out _).mono ?_); rintro e w'' ⟨rfl, hbb⟩; exact ⟨_, rfl, hK.out _ (hS.trans (hbb.mono hS.size))⟩) | (go_at_call 72; (with_reducible refine (refU_any _ _).mono ?_); rintro e w'' ⟨rfl, rfl⟩; exact ⟨_, rfl, hK.out _ hS⟩))); simp only [Act.put, List.setIfInBounds_toArray, List.set_cons_succ, List.set_cons_zero]) | (apply wpG_off; rfl; simp only [Act.put, List.setIfInBounds_toArray, List.set_cons_succ, List.set_cons_zero]))
  apply wpG_nil
  intro W3 hS
  replace k1' := k1'.kept hS
  replace k2 := k2.kept hS
  replace hb := hb.trans (hS.mono hb.size)
  clear hS
  clear e0 e1 e2 D0 D1 D2
  have c2 := k2.c4
  go_wp2
  refine end4 hb k2 (by omega) (fun w3 e => by simp [results, Tryz.results57, go_sem, e]) rfl (fun w3 hb3 => ⟨by rw [S0.out, S1.out, S2.out], hb3⟩)

set_option maxHeartbeats 400000 in
theorem refFade_zero (r g b a k : Int) (w : World) (ha : fdA a k = 0) :
    Calls Tryz.prog 28 #[pv r g b a, .int .i64 k] w fun e w' => e = .returned (pv 0 0 0 0) ∧ Below w.heap.size w w' := by
  unfold fdA at ha
  have HA := Lib.hid ha
  clear ha
  go_enter Tryz.func28, Tryz.ntmps28
  go_wp2_with fail
  refine callName2 (fun W k1 k2 hb => ?_)
  refine (refLimit_any _ _ _ _ _).mono ?_
  rintro e W1 ⟨rfl, hS⟩
  replace k1 := k1.kept hS
  replace k2 := k2.kept hS
  replace hb := hb.trans (hS.mono hb.size)
  clear hS
  have c1 := k1.c4
  go_wp2_with fail
  clear c1
  refine mid4 hb k1 (by omega) (fun W2 k1' kk hb => ?_)
  replace k2 := kk _ _ (by omega) k2
  clear kk k1
  have m0 := mul_unit_bd _ _ (cl_bd a).1 (cl_bd a).2 (cl_bd k).1 (cl_bd k).2
  have e0 : IntKind.i64.wrap (cl a * cl k) = cl a * cl k := IntWalk.i64_in _ (by omega)
  have D0 := Lib.hid (fun w => refDiv_new (cl a * cl k) 65535 w (by omega) (by omega) (by omega) (by omega))
  refine wp_region_grow 7 (fun w' => Below (World.heap W2).size W2 w') (by kernel_rfl) (by kernel_rfl) (Below.refl _ _).drew ?_
  simp only [List.take_succ_cons, List.take_zero, List.drop_succ_cons, List.drop_zero]
  repeat (first | (apply wpG_on; rfl; (intro w' hS K hK; have hc0 := (k1'.kept hS).c4; have hc1 := (k2.kept hS).c4; go_simp; (first | exact hK.out _ hS | (go_at_call 67; (with_reducible refine (D0.out _).mono ?_); rintro e w'' ⟨rfl, hbb⟩; exact ⟨_, rfl, hK.out _ (hS.trans (hbb.mono hS.size))⟩) | (go_at_call 72; (with_reducible refine (refU_any _ _).mono ?_); rintro e w'' ⟨rfl, rfl⟩; exact ⟨_, rfl, hK.out _ hS⟩))); simp only [Act.put, List.setIfInBounds_toArray, List.set_cons_succ, List.set_cons_zero]) | (apply wpG_off; rfl; simp only [Act.put, List.setIfInBounds_toArray, List.set_cons_succ, List.set_cons_zero]))
  apply wpG_nil
  intro W3 hS
  replace k1' := k1'.kept hS
  replace k2 := k2.kept hS
  replace hb := hb.trans (hS.mono hb.size)
  clear hS
  clear e0 D0
  rw [HA.out]
  have c1 := k1'.c4
  have c2 := k2.c4
  go_wp2_with fail
  refine bodyPost_ret (v := pv 0 0 0 0) (by simp [results, Tryz.results28, go_sem, c2]) rfl ⟨rfl, ?_⟩
  exact below4 (hb.setCell (p := ⟨w.heap.size, 3, none⟩) (Nat.le_refl _) _) (by omega) _ _ _ _

set_option maxHeartbeats 400000 in
theorem refFade_pos (r g b a k : Int) (w : World) (ha : fdA a k ≠ 0) :
    Calls Tryz.prog 28 #[pv r g b a, .int .i64 k] w fun e w' => e = .returned (pv (cl r) (cl g) (cl b) (fdA a k)) ∧ Below w.heap.size w w' := by
  have hf : (fdA a k == 0) = false := by simpa using ha
  have HA : Hid (fdA a k = dv (cl a * cl k) 65535) := rfl
  clear ha
  go_enter Tryz.func28, Tryz.ntmps28
  go_wp2_with fail
  refine callName2 (fun W k1 k2 hb => ?_)
  refine (refLimit_any _ _ _ _ _).mono ?_
  rintro e W1 ⟨rfl, hS⟩
  replace k1 := k1.kept hS
  replace k2 := k2.kept hS
  replace hb := hb.trans (hS.mono hb.size)
  clear hS
  have c1 := k1.c4
  go_wp2_with fail
  clear c1
  refine mid4 hb k1 (by omega) (fun W2 k1' kk hb => ?_)
  replace k2 := kk _ _ (by omega) k2
  clear kk k1
  have m0 := mul_unit_bd _ _ (cl_bd a).1 (cl_bd a).2 (cl_bd k).1 (cl_bd k).2
  have e0 : IntKind.i64.wrap (cl a * cl k) = cl a * cl k := IntWalk.i64_in _ (by omega)
  have D0 := Lib.hid (fun w => refDiv_new (cl a * cl k) 65535 w (by omega) (by omega) (by omega) (by omega))
  refine wp_region_grow 7 (fun w' => Below (World.heap W2).size W2 w') (by kernel_rfl) (by kernel_rfl) (Below.refl _ _).drew ?_
  simp only [List.take_succ_cons, List.take_zero, List.drop_succ_cons, List.drop_zero]
  repeat (first | (apply wpG_on; rfl; (intro w' hS K hK; have hc0 := (k1'.kept hS).c4; have hc1 := (k2.kept hS).c4; go_simp; (first | exact hK.out _ hS | (go_at_call 67; (with_reducible refine (D0.out _).mono ?_); rintro e w'' ⟨rfl, hbb⟩; exact ⟨_, rfl, hK.out _ (hS.trans (hbb.mono hS.size))⟩) | (go_at_call 72; (with_reducible refine (refU_any _ _).mono ?_); rintro e w'' ⟨rfl, rfl⟩; exact ⟨_, rfl, hK.out _ hS⟩))); simp only [Act.put, List.setIfInBounds_toArray, List.set_cons_succ, List.set_cons_zero]) | (apply wpG_off; rfl; simp only [Act.put, List.setIfInBounds_toArray, List.set_cons_succ, List.set_cons_zero]))
  apply wpG_nil
  intro W3 hS
  replace k1' := k1'.kept hS
  replace k2 := k2.kept hS
  replace hb := hb.trans (hS.mono hb.size)
  clear hS
  clear e0 D0
  rw [← HA.out]
  have c1 := k1'.c4
  have c2 := k2.c4
  go_wp2_with fail
  refine bodyPost_ret (v := pv (cl r) (cl g) (cl b) (fdA a k)) (by simp [results, Tryz.results28, go_sem, c2]) rfl ⟨rfl, ?_⟩
  exact below4 (hb.setCell (p := ⟨w.heap.size, 3, none⟩) (Nat.le_refl _) _) (by omega) _ _ _ _





set_option maxHeartbeats 1000000 in
theorem refMix_zero (r g b a r' g' b' a' t : Int) (w : World) (ha : mxA a a' t = 0) :
    Calls Tryz.prog 38 #[pv r g b a, pv r' g' b' a', .int .i64 t] w fun e w' => e = .returned (pv 0 0 0 0) ∧ Below w.heap.size w w' := by
  have hU := mxU_bd a t
  have hV := mxV_bd a' t
  have ht := cl_bd t
  have HA := Lib.hid ha
  clear ha
  go_enter Tryz.func38, Tryz.ntmps38
  go_wp2
  refine name3 (fun W k1 k2 k3 hb => ?_)
  refine wp_region_grow 6 (fun w' => Below (World.heap W).size W w') (by kernel_rfl) (by kernel_rfl) (Below.refl _ _).drew ?_
  simp only [List.take_succ_cons, List.take_zero, List.drop_succ_cons, List.drop_zero]
  repeat (first | (apply wpG_on; rfl; (intro w' hS K hK; have hc0 := (k1.kept hS).c4; have hc1 := (k2.kept hS).c4; have hc2 := (k3.kept hS).c4; go_simp; (first | exact hK.out _ hS | (go_at_call 69; (with_reducible refine (refLimit_any _ _ _ _ _).mono ?_); rintro e w'' ⟨rfl, hbb⟩; exact ⟨_, rfl, hK.out _ (hS.trans (hbb.mono hS.size))⟩) | (go_at_call 72; (with_reducible refine (refU_any _ _).mono ?_); rintro e w'' ⟨rfl, rfl⟩; exact ⟨_, rfl, hK.out _ hS⟩))); simp only [Act.put, List.setIfInBounds_toArray, List.set_cons_succ, List.set_cons_zero]) | (apply wpG_off; rfl; simp only [Act.put, List.setIfInBounds_toArray, List.set_cons_succ, List.set_cons_zero]))
  apply wpG_nil
  intro W1 hS
  replace k1 := k1.kept hS
  replace k2 := k2.kept hS
  replace k3 := k3.kept hS
  replace hb := hb.trans (hS.mono hb.size)
  clear hS
  have c1 := k1.c4
  have c2 := k2.c4
  go_wp2
  clear c1 c2
  refine mid44 hb k1 k2 (by omega) (by omega) (by omega) (fun W2 k1' k2' kk hb => ?_)
  replace k3 := kk _ _ (by omega) (by omega) k3
  clear kk k1 k2
  have e1 : IntKind.i64.wrap (65535 - cl t) = 65535 - cl t := IntWalk.i64_in _ (by omega)
  have e2 : IntKind.i64.wrap (cl a * (65535 - cl t)) = mxU a t := IntWalk.i64_in _ (by unfold mxU at hU; omega)
  have e3 : IntKind.i64.wrap (cl a' * cl t) = mxV a' t := IntWalk.i64_in _ (by unfold mxV at hV; omega)
  refine wp_region_grow 11 (fun w' => Below (World.heap W2).size W2 w') (by kernel_rfl) (by kernel_rfl) (Below.refl _ _).drew ?_
  simp only [List.take_succ_cons, List.take_zero, List.drop_succ_cons, List.drop_zero]
  repeat (first | (apply wpG_on; rfl; (intro w' hS K hK; have hc0 := (k1'.kept hS).c4; have hc1 := (k2'.kept hS).c4; have hc2 := (k3.kept hS).c4; go_simp; (first | exact hK.out _ hS)); simp only [Act.put, List.setIfInBounds_toArray, List.set_cons_succ, List.set_cons_zero]) | (apply wpG_off; rfl; simp only [Act.put, List.setIfInBounds_toArray, List.set_cons_succ, List.set_cons_zero]))
  apply wpG_nil
  intro W3 hS
  replace k1' := k1'.kept hS
  replace k2' := k2'.kept hS
  replace k3 := k3.kept hS
  replace hb := hb.trans (hS.mono hb.size)
  clear hS
  clear e1 e2 e3
  go_wp2_with fail
  refine (refDiv_new _ _ _ (by omega) (by omega) (by omega) (by omega)).mono ?_
  rintro e W4 ⟨rfl, hS⟩
  replace k3 := k3.kept hS
  replace hb := hb.trans (hS.mono hb.size)
  clear hS
  rw [← mxA, HA.out]
  have c3 := k3.c4
  go_wp2_with fail
  refine end4 hb k3 (by omega) (fun w3 e => by simp [results, Tryz.results38, go_sem, e]) rfl (fun w3 hb3 => ⟨rfl, hb3⟩)

set_option maxHeartbeats 1000000 in
theorem refMix_pos (r g b a r' g' b' a' t : Int) (w : World) (ha : mxA a a' t ≠ 0) :
    Calls Tryz.prog 38 #[pv r g b a, pv r' g' b' a', .int .i64 t] w fun e w' => e = .returned (pv (mxC r r' a a' t) (mxC g g' a a' t) (mxC b b' a a' t) (mxA a a' t)) ∧ Below w.heap.size w w' := by
  have hU := mxU_bd a t
  have hV := mxV_bd a' t
  have ht := cl_bd t
  have hf : (mxA a a' t == 0) = false := by simpa using ha
  have hD : 0 < mxU a t + mxV a' t := mx_pos a a' t ha
  clear ha
  go_enter Tryz.func38, Tryz.ntmps38
  go_wp2
  refine name3 (fun W k1 k2 k3 hb => ?_)
  refine wp_region_grow 6 (fun w' => Below (World.heap W).size W w') (by kernel_rfl) (by kernel_rfl) (Below.refl _ _).drew ?_
  simp only [List.take_succ_cons, List.take_zero, List.drop_succ_cons, List.drop_zero]
  repeat (first | (apply wpG_on; rfl; (intro w' hS K hK; have hc0 := (k1.kept hS).c4; have hc1 := (k2.kept hS).c4; have hc2 := (k3.kept hS).c4; go_simp; (first | exact hK.out _ hS | (go_at_call 69; (with_reducible refine (refLimit_any _ _ _ _ _).mono ?_); rintro e w'' ⟨rfl, hbb⟩; exact ⟨_, rfl, hK.out _ (hS.trans (hbb.mono hS.size))⟩) | (go_at_call 72; (with_reducible refine (refU_any _ _).mono ?_); rintro e w'' ⟨rfl, rfl⟩; exact ⟨_, rfl, hK.out _ hS⟩))); simp only [Act.put, List.setIfInBounds_toArray, List.set_cons_succ, List.set_cons_zero]) | (apply wpG_off; rfl; simp only [Act.put, List.setIfInBounds_toArray, List.set_cons_succ, List.set_cons_zero]))
  apply wpG_nil
  intro W1 hS
  replace k1 := k1.kept hS
  replace k2 := k2.kept hS
  replace k3 := k3.kept hS
  replace hb := hb.trans (hS.mono hb.size)
  clear hS
  have c1 := k1.c4
  have c2 := k2.c4
  go_wp2
  clear c1 c2
  refine mid44 hb k1 k2 (by omega) (by omega) (by omega) (fun W2 k1' k2' kk hb => ?_)
  replace k3 := kk _ _ (by omega) (by omega) k3
  clear kk k1 k2
  have e1 : IntKind.i64.wrap (65535 - cl t) = 65535 - cl t := IntWalk.i64_in _ (by omega)
  have e2 : IntKind.i64.wrap (cl a * (65535 - cl t)) = mxU a t := IntWalk.i64_in _ (by unfold mxU at hU; omega)
  have e3 : IntKind.i64.wrap (cl a' * cl t) = mxV a' t := IntWalk.i64_in _ (by unfold mxV at hV; omega)
  refine wp_region_grow 11 (fun w' => Below (World.heap W2).size W2 w') (by kernel_rfl) (by kernel_rfl) (Below.refl _ _).drew ?_
  simp only [List.take_succ_cons, List.take_zero, List.drop_succ_cons, List.drop_zero]
  repeat (first | (apply wpG_on; rfl; (intro w' hS K hK; have hc0 := (k1'.kept hS).c4; have hc1 := (k2'.kept hS).c4; have hc2 := (k3.kept hS).c4; go_simp; (first | exact hK.out _ hS)); simp only [Act.put, List.setIfInBounds_toArray, List.set_cons_succ, List.set_cons_zero]) | (apply wpG_off; rfl; simp only [Act.put, List.setIfInBounds_toArray, List.set_cons_succ, List.set_cons_zero]))
  apply wpG_nil
  intro W3 hS
  replace k1' := k1'.kept hS
  replace k2' := k2'.kept hS
  replace k3 := k3.kept hS
  replace hb := hb.trans (hS.mono hb.size)
  clear hS
  clear e1 e2 e3
  go_wp2_with fail
  refine (refDiv_new _ _ _ (by omega) (by omega) (by omega) (by omega)).mono ?_
  rintro e W4 ⟨rfl, hS⟩
  replace k1' := k1'.kept hS
  replace k2' := k2'.kept hS
  replace k3 := k3.kept hS
  replace hb := hb.trans (hS.mono hb.size)
  clear hS
  rw [← mxA]
  go_wp2_with fail
  have hr := cl_bd r
  have hg := cl_bd g
  have hbb := cl_bd b
  have hr' := cl_bd r'
  have hg' := cl_bd g'
  have hb' := cl_bd b'
  have m0 := mul_bd3 _ _ hr hU
  have m1 := mul_bd3 _ _ hg hU
  have m2 := mul_bd3 _ _ hbb hU
  have m0' := mul_bd3 _ _ hr' hV
  have m1' := mul_bd3 _ _ hg' hV
  have m2' := mul_bd3 _ _ hb' hV
  have e0 : IntKind.i64.wrap (cl r * mxU a t) = cl r * mxU a t := IntWalk.i64_in _ (by omega)
  have e1 : IntKind.i64.wrap (cl g * mxU a t) = cl g * mxU a t := IntWalk.i64_in _ (by omega)
  have e2 : IntKind.i64.wrap (cl b * mxU a t) = cl b * mxU a t := IntWalk.i64_in _ (by omega)
  have e0' : IntKind.i64.wrap (cl r' * mxV a' t) = cl r' * mxV a' t := IntWalk.i64_in _ (by omega)
  have e1' : IntKind.i64.wrap (cl g' * mxV a' t) = cl g' * mxV a' t := IntWalk.i64_in _ (by omega)
  have e2' : IntKind.i64.wrap (cl b' * mxV a' t) = cl b' * mxV a' t := IntWalk.i64_in _ (by omega)
  have s0 : IntKind.i64.wrap (cl r * mxU a t + cl r' * mxV a' t) = cl r * mxU a t + cl r' * mxV a' t := IntWalk.i64_in _ (by omega)
  have s1 : IntKind.i64.wrap (cl g * mxU a t + cl g' * mxV a' t) = cl g * mxU a t + cl g' * mxV a' t := IntWalk.i64_in _ (by omega)
  have s2 : IntKind.i64.wrap (cl b * mxU a t + cl b' * mxV a' t) = cl b * mxU a t + cl b' * mxV a' t := IntWalk.i64_in _ (by omega)
  have HD : ∀ x : Int, 0 ≤ x ∧ x ≤ 562924184010750 → ∀ w : World, Calls Tryz.prog 67 #[.int .i64 x, .int .i64 (mxU a t + mxV a' t)] w fun e w' => e = .returned (.int .i64 (dv x (mxU a t + mxV a' t))) ∧ Below w.heap.size w w' :=
    fun x hx w => refDiv_new _ _ _ hD (by omega) (by omega) (by omega)
  have h0 : 0 ≤ cl r * mxU a t + cl r' * mxV a' t ∧ cl r * mxU a t + cl r' * mxV a' t ≤ 562924184010750 := by omega
  have h1 : 0 ≤ cl g * mxU a t + cl g' * mxV a' t ∧ cl g * mxU a t + cl g' * mxV a' t ≤ 562924184010750 := by omega
  have h2 : 0 ≤ cl b * mxU a t + cl b' * mxV a' t ∧ cl b * mxU a t + cl b' * mxV a' t ≤ 562924184010750 := by omega
  have HD0 := Lib.hid (HD _ h0)
  have HD1 := Lib.hid (HD _ h1)
  have HD2 := Lib.hid (HD _ h2)
  clear m0 m1 m2 m0' m1' m2' hr hg hbb hr' hg' hb' h0 h1 h2 HD
  refine wp_region_grow 35 (fun w' => Below (World.heap W4).size W4 w') (by kernel_rfl) (by kernel_rfl) (Below.refl _ _).drew ?_
  simp only [List.take_succ_cons, List.take_zero, List.drop_succ_cons, List.drop_zero]
  repeat (first | (apply wpG_on; rfl; (intro w' hS K hK; have hc0 := (k1'.kept hS).c4; have hc1 := (k2'.kept hS).c4; have hc2 := (k3.kept hS).c4; go_simp; (first | exact hK.out _ hS | (go_at_call 67; (with_reducible refine (HD0.out _).mono ?_); rintro e w'' ⟨rfl, hbb⟩; exact ⟨_, rfl, hK.out _ (hS.trans (hbb.mono hS.size))⟩) | (go_at_call 67; (with_reducible refine (HD1.out _).mono ?_); rintro e w'' ⟨rfl, hbb⟩; exact ⟨_, rfl, hK.out _ (hS.trans (hbb.mono hS.size))⟩) | (go_at_call 67; (with_reducible refine (HD2.out _).mono ?_); rintro e w'' ⟨rfl, hbb⟩; exact ⟨_, rfl, hK.out _ (hS.trans (hbb.mono hS.size))⟩))); simp only [Act.put, List.setIfInBounds_toArray, List.set_cons_succ, List.set_cons_zero]) | (apply wpG_off; rfl; simp only [Act.put, List.setIfInBounds_toArray, List.set_cons_succ, List.set_cons_zero]))
  apply wpG_nil
  intro W5 hS
  replace k1' := k1'.kept hS
  replace k2' := k2'.kept hS
  replace k3 := k3.kept hS
  replace hb := hb.trans (hS.mono hb.size)
  clear hS
  clear e0 e1 e2 e0' e1' e2' s0 s1 s2 HD0 HD1 HD2
  have c3 := k3.c4
  go_wp2_with fail
  refine end4 hb k3 (by omega) (fun w3 e => by simp [results, Tryz.results38, go_sem, e]) rfl (fun w3 hb3 => ⟨by simp only [mxC], hb3⟩)
end Go.Proofs.YtieacbccadbdbaaGreatDoor

