/- Several texts in one: Pix, Pix2, PixMix, PixRef. -/
import Derived.Test.YtjaidcdkkgnfoaaGreatDoorLNum
import Derived.Test.YtjaidcdkkgnfoaaGreatDoorLKit

/- The walks of package pixel: each function returns what the plain functions compute; nothing that was in memory before changes. -/
namespace Go.Proofs.YtjaidcdkkgnfoaaGreatDoor
open Go.RowKit
set_option linter.unusedVariables false
attribute [local go_sem] Oper.gAt gUponK

abbrev pv (r g b a : Int) : Value := .agg #[.int .i64 r, .int .i64 g, .int .i64 b, .int .i64 a]

set_option maxHeartbeats 400000 in
theorem limit_any (r g b a : Int) (w : World) :
    Calls Tryz.prog 91 #[pv r g b a] w fun e w' => e = .returned (pv (cl r) (cl g) (cl b) (cl a)) ∧ Below w.heap.size w w' := by
  go_enter Tryz.func91, Tryz.ntmps91
  go_wp2
  refine name2 (fun W k1 k2 hb => ?_)
  refine wp_region_grow 13 (fun w' => Below (World.heap W).size W w') (by kernel_rfl) (by kernel_rfl) (Below.refl _ _).drew ?_
  simp only [List.take_succ_cons, List.take_zero, List.drop_succ_cons, List.drop_zero]
  repeat (first | (apply wpG_on; rfl; (intro w' hS K hK; have hc0 := (k1.kept hS).c4; have hc1 := (k2.kept hS).c4; go_simp; (first | exact hK.out _ hS | (go_at_call 110; (with_reducible refine (unit_p _ _).mono ?_); rintro e w'' ⟨rfl, rfl⟩; exact ⟨_, rfl, hK.out _ hS⟩))); simp only [Act.put, List.setIfInBounds_toArray, List.set_cons_succ, List.set_cons_zero]) | (apply wpG_off; rfl; simp only [Act.put, List.setIfInBounds_toArray, List.set_cons_succ, List.set_cons_zero]))
  apply wpG_nil
  intro W1 hS
  replace k1 := k1.kept hS
  replace k2 := k2.kept hS
  replace hb := hb.trans (hS.mono hb.size)
  clear hS
  have c2 := k2.c4
  go_wp2
  refine end4 hb k2 (by omega) (fun w3 e => by simp [results, Tryz.results91, go_sem, e]) rfl (fun w3 hb3 => ⟨rfl, hb3⟩)


def ap (x y : Int) : Int := max (x - y) (y - x)
theorem ap_bd (x y : Int) (h : 0 ≤ x ∧ x ≤ 65535) (h' : 0 ≤ y ∧ y ≤ 65535) : 0 ≤ ap x y ∧ ap x y ≤ 65535 := by unfold ap; omega


theorem run_max_int4 {P : Program} {w : World} (ts : Array TypeId) (t : TypeId) (k : IntKind) (x y z u : Int) : (Builtin.max_ ts t #[.int k x, .int k y, .int k z, .int k u]).run P w = .ok (.int k (max (max (max x y) z) u)) w := by
  simp [Builtin.max_, Builtin.max2]
  omega
attribute [local go_sem] run_max_int4

end Go.Proofs.YtjaidcdkkgnfoaaGreatDoor


/- The walks of package pixel, continued. -/
namespace Go.Proofs.YtjaidcdkkgnfoaaGreatDoor
open Go.RowKit
set_option linter.unusedVariables false
attribute [local go_sem] Oper.gAt gUponK

set_option maxHeartbeats 400000 in
theorem valid_any (r g b a : Int) (w : World) :
    Calls Tryz.prog 45 #[pv r g b a] w fun e w' => e = .returned (.bool (decide (r = cl r ∧ g = cl g ∧ b = cl b ∧ a = cl a))) ∧ Below w.heap.size w w' := by
  go_enter Tryz.func45, Tryz.ntmps45
  go_wp2
  refine name1 (fun W k1 hb => ?_)
  refine wp_region_grow 3 (fun w' => Below (World.heap W).size W w') (by kernel_rfl) (by kernel_rfl) (Below.refl _ _).drew ?_
  simp only [List.take_succ_cons, List.take_zero, List.drop_succ_cons, List.drop_zero]
  repeat (first | (apply wpG_on; rfl; (intro w' hS K hK; have hc0 := (k1.kept hS).c4; go_simp; (first | exact hK.out _ hS | (go_at_call 91; (with_reducible refine (limit_any _ _ _ _ _).mono ?_); rintro e w'' ⟨rfl, hbb⟩; exact ⟨_, rfl, hK.out _ (hS.trans (hbb.mono hS.size))⟩))); simp only [Act.put, List.setIfInBounds_toArray, List.set_cons_succ, List.set_cons_zero]) | (apply wpG_off; rfl; simp only [Act.put, List.setIfInBounds_toArray, List.set_cons_succ, List.set_cons_zero]))
  apply wpG_nil
  intro W1 hS
  replace k1 := k1.kept hS
  replace hb := hb.trans (hS.mono hb.size)
  clear hS
  generalize hr : cl r = x0
  generalize hg : cl g = x1
  generalize hbb : cl b = x2
  generalize ha : cl a = x3
  have HR := Lib.hid hr
  have HG := Lib.hid hg
  have HB := Lib.hid hbb
  have HA := Lib.hid ha
  clear hr hg hbb ha
  go_wp2_with fail
  all_goals go_ret
  all_goals refine ⟨ret_bool ?_, hb⟩
  all_goals rw [HR.out, HG.out, HB.out, HA.out]
  all_goals simp [*]



/-- Straight, Fade and Mix, channel by channel. -/
def stC (x a : Int) : Int := min 65535 (dv (cl x * 65535) (cl a))
def fdA (a k : Int) : Int := dv (cl a * cl k) 65535



set_option maxHeartbeats 400000 in
theorem fade_zero (r g b a k : Int) (w : World) (ha : fdA a k = 0) :
    Calls Tryz.prog 51 #[pv r g b a, .int .i64 k] w fun e w' => e = .returned (pv 0 0 0 0) ∧ Below w.heap.size w w' := by
  unfold fdA at ha
  have HA := Lib.hid ha
  clear ha
  go_enter Tryz.func51, Tryz.ntmps51
  go_wp2_with fail
  refine callName2 (fun W k1 k2 hb => ?_)
  refine (limit_any _ _ _ _ _).mono ?_
  rintro e W1 ⟨rfl, hS⟩
  replace k1 := k1.kept hS
  replace k2 := k2.kept hS
  replace hb := hb.trans (hS.mono hb.size)
  clear hS
  have c1 := k1.c4
  go_wp2_with fail
  clear c1
  refine callMid4 hb k1 (by omega) (fun W2 k1' kk hb => ?_)
  replace k2 := kk _ _ (by omega) k2
  clear kk k1
  refine (mul_any _ _ _).mono ?_
  rintro e w' ⟨rfl, rfl⟩
  rw [cl_cl, HA.out]
  have c1 := k1'.c4
  have c2 := k2.c4
  go_wp2_with fail
  refine bodyPost_ret (v := pv 0 0 0 0) (by simp [results, Tryz.results51, go_sem, c2]) rfl ⟨rfl, ?_⟩
  exact below4 (hb.setCell (p := ⟨w.heap.size, 3, none⟩) (Nat.le_refl _) _) (by omega) _ _ _ _

set_option maxHeartbeats 400000 in
theorem fade_pos (r g b a k : Int) (w : World) (ha : fdA a k ≠ 0) :
    Calls Tryz.prog 51 #[pv r g b a, .int .i64 k] w fun e w' => e = .returned (pv (cl r) (cl g) (cl b) (fdA a k)) ∧ Below w.heap.size w w' := by
  have hf : (fdA a k == 0) = false := by simpa using ha
  have HA : Hid (fdA a k = dv (cl a * cl k) 65535) := rfl
  clear ha
  go_enter Tryz.func51, Tryz.ntmps51
  go_wp2_with fail
  refine callName2 (fun W k1 k2 hb => ?_)
  refine (limit_any _ _ _ _ _).mono ?_
  rintro e W1 ⟨rfl, hS⟩
  replace k1 := k1.kept hS
  replace k2 := k2.kept hS
  replace hb := hb.trans (hS.mono hb.size)
  clear hS
  have c1 := k1.c4
  go_wp2_with fail
  clear c1
  refine callMid4 hb k1 (by omega) (fun W2 k1' kk hb => ?_)
  replace k2 := kk _ _ (by omega) k2
  clear kk k1
  refine (mul_any _ _ _).mono ?_
  rintro e w' ⟨rfl, rfl⟩
  rw [cl_cl, ← HA.out]
  have c1 := k1'.c4
  have c2 := k2.c4
  go_wp2_with fail
  refine bodyPost_ret (v := pv (cl r) (cl g) (cl b) (fdA a k)) (by simp [results, Tryz.results51, go_sem, c2]) rfl ⟨rfl, ?_⟩
  exact below4 (hb.setCell (p := ⟨w.heap.size, 3, none⟩) (Nat.le_refl _) _) (by omega) _ _ _ _
end Go.Proofs.YtjaidcdkkgnfoaaGreatDoor


/- The walk of pixel.Mix. -/
namespace Go.Proofs.YtjaidcdkkgnfoaaGreatDoor
open Go.RowKit
set_option linter.unusedVariables false
attribute [local go_sem] Oper.gAt gUponK

/-- The two weights of Mix, its alpha and its channels. -/
def mxU (a t : Int) : Int := cl a * (65535 - cl t)
def mxV (a t : Int) : Int := cl a * cl t
def mxA (a a' t : Int) : Int := dv (mxU a t + mxV a' t) 65535
def mxC (x x' a a' t : Int) : Int := dv (cl x * mxU a t + cl x' * mxV a' t) (mxU a t + mxV a' t)

theorem mxU_bd (a t : Int) : 0 ≤ mxU a t ∧ mxU a t ≤ 4294836225 := by
  have h1 := cl_bd a
  have h2 := cl_bd t
  exact mul_unit_bd _ _ h1.1 h1.2 (by omega) (by omega)
theorem mxV_bd (a t : Int) : 0 ≤ mxV a t ∧ mxV a t ≤ 4294836225 := by
  have h1 := cl_bd a
  have h2 := cl_bd t
  exact mul_unit_bd _ _ h1.1 h1.2 (by omega) (by omega)
theorem mul_bd3 (x u : Int) (h : 0 ≤ x ∧ x ≤ 65535) (h' : 0 ≤ u ∧ u ≤ 4294836225) : 0 ≤ x * u ∧ x * u ≤ 281462092005375 := by
  have a := Int.mul_le_mul h.2 h'.2 h'.1 (by omega)
  exact ⟨Int.mul_nonneg h.1 h'.1, by omega⟩

theorem mx_pos (a a' t : Int) (ha : mxA a a' t ≠ 0) : 0 < mxU a t + mxV a' t := by
  have hU := mxU_bd a t
  have hV := mxV_bd a' t
  rcases Int.lt_or_le 0 (mxU a t + mxV a' t) with h | h
  · exact h
  · exfalso
    apply ha
    have h0 : mxU a t + mxV a' t = 0 * 65535 := by omega
    unfold mxA
    rw [h0]
    exact dv_mul 0 65535 (by omega)


end Go.Proofs.YtjaidcdkkgnfoaaGreatDoor


/- The walks of the reference of package pixel: the same plain functions. -/
namespace Go.Proofs.YtjaidcdkkgnfoaaGreatDoor
open Go.RowKit
set_option linter.unusedVariables false
attribute [local go_sem] Oper.gAt gUponK

set_option maxHeartbeats 400000 in
theorem refU_any (x : Int) (w : World) :
    Calls Tryz.prog 101 #[.int .i64 x] w fun e w' => e = .returned (.int .i64 (cl x)) ∧ w = w' := by
  go_enter Tryz.func101, Tryz.ntmps101
  go_wp2_with fail
  refine (refClamp_any _ _ _ _).mono ?_
  rintro e w' ⟨rfl, rfl⟩
  go_wp2_with fail
  go_ret
  exact ⟨ret_int (cl_min x), rfl⟩

set_option maxHeartbeats 400000 in
theorem refLimit_any (r g b a : Int) (w : World) :
    Calls Tryz.prog 59 #[pv r g b a] w fun e w' => e = .returned (pv (cl r) (cl g) (cl b) (cl a)) ∧ Below w.heap.size w w' := by
  go_enter Tryz.func59, Tryz.ntmps59
  go_wp2
  refine name2 (fun W k1 k2 hb => ?_)
  refine wp_region_grow 13 (fun w' => Below (World.heap W).size W w') (by kernel_rfl) (by kernel_rfl) (Below.refl _ _).drew ?_
  simp only [List.take_succ_cons, List.take_zero, List.drop_succ_cons, List.drop_zero]
  repeat (first | (apply wpG_on; rfl; (intro w' hS K hK; have hc0 := (k1.kept hS).c4; have hc1 := (k2.kept hS).c4; go_simp; (first | exact hK.out _ hS | (go_at_call 101; (with_reducible refine (refU_any _ _).mono ?_); rintro e w'' ⟨rfl, rfl⟩; exact ⟨_, rfl, hK.out _ hS⟩))); simp only [Act.put, List.setIfInBounds_toArray, List.set_cons_succ, List.set_cons_zero]) | (apply wpG_off; rfl; simp only [Act.put, List.setIfInBounds_toArray, List.set_cons_succ, List.set_cons_zero]))
  apply wpG_nil
  intro W1 hS
  replace k1 := k1.kept hS
  replace k2 := k2.kept hS
  replace hb := hb.trans (hS.mono hb.size)
  clear hS
  have c2 := k2.c4
  go_wp2
  refine end4 hb k2 (by omega) (fun w3 e => by simp [results, Tryz.results59, go_sem, e]) rfl (fun w3 hb3 => ⟨rfl, hb3⟩)

set_option maxHeartbeats 400000 in
theorem refValid_any (r g b a : Int) (w : World) :
    Calls Tryz.prog 27 #[pv r g b a] w fun e w' => e = .returned (.bool (decide (r = cl r ∧ g = cl g ∧ b = cl b ∧ a = cl a))) ∧ Below w.heap.size w w' := by
  go_enter Tryz.func27, Tryz.ntmps27
  go_wp2
  refine name1 (fun W k1 hb => ?_)
  refine wp_region_grow 3 (fun w' => Below (World.heap W).size W w') (by kernel_rfl) (by kernel_rfl) (Below.refl _ _).drew ?_
  simp only [List.take_succ_cons, List.take_zero, List.drop_succ_cons, List.drop_zero]
  repeat (first | (apply wpG_on; rfl; (intro w' hS K hK; have hc0 := (k1.kept hS).c4; go_simp; (first | exact hK.out _ hS | (go_at_call 59; (with_reducible refine (refLimit_any _ _ _ _ _).mono ?_); rintro e w'' ⟨rfl, hbb⟩; exact ⟨_, rfl, hK.out _ (hS.trans (hbb.mono hS.size))⟩))); simp only [Act.put, List.setIfInBounds_toArray, List.set_cons_succ, List.set_cons_zero]) | (apply wpG_off; rfl; simp only [Act.put, List.setIfInBounds_toArray, List.set_cons_succ, List.set_cons_zero]))
  apply wpG_nil
  intro W1 hS
  replace k1 := k1.kept hS
  replace hb := hb.trans (hS.mono hb.size)
  clear hS
  generalize hr : cl r = x0
  generalize hg : cl g = x1
  generalize hbb : cl b = x2
  generalize ha : cl a = x3
  have HR := Lib.hid hr
  have HG := Lib.hid hg
  have HB := Lib.hid hbb
  have HA := Lib.hid ha
  clear hr hg hbb ha
  go_wp2_with fail
  all_goals go_ret
  all_goals refine ⟨ret_bool ?_, hb⟩
  all_goals rw [HR.out, HG.out, HB.out, HA.out]
  all_goals first | (simp [*]; done) | (simp; omega)



theorem stC_cl (x a : Int) (ha : 0 < cl a) : stC x a = cl (dv (cl x * 65535) (cl a)) := by
  have h := dv_nonneg (cl x * 65535) (cl a) ha (by have := cl_bd x; omega)
  have h2 := cl_min (dv (cl x * 65535) (cl a))
  unfold stC
  omega


set_option maxHeartbeats 400000 in
theorem refFade_zero (r g b a k : Int) (w : World) (ha : fdA a k = 0) :
    Calls Tryz.prog 55 #[pv r g b a, .int .i64 k] w fun e w' => e = .returned (pv 0 0 0 0) ∧ Below w.heap.size w w' := by
  unfold fdA at ha
  have HA := Lib.hid ha
  clear ha
  go_enter Tryz.func55, Tryz.ntmps55
  go_wp2_with fail
  refine callName2 (fun W k1 k2 hb => ?_)
  refine (refLimit_any _ _ _ _ _).mono ?_
  rintro e W1 ⟨rfl, hS⟩
  replace k1 := k1.kept hS
  replace k2 := k2.kept hS
  replace hb := hb.trans (hS.mono hb.size)
  clear hS
  have c1 := k1.c4
  go_wp2_with fail
  clear c1
  refine mid4 hb k1 (by omega) (fun W2 k1' kk hb => ?_)
  replace k2 := kk _ _ (by omega) k2
  clear kk k1
  have m0 := mul_unit_bd _ _ (cl_bd a).1 (cl_bd a).2 (cl_bd k).1 (cl_bd k).2
  have e0 : IntKind.i64.wrap (cl a * cl k) = cl a * cl k := IntWalk.i64_in _ (by omega)
  have D0 := Lib.hid (fun w => refDiv_new (cl a * cl k) 65535 w (by omega) (by omega) (by omega) (by omega))
  refine wp_region_grow 7 (fun w' => Below (World.heap W2).size W2 w') (by kernel_rfl) (by kernel_rfl) (Below.refl _ _).drew ?_
  simp only [List.take_succ_cons, List.take_zero, List.drop_succ_cons, List.drop_zero]
  repeat (first | (apply wpG_on; rfl; (intro w' hS K hK; have hc0 := (k1'.kept hS).c4; have hc1 := (k2.kept hS).c4; go_simp; (first | exact hK.out _ hS | (go_at_call 56; (with_reducible refine (D0.out _).mono ?_); rintro e w'' ⟨rfl, hbb⟩; exact ⟨_, rfl, hK.out _ (hS.trans (hbb.mono hS.size))⟩) | (go_at_call 101; (with_reducible refine (refU_any _ _).mono ?_); rintro e w'' ⟨rfl, rfl⟩; exact ⟨_, rfl, hK.out _ hS⟩))); simp only [Act.put, List.setIfInBounds_toArray, List.set_cons_succ, List.set_cons_zero]) | (apply wpG_off; rfl; simp only [Act.put, List.setIfInBounds_toArray, List.set_cons_succ, List.set_cons_zero]))
  apply wpG_nil
  intro W3 hS
  replace k1' := k1'.kept hS
  replace k2 := k2.kept hS
  replace hb := hb.trans (hS.mono hb.size)
  clear hS
  clear e0 D0
  rw [HA.out]
  have c1 := k1'.c4
  have c2 := k2.c4
  go_wp2_with fail
  refine bodyPost_ret (v := pv 0 0 0 0) (by simp [results, Tryz.results55, go_sem, c2]) rfl ⟨rfl, ?_⟩
  exact below4 (hb.setCell (p := ⟨w.heap.size, 3, none⟩) (Nat.le_refl _) _) (by omega) _ _ _ _

set_option maxHeartbeats 400000 in
theorem refFade_pos (r g b a k : Int) (w : World) (ha : fdA a k ≠ 0) :
    Calls Tryz.prog 55 #[pv r g b a, .int .i64 k] w fun e w' => e = .returned (pv (cl r) (cl g) (cl b) (fdA a k)) ∧ Below w.heap.size w w' := by
  have hf : (fdA a k == 0) = false := by simpa using ha
  have HA : Hid (fdA a k = dv (cl a * cl k) 65535) := rfl
  clear ha
  go_enter Tryz.func55, Tryz.ntmps55
  go_wp2_with fail
  refine callName2 (fun W k1 k2 hb => ?_)
  refine (refLimit_any _ _ _ _ _).mono ?_
  rintro e W1 ⟨rfl, hS⟩
  replace k1 := k1.kept hS
  replace k2 := k2.kept hS
  replace hb := hb.trans (hS.mono hb.size)
  clear hS
  have c1 := k1.c4
  go_wp2_with fail
  clear c1
  refine mid4 hb k1 (by omega) (fun W2 k1' kk hb => ?_)
  replace k2 := kk _ _ (by omega) k2
  clear kk k1
  have m0 := mul_unit_bd _ _ (cl_bd a).1 (cl_bd a).2 (cl_bd k).1 (cl_bd k).2
  have e0 : IntKind.i64.wrap (cl a * cl k) = cl a * cl k := IntWalk.i64_in _ (by omega)
  have D0 := Lib.hid (fun w => refDiv_new (cl a * cl k) 65535 w (by omega) (by omega) (by omega) (by omega))
  refine wp_region_grow 7 (fun w' => Below (World.heap W2).size W2 w') (by kernel_rfl) (by kernel_rfl) (Below.refl _ _).drew ?_
  simp only [List.take_succ_cons, List.take_zero, List.drop_succ_cons, List.drop_zero]
  repeat (first | (apply wpG_on; rfl; (intro w' hS K hK; have hc0 := (k1'.kept hS).c4; have hc1 := (k2.kept hS).c4; go_simp; (first | exact hK.out _ hS | (go_at_call 56; (with_reducible refine (D0.out _).mono ?_); rintro e w'' ⟨rfl, hbb⟩; exact ⟨_, rfl, hK.out _ (hS.trans (hbb.mono hS.size))⟩) | (go_at_call 101; (with_reducible refine (refU_any _ _).mono ?_); rintro e w'' ⟨rfl, rfl⟩; exact ⟨_, rfl, hK.out _ hS⟩))); simp only [Act.put, List.setIfInBounds_toArray, List.set_cons_succ, List.set_cons_zero]) | (apply wpG_off; rfl; simp only [Act.put, List.setIfInBounds_toArray, List.set_cons_succ, List.set_cons_zero]))
  apply wpG_nil
  intro W3 hS
  replace k1' := k1'.kept hS
  replace k2 := k2.kept hS
  replace hb := hb.trans (hS.mono hb.size)
  clear hS
  clear e0 D0
  rw [← HA.out]
  have c1 := k1'.c4
  have c2 := k2.c4
  go_wp2_with fail
  refine bodyPost_ret (v := pv (cl r) (cl g) (cl b) (fdA a k)) (by simp [results, Tryz.results55, go_sem, c2]) rfl ⟨rfl, ?_⟩
  exact below4 (hb.setCell (p := ⟨w.heap.size, 3, none⟩) (Nat.le_refl _) _) (by omega) _ _ _ _






end Go.Proofs.YtjaidcdkkgnfoaaGreatDoor

