/- Several texts in one: Pix, Pix2, PixMix, PixRef. -/
import Derived.Test.YtjaidcdkkgnfoaaDoorLNum
import Derived.Test.YtjaidcdkkgnfoaaDoorLKit

/- The walks of package pixel: each function returns what the plain functions compute; nothing that was in memory before changes. -/
namespace Go.Proofs.YtjaidcdkkgnfoaaDoor
open Go.RowKit
set_option linter.unusedVariables false
attribute [local go_sem] Oper.gAt gUponK

abbrev pv (r g b a : Int) : Value := .agg #[.int .i64 r, .int .i64 g, .int .i64 b, .int .i64 a]

set_option maxHeartbeats 400000 in
theorem limit_any (r g b a : Int) (w : World) :
    Calls Tryd.prog 80 #[pv r g b a] w fun e w' => e = .returned (pv (cl r) (cl g) (cl b) (cl a)) ∧ Below w.heap.size w w' := by
  go_enter Tryd.func80, Tryd.ntmps80
  go_wp2
  refine name2 (fun W k1 k2 hb => ?_)
  refine wp_region_grow 13 (fun w' => Below (World.heap W).size W w') (by kernel_rfl) (by kernel_rfl) (Below.refl _ _).drew ?_
  simp only [List.take_succ_cons, List.take_zero, List.drop_succ_cons, List.drop_zero]
  repeat (first | (apply wpG_on; rfl; (intro w' hS K hK; have hc0 := (k1.kept hS).c4; have hc1 := (k2.kept hS).c4; go_simp; (first | exact hK.out _ hS | (go_at_call 93; (with_reducible refine (unit_p _ _).mono ?_); rintro e w'' ⟨rfl, rfl⟩; exact ⟨_, rfl, hK.out _ hS⟩))); simp only [Act.put, List.setIfInBounds_toArray, List.set_cons_succ, List.set_cons_zero]) | (apply wpG_off; rfl; simp only [Act.put, List.setIfInBounds_toArray, List.set_cons_succ, List.set_cons_zero]))
  apply wpG_nil
  intro W1 hS
  replace k1 := k1.kept hS
  replace k2 := k2.kept hS
  replace hb := hb.trans (hS.mono hb.size)
  clear hS
  have c2 := k2.c4
  go_wp2
  refine end4 hb k2 (by omega) (fun w3 e => by simp [results, Tryd.results80, go_sem, e]) rfl (fun w3 hb3 => ⟨rfl, hb3⟩)


def ap (x y : Int) : Int := max (x - y) (y - x)
theorem ap_bd (x y : Int) (h : 0 ≤ x ∧ x ≤ 65535) (h' : 0 ≤ y ∧ y ≤ 65535) : 0 ≤ ap x y ∧ ap x y ≤ 65535 := by unfold ap; omega


theorem run_max_int4 {P : Program} {w : World} (ts : Array TypeId) (t : TypeId) (k : IntKind) (x y z u : Int) : (Builtin.max_ ts t #[.int k x, .int k y, .int k z, .int k u]).run P w = .ok (.int k (max (max (max x y) z) u)) w := by
  simp [Builtin.max_, Builtin.max2]
  omega
attribute [local go_sem] run_max_int4

end Go.Proofs.YtjaidcdkkgnfoaaDoor


/- The walks of package pixel, continued. -/
namespace Go.Proofs.YtjaidcdkkgnfoaaDoor
open Go.RowKit
set_option linter.unusedVariables false
attribute [local go_sem] Oper.gAt gUponK

set_option maxHeartbeats 400000 in
theorem valid_any (r g b a : Int) (w : World) :
    Calls Tryd.prog 43 #[pv r g b a] w fun e w' => e = .returned (.bool (decide (r = cl r ∧ g = cl g ∧ b = cl b ∧ a = cl a))) ∧ Below w.heap.size w w' := by
  go_enter Tryd.func43, Tryd.ntmps43
  go_wp2
  refine name1 (fun W k1 hb => ?_)
  refine wp_region_grow 3 (fun w' => Below (World.heap W).size W w') (by kernel_rfl) (by kernel_rfl) (Below.refl _ _).drew ?_
  simp only [List.take_succ_cons, List.take_zero, List.drop_succ_cons, List.drop_zero]
  repeat (first | (apply wpG_on; rfl; (intro w' hS K hK; have hc0 := (k1.kept hS).c4; go_simp; (first | exact hK.out _ hS | (go_at_call 80; (with_reducible refine (limit_any _ _ _ _ _).mono ?_); rintro e w'' ⟨rfl, hbb⟩; exact ⟨_, rfl, hK.out _ (hS.trans (hbb.mono hS.size))⟩))); simp only [Act.put, List.setIfInBounds_toArray, List.set_cons_succ, List.set_cons_zero]) | (apply wpG_off; rfl; simp only [Act.put, List.setIfInBounds_toArray, List.set_cons_succ, List.set_cons_zero]))
  apply wpG_nil
  intro W1 hS
  replace k1 := k1.kept hS
  replace hb := hb.trans (hS.mono hb.size)
  clear hS
  generalize hr : cl r = x0
  generalize hg : cl g = x1
  generalize hbb : cl b = x2
  generalize ha : cl a = x3
  have HR := Lib.hid hr
  have HG := Lib.hid hg
  have HB := Lib.hid hbb
  have HA := Lib.hid ha
  clear hr hg hbb ha
  go_wp2_with fail
  all_goals go_ret
  all_goals refine ⟨ret_bool ?_, hb⟩
  all_goals rw [HR.out, HG.out, HB.out, HA.out]
  all_goals simp [*]



/-- Straight, Fade and Mix, channel by channel. -/
def stC (x a : Int) : Int := min 65535 (dv (cl x * 65535) (cl a))
def fdA (a k : Int) : Int := dv (cl a * cl k) 65535




end Go.Proofs.YtjaidcdkkgnfoaaDoor


/- The walk of pixel.Mix. -/
namespace Go.Proofs.YtjaidcdkkgnfoaaDoor
open Go.RowKit
set_option linter.unusedVariables false
attribute [local go_sem] Oper.gAt gUponK

/-- The two weights of Mix, its alpha and its channels. -/
def mxU (a t : Int) : Int := cl a * (65535 - cl t)
def mxV (a t : Int) : Int := cl a * cl t
def mxA (a a' t : Int) : Int := dv (mxU a t + mxV a' t) 65535
def mxC (x x' a a' t : Int) : Int := dv (cl x * mxU a t + cl x' * mxV a' t) (mxU a t + mxV a' t)

theorem mxU_bd (a t : Int) : 0 ≤ mxU a t ∧ mxU a t ≤ 4294836225 := by
  have h1 := cl_bd a
  have h2 := cl_bd t
  exact mul_unit_bd _ _ h1.1 h1.2 (by omega) (by omega)
theorem mxV_bd (a t : Int) : 0 ≤ mxV a t ∧ mxV a t ≤ 4294836225 := by
  have h1 := cl_bd a
  have h2 := cl_bd t
  exact mul_unit_bd _ _ h1.1 h1.2 (by omega) (by omega)
theorem mul_bd3 (x u : Int) (h : 0 ≤ x ∧ x ≤ 65535) (h' : 0 ≤ u ∧ u ≤ 4294836225) : 0 ≤ x * u ∧ x * u ≤ 281462092005375 := by
  have a := Int.mul_le_mul h.2 h'.2 h'.1 (by omega)
  exact ⟨Int.mul_nonneg h.1 h'.1, by omega⟩

theorem mx_pos (a a' t : Int) (ha : mxA a a' t ≠ 0) : 0 < mxU a t + mxV a' t := by
  have hU := mxU_bd a t
  have hV := mxV_bd a' t
  rcases Int.lt_or_le 0 (mxU a t + mxV a' t) with h | h
  · exact h
  · exfalso
    apply ha
    have h0 : mxU a t + mxV a' t = 0 * 65535 := by omega
    unfold mxA
    rw [h0]
    exact dv_mul 0 65535 (by omega)


end Go.Proofs.YtjaidcdkkgnfoaaDoor


/- The walks of the reference of package pixel: the same plain functions. -/
namespace Go.Proofs.YtjaidcdkkgnfoaaDoor
open Go.RowKit
set_option linter.unusedVariables false
attribute [local go_sem] Oper.gAt gUponK

set_option maxHeartbeats 400000 in
theorem refU_any (x : Int) (w : World) :
    Calls Tryd.prog 59 #[.int .i64 x] w fun e w' => e = .returned (.int .i64 (cl x)) ∧ w = w' := by
  go_enter Tryd.func59, Tryd.ntmps59
  go_wp2_with fail
  refine (refClamp_any _ _ _ _).mono ?_
  rintro e w' ⟨rfl, rfl⟩
  go_wp2_with fail
  go_ret
  exact ⟨ret_int (cl_min x), rfl⟩

set_option maxHeartbeats 400000 in
theorem refLimit_any (r g b a : Int) (w : World) :
    Calls Tryd.prog 85 #[pv r g b a] w fun e w' => e = .returned (pv (cl r) (cl g) (cl b) (cl a)) ∧ Below w.heap.size w w' := by
  go_enter Tryd.func85, Tryd.ntmps85
  go_wp2
  refine name2 (fun W k1 k2 hb => ?_)
  refine wp_region_grow 13 (fun w' => Below (World.heap W).size W w') (by kernel_rfl) (by kernel_rfl) (Below.refl _ _).drew ?_
  simp only [List.take_succ_cons, List.take_zero, List.drop_succ_cons, List.drop_zero]
  repeat (first | (apply wpG_on; rfl; (intro w' hS K hK; have hc0 := (k1.kept hS).c4; have hc1 := (k2.kept hS).c4; go_simp; (first | exact hK.out _ hS | (go_at_call 59; (with_reducible refine (refU_any _ _).mono ?_); rintro e w'' ⟨rfl, rfl⟩; exact ⟨_, rfl, hK.out _ hS⟩))); simp only [Act.put, List.setIfInBounds_toArray, List.set_cons_succ, List.set_cons_zero]) | (apply wpG_off; rfl; simp only [Act.put, List.setIfInBounds_toArray, List.set_cons_succ, List.set_cons_zero]))
  apply wpG_nil
  intro W1 hS
  replace k1 := k1.kept hS
  replace k2 := k2.kept hS
  replace hb := hb.trans (hS.mono hb.size)
  clear hS
  have c2 := k2.c4
  go_wp2
  refine end4 hb k2 (by omega) (fun w3 e => by simp [results, Tryd.results85, go_sem, e]) rfl (fun w3 hb3 => ⟨rfl, hb3⟩)

set_option maxHeartbeats 400000 in
theorem refValid_any (r g b a : Int) (w : World) :
    Calls Tryd.prog 62 #[pv r g b a] w fun e w' => e = .returned (.bool (decide (r = cl r ∧ g = cl g ∧ b = cl b ∧ a = cl a))) ∧ Below w.heap.size w w' := by
  go_enter Tryd.func62, Tryd.ntmps62
  go_wp2
  refine name1 (fun W k1 hb => ?_)
  refine wp_region_grow 3 (fun w' => Below (World.heap W).size W w') (by kernel_rfl) (by kernel_rfl) (Below.refl _ _).drew ?_
  simp only [List.take_succ_cons, List.take_zero, List.drop_succ_cons, List.drop_zero]
  repeat (first | (apply wpG_on; rfl; (intro w' hS K hK; have hc0 := (k1.kept hS).c4; go_simp; (first | exact hK.out _ hS | (go_at_call 85; (with_reducible refine (refLimit_any _ _ _ _ _).mono ?_); rintro e w'' ⟨rfl, hbb⟩; exact ⟨_, rfl, hK.out _ (hS.trans (hbb.mono hS.size))⟩))); simp only [Act.put, List.setIfInBounds_toArray, List.set_cons_succ, List.set_cons_zero]) | (apply wpG_off; rfl; simp only [Act.put, List.setIfInBounds_toArray, List.set_cons_succ, List.set_cons_zero]))
  apply wpG_nil
  intro W1 hS
  replace k1 := k1.kept hS
  replace hb := hb.trans (hS.mono hb.size)
  clear hS
  generalize hr : cl r = x0
  generalize hg : cl g = x1
  generalize hbb : cl b = x2
  generalize ha : cl a = x3
  have HR := Lib.hid hr
  have HG := Lib.hid hg
  have HB := Lib.hid hbb
  have HA := Lib.hid ha
  clear hr hg hbb ha
  go_wp2_with fail
  all_goals go_ret
  all_goals refine ⟨ret_bool ?_, hb⟩
  all_goals rw [HR.out, HG.out, HB.out, HA.out]
  all_goals first | (simp [*]; done) | (simp; omega)



theorem stC_cl (x a : Int) (ha : 0 < cl a) : stC x a = cl (dv (cl x * 65535) (cl a)) := by
  have h := dv_nonneg (cl x * 65535) (cl a) ha (by have := cl_bd x; omega)
  have h2 := cl_min (dv (cl x * 65535) (cl a))
  unfold stC
  omega









end Go.Proofs.YtjaidcdkkgnfoaaDoor

