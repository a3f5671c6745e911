/- The walks of the reference of package pixel: the same plain functions. -/
import Derived.Test.YtflegfoalkkkdaaDoorNumRef
import Derived.Test.YtflegfoalkkkdaaDoorPixMix
namespace Go.Proofs.YtflegfoalkkkdaaDoor
open Go.RowKit
set_option linter.unusedVariables false
attribute [local go_sem] Oper.gAt gUponK

set_option maxHeartbeats 400000 in
theorem refU_any (x : Int) (w : World) :
    Calls Tryd.prog 38 #[.int .i64 x] w fun e w' => e = .returned (.int .i64 (cl x)) ∧ w = w' := by
  go_enter Tryd.func38, Tryd.ntmps38
  go_wp2_with fail
  refine (refClamp_any _ _ _ _).mono ?_
  rintro e w' ⟨rfl, rfl⟩
  go_wp2_with fail
  go_ret
  exact ⟨ret_int (cl_min x), rfl⟩

set_option maxHeartbeats 400000 in
theorem refLimit_any (r g b a : Int) (w : World) :
    Calls Tryd.prog 45 #[pv r g b a] w fun e w' => e = .returned (pv (cl r) (cl g) (cl b) (cl a)) ∧ Below w.heap.size w w' := by
  go_enter Tryd.func45, Tryd.ntmps45
  go_wp2
  refine name2 (fun W k1 k2 hb => ?_)
  refine wp_region_grow 13 (fun w' => Below (World.heap W).size W w') (by kernel_rfl) (by kernel_rfl) (Below.refl _ _).drew ?_
  simp only [List.take_succ_cons, List.take_zero, List.drop_succ_cons, List.drop_zero]
  repeat (first | (apply wpG_on; rfl; (intro w' hS K hK; have hc0 := (k1.kept hS).c4; have hc1 := (k2.kept hS).c4; go_simp; (first | exact hK.out _ hS | (go_at_call 38; (with_reducible refine (refU_any _ _).mono ?_); rintro e w'' ⟨rfl, rfl⟩; exact ⟨_, rfl, hK.out _ hS⟩))); simp only [Act.put, List.setIfInBounds_toArray, List.set_cons_succ, List.set_cons_zero]) | (apply wpG_off; rfl; simp only [Act.put, List.setIfInBounds_toArray, List.set_cons_succ, List.set_cons_zero]))
  apply wpG_nil
  intro W1 hS
  replace k1 := k1.kept hS
  replace k2 := k2.kept hS
  replace hb := hb.trans (hS.mono hb.size)
  clear hS
  have c2 := k2.c4
  go_wp2
  refine end4 hb k2 (by omega) (fun w3 e => by simp [results, Tryd.results45, go_sem, e]) rfl (fun w3 hb3 => ⟨rfl, hb3⟩)

set_option maxHeartbeats 400000 in
theorem refValid_any (r g b a : Int) (w : World) :
    Calls Tryd.prog 24 #[pv r g b a] w fun e w' => e = .returned (.bool (decide (r = cl r ∧ g = cl g ∧ b = cl b ∧ a = cl a))) ∧ Below w.heap.size w w' := by
  go_enter Tryd.func24, Tryd.ntmps24
  go_wp2
  refine name1 (fun W k1 hb => ?_)
  refine wp_region_grow 3 (fun w' => Below (World.heap W).size W w') (by kernel_rfl) (by kernel_rfl) (Below.refl _ _).drew ?_
  simp only [List.take_succ_cons, List.take_zero, List.drop_succ_cons, List.drop_zero]
  repeat (first | (apply wpG_on; rfl; (intro w' hS K hK; have hc0 := (k1.kept hS).c4; go_simp; (first | exact hK.out _ hS | (go_at_call 45; (with_reducible refine (refLimit_any _ _ _ _ _).mono ?_); rintro e w'' ⟨rfl, hbb⟩; exact ⟨_, rfl, hK.out _ (hS.trans (hbb.mono hS.size))⟩))); simp only [Act.put, List.setIfInBounds_toArray, List.set_cons_succ, List.set_cons_zero]) | (apply wpG_off; rfl; simp only [Act.put, List.setIfInBounds_toArray, List.set_cons_succ, List.set_cons_zero]))
  apply wpG_nil
  intro W1 hS
  replace k1 := k1.kept hS
  replace hb := hb.trans (hS.mono hb.size)
  clear hS
  generalize hr : cl r = x0
  generalize hg : cl g = x1
  generalize hbb : cl b = x2
  generalize ha : cl a = x3
  have HR := Lib.hid hr
  have HG := Lib.hid hg
  have HB := Lib.hid hbb
  have HA := Lib.hid ha
  clear hr hg hbb ha
  go_wp2_with fail
  all_goals go_ret
  all_goals refine ⟨ret_bool ?_, hb⟩
  all_goals rw [HR.out, HG.out, HB.out, HA.out]
  all_goals first | (simp [*]; done) | (simp; omega)

theorem stC_cl (x a : Int) (ha : 0 < cl a) : stC x a = cl (dv (cl x * 65535) (cl a)) := by
  have h := dv_nonneg (cl x * 65535) (cl a) ha (by have := cl_bd x; omega)
  have h2 := cl_min (dv (cl x * 65535) (cl a))
  unfold stC
  omega
end Go.Proofs.YtflegfoalkkkdaaDoor
