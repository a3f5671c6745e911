/- The walks of package pixel, continued. -/
import Derived.Test.YtflegfoalkkkdaaDoorPix
namespace Go.Proofs.YtflegfoalkkkdaaDoor
open Go.RowKit
set_option linter.unusedVariables false
attribute [local go_sem] Oper.gAt gUponK

set_option maxHeartbeats 400000 in
theorem valid_any (r g b a : Int) (w : World) :
    Calls Tryd.prog 21 #[pv r g b a] w fun e w' => e = .returned (.bool (decide (r = cl r ∧ g = cl g ∧ b = cl b ∧ a = cl a))) ∧ Below w.heap.size w w' := by
  go_enter Tryd.func21, Tryd.ntmps21
  go_wp2
  refine name1 (fun W k1 hb => ?_)
  refine wp_region_grow 3 (fun w' => Below (World.heap W).size W w') (by kernel_rfl) (by kernel_rfl) (Below.refl _ _).drew ?_
  simp only [List.take_succ_cons, List.take_zero, List.drop_succ_cons, List.drop_zero]
  repeat (first | (apply wpG_on; rfl; (intro w' hS K hK; have hc0 := (k1.kept hS).c4; go_simp; (first | exact hK.out _ hS | (go_at_call 43; (with_reducible refine (limit_any _ _ _ _ _).mono ?_); rintro e w'' ⟨rfl, hbb⟩; exact ⟨_, rfl, hK.out _ (hS.trans (hbb.mono hS.size))⟩))); simp only [Act.put, List.setIfInBounds_toArray, List.set_cons_succ, List.set_cons_zero]) | (apply wpG_off; rfl; simp only [Act.put, List.setIfInBounds_toArray, List.set_cons_succ, List.set_cons_zero]))
  apply wpG_nil
  intro W1 hS
  replace k1 := k1.kept hS
  replace hb := hb.trans (hS.mono hb.size)
  clear hS
  generalize hr : cl r = x0
  generalize hg : cl g = x1
  generalize hbb : cl b = x2
  generalize ha : cl a = x3
  have HR := Lib.hid hr
  have HG := Lib.hid hg
  have HB := Lib.hid hbb
  have HA := Lib.hid ha
  clear hr hg hbb ha
  go_wp2_with fail
  all_goals go_ret
  all_goals refine ⟨ret_bool ?_, hb⟩
  all_goals rw [HR.out, HG.out, HB.out, HA.out]
  all_goals simp [*]

/-- Straight, Fade and Mix, channel by channel. -/
def stC (x a : Int) : Int := min 65535 (dv (cl x * 65535) (cl a))
def fdA (a k : Int) : Int := dv (cl a * cl k) 65535
end Go.Proofs.YtflegfoalkkkdaaDoor
