/- Package dab: Cover, valid (printed by gendab.py). -/
import Derived.Test.YtjaidcdkkgnfoaaDoorLDab
namespace Go.Proofs.YtjaidcdkkgnfoaaDoor
open Go.RowKit
set_option linter.unusedVariables false
attribute [local go_sem] Oper.gAt gUponK Oper.sAt stilK


set_option maxHeartbeats 1000000 in
theorem dvalid_any (d : Dab) (w : World) :
    Calls Tryd.prog 76 #[dbv d] w fun e w' => e = .returned (.bool (dOk d)) ∧ Below w.heap.size w w' := by
  have L : Hid (∀ w, Calls Tryd.prog 75 #[dbv d] w fun e w' => e = .returned (.agg #[.int .i64 (co d.x), .int .i64 (co d.y), .int .i64 (sz1 d.sz), .int .i64 (cl d.fl), .int .i64 (d.an % 65536)]) ∧ Below w.heap.size w w') := fun w => limited_any d w
  have HE : Hid (dOk d = decide (d.x = co d.x ∧ d.y = co d.y ∧ d.sz = sz1 d.sz ∧ d.fl = cl d.fl ∧ d.an = d.an % 65536)) := by show _ = _; rfl
  rw [HE.out]
  clear HE
  generalize co d.x = x0 at *
  generalize co d.y = x1 at *
  generalize sz1 d.sz = x2 at *
  generalize cl d.fl = x3 at *
  generalize d.an % 65536 = x4 at *
  go_enter Tryd.func76, Tryd.ntmps76
  go_upto_region 1 with (fail)
  refine name1 (fun W k1 hb => ?_)
  refine wp_region_grow 3 (fun w' => Below (World.heap W).size W w') (by kernel_rfl) (by kernel_rfl) (Below.refl _ _).drew ?_
  simp only [List.take_succ_cons, List.take_zero, List.drop_succ_cons, List.drop_zero]
  repeat (first | (apply wpG_on; rfl; (intro w' hS K hK; have hc0 := (k1.kept hS).c5; go_simp; (first | exact hK.out _ hS | (go_at_call 75; (with_reducible refine (L.out _).mono ?_); rintro e w'' ⟨rfl, hbb⟩; exact ⟨_, rfl, hK.out _ (hS.trans (hbb.mono hS.size))⟩))); simp only [Act.put, List.setIfInBounds_toArray, List.set_cons_succ, List.set_cons_zero]) | (apply wpG_off; rfl; simp only [Act.put, List.setIfInBounds_toArray, List.set_cons_succ, List.set_cons_zero]))
  apply wpG_nil
  intro W1 hS
  replace k1 := k1.kept hS
  replace hb := hb.trans (hS.mono hb.size)
  clear hS
  go_wp2_with fail
  all_goals go_ret
  all_goals refine ⟨ret_bool ?_, hb⟩
  all_goals simp [*]
end Go.Proofs.YtjaidcdkkgnfoaaDoor

