/- BlendColors: the walk. -/
import Derived.Test.YtfgkgibomgcmpaaDoorFrame
import Derived.Test.YtfgkgibomgcmpaaDoorBlendEx
import Derived.Test.YtfgkgibomgcmpaaDoorRefOver
namespace Go.Proofs.YtfgkgibomgcmpaaDoor.blendColors
open Go.ChangeShapes Go.WideShapes Go.ChangeAt Go.RowKit
set_option linter.unusedVariables false
attribute [local go_sem] Oper.gAt gUponK Oper.sAt stilK

set_option maxHeartbeats 1000000 in
theorem walk (m r g b a r' g' b' a' : Int) (w : World) (hN : Names w) (w0 : (Lit.int .i64 m).wf = true) (w1_0 : (Lit.int .i64 r).wf = true) (w1_1 : (Lit.int .i64 g).wf = true) (w1_2 : (Lit.int .i64 b).wf = true) (w1_3 : (Lit.int .i64 a).wf = true) (w2_0 : (Lit.int .i64 r').wf = true) (w2_1 : (Lit.int .i64 g').wf = true) (w2_2 : (Lit.int .i64 b').wf = true) (w2_3 : (Lit.int .i64 a').wf = true) :
    Calls Tryd.prog 4 #[.int .i64 m, pv r g b a, pv r' g' b' a'] w fun e w' => e = .returned (.bool true) ∧ Below w.heap.size w w' := by
  clear w0 w1_0 w1_1 w1_2 w1_3 w2_0 w2_1 w2_2 w2_3
  have HN := Lib.hid hN
  clear hN
  have C1 := Lib.hid (fun w => colors_any m r g b a r' g' b' a' w)
  have C2 := Lib.hid (fun w => refColors_any m r g b a r' g' b' a' w)
  go_enter Tryd.func4, Tryd.ntmps4
  go_wp2
  refine name2 (fun W k1 k2 hb => ?_)
  replace HN := Lib.hid (HN.out.kept hb)
  refine wp_region_grow 12 (fun w' => Below (World.heap W).size W w') (by kernel_rfl) (by kernel_rfl) (Below.refl _ _).drew ?_
  simp only [List.take_succ_cons, List.take_zero, List.drop_succ_cons, List.drop_zero]
  repeat (first | (apply wpG_on; rfl; (intro w' hS K hK; have hc0 := (k1.kept hS).c4; have hc1 := (k2.kept hS).c4; go_simp; (first | exact hK.out _ hS | (go_at_call 15; (with_reducible refine (C1.out _).mono ?_); rintro e w'' ⟨rfl, hbb⟩; exact ⟨_, rfl, hK.out _ (hS.trans (hbb.mono hS.size))⟩) | (go_at_call 16; (with_reducible refine (C2.out _).mono ?_); rintro e w'' ⟨rfl, hbb⟩; exact ⟨_, rfl, hK.out _ (hS.trans (hbb.mono hS.size))⟩) | (go_at_call 14; (with_reducible refine (example_any _ (HN.out.kept hS)).mono ?_); rintro e w'' ⟨rfl, hbb⟩; exact ⟨_, rfl, hK.out _ (hS.trans (hbb.mono hS.size))⟩))); simp only [Act.put, List.setIfInBounds_toArray, List.set_cons_succ, List.set_cons_zero]) | (apply wpG_off; rfl; simp only [Act.put, List.setIfInBounds_toArray, List.set_cons_succ, List.set_cons_zero]))
  apply wpG_nil
  intro W1 hS
  replace k1 := k1.kept hS
  replace k2 := k2.kept hS
  replace hb := hb.trans (hS.mono hb.size)
  clear hS
  go_wp2
  go_ret
  exact ⟨rfl, hb⟩
end Go.Proofs.YtfgkgibomgcmpaaDoor.blendColors
