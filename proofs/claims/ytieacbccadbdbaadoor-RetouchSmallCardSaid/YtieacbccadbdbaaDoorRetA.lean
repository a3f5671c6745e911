/- Two pixels mixed, a pixel premultiplied and made straight, by the program and by the reference. -/
import Derived.Test.YtieacbccadbdbaaDoorHealP
namespace Go.Proofs.YtieacbccadbdbaaDoor
open Go.RowKit
set_option linter.unusedVariables false

theorem mixx_any (p q : Px) (t : Int) (w : World) : Calls Tryd.prog 39 #[pvx p, pvx q, .int .i64 t] w fun e w' => e = .returned (pvx (mxP p q t)) ∧ Below w.heap.size w w' := by
  by_cases h : mxA p.2.2.2 q.2.2.2 t = 0
  · have e : mxP p q t = (0, 0, 0, 0) := if_pos h
    rw [e]; exact mix_zero _ _ _ _ _ _ _ _ _ w h
  · have e : mxP p q t = _ := if_neg h
    rw [e]; exact mix_pos _ _ _ _ _ _ _ _ _ w h

theorem straightx_any (p : Px) (w : World) : Calls Tryd.prog 68 #[pvx p] w fun e w' => e = .returned (pvx (stP p)) ∧ Below w.heap.size w w' := by
  have := cl_bd p.2.2.2
  by_cases h : cl p.2.2.2 = 0
  · have e : stP p = (0, 0, 0, 0) := if_pos h
    rw [e]; exact straight_zero _ _ _ _ w h
  · have e : stP p = _ := if_neg h
    rw [e]; exact straight_pos _ _ _ _ w (by omega)
theorem prex_any (p : Px) (w : World) : Calls Tryd.prog 66 #[pvx p] w fun e w' => e = .returned (pvx (prP p)) ∧ Below w.heap.size w w' := pre_any _ _ _ _ w
end Go.Proofs.YtieacbccadbdbaaDoor

