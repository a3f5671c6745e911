/- Several texts in one: PaintPlain, Painted. -/
import Derived.Test.YtieacbccadbdbaaGreatDoorLBru
import Derived.Test.YtieacbccadbdbaaGreatDoorLOver
import Derived.Test.YtieacbccadbdbaaGreatDoorLMask
import Derived.Test.YtieacbccadbdbaaGreatDoorLDyn
import Derived.Test.YtieacbccadbdbaaGreatDoorLNum
import Derived.Deep.Cut

/- Strokes painted on images, plainly: the error of a mask, the coverage within a selection, the painted pixels. -/
namespace Go.Proofs.YtieacbccadbdbaaGreatDoor
open Go.RowKit
set_option linter.unusedVariables false

theorem ichk_px {W H : Int} {ps : List Px} (h : ichk W H ps = 0) : (W = 0 ↔ H = 0) ∧ ∀ i, i < ps.length → pOk (pxAt ps i) = true := by
  unfold ichk at h
  split at h
  · cases h
  · refine ⟨by omega, fun i hi => ?_⟩
    have := ferr_zero _ _ _ h i (by omega) (by omega)
    unfold pbad at this
    split at this
    · assumption
    · cases this

end Go.Proofs.YtieacbccadbdbaaGreatDoor


/- A pixel painted with a coverage, by the program and by the reference. -/
namespace Go.Proofs.YtieacbccadbdbaaGreatDoor
open Go.RowKit
set_option linter.unusedVariables false
attribute [local go_sem] Oper.gAt gUponK Oper.sAt stilK



end Go.Proofs.YtieacbccadbdbaaGreatDoor

