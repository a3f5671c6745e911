/- An erasing brush leaves colors and takes alpha away, plainly. -/
import Derived.Test.YtjaidcdkkgnfoaaGreatDoorLPaint
namespace Go.Proofs.YtjaidcdkkgnfoaaGreatDoor
set_option linter.unusedVariables false

theorem erase_at {B : Bru} (her : B.er = true) {p : Px} (hp : pOk p = true) (K : Int) :
    (painted B p K).2.2.2 ≤ p.2.2.2 ∧ (painted B p K = (p.1, p.2.1, p.2.2.1, (painted B p K).2.2.2) ∨ painted B p K = (0, 0, 0, 0)) := by
  obtain ⟨r, g, b, a⟩ := p
  have hc := pOk_cl hp
  have ha := cl_bd a
  by_cases h0 : K = 0
  · subst h0
    rw [painted_0]
    exact ⟨Int.le_refl _, .inl rfl⟩
  · rw [painted_e _ h0 her]
    have hm := mulU_le a (65535 - K)
    unfold fdP
    simp only [hc.1, hc.2.1, hc.2.2.1]
    by_cases hz : fdA a (65535 - K) = 0
    · rw [if_pos hz]
      exact ⟨by simp only; omega, .inr rfl⟩
    · rw [if_neg hz]
      refine ⟨?_, .inl rfl⟩
      show dv (cl a * cl (65535 - K)) 65535 ≤ a
      omega
end Go.Proofs.YtjaidcdkkgnfoaaGreatDoor

