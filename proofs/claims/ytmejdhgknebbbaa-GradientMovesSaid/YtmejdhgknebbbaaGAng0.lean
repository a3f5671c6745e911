/- The angle of a direction, and spreads, by the program and by the reference (printed by genang.py). -/
import Derived.Test.YtmejdhgknebbbaaGNum
namespace Go.Proofs.Ytmejdhgknebbbaa
open Go.RowKit
set_option linter.unusedVariables false

theorem ang1 (dx dy h : Int) (e : angH (gabs dx) (gabs dy) = h) (h1 : 0 ≤ dx) (h2 : 0 ≤ dy) : ang dx dy = h := by unfold ang; rw [if_pos ⟨h1, h2⟩, e]
theorem ang2 (dx dy h : Int) (e : angH (gabs dx) (gabs dy) = h) (h1 : dx < 0) (h2 : 0 ≤ dy) : ang dx dy = 32768 - h := by unfold ang; rw [if_neg (by omega), if_pos h2, e]
theorem ang3 (dx dy h : Int) (e : angH (gabs dx) (gabs dy) = h) (h1 : dx < 0) (h2 : dy < 0) : ang dx dy = 32768 + h := by unfold ang; rw [if_neg (by omega), if_neg (by omega), if_pos h1, e]
theorem ang4 (dx dy h : Int) (e : angH (gabs dx) (gabs dy) = h) (h1 : 0 ≤ dx) (h2 : dy < 0) : ang dx dy = (65536 - h) % 65536 := by unfold ang; rw [if_neg (by omega), if_neg (by omega), if_neg (by omega), e]
theorem angHz : angH 0 0 = 0 := rfl
theorem angHa (p q : Int) (hp : 0 < p) (h : q ≤ p) : angH p q = eig (dv (q * 65536) p) := by unfold angH; rw [if_neg (by omega), if_pos h]
theorem angHb (p q : Int) (hp : 0 ≤ p) (h : p < q) : angH p q = 16384 - eig (dv (p * 65536) q) := by unfold angH; rw [if_neg (by omega), if_neg (by omega)]

end Go.Proofs.Ytmejdhgknebbbaa
