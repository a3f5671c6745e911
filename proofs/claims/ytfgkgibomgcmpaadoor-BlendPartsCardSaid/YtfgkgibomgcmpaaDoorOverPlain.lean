/- Plain functions for compositing a pixel over another one. -/
import Derived.Test.YtfgkgibomgcmpaaDoorColPlain
namespace Go.Proofs.YtfgkgibomgcmpaaDoor
set_option linter.unusedVariables false

def dU (ba sa : Int) : Int := 65535 * (sa + ba) - sa * ba
def nU (b s m ba sa : Int) : Int := s * sa * (65535 - ba) + b * ba * (65535 - sa) + m * sa * ba
def ovC (b s m ba sa : Int) : Int := dv (nU b s m ba sa) (dU ba sa)
def alU (ba sa : Int) : Int := dv (dU ba sa) 65535
theorem mul_u2 (a b : Int) (ha : 0 ≤ a ∧ a ≤ 65535) (hb : 0 ≤ b ∧ b ≤ 65535) : 0 ≤ a * b ∧ a * b ≤ 4294836225 := by
  have h1 : a * b ≤ 65535 * 65535 := Int.mul_le_mul ha.2 hb.2 hb.1 (by omega)
  exact ⟨Int.mul_nonneg ha.1 hb.1, by omega⟩
theorem mul_u3 (a b c : Int) (ha : 0 ≤ a ∧ a ≤ 65535) (hb : 0 ≤ b ∧ b ≤ 65535) (hc : 0 ≤ c ∧ c ≤ 65535) : 0 ≤ a * b * c ∧ a * b * c ≤ 281462092005375 := by
  have h := mul_u2 a b ha hb
  have h1 : a * b * c ≤ 4294836225 * 65535 := Int.mul_le_mul h.2 hc.2 hc.1 (by omega)
  exact ⟨Int.mul_nonneg h.1 hc.1, by omega⟩
theorem dU_bd (ba sa : Int) (h1 : 0 ≤ ba ∧ ba ≤ 65535) (h2 : 0 ≤ sa ∧ sa ≤ 65535) : 0 ≤ dU ba sa ∧ dU ba sa ≤ 4294836225 := by
  have e : dU ba sa = 65535 * 65535 - (65535 - sa) * (65535 - ba) := by
    unfold dU
    rw [Int.sub_mul, Int.mul_sub, Int.mul_sub, Int.mul_add]
    omega
  have h := mul_u2 (65535 - sa) (65535 - ba) (by omega) (by omega)
  omega
theorem alU_bd (ba sa : Int) (h1 : 0 ≤ ba ∧ ba ≤ 65535) (h2 : 0 ≤ sa ∧ sa ≤ 65535) : 0 ≤ alU ba sa ∧ alU ba sa ≤ 65535 := by
  have h := dU_bd ba sa h1 h2
  exact ⟨dv_nonneg _ _ (by omega) h.1, dv_le _ _ _ (by omega) (by omega)⟩
theorem alU_pos (ba sa : Int) (h1 : 0 ≤ ba ∧ ba ≤ 65535) (h2 : 0 ≤ sa ∧ sa ≤ 65535) (h : alU ba sa ≠ 0) : 0 < dU ba sa := by
  have hd := dU_bd ba sa h1 h2
  rcases Int.lt_or_le 0 (dU ba sa) with h3 | h3
  · exact h3
  · exfalso
    apply h
    have e : dU ba sa = 0 := by omega
    unfold alU
    rw [e]
    rfl
end Go.Proofs.YtfgkgibomgcmpaaDoor
