/- The walk of pixel.Mix. -/
import Derived.Test.YtflegfoalkkkdaaDoorPix2
namespace Go.Proofs.YtflegfoalkkkdaaDoor
open Go.RowKit
set_option linter.unusedVariables false
attribute [local go_sem] Oper.gAt gUponK

/-- The two weights of Mix, its alpha and its channels. -/
def mxU (a t : Int) : Int := cl a * (65535 - cl t)
def mxV (a t : Int) : Int := cl a * cl t
def mxA (a a' t : Int) : Int := dv (mxU a t + mxV a' t) 65535
def mxC (x x' a a' t : Int) : Int := dv (cl x * mxU a t + cl x' * mxV a' t) (mxU a t + mxV a' t)

theorem mxU_bd (a t : Int) : 0 ≤ mxU a t ∧ mxU a t ≤ 4294836225 := by
  have h1 := cl_bd a
  have h2 := cl_bd t
  exact mul_unit_bd _ _ h1.1 h1.2 (by omega) (by omega)
theorem mxV_bd (a t : Int) : 0 ≤ mxV a t ∧ mxV a t ≤ 4294836225 := by
  have h1 := cl_bd a
  have h2 := cl_bd t
  exact mul_unit_bd _ _ h1.1 h1.2 (by omega) (by omega)
theorem mul_bd3 (x u : Int) (h : 0 ≤ x ∧ x ≤ 65535) (h' : 0 ≤ u ∧ u ≤ 4294836225) : 0 ≤ x * u ∧ x * u ≤ 281462092005375 := by
  have a := Int.mul_le_mul h.2 h'.2 h'.1 (by omega)
  exact ⟨Int.mul_nonneg h.1 h'.1, by omega⟩

theorem mx_pos (a a' t : Int) (ha : mxA a a' t ≠ 0) : 0 < mxU a t + mxV a' t := by
  have hU := mxU_bd a t
  have hV := mxV_bd a' t
  rcases Int.lt_or_le 0 (mxU a t + mxV a' t) with h | h
  · exact h
  · exfalso
    apply ha
    have h0 : mxU a t + mxV a' t = 0 * 65535 := by omega
    unfold mxA
    rw [h0]
    exact dv_mul 0 65535 (by omega)
end Go.Proofs.YtflegfoalkkkdaaDoor
