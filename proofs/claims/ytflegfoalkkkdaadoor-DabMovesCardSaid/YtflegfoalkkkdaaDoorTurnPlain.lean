/- The sines, plainly: a table, between whose entries straight lines lie. -/
import Derived.Test.YtflegfoalkkkdaaDoorNumPlain
namespace Go.Proofs.YtflegfoalkkkdaaDoor
set_option linter.unusedVariables false

def sinTab : List Int := [0, 1608, 3216, 4821, 6424, 8022, 9616, 11204, 12785, 14359, 15924, 17479, 19024, 20557, 22078, 23586, 25080, 26558, 28020, 29466, 30893, 32303, 33692, 35062, 36410, 37736, 39040, 40320, 41576, 42806, 44011, 45190, 46341, 47464, 48559, 49624, 50660, 51665, 52639, 53581, 54491, 55368, 56212, 57022, 57798, 58538, 59244, 59914, 60547, 61145, 61705, 62228, 62714, 63162, 63572, 63944, 64277, 64571, 64827, 65043, 65220, 65358, 65457, 65516, 65536]
def sT (i : Nat) : Int := sinTab.getD i 0
theorem sT_ok : ∀ i, i < 64 → 0 ≤ sT i ∧ sT i ≤ sT (i + 1) ∧ sT (i + 1) ≤ 65536 := by decide
theorem sT_bd (i : Nat) (h : i < 65) : 0 ≤ sT i ∧ sT i ≤ 65536 := by
  by_cases h1 : i < 64
  · have := sT_ok i h1; omega
  · obtain rfl : i = 64 := by omega
    decide
/-- The sine of an angle of up to a quarter. -/
def qtr (u : Int) : Int := if u = 16384 then 65536 else sT (u / 256).toNat + dv ((sT ((u / 256).toNat + 1) - sT (u / 256).toNat) * (u - 256 * (u / 256))) 256
theorem qtr_in (u : Int) (h0 : 0 ≤ u) (h1 : u < 16384) : 0 ≤ (sT ((u / 256).toNat + 1) - sT (u / 256).toNat) * (u - 256 * (u / 256)) ∧ (sT ((u / 256).toNat + 1) - sT (u / 256).toNat) * (u - 256 * (u / 256)) ≤ (sT ((u / 256).toNat + 1) - sT (u / 256).toNat) * 256 := by
  have hi : (u / 256).toNat < 64 := by omega
  have := sT_ok _ hi
  exact ⟨Int.mul_nonneg (by omega) (by omega), Int.mul_le_mul_of_nonneg_left (by omega) (by omega)⟩
theorem qtr_bd (u : Int) (h0 : 0 ≤ u) (h1 : u ≤ 16384) : 0 ≤ qtr u ∧ qtr u ≤ 65536 := by
  unfold qtr
  split
  · omega
  · have hi : (u / 256).toNat < 64 := by omega
    have h := sT_ok _ hi
    have hq := qtr_in u h0 (by omega)
    have a1 := dv_nonneg _ 256 (by omega) hq.1
    have a2 := dv_le _ 256 (sT ((u / 256).toNat + 1) - sT (u / 256).toNat) (by omega) hq.2
    omega
def sinA (a : Int) : Int := if a < 16384 then qtr a else if a < 32768 then qtr (16384 - (a - 16384)) else if a < 49152 then -qtr (a - 32768) else -qtr (16384 - (a - 49152))
theorem sinA_bd (a : Int) (h0 : 0 ≤ a) (h1 : a < 65536) : -65536 ≤ sinA a ∧ sinA a ≤ 65536 := by
  unfold sinA
  split
  · have := qtr_bd a h0 (by omega); omega
  · split
    · have := qtr_bd (16384 - (a - 16384)) (by omega) (by omega); omega
    · split
      · have := qtr_bd (a - 32768) (by omega) (by omega); omega
      · have := qtr_bd (16384 - (a - 49152)) (by omega) (by omega); omega
/-- Sine and cosine of an angle. -/
def tS (a : Int) : Int := sinA (a % 65536)
def tC (a : Int) : Int := sinA ((a % 65536 + 16384) % 65536)
theorem tS_def (a : Int) : tS a = sinA (a % 65536) := rfl
theorem tC_def (a : Int) : tC a = sinA ((a % 65536 + 16384) % 65536) := rfl
theorem tS_bd (a : Int) : -65536 ≤ tS a ∧ tS a ≤ 65536 := sinA_bd _ (by omega) (by omega)
theorem tC_bd (a : Int) : -65536 ≤ tC a ∧ tC a ≤ 65536 := sinA_bd _ (by omega) (by omega)
theorem tS_zero : tS 0 = 0 := by decide +kernel
theorem tC_zero : tC 0 = 65536 := by decide +kernel
end Go.Proofs.YtflegfoalkkkdaaDoor
