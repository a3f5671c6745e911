/- The error of a mask, plainly. -/
import Derived.Test.YtjaidcdkkgnfoaaDoorLRow
namespace Go.Proofs.YtjaidcdkkgnfoaaDoor
set_option linter.unusedVariables false

def mbad (zs : List Int) (i : Nat) : Int := if 0 ≤ zs.getD i 0 ∧ zs.getD i 0 ≤ 65535 then 0 else 2
/-- The error of a mask. -/
def mchk (W H : Int) (zs : List Int) : Int :=
  if W < 0 ∨ 256 < W ∨ H < 0 ∨ 256 < H ∨ (W = 0 ∧ H ≠ 0) ∨ (W ≠ 0 ∧ H = 0) ∨ (zs.length : Int) ≠ W * H then 15 else ferr (mbad zs) (zs.length - 0) 0
theorem mchk_bad {W H : Int} {zs : List Int} (h : W < 0 ∨ 256 < W ∨ H < 0 ∨ 256 < H ∨ (W = 0 ∧ H ≠ 0) ∨ (W ≠ 0 ∧ H = 0) ∨ (zs.length : Int) ≠ W * H) : mchk W H zs = 15 := if_pos h
theorem mchk_good {W H : Int} {zs : List Int} (h1 : 0 ≤ W) (h2 : W ≤ 256) (h3 : 0 ≤ H) (h4 : H ≤ 256) (h5 : W = 0 ↔ H = 0) (h6 : (zs.length : Int) = W * H) : mchk W H zs = ferr (mbad zs) (zs.length - 0) 0 :=
  if_neg (by omega)
theorem mchk_len {W H : Int} {zs : List Int} (h : mchk W H zs = 0) : zs.length ≤ 65536 ∧ 0 ≤ W ∧ W ≤ 256 ∧ 0 ≤ H ∧ H ≤ 256 ∧ (W = 0 ↔ H = 0) ∧ (zs.length : Int) = W * H := by
  unfold mchk at h
  split at h
  · cases h
  · rename_i hn
    have := @area_bd W H (by omega) (by omega) (by omega) (by omega)
    omega
theorem mchk_vals {W H : Int} {zs : List Int} (h : mchk W H zs = 0) : ∀ i, i < zs.length → 0 ≤ zs.getD i 0 ∧ zs.getD i 0 ≤ 65535 := by
  unfold mchk at h
  split at h
  · cases h
  · intro i hi
    have := ferr_zero _ _ _ h i (by omega) (by omega)
    unfold mbad at this
    split at this
    · assumption
    · cases this
end Go.Proofs.YtjaidcdkkgnfoaaDoor

