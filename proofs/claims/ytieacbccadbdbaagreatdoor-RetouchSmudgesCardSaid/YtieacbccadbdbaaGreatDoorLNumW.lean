/- Several texts in one: NumW, GNum. -/
import Derived.Test.YtieacbccadbdbaaGreatDoorLNum
import Derived.Test.YtieacbccadbdbaaGreatDoorLPlain
import Derived.Lib.MinMax

/- Floor and Div for numerators of up to 8 * 10^18 (printed by genwide.py). -/
namespace Go.Proofs.YtieacbccadbdbaaGreatDoor
open Go.RowKit
set_option linter.unusedVariables false






end Go.Proofs.YtieacbccadbdbaaGreatDoor


/- The small functions of package gradient and of its reference: absolute values, remainders, angles, spreads. -/
namespace Go.Proofs.YtieacbccadbdbaaGreatDoor
open Go.RowKit
set_option linter.unusedVariables false

theorem mod_pos (n m : Int) (hm : 0 < m) : (n.tmod m + m).tmod m = n % m := by
  have h1 := Int.tmod_lt_of_pos n hm
  have h2 : -m < n.tmod m := by
    have := Int.tmod_lt_of_pos (-n) hm
    rw [Int.neg_tmod] at this
    omega
  rw [Int.tmod_eq_emod_of_nonneg (by omega), Int.add_emod_right]
  have e := Int.mul_tdiv_add_tmod n m
  have h3 : n % m = (m * n.tdiv m + n.tmod m) % m := by rw [e]
  rw [h3, Int.mul_add_emod_self_left]
theorem tmod_bd (n m : Int) (hm : 0 < m) : -m < n.tmod m ∧ n.tmod m < m := by
  have h1 := Int.tmod_lt_of_pos n hm
  have := Int.tmod_lt_of_pos (-n) hm
  rw [Int.neg_tmod] at this
  omega






end Go.Proofs.YtieacbccadbdbaaGreatDoor

