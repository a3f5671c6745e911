/- Several texts in one: Turn, TurnR. -/
import Derived.Test.YtbndlidihhhnpaaLPlain
import Derived.Test.YtbndlidihhhnpaaLNumW
import Derived.Test.YtbndlidihhhnpaaLKit
import Derived.Deep.Cut
import Derived.Deep.WholeRow

/- The sines by the program (its table is a package's variable) and by the reference (printed by genturn.py). -/
namespace Go.Proofs.Ytbndlidihhhnpaa
open Go.RowKit
set_option linter.unusedVariables false
attribute [local go_sem] Oper.gAt gUponK Oper.sAt stilK

/-- The table of the sines lies in block 0. -/
def Sines (w : World) : Prop := 0 < w.heap.size ∧ ∀ i, i < 65 → w.cell? ⟨0, i, none⟩ = some (.int .i64 (sT i))
theorem Sines.kept {w w' : World} (h : Sines w) (hb : Below w.heap.size w w') : Sines w' :=
  ⟨Nat.lt_of_lt_of_le h.1 hb.size, fun i hi => by rw [hb.cell (p := ⟨0, i, none⟩) h.1]; exact h.2 i hi⟩

theorem and_full (a : Int) : bits .and .i64 a 65535 = a % 65536 := by
  have h2 : (BitVec.ofInt 64 65535).toNat = 65535 := by decide
  show IntKind.i64.wrap ((BitVec.ofInt 64 a &&& BitVec.ofInt 64 65535).toNat : Int) = _
  rw [BitVec.toNat_and, h2, show (65535 : Nat) = 2 ^ 16 - 1 from rfl, Nat.and_two_pow_sub_one_eq_mod, BitVec.toNat_ofInt]
  have e : ((2 ^ 64 : Nat) : Int) = 18446744073709551616 := by decide
  have e2 : (2 : Nat) ^ 16 = 65536 := by decide
  rw [e, e2, IntWalk.i64_in _ (by omega)]
  omega

end Go.Proofs.Ytbndlidihhhnpaa

/- The sines by the reference (printed by genturn.py). -/
namespace Go.Proofs.Ytbndlidihhhnpaa
open Go.RowKit
set_option linter.unusedVariables false
attribute [local go_sem] Oper.gAt gUponK Oper.sAt stilK
end Go.Proofs.Ytbndlidihhhnpaa

