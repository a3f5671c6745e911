/- Several texts in one: Turn, TurnR. -/
import Derived.Test.YtjaidcdkkgnfoaaLPlain
import Derived.Test.YtjaidcdkkgnfoaaLNumW
import Derived.Test.YtjaidcdkkgnfoaaLKit
import Derived.Deep.Cut
import Derived.Deep.WholeRow

/- The sines by the program (its table is a package's variable) and by the reference (printed by genturn.py). -/
namespace Go.Proofs.Ytjaidcdkkgnfoaa
open Go.RowKit
set_option linter.unusedVariables false
attribute [local go_sem] Oper.gAt gUponK Oper.sAt stilK

/-- The table of the sines lies in block 0. -/
def Sines (w : World) : Prop := 0 < w.heap.size ∧ ∀ i, i < 65 → w.cell? ⟨0, i, none⟩ = some (.int .i64 (sT i))
theorem Sines.kept {w w' : World} (h : Sines w) (hb : Below w.heap.size w w') : Sines w' :=
  ⟨Nat.lt_of_lt_of_le h.1 hb.size, fun i hi => by rw [hb.cell (p := ⟨0, i, none⟩) h.1]; exact h.2 i hi⟩



theorem and_full (a : Int) : bits .and .i64 a 65535 = a % 65536 := by
  have h2 : (BitVec.ofInt 64 65535).toNat = 65535 := by decide
  show IntKind.i64.wrap ((BitVec.ofInt 64 a &&& BitVec.ofInt 64 65535).toNat : Int) = _
  rw [BitVec.toNat_and, h2, show (65535 : Nat) = 2 ^ 16 - 1 from rfl, Nat.and_two_pow_sub_one_eq_mod, BitVec.toNat_ofInt]
  have e : ((2 ^ 64 : Nat) : Int) = 18446744073709551616 := by decide
  have e2 : (2 : Nat) ^ 16 = 65536 := by decide
  rw [e, e2, IntWalk.i64_in _ (by omega)]
  omega


end Go.Proofs.Ytjaidcdkkgnfoaa


/- The sines by the reference (printed by genturn.py). -/
namespace Go.Proofs.Ytjaidcdkkgnfoaa
open Go.RowKit
set_option linter.unusedVariables false
attribute [local go_sem] Oper.gAt gUponK Oper.sAt stilK

def tabA : Array Value := (sinTab.map fun z => Value.int .i64 z).toArray
theorem tabA_at (i : Nat) (h : i < 65) : tabA[i]? = some (.int .i64 (sT i)) := by
  have hl : sinTab.length = 65 := by decide
  show ((sinTab.map fun z => Value.int .i64 z).toArray)[i]? = _
  rw [List.getElem?_toArray, List.getElem?_map, List.getElem?_eq_getElem (by omega)]
  show some (Value.int .i64 _) = some (Value.int .i64 (sinTab.getD i 0))
  rw [List.getD_eq_getElem?_getD, List.getElem?_eq_getElem (by omega)]
  rfl
theorem wpList_build_to {P : Program} {ops : Array Oper} {rest : List Oper} {o : Oper} {a : Act} {w : World} {Q : Exit → Act → World → Prop} (hg : o.guard = none) (t : TypeId) (parts : Array (Nat × Operand)) (ho : o.op = .build t parts) (cells : Array Value)
    (hf : P.built t (parts.map fun (i, x) => (i, a.eval x)).toList = some cells)
    (h : wpList P ops Q rest (a.put o.dst (.agg cells)) w) : wpList P ops Q (o :: rest) a w :=
  wpList_build hg t parts ho (by rw [hf]; rfl) (by rw [hf]; exact h)
theorem tabA_one : tabA.all (·.oneCell') = true := by kernel_rfl





end Go.Proofs.Ytjaidcdkkgnfoaa

