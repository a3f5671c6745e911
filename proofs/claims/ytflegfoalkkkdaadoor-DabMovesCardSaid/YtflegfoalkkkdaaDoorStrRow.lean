/- A struct stored whole into a block that is known: the world goes by a new name. -/
import Derived.Test.YtflegfoalkkkdaaDoorDabKit
import Derived.Laws.Tables
import Derived.Laws.CopyOwn
import Derived.Deep.WholeRow
namespace Go.Proofs.YtflegfoalkkkdaaDoor
open Go.RowKit
set_option linter.unusedVariables false
theorem Blk.setRow {w : World} {g : Nat} {old cells : Array Value} {t : TypeId} {m : Nat × Nat} (k : Blk w g (.cells old t m)) : Blk (w.setRow g cells) g (.cells cells t m) := setRow_heap w g old cells t m k
theorem below_row (w : World) (g : Nat) (cells : Array Value) : Below g w (w.setRow g cells) := below_setRow (Below.refl _ _) (Nat.le_refl _) _
theorem wpList_store_blk {P : Program} {ops : Array Oper} {rest : List Oper} {o : Oper} {a : Act} {w : World} {Q : Exit → Act → World → Prop} (hgd : o.guard = none) (ty : TypeId) (x y : Operand) (ho : o.op = .store ty x y)
    (g : Nat) (cells : Array Value) (hx : a.eval x = .pointer (some ⟨g, 0, none⟩)) (hy : a.eval y = .agg cells)
    {t : TypeId} {old : Array Value} (k : Blk w g (.cells old t (0, 0))) (hi : (P.info? ty).map (·.size) = some cells.size)
    (hold : old.size = cells.size) (h1 : cells.all (·.oneCell') = true)
    (h : ∀ w2 : World, Blk w2 g (.cells cells t (0, 0)) → (∀ i o, i ≠ g → Blk w i o → Blk w2 i o) → Below g w w2 → wpList P ops Q rest (a.put o.dst undef) w2) : wpList P ops Q (o :: rest) a w :=
  wpList_store_row hgd ty x y ho g cells hx hy t old k hi hold h1
    (h _ k.setRow (fun i o hi hk => (setRow_other w g i cells hi).trans hk) (below_row w g cells))
theorem infoBr : (Tryd.prog.info? 26).map (·.size) = some 16 := by kernel_rfl
theorem infoDab : (Tryd.prog.info? 28).map (·.size) = some 5 := by kernel_rfl
end Go.Proofs.YtflegfoalkkkdaaDoor
