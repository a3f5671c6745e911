/- Two masks of equal values are the same; the struct of a stroke and a size. -/
import Derived.Test.YtjaidcdkkgnfoaaGreatDoorLKit
import Derived.Test.YtjaidcdkkgnfoaaGreatDoorLRow
import Derived.Test.YtjaidcdkkgnfoaaGreatDoorBrDabs
import Derived.Deep.Cut
namespace Go.Proofs.YtjaidcdkkgnfoaaGreatDoor
open Go.RowKit
set_option linter.unusedVariables false
attribute [local go_sem] Oper.gAt gUponK Oper.sAt stilK

theorem Blk.c19 {w : World} {b : Nat} {x0 x1 x2 x3 x4 x5 x6 x7 x8 x9 x10 x11 x12 x13 x14 x15 x16 x17 x18 : Value} {t : TypeId} (k : Blk w b (.cells #[x0, x1, x2, x3, x4, x5, x6, x7, x8, x9, x10, x11, x12, x13, x14, x15, x16, x17, x18] t (0, 0))) :
    w.cell? ⟨b, 0, none⟩ = some x0 ∧ w.cell? ⟨b, 1, none⟩ = some x1 ∧ w.cell? ⟨b, 2, none⟩ = some x2 ∧ w.cell? ⟨b, 3, none⟩ = some x3 ∧ w.cell? ⟨b, 4, none⟩ = some x4 ∧ w.cell? ⟨b, 5, none⟩ = some x5 ∧ w.cell? ⟨b, 6, none⟩ = some x6 ∧ w.cell? ⟨b, 7, none⟩ = some x7 ∧ w.cell? ⟨b, 8, none⟩ = some x8 ∧ w.cell? ⟨b, 9, none⟩ = some x9 ∧ w.cell? ⟨b, 10, none⟩ = some x10 ∧ w.cell? ⟨b, 11, none⟩ = some x11 ∧ w.cell? ⟨b, 12, none⟩ = some x12 ∧ w.cell? ⟨b, 13, none⟩ = some x13 ∧ w.cell? ⟨b, 14, none⟩ = some x14 ∧ w.cell? ⟨b, 15, none⟩ = some x15 ∧ w.cell? ⟨b, 16, none⟩ = some x16 ∧ w.cell? ⟨b, 17, none⟩ = some x17 ∧ w.cell? ⟨b, 18, none⟩ = some x18 ∧ ∀ o, w.frozen? ⟨b, o, none⟩ = false :=
  ⟨cell_blk k rfl, cell_blk k rfl, cell_blk k rfl, cell_blk k rfl, cell_blk k rfl, cell_blk k rfl, cell_blk k rfl, cell_blk k rfl, cell_blk k rfl, cell_blk k rfl, cell_blk k rfl, cell_blk k rfl, cell_blk k rfl, cell_blk k rfl, cell_blk k rfl, cell_blk k rfl, cell_blk k rfl, cell_blk k rfl, cell_blk k rfl, fun _ => free_blk k⟩
theorem nnAtS {w : World} {a : Option Addr} {n cap : Nat} {zs : List Int} (h : Nn w (.slice a n cap) zs) (i : Nat) (hi : i < n) : ∃ b off, a = some ⟨b, off, none⟩ ∧ ∀ w' : World, Below w.heap.size w w' → w'.cell? ⟨b, off + i, none⟩ = some (.int .i64 (zs.getD i 0)) := by
  obtain ⟨b, off, ha, hc⟩ := h.at i hi
  refine ⟨b, off, ha, fun w' hb => ?_⟩
  rw [hb.cell (p := ⟨b, off + i, none⟩) (lt_of_cell hc)]
  exact hc

end Go.Proofs.YtjaidcdkkgnfoaaGreatDoor

