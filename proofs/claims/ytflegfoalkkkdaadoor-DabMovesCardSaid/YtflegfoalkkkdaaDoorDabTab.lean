/- What the rows' list gives: the table of the sines. -/
import Derived.Test.YtflegfoalkkkdaaDoorFrame
import Derived.Test.YtflegfoalkkkdaaDoorTurn
import Derived.Lib.LaidTab
import Derived.Deep.DeepHandedRow
namespace Go.Proofs.YtflegfoalkkkdaaDoor
open Go.RowKit
set_option linter.unusedVariables false

/-- The cells of a table of integers. -/
theorem cells_of_ints {H : Type} {enc : TypeId × Value → H} {P : Program} {w : World} {base : Nat} {sp : Nat → Bool} {held : Bool} {fuel : Nat} {t e : TypeId} {n : Nat} {cs : List Value} {zs : List Int} {p : List MemPlace}
    (ht : P.underlying t = some (.array n e)) (he : P.underlying e = some (.int .i64)) (hce : P.cellsOf e = 1) (hct : P.cellsOf t = n)
    (h : DataW.trod enc P w base sp held fuel t cs = some (.agg (zs.map fun z => .lit (.int .i64 z)), p)) : ∀ i, i < n → cs[i]? = some (.int .i64 (zs.getD i 0)) := by
  cases fuel with
  | zero => simp [DataW.trod] at h
  | succ fuel =>
    simp only [DataW.trod, ht, hce, hct, Nat.mul_one] at h
    split at h
    · rename_i hl
      obtain ⟨xs, hm, hx⟩ := Option.map_eq_some_iff.1 h
      have hxs : xs.map (·.1) = zs.map fun z => (DataW.lit (.int .i64 z) : DataW H) := by
        have := congrArg Prod.fst hx
        simpa using this
      intro i hi
      obtain ⟨b, hb, hf⟩ := Lib.mapM_at hm i i (by simp [hi])
      obtain ⟨z, hc, rfl, _⟩ := DataW.trod_int he hf
      have h1 : cs[i]? = some (.int .i64 z) := by
        have := congrArg (·[0]?) hc
        simpa [List.getElem?_take, List.getElem?_drop] using this
      have h2 : (xs.map (·.1))[i]? = some (DataW.lit (.int .i64 z) : DataW H) := by simp [hb]
      rw [hxs] at h2
      simp only [List.getElem?_map, Option.map_eq_some_iff, DataW.lit.injEq, Lit.int.injEq] at h2
      obtain ⟨z', hz', hz⟩ := h2
      rw [h1, List.getD_eq_getElem?_getD, hz']
      simp [hz]
    · cases h

theorem gSines : Tryd.prog.globalNamed "imageeditor/num.sines" = some 0 := by kernel_rfl
theorem gSinesT : (Tryd.prog.globals[0]?).map (·.type) = some 76 := by kernel_rfl
theorem sines_of {W : World} (h : laidMetH Tryd.prog [("imageeditor/num.sines", Rows.laid_imageeditor_num_sines)] W) : Sines W := by
  obtain ⟨ps, ⟨g', t', cs, fuel, p, q, hg', ht', hvar, hd, h5, h6⟩, h7⟩ := h
  obtain rfl := Option.some.inj (gSines.symm.trans hg')
  obtain rfl := Option.some.inj (gSinesT.symm.trans ht')
  have hc := cells_of_ints (zs := sinTab) Tryd.underlying76 Tryd.underlying3 (by kernel_rfl) (by kernel_rfl) hd
  have hcell : ∀ i, i < 65 → W.cell? ⟨0, i, none⟩ = some (.int .i64 (sT i)) := fun i hi => by
    have := World.var?_cell gSines hvar i
    rw [this, show sT i = sinTab.getD i 0 from rfl]
    simpa using hc i hi
  exact ⟨lt_of_cell (hcell 0 (by omega)), hcell⟩
end Go.Proofs.YtflegfoalkkkdaaDoor
