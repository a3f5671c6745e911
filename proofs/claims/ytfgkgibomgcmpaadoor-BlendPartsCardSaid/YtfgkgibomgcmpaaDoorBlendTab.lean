/- What the rows' list gives: the table of the names. -/
import Derived.Test.YtfgkgibomgcmpaaDoorFrame
import Derived.Test.YtfgkgibomgcmpaaDoorBlendName
import Derived.Lib.LaidTab
import Derived.Deep.DeepHandedRow
namespace Go.Proofs.YtfgkgibomgcmpaaDoor
open Go.RowKit
set_option linter.unusedVariables false

/-- The cells of a table of strings. -/
theorem cells_of_strs {H : Type} {enc : TypeId × Value → H} {P : Program} {w : World} {base : Nat} {sp : Nat → Bool} {held : Bool} {fuel : Nat} {t e : TypeId} {n : Nat} {cs : List Value} {zs : List (List UInt8)} {p : List MemPlace}
    (ht : P.underlying t = some (.array n e)) (he : P.underlying e = some .string) (hce : P.cellsOf e = 1) (hct : P.cellsOf t = n)
    (h : DataW.trod enc P w base sp held fuel t cs = some (.agg (zs.map fun z => .lit (.string z)), p)) : ∀ i, i < n → cs[i]? = some (.string ⟨(zs.getD i []).toArray⟩) := by
  cases fuel with
  | zero => simp [DataW.trod] at h
  | succ fuel =>
    simp only [DataW.trod, ht, hce, hct, Nat.mul_one] at h
    split at h
    · rename_i hl
      obtain ⟨xs, hm, hx⟩ := Option.map_eq_some_iff.1 h
      have hxs : xs.map (·.1) = zs.map fun z => (DataW.lit (.string z) : DataW H) := by
        have := congrArg Prod.fst hx
        simpa using this
      intro i hi
      obtain ⟨b, hb, hf⟩ := Lib.mapM_at hm i i (by simp [hi])
      obtain ⟨z, hc, rfl, _⟩ := DataW.trod_string he hf
      have h1 : cs[i]? = some (.string z) := by
        have := congrArg (·[0]?) hc
        simpa [List.getElem?_take, List.getElem?_drop] using this
      have h2 : (xs.map (·.1))[i]? = some (DataW.lit (.string z.data.toList) : DataW H) := by simp [hb]
      rw [hxs] at h2
      simp only [List.getElem?_map, Option.map_eq_some_iff, DataW.lit.injEq, Lit.string.injEq] at h2
      obtain ⟨z', hz', hz⟩ := h2
      rw [h1, List.getD_eq_getElem?_getD, hz', hz]
      rfl
    · cases h

theorem gNames : Tryd.prog.globalNamed "imageeditor/blend.names" = some 0 := by kernel_rfl
theorem gNamesT : (Tryd.prog.globals[0]?).map (·.type) = some 59 := by kernel_rfl
theorem names_of {W : World} (h : laidMetH Tryd.prog Rows.blendChannelsRow.laid W) : Names W := by
  obtain ⟨ps, ⟨g', t', cs, fuel, p, q, hg', ht', hvar, hd, h5, h6⟩, h7⟩ := h
  obtain rfl := Option.some.inj (gNames.symm.trans hg')
  obtain rfl := Option.some.inj (gNamesT.symm.trans ht')
  have hc := cells_of_strs (zs := nameTab) Tryd.underlying59 Tryd.underlying9 (by kernel_rfl) (by kernel_rfl) hd
  have hcell : ∀ i, i < 18 → W.cell? ⟨0, i, none⟩ = some (.string ⟨(nameTab.getD i []).toArray⟩) := fun i hi => by
    have := World.var?_cell gNames hvar i
    rw [this]
    simpa using hc i hi
  exact ⟨lt_of_cell (hcell 0 (by omega)), hcell⟩
end Go.Proofs.YtfgkgibomgcmpaaDoor
