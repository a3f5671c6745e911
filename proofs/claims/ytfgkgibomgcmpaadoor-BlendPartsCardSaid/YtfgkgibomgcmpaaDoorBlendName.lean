/- The modes of package blend: Valid, Name. -/
import Derived.Test.YtfgkgibomgcmpaaDoorKit
namespace Go.Proofs.YtfgkgibomgcmpaaDoor
open Go.RowKit
set_option linter.unusedVariables false

set_option maxHeartbeats 400000 in
theorem bValid_any (m : Int) (w : World) :
    Calls Tryd.prog 28 #[.int .i64 m] w fun e w' => e = .returned (.bool (decide (0 ≤ m ∧ m ≤ 17))) ∧ w = w' := by
  by_cases h0 : 0 ≤ m
  · by_cases h1 : m < 18
    · go_enter Tryd.func28, Tryd.ntmps28
      go_wp2
      go_ret
      exact ⟨ret_bool (by simp; omega), rfl⟩
    · go_enter Tryd.func28, Tryd.ntmps28
      go_wp2
      go_ret
      exact ⟨ret_bool (by simp; omega), rfl⟩
  · go_enter Tryd.func28, Tryd.ntmps28
    go_wp2
    go_ret
    exact ⟨ret_bool (by simp; omega), rfl⟩
set_option maxHeartbeats 400000 in
theorem refBValid_any (m : Int) (w : World) :
    Calls Tryd.prog 29 #[.int .i64 m] w fun e w' => e = .returned (.bool (decide (0 ≤ m ∧ m ≤ 17))) ∧ w = w' := by
  by_cases h0 : 0 ≤ m
  · by_cases h1 : m ≤ 17
    · go_enter Tryd.func29, Tryd.ntmps29
      go_wp2
      go_ret
      exact ⟨ret_bool (by simp; omega), rfl⟩
    · go_enter Tryd.func29, Tryd.ntmps29
      go_wp2
      go_ret
      exact ⟨ret_bool (by simp; omega), rfl⟩
  · go_enter Tryd.func29, Tryd.ntmps29
    go_wp2
    go_ret
    exact ⟨ret_bool (by simp; omega), rfl⟩

/-- The table of the names lies in block 0. -/
def nameTab : List (List UInt8) := [[110, 111, 114, 109, 97, 108], [109, 117, 108, 116, 105, 112, 108, 121], [115, 99, 114, 101, 101, 110], [111, 118, 101, 114, 108, 97, 121], [100, 97, 114, 107, 101, 110], [108, 105, 103, 104, 116, 101, 110], [100, 111, 100, 103, 101], [98, 117, 114, 110], [104, 97, 114, 100], [115, 111, 102, 116], [100, 105, 102, 102, 101, 114, 101, 110, 99, 101], [101, 120, 99, 108, 117, 115, 105, 111, 110], [97, 100, 100], [115, 117, 98, 116, 114, 97, 99, 116], [104, 117, 101], [115, 97, 116, 117, 114, 97, 116, 105, 111, 110], [99, 111, 108, 111, 114], [108, 117, 109, 105, 110, 111, 115, 105, 116, 121]]
def Names (w : World) : Prop := 0 < w.heap.size ∧ ∀ i, i < 18 → w.cell? ⟨0, i, none⟩ = some (.string ⟨(nameTab.getD i []).toArray⟩)
theorem Names.kept {w w' : World} (h : Names w) (hb : Below w.heap.size w w') : Names w' :=
  ⟨Nat.lt_of_lt_of_le h.1 hb.size, fun i hi => by rw [hb.cell (p := ⟨0, i, none⟩) h.1]; exact h.2 i hi⟩

set_option maxHeartbeats 400000 in
theorem name_in (k : Nat) (w : World) (hk : k < 18) (h : Names w) :
    Calls Tryd.prog 30 #[.int .i64 k] w fun e w' => e = .returned (.string ⟨(nameTab.getD k []).toArray⟩) ∧ w = w' := by
  have hc := h.2 k hk
  have hv : decide (0 ≤ (k : Int) ∧ (k : Int) ≤ 17) = true := by rw [decide_eq_true_eq]; omega
  have i1 : (0 : Int) ≤ (k : Int) := by omega
  have i2 : (k : Int) < 18 := by omega
  generalize nameTab.getD k [] = l at *
  clear h
  go_enter Tryd.func30, Tryd.ntmps30
  go_wp2_with fail
  refine (bValid_any _ _).mono ?_
  rintro e w' ⟨rfl, rfl⟩
  rw [hv]
  go_wp2_with fail
  go_ret
  exact ⟨rfl, rfl⟩
end Go.Proofs.YtfgkgibomgcmpaaDoor
