/- The parameters of a gradient: slices of integers, their error, by the program and by the reference. -/
import Derived.Test.YtflegfoalkkkdaaDoorCurvePlain
import Derived.Test.YtflegfoalkkkdaaDoorGPlain
import Derived.Test.YtflegfoalkkkdaaDoorBlk
namespace Go.Proofs.YtflegfoalkkkdaaDoor
open Go.RowKit
set_option linter.unusedVariables false

/-- A slice of integers, by its elements. -/
def Nn (w : World) (v : Value) (zs : List Int) : Prop :=
  ∃ a cap, v = .slice a zs.length cap ∧ zs.length ≤ 9223372036854775807 ∧ (zs.length = 0 ∨ ∃ b off, a = some ⟨b, off, none⟩ ∧ b < w.heap.size ∧ ∀ i, i < zs.length → w.cell? ⟨b, off + i, none⟩ = some (.int .i64 (zs.getD i 0)))
theorem Nn.kept {w w' : World} {v : Value} {zs : List Int} (h : Nn w v zs) (hb : Below w.heap.size w w') : Nn w' v zs := by
  obtain ⟨a, cap, hv, hl, hr⟩ := h
  refine ⟨a, cap, hv, hl, ?_⟩
  rcases hr with h0 | ⟨b, off, ha, hlt, hc⟩
  · exact .inl h0
  · refine .inr ⟨b, off, ha, Nat.lt_of_lt_of_le hlt hb.size, fun i hi => ?_⟩
    rw [hb.cell (p := ⟨b, off + i, none⟩) hlt]
    exact hc i hi
theorem Nn.slice {w : World} {v : Value} {zs : List Int} (h : Nn w v zs) : ∃ a cap, v = .slice a zs.length cap ∧ zs.length ≤ 9223372036854775807 := by
  obtain ⟨a, cap, hv, hl, _⟩ := h
  exact ⟨a, cap, hv, hl⟩
theorem Nn.at {w : World} {a : Option Addr} {n cap : Nat} {zs : List Int} (h : Nn w (.slice a n cap) zs) (i : Nat) (hi : i < n) : ∃ b off, a = some ⟨b, off, none⟩ ∧ w.cell? ⟨b, off + i, none⟩ = some (.int .i64 (zs.getD i 0)) := by
  obtain ⟨a', cap', hv, hl, hr⟩ := h
  simp only [Value.slice.injEq] at hv
  obtain ⟨rfl, rfl, rfl⟩ := hv
  rcases hr with h0 | ⟨b, off, ha, hlt, hc⟩
  · omega
  · exact ⟨b, off, ha, hc i hi⟩
/-- The first three, or four, in this and in later worlds. -/
theorem Nn.three {w : World} {v : Value} {p0 p1 p2 : Int} (h : Nn w v [p0, p1, p2]) : ∃ b off cap, v = .slice (some ⟨b, off, none⟩) 3 cap ∧ ∀ w', Below w.heap.size w w' → w'.cell? ⟨b, off, none⟩ = some (.int .i64 p0) ∧ w'.cell? ⟨b, off + 1, none⟩ = some (.int .i64 p1) ∧ w'.cell? ⟨b, off + 2, none⟩ = some (.int .i64 p2) := by
  obtain ⟨a, cap, hv, hl, hr⟩ := h
  rcases hr with h0 | ⟨b, off, rfl, hlt, hc⟩
  · simp at h0
  · refine ⟨b, off, cap, hv, fun w' hb => ?_⟩
    rw [hb.cell (p := ⟨b, off, none⟩) hlt, hb.cell (p := ⟨b, off + 1, none⟩) hlt, hb.cell (p := ⟨b, off + 2, none⟩) hlt]
    exact ⟨hc 0 (by simp), hc 1 (by simp), hc 2 (by simp)⟩
theorem Nn.four {w : World} {v : Value} {p0 p1 p2 p3 : Int} (h : Nn w v [p0, p1, p2, p3]) : ∃ b off cap, v = .slice (some ⟨b, off, none⟩) 4 cap ∧ ∀ w', Below w.heap.size w w' → w'.cell? ⟨b, off, none⟩ = some (.int .i64 p0) ∧ w'.cell? ⟨b, off + 1, none⟩ = some (.int .i64 p1) ∧ w'.cell? ⟨b, off + 2, none⟩ = some (.int .i64 p2) ∧ w'.cell? ⟨b, off + 3, none⟩ = some (.int .i64 p3) := by
  obtain ⟨a, cap, hv, hl, hr⟩ := h
  rcases hr with h0 | ⟨b, off, rfl, hlt, hc⟩
  · simp at h0
  · refine ⟨b, off, cap, hv, fun w' hb => ?_⟩
    rw [hb.cell (p := ⟨b, off, none⟩) hlt, hb.cell (p := ⟨b, off + 1, none⟩) hlt, hb.cell (p := ⟨b, off + 2, none⟩) hlt, hb.cell (p := ⟨b, off + 3, none⟩) hlt]
    exact ⟨hc 0 (by simp), hc 1 (by simp), hc 2 (by simp), hc 3 (by simp)⟩

def gbad (zs : List Int) (i : Nat) : Int := if zs.getD i 0 < -1048576 ∨ 1048576 < zs.getD i 0 then 2 else 0
def gNums (zs : List Int) : Int := ferr (gbad zs) (zs.length - 0) 0
/-- The error of the numbers. -/
def gNum (kind : Int) (zs : List Int) : Int := if gNums zs ≠ 0 then gNums zs else if (kind = 2 ∨ kind = 4) ∧ zs.getD 2 0 < 0 then 2 else 0
def gHead (kind : Int) (n : Nat) (spread : Int) : Int :=
  if kind < 1 ∨ 4 < kind ∨ spread < 0 ∨ 2 < spread then 8 else if (kind = 1 ∧ n ≠ 4) ∨ (kind ≠ 1 ∧ n ≠ 3) then 1 else 0
/-- The error of all but the stops, of which there are m. -/
def gPar (kind : Int) (zs : List Int) (spread m : Int) : Int :=
  if gHead kind zs.length spread ≠ 0 then gHead kind zs.length spread else if m = 0 then 1 else if 16 < m then 3 else gNum kind zs
theorem gHead_bad {kind spread : Int} {n : Nat} (h : kind < 1 ∨ 4 < kind ∨ spread < 0 ∨ 2 < spread) : gHead kind n spread = 8 := if_pos h
theorem gHead_cnt {kind spread : Int} {n : Nat} (h : ¬ (kind < 1 ∨ 4 < kind ∨ spread < 0 ∨ 2 < spread)) (h2 : (kind = 1 ∧ n ≠ 4) ∨ (kind ≠ 1 ∧ n ≠ 3)) : gHead kind n spread = 1 := by unfold gHead; rw [if_neg h, if_pos h2]
theorem gHead_ok {kind spread : Int} {n : Nat} (h : ¬ (kind < 1 ∨ 4 < kind ∨ spread < 0 ∨ 2 < spread)) (h2 : ¬ ((kind = 1 ∧ n ≠ 4) ∨ (kind ≠ 1 ∧ n ≠ 3))) : gHead kind n spread = 0 := by unfold gHead; rw [if_neg h, if_neg h2]
theorem gPar_head {kind spread m : Int} {zs : List Int} (h : gHead kind zs.length spread ≠ 0) : gPar kind zs spread m = gHead kind zs.length spread := if_pos h
theorem gPar_ok {kind spread m : Int} {zs : List Int} (h : gHead kind zs.length spread = 0) : gPar kind zs spread m = if m = 0 then 1 else if 16 < m then 3 else gNum kind zs := if_neg (by simpa using h)
theorem gNum_bad {kind : Int} {zs : List Int} (h : gNums zs ≠ 0) : gNum kind zs = gNums zs := if_pos h
theorem gNum_neg {kind : Int} {zs : List Int} (h : gNums zs = 0) (hk : kind = 2 ∨ kind = 4) (h2 : zs.getD 2 0 < 0) : gNum kind zs = 2 := by unfold gNum; rw [if_neg (by simpa using h), if_pos ⟨hk, h2⟩]
theorem gNum_pos {kind : Int} {zs : List Int} (h : gNums zs = 0) (h2 : ¬ ((kind = 2 ∨ kind = 4) ∧ zs.getD 2 0 < 0)) : gNum kind zs = 0 := by unfold gNum; rw [if_neg (by simpa using h), if_neg h2]
end Go.Proofs.YtflegfoalkkkdaaDoor
