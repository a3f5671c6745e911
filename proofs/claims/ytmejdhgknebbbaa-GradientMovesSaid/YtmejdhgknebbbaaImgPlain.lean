/- Pixels and images as plain data: slices of pixels in memory, the error of an image. -/
import Derived.Test.YtmejdhgknebbbaaCurvePlain
import Derived.Test.YtmejdhgknebbbaaBlk
import Derived.Test.YtmejdhgknebbbaaPix2
import Derived.Test.YtmejdhgknebbbaaPixRef
namespace Go.Proofs.Ytmejdhgknebbbaa
open Go.RowKit
set_option linter.unusedVariables false

/-- A pixel: red, green, blue, alpha. -/
abbrev Px := Int × Int × Int × Int
def pvx (p : Px) : Value := pv p.1 p.2.1 p.2.2.1 p.2.2.2
def pxAt (ps : List Px) (i : Nat) : Px := ps.getD i (0, 0, 0, 0)
/-- A slice of pixels, by its elements. -/
def Pn (w : World) (v : Value) (ps : List Px) : Prop :=
  ∃ a cap, v = .slice a ps.length cap ∧ ps.length ≤ 9223372036854775807 ∧ (ps.length = 0 ∨ ∃ b off, a = some ⟨b, off, none⟩ ∧ b < w.heap.size ∧
    ∀ i, i < ps.length → w.cell? ⟨b, off + i * 4, none⟩ = some (.int .i64 (pxAt ps i).1) ∧ w.cell? ⟨b, off + i * 4 + 1, none⟩ = some (.int .i64 (pxAt ps i).2.1) ∧ w.cell? ⟨b, off + i * 4 + 2, none⟩ = some (.int .i64 (pxAt ps i).2.2.1) ∧ w.cell? ⟨b, off + i * 4 + 3, none⟩ = some (.int .i64 (pxAt ps i).2.2.2))
theorem Pn.kept {w w' : World} {v : Value} {ps : List Px} (h : Pn w v ps) (hb : Below w.heap.size w w') : Pn w' v ps := by
  obtain ⟨a, cap, hv, hl, hr⟩ := h
  refine ⟨a, cap, hv, hl, ?_⟩
  rcases hr with h0 | ⟨b, off, ha, hlt, hc⟩
  · exact .inl h0
  · refine .inr ⟨b, off, ha, Nat.lt_of_lt_of_le hlt hb.size, fun i hi => ?_⟩
    rw [hb.cell (p := ⟨b, off + i * 4, none⟩) hlt, hb.cell (p := ⟨b, off + i * 4 + 1, none⟩) hlt, hb.cell (p := ⟨b, off + i * 4 + 2, none⟩) hlt, hb.cell (p := ⟨b, off + i * 4 + 3, none⟩) hlt]
    exact hc i hi
theorem Pn.nil (w : World) : Pn w (.slice none 0 0) [] := ⟨none, 0, rfl, by simp, .inl rfl⟩
/-- The cells of one element, in a later world. -/
theorem Pn.at {w : World} {a : Option Addr} {n cap : Nat} {ps : List Px} (h : Pn w (.slice a n cap) ps) (i : Nat) (hi : i < n) :
    ∃ b off, a = some ⟨b, off, none⟩ ∧ b < w.heap.size ∧ ∀ w', Below w.heap.size w w' → w'.cell? ⟨b, off + i * 4, none⟩ = some (.int .i64 (pxAt ps i).1) ∧ w'.cell? ⟨b, off + i * 4 + 1, none⟩ = some (.int .i64 (pxAt ps i).2.1) ∧ w'.cell? ⟨b, off + i * 4 + 2, none⟩ = some (.int .i64 (pxAt ps i).2.2.1) ∧ w'.cell? ⟨b, off + i * 4 + 3, none⟩ = some (.int .i64 (pxAt ps i).2.2.2) := by
  obtain ⟨a', cap', hv, hl, hr⟩ := h
  simp only [Value.slice.injEq] at hv
  obtain ⟨rfl, rfl, rfl⟩ := hv
  rcases hr with h0 | ⟨b, off, ha, hlt, hc⟩
  · omega
  · refine ⟨b, off, ha, hlt, fun w' hb => ?_⟩
    rw [hb.cell (p := ⟨b, off + i * 4, none⟩) hlt, hb.cell (p := ⟨b, off + i * 4 + 1, none⟩) hlt, hb.cell (p := ⟨b, off + i * 4 + 2, none⟩) hlt, hb.cell (p := ⟨b, off + i * 4 + 3, none⟩) hlt]
    exact hc i hi
theorem Pn.len {w : World} {a : Option Addr} {n cap : Nat} {ps : List Px} (h : Pn w (.slice a n cap) ps) : n = ps.length ∧ n ≤ 9223372036854775807 := by
  obtain ⟨a', cap', hv, hl, hr⟩ := h
  simp only [Value.slice.injEq] at hv
  obtain ⟨rfl, rfl, rfl⟩ := hv
  exact ⟨rfl, hl⟩
theorem Pn.slice {w : World} {v : Value} {ps : List Px} (h : Pn w v ps) : ∃ a cap, v = .slice a ps.length cap := by
  obtain ⟨a, cap, hv, _⟩ := h
  exact ⟨a, cap, hv⟩

def pOk (p : Px) : Bool := decide (p.1 = cl p.1 ∧ p.2.1 = cl p.2.1 ∧ p.2.2.1 = cl p.2.2.1 ∧ p.2.2.2 = cl p.2.2.2)
def pbad (ps : List Px) (i : Nat) : Int := if pOk (pxAt ps i) = true then 0 else 2
/-- The error of an image. -/
def ichk (W H : Int) (ps : List Px) : Int :=
  if W < 0 ∨ 256 < W ∨ H < 0 ∨ 256 < H ∨ (W = 0 ∧ H ≠ 0) ∨ (W ≠ 0 ∧ H = 0) ∨ (ps.length : Int) ≠ W * H then 15 else ferr (pbad ps) (ps.length - 0) 0
theorem ichk_bad {W H : Int} {ps : List Px} (h : W < 0 ∨ 256 < W ∨ H < 0 ∨ 256 < H ∨ (W = 0 ∧ H ≠ 0) ∨ (W ≠ 0 ∧ H = 0) ∨ (ps.length : Int) ≠ W * H) : ichk W H ps = 15 := if_pos h
theorem ichk_good {W H : Int} {ps : List Px} (h1 : 0 ≤ W) (h2 : W ≤ 256) (h3 : 0 ≤ H) (h4 : H ≤ 256) (h5 : W = 0 ↔ H = 0) (h6 : (ps.length : Int) = W * H) : ichk W H ps = ferr (pbad ps) (ps.length - 0) 0 :=
  if_neg (by omega)
theorem area_bd {W H : Int} (h1 : 0 ≤ W) (h2 : W ≤ 256) (h3 : 0 ≤ H) (h4 : H ≤ 256) : 0 ≤ W * H ∧ W * H ≤ 65536 := by
  have a := Int.mul_le_mul h2 h4 h3 (by omega)
  exact ⟨Int.mul_nonneg h1 h3, by omega⟩
theorem ichk_len {W H : Int} {ps : List Px} (h : ichk W H ps = 0) : ps.length ≤ 65536 ∧ 0 ≤ W ∧ W ≤ 256 ∧ 0 ≤ H ∧ H ≤ 256 ∧ (ps.length : Int) = W * H := by
  unfold ichk at h
  split at h
  · cases h
  · rename_i hn
    have := @area_bd W H (by omega) (by omega) (by omega) (by omega)
    omega
end Go.Proofs.Ytmejdhgknebbbaa
