/- Rows of quadruples, cell by cell: made, and written in order. -/
import Derived.Test.YtieacbccadbdbaaDoorRetA
import Derived.Test.YtieacbccadbdbaaDoorCopy
namespace Go.Proofs.YtieacbccadbdbaaDoor
open Go.RowKit
set_option linter.unusedVariables false

theorem infoQ : (Tryd.prog.info? 79).map (fun i => (i.zero, i.size, i.bytes)) = some (some (pv 0 0 0 0), 4, 32) := by kernel_rfl
theorem infoQ4 : (Tryd.prog.info? 79).map (·.size) = some 4 := by kernel_rfl
def zQ (n : Nat) : Obj := .cells (madeCells (pv 0 0 0 0).cells (n * 4)) 79
theorem makeQ (n : Nat) (hn : n ≤ 65536) (w : World) : (Instr.makeSlice 76 (.int .i64 n) (.int .i64 n)).run Tryd.prog w = .ok (.slice (some ⟨w.heap.size, 0, none⟩) n n) (w.alloc (zQ n)) := by
  obtain ⟨i, hi, hz, hs, hb⟩ := info_parts infoQ
  have := run_makeSlice (P := Tryd.prog) w 76 79 i (pv 0 0 0 0) Tryd.underlying76 hi hz .i64 .i64 n n (by omega) (by omega) (by rw [hs]; simp; omega) (by rw [hb]; omega) (by omega)
  rw [hs] at this
  simpa [zQ] using this
theorem rowQ_zero {w : World} {g n : Nat} (h : Blk w g (zQ n)) : RowI w g (n * 4) (fun _ => 0) := by
  refine ⟨_, _, h, by rw [size_madeCells]; omega, fun i hi => ?_⟩
  have h4 : (pv 0 0 0 0).cells = #[.int .i64 0, .int .i64 0, .int .i64 0, .int .i64 0] := rfl
  simp only [madeCells, h4]
  rw [Array.getElem?_map, Array.getElem?_range, if_pos hi]
  have hm : i % 4 = 0 ∨ i % 4 = 1 ∨ i % 4 = 2 ∨ i % 4 = 3 := by omega
  rcases hm with hm | hm | hm | hm <;> simp [hm]
/-- The first k cells are written, the others are as they were. -/
theorem RowI.step {w : World} {g n : Nat} {r p : Nat → Int} {k : Nat} (h : RowI w g n (fun i => if i < k then r i else p i)) (hk : k < n) :
    RowI (w.setCell ⟨g, k, none⟩ (.int .i64 (r k))) g n (fun i => if i < k + 1 then r i else p i) := by
  refine (h.set k hk (r k)).congr fun i hi => ?_
  by_cases e : i = k
  · subst e; simp
  · by_cases e2 : i < k
    · rw [if_neg e, if_pos e2, if_pos (by omega)]
    · rw [if_neg e, if_neg e2, if_neg (by omega)]
theorem RowI.jump {w : World} {g n : Nat} {r p : Nat → Int} {k k' : Nat} (h : RowI w g n (fun i => if i < k then r i else p i)) (hk : k ≤ k') (he : ∀ i, k ≤ i → i < k' → i < n → r i = p i) : RowI w g n (fun i => if i < k' then r i else p i) := by
  refine h.congr fun i hi => ?_
  by_cases e : i < k
  · rw [if_pos e, if_pos (by omega)]
  · by_cases e2 : i < k'
    · rw [if_neg e, if_pos e2, he i (by omega) e2 hi]
    · rw [if_neg e, if_neg e2]
theorem Row.jump {w : World} {g n : Nat} {r p : Nat → Px} {k k' : Nat} (h : Row w g n (fun i => if i < k then r i else p i)) (hk : k ≤ k') (he : ∀ i, k ≤ i → i < k' → i < n → r i = p i) : Row w g n (fun i => if i < k' then r i else p i) := by
  refine h.congr fun i hi => ?_
  by_cases e : i < k
  · rw [if_pos e, if_pos (by omega)]
  · by_cases e2 : i < k'
    · rw [if_neg e, if_pos e2, he i (by omega) e2 hi]
    · rw [if_neg e, if_neg e2]
theorem RowI.other4 {w : World} {b n : Nat} {f : Nat → Int} (k : RowI w b n f) {g : Nat} (hne : b ≠ g) (o0 o1 o2 o3 : Nat) (v0 v1 v2 v3 : Value) : RowI ((((w.setCell ⟨g, o0, none⟩ v0).setCell ⟨g, o1, none⟩ v1).setCell ⟨g, o2, none⟩ v2).setCell ⟨g, o3, none⟩ v3) b n f :=
  (((k.other (p := ⟨g, o0, none⟩) hne _).other (p := ⟨g, o1, none⟩) hne _).other (p := ⟨g, o2, none⟩) hne _).other (p := ⟨g, o3, none⟩) hne _
/-- A block of four integers, by number. -/
theorem rowI_blk4 {w : World} {b : Nat} {f : Nat → Int} {t : TypeId} (k : Blk w b (.cells #[.int .i64 (f 0), .int .i64 (f 1), .int .i64 (f 2), .int .i64 (f 3)] t (0, 0))) : RowI w b 4 f :=
  ⟨_, t, k, by simp, fun i hi => by
    match i, hi with
    | 0, _ => rfl
    | 1, _ => rfl
    | 2, _ => rfl
    | 3, _ => rfl
    | i + 4, hi => exact absurd hi (by omega)⟩
/-- A slice that lies in new memory. -/
def Fresh (B : Nat) (q : Value) : Prop := ∀ b o x n c, q = .slice (some ⟨b, o, x⟩) n c → B ≤ b
theorem fresh_nil (B : Nat) : Fresh B (.slice none 0 0) := fun b o x n c h => by cases h
theorem fresh_at {B g n c : Nat} (h : B ≤ g) : Fresh B (.slice (some ⟨g, 0, none⟩) n c) := fun b o x n' c' e => by
  injection e with e
  injection e with e
  injection e with e
  omega
end Go.Proofs.YtieacbccadbdbaaDoor

