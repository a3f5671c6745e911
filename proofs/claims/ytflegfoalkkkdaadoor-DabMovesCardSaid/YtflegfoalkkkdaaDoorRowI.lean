/- Rows of integers that the call itself has made: cell by cell, written element by element. -/
import Derived.Test.YtflegfoalkkkdaaDoorGPar
import Derived.Laws.MakeOwn
import Derived.OwnWalk
namespace Go.Proofs.YtflegfoalkkkdaaDoor
open Go.RowKit
set_option linter.unusedVariables false

/-- Block g of the world holds n integers (and perhaps more cells), the i-th is f i; it may be written. -/
def RowI (w : World) (g n : Nat) (f : Nat → Int) : Prop :=
  ∃ cs t, w.heap[g]? = some (.cells cs t (0, 0)) ∧ n ≤ cs.size ∧ ∀ i, i < n → cs[i]? = some (.int .i64 (f i))
theorem RowI.lt {w : World} {g n : Nat} {f : Nat → Int} (h : RowI w g n f) : g < w.heap.size := by
  obtain ⟨cs, t, hh, _⟩ := h
  exact lt_of_block hh
theorem RowI.same {w w' : World} {g n : Nat} {f : Nat → Int} (h : RowI w g n f) (he : w'.heap[g]? = w.heap[g]?) : RowI w' g n f := by
  obtain ⟨cs, t, hh, r⟩ := h
  exact ⟨cs, t, he.trans hh, r⟩
theorem RowI.kept {w w' : World} {g n : Nat} {f : Nat → Int} (h : RowI w g n f) (hb : Below w.heap.size w w') : RowI w' g n f := h.same (hb.block _ h.lt)
theorem RowI.other {w : World} {g n : Nat} {f : Nat → Int} (h : RowI w g n f) {p : Addr} (hne : g ≠ p.block) (u : Value) : RowI (w.setCell p u) g n f := h.same (Below.heap_setCell _ _ _ _ hne)
theorem RowI.c {w : World} {g n : Nat} {f : Nat → Int} (h : RowI w g n f) (k : Nat) (hk : k < n) :
    w.cell? ⟨g, k, none⟩ = some (.int .i64 (f k)) ∧ ∀ o, w.frozen? ⟨g, o, none⟩ = false := by
  obtain ⟨cs, t, hh, _, hc⟩ := h
  exact ⟨cell_blk hh (hc k hk), fun _ => free_blk hh⟩
theorem RowI.set {w : World} {g n : Nat} {f : Nat → Int} (h : RowI w g n f) (k : Nat) (hk : k < n) (x : Int) :
    RowI (w.setCell ⟨g, k, none⟩ (.int .i64 x)) g n (fun i => if i = k then x else f i) := by
  obtain ⟨cs, t, hh, hsz, hc⟩ := h
  have s0 := chg_set hh (.int .i64 x) (i := k) (by omega)
  refine ⟨_, t, s0.at_, by simpa using hsz, fun i hi => ?_⟩
  by_cases hik : i = k
  · subst hik
    simp only [if_true]
    simp
  · simp only [hik, if_false, Array.getElem?_set]
    rw [if_neg (by omega)]
    exact hc i hi
theorem RowI.nn {w : World} {g n cap : Nat} {f : Nat → Int} {zs : List Int} (h : RowI w g n f) (hl : zs.length = n) (hn : n ≤ 9223372036854775807) (hp : ∀ i, i < n → zs.getD i 0 = f i) : Nn w (.slice (some ⟨g, 0, none⟩) n cap) zs := by
  subst hl
  refine ⟨_, cap, rfl, hn, .inr ⟨g, 0, rfl, h.lt, fun i hi => ?_⟩⟩
  have := (h.c i hi).1
  rw [hp i hi]
  simpa using this
theorem RowI.congr {w : World} {g n : Nat} {f f' : Nat → Int} (h : RowI w g n f) (he : ∀ i, i < n → f i = f' i) : RowI w g n f' := by
  obtain ⟨cs, t, hh, hsz, hc⟩ := h
  exact ⟨cs, t, hh, hsz, fun i hi => by rw [← he i hi]; exact hc i hi⟩
/-- A row that append has made. -/
theorem rowI_own {w : World} {base g n cap : Nat} {e : TypeId} {zs : List Int} (h : w.ownsRow base e 1 (.slice (some ⟨g, 0, none⟩) n cap) n (zs.map fun z => .int .i64 z)) (hl : zs.length = n) : RowI w g n (fun i => zs.getD i 0) ∧ base ≤ g := by
  obtain ⟨_, ⟨h1, _⟩ | ⟨g', cap', cur, hv, hb, hg, hn, _, hs, ht⟩⟩ := h
  · cases h1
  · simp only [Value.slice.injEq, Option.some.injEq, Addr.mk.injEq, and_true, true_and] at hv
    obtain ⟨rfl, rfl⟩ := hv
    refine ⟨⟨cur, e, hg, by omega, fun i hi => ?_⟩, hb⟩
    have h2 : (cur.toList.take (n * 1))[i]? = (zs.map fun z => Value.int .i64 z)[i]? := by rw [ht]
    rw [List.getElem?_take, if_pos (by omega), Array.getElem?_toList] at h2
    show cur[i]? = some (Value.int .i64 (zs.getD i 0))
    rw [h2, List.getElem?_map, List.getD_eq_getElem?_getD, List.getElem?_eq_getElem (by omega)]
    rfl
theorem infoInt : (Tryd.prog.info? 3).map (fun i => (i.zero, i.size, i.bytes)) = some (some (.int .i64 0), 1, 8) := by kernel_rfl
def zInt (n : Nat) : Obj := .cells (madeCells (Value.int .i64 0).cells (n * 1)) 3
theorem makeInt (n : Nat) (hn : n ≤ 65536) (w : World) : (Instr.makeSlice 36 (.int .i64 n) (.int .i64 n)).run Tryd.prog w = .ok (.slice (some ⟨w.heap.size, 0, none⟩) n n) (w.alloc (zInt n)) := by
  obtain ⟨i, hi, hz, hs, hb⟩ := info_parts infoInt
  have := run_makeSlice (P := Tryd.prog) w 36 3 i (.int .i64 0) Tryd.underlying36 hi hz .i64 .i64 n n (by omega) (by omega) (by rw [hs]; simp; omega) (by rw [hb]; omega) (by omega)
  rw [hs] at this
  simpa [zInt] using this
theorem rowI_zero {w : World} {g n : Nat} (h : Blk w g (zInt n)) : RowI w g n (fun _ => 0) := by
  refine ⟨_, _, h, by rw [size_madeCells]; omega, fun i hi => ?_⟩
  have h1 : (Value.int .i64 0).cells = #[.int .i64 0] := rfl
  simp only [madeCells, h1]
  rw [Array.getElem?_map, Array.getElem?_range, if_pos (by omega)]
  simp [Nat.mod_one]
/-- The first k elements are written. -/
theorem RowI.next {w : World} {g n : Nat} {r : Nat → Int} {k : Nat} (h : RowI w g n (fun i => if i < k then r i else 0)) (hk : k < n) :
    RowI (w.setCell ⟨g, k, none⟩ (.int .i64 (r k))) g n (fun i => if i < k + 1 then r i else 0) := by
  refine (h.set k hk (r k)).congr fun i hi => ?_
  by_cases e : i = k
  · subst e; simp
  · by_cases e2 : i < k
    · rw [if_neg e, if_pos e2, if_pos (by omega)]
    · rw [if_neg e, if_neg e2, if_neg (by omega)]
theorem rowI_start {w : World} {g n : Nat} {r : Nat → Int} (h : Blk w g (zInt n)) : RowI w g n (fun i => if i < 0 then r i else 0) := (rowI_zero h).congr fun i _ => by rw [if_neg (by omega)]
end Go.Proofs.YtflegfoalkkkdaaDoor
