/- Rows of pixels that the call itself has made: cell by cell, written element by element. -/
import Derived.Test.YtmejdhgknebbbaaImgPlain
import Derived.Laws.MakeOwn
import Derived.OwnWalk
namespace Go.Proofs.Ytmejdhgknebbbaa
open Go.RowKit
set_option linter.unusedVariables false

/-- Block g of the world holds n pixels, the i-th is f i; it may be written. -/
def Row (w : World) (g n : Nat) (f : Nat → Px) : Prop :=
  ∃ cs t, w.heap[g]? = some (.cells cs t (0, 0)) ∧ cs.size = n * 4 ∧ ∀ i, i < n → cs[i * 4]? = some (.int .i64 (f i).1) ∧ cs[i * 4 + 1]? = some (.int .i64 (f i).2.1) ∧ cs[i * 4 + 2]? = some (.int .i64 (f i).2.2.1) ∧ cs[i * 4 + 3]? = some (.int .i64 (f i).2.2.2)
theorem Row.lt {w : World} {g n : Nat} {f : Nat → Px} (h : Row w g n f) : g < w.heap.size := by
  obtain ⟨cs, t, hh, _⟩ := h
  exact lt_of_block hh
theorem Row.same {w w' : World} {g n : Nat} {f : Nat → Px} (h : Row w g n f) (he : w'.heap[g]? = w.heap[g]?) : Row w' g n f := by
  obtain ⟨cs, t, hh, r⟩ := h
  exact ⟨cs, t, he.trans hh, r⟩
theorem Row.kept {w w' : World} {g n : Nat} {f : Nat → Px} (h : Row w g n f) (hb : Below w.heap.size w w') : Row w' g n f := h.same (hb.block _ h.lt)
theorem Row.other {w : World} {g n : Nat} {f : Nat → Px} (h : Row w g n f) {p : Addr} (hne : g ≠ p.block) (u : Value) : Row (w.setCell p u) g n f := h.same (Below.heap_setCell _ _ _ _ hne)
/-- The cells of an element, for a read or a store. -/
theorem Row.c {w : World} {g n : Nat} {f : Nat → Px} (h : Row w g n f) (k : Nat) (hk : k < n) :
    w.cell? ⟨g, k * 4, none⟩ = some (.int .i64 (f k).1) ∧ w.cell? ⟨g, k * 4 + 1, none⟩ = some (.int .i64 (f k).2.1) ∧ w.cell? ⟨g, k * 4 + 2, none⟩ = some (.int .i64 (f k).2.2.1) ∧ w.cell? ⟨g, k * 4 + 3, none⟩ = some (.int .i64 (f k).2.2.2) ∧ ∀ o, w.frozen? ⟨g, o, none⟩ = false := by
  obtain ⟨cs, t, hh, _, hc⟩ := h
  obtain ⟨h0, h1, h2, h3⟩ := hc k hk
  exact ⟨cell_blk hh h0, cell_blk hh h1, cell_blk hh h2, cell_blk hh h3, fun _ => free_blk hh⟩
theorem Row.set {w : World} {g n : Nat} {f : Nat → Px} (h : Row w g n f) (k : Nat) (hk : k < n) (p : Px) :
    Row ((((w.setCell ⟨g, k * 4, none⟩ (.int .i64 p.1)).setCell ⟨g, k * 4 + 1, none⟩ (.int .i64 p.2.1)).setCell ⟨g, k * 4 + 2, none⟩ (.int .i64 p.2.2.1)).setCell ⟨g, k * 4 + 3, none⟩ (.int .i64 p.2.2.2)) g n (fun i => if i = k then p else f i) := by
  obtain ⟨cs, t, hh, hsz, hc⟩ := h
  have s0 := chg_set hh (.int .i64 p.1) (i := k * 4) (by omega)
  have s1 := chg_set s0.at_ (.int .i64 p.2.1) (i := k * 4 + 1) (by simp; omega)
  have s2 := chg_set s1.at_ (.int .i64 p.2.2.1) (i := k * 4 + 2) (by simp; omega)
  have s3 := chg_set s2.at_ (.int .i64 p.2.2.2) (i := k * 4 + 3) (by simp; omega)
  refine ⟨_, t, s3.at_, by simp [hsz], fun i hi => ?_⟩
  obtain ⟨h0, h1, h2, h3⟩ := hc i hi
  by_cases hik : i = k
  · subst hik
    simp only [if_true]
    refine ⟨?_, ?_, ?_, ?_⟩ <;> simp <;> omega
  · simp only [hik, if_false]
    refine ⟨?_, ?_, ?_, ?_⟩ <;> simp only [Array.getElem?_set]
    · rw [if_neg (by omega), if_neg (by omega), if_neg (by omega), if_neg (by omega)]; exact h0
    · rw [if_neg (by omega), if_neg (by omega), if_neg (by omega), if_neg (by omega)]; exact h1
    · rw [if_neg (by omega), if_neg (by omega), if_neg (by omega), if_neg (by omega)]; exact h2
    · rw [if_neg (by omega), if_neg (by omega), if_neg (by omega), if_neg (by omega)]; exact h3
theorem Row.pn {w : World} {g n cap : Nat} {f : Nat → Px} {ps : List Px} (h : Row w g n f) (hl : ps.length = n) (hn : n ≤ 9223372036854775807) (hp : ∀ i, i < n → pxAt ps i = f i) : Pn w (.slice (some ⟨g, 0, none⟩) n cap) ps := by
  subst hl
  refine ⟨_, cap, rfl, hn, .inr ⟨g, 0, rfl, h.lt, fun i hi => ?_⟩⟩
  have := h.c i hi
  rw [hp i hi]
  simpa using ⟨this.1, this.2.1, this.2.2.1, this.2.2.2.1⟩
theorem infoPx : (Try.prog.info? 27).map (fun i => (i.zero, i.size, i.bytes)) = some (some (pv 0 0 0 0), 4, 32) := by kernel_rfl
def zPix (n : Nat) : Obj := .cells (madeCells (pv 0 0 0 0).cells (n * 4)) 27
theorem makePix (n : Nat) (hn : n ≤ 65536) (w : World) : (Instr.makeSlice 35 (.int .i64 n) (.int .i64 n)).run Try.prog w = .ok (.slice (some ⟨w.heap.size, 0, none⟩) n n) (w.alloc (zPix n)) := by
  obtain ⟨i, hi, hz, hs, hb⟩ := info_parts infoPx
  have := run_makeSlice (P := Try.prog) w 35 27 i (pv 0 0 0 0) Try.underlying35 hi hz .i64 .i64 n n (by omega) (by omega) (by rw [hs]; simp; omega) (by rw [hb]; omega) (by omega)
  rw [hs] at this
  simpa [zPix] using this
theorem row_zero {w : World} {g n : Nat} (h : Blk w g (zPix n)) : Row w g n (fun _ => (0, 0, 0, 0)) := by
  refine ⟨_, _, h, by rw [size_madeCells], fun i hi => ?_⟩
  have e : ∀ j, j < 4 → (madeCells (pv 0 0 0 0).cells (n * 4))[i * 4 + j]? = some (.int .i64 0) := fun j hj => by
    have hlt : i * 4 + j < n * 4 := by omega
    have h4 : (pv 0 0 0 0).cells = #[.int .i64 0, .int .i64 0, .int .i64 0, .int .i64 0] := rfl
    simp only [madeCells, h4]
    rw [Array.getElem?_map, Array.getElem?_range, if_pos hlt]
    simp only [Option.map_some]
    obtain rfl | rfl | rfl | rfl : j = 0 ∨ j = 1 ∨ j = 2 ∨ j = 3 := by omega
    all_goals simp [Nat.add_mod, Nat.mul_mod_left]
  exact ⟨e 0 (by omega), e 1 (by omega), e 2 (by omega), e 3 (by omega)⟩
theorem Row.congr {w : World} {g n : Nat} {f f' : Nat → Px} (h : Row w g n f) (he : ∀ i, i < n → f i = f' i) : Row w g n f' := by
  obtain ⟨cs, t, hh, hsz, hc⟩ := h
  exact ⟨cs, t, hh, hsz, fun i hi => by rw [← he i hi]; exact hc i hi⟩
theorem Blk.other4 {w : World} {b : Nat} {o : Obj} (k : Blk w b o) {g : Nat} (hne : b ≠ g) (o0 o1 o2 o3 : Nat) (v0 v1 v2 v3 : Value) : Blk ((((w.setCell ⟨g, o0, none⟩ v0).setCell ⟨g, o1, none⟩ v1).setCell ⟨g, o2, none⟩ v2).setCell ⟨g, o3, none⟩ v3) b o :=
  (((k.other hne _).other hne _).other hne _).other hne _
theorem below4g {B : Nat} {w0 w : World} (hb : Below B w0 w) {g : Nat} (hB : B ≤ g) (o0 o1 o2 o3 : Nat) (v0 v1 v2 v3 : Value) : Below B w0 ((((w.setCell ⟨g, o0, none⟩ v0).setCell ⟨g, o1, none⟩ v1).setCell ⟨g, o2, none⟩ v2).setCell ⟨g, o3, none⟩ v3) :=
  (((hb.setCell hB _).setCell hB _).setCell hB _).setCell hB _
/-- The first k elements are written. -/
theorem Row.next {w : World} {g n : Nat} {r : Nat → Px} {k : Nat} (h : Row w g n (fun i => if i < k then r i else (0, 0, 0, 0))) (hk : k < n) :
    Row ((((w.setCell ⟨g, k * 4, none⟩ (.int .i64 (r k).1)).setCell ⟨g, k * 4 + 1, none⟩ (.int .i64 (r k).2.1)).setCell ⟨g, k * 4 + 2, none⟩ (.int .i64 (r k).2.2.1)).setCell ⟨g, k * 4 + 3, none⟩ (.int .i64 (r k).2.2.2)) g n (fun i => if i < k + 1 then r i else (0, 0, 0, 0)) := by
  refine (h.set k hk (r k)).congr fun i hi => ?_
  by_cases e : i = k
  · subst e; simp
  · by_cases e2 : i < k
    · rw [if_neg e, if_pos e2, if_pos (by omega)]
    · rw [if_neg e, if_neg e2, if_neg (by omega)]
theorem row_start {w : World} {g n : Nat} {r : Nat → Px} (h : Blk w g (zPix n)) : Row w g n (fun i => if i < 0 then r i else (0, 0, 0, 0)) := (row_zero h).congr fun i _ => by rw [if_neg (by omega)]
end Go.Proofs.Ytmejdhgknebbbaa
