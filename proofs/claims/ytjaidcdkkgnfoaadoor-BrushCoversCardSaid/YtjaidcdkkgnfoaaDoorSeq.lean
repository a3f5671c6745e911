/- Slices of structs of five integers (samples, dabs); such rows that grow by append. -/
import Derived.Test.YtjaidcdkkgnfoaaDoorBrushPlain
import Derived.Test.YtjaidcdkkgnfoaaDoorLKit
import Derived.Test.YtjaidcdkkgnfoaaDoorLKit
import Derived.Laws.AppendOwn
import Derived.Deep.AppendLies
namespace Go.Proofs.YtjaidcdkkgnfoaaDoor
open Go.RowKit
set_option linter.unusedVariables false

abbrev V5 := Int × Int × Int × Int × Int
def z5 (q : V5) : List Value := [.int .i64 q.1, .int .i64 q.2.1, .int .i64 q.2.2.1, .int .i64 q.2.2.2.1, .int .i64 q.2.2.2.2]
/-- Five cells from a place on. -/
def At5 (w : World) (b o : Nat) (q : V5) : Prop :=
  w.cell? ⟨b, o, none⟩ = some (.int .i64 q.1) ∧ w.cell? ⟨b, o + 1, none⟩ = some (.int .i64 q.2.1) ∧ w.cell? ⟨b, o + 2, none⟩ = some (.int .i64 q.2.2.1) ∧ w.cell? ⟨b, o + 3, none⟩ = some (.int .i64 q.2.2.2.1) ∧ w.cell? ⟨b, o + 4, none⟩ = some (.int .i64 q.2.2.2.2)
theorem At5.kept {w w' : World} {b o : Nat} {q : V5} (h : At5 w b o q) (hb : Below w.heap.size w w') : At5 w' b o q := by
  have hl := lt_of_cell (a := ⟨b, o, none⟩) h.1
  unfold At5
  rw [hb.cell (p := ⟨b, o, none⟩) hl, hb.cell (p := ⟨b, o + 1, none⟩) hl, hb.cell (p := ⟨b, o + 2, none⟩) hl, hb.cell (p := ⟨b, o + 3, none⟩) hl, hb.cell (p := ⟨b, o + 4, none⟩) hl]
  exact h
/-- A slice of such structs, by its elements. -/
def Qn (w : World) (v : Value) (n : Nat) (f : Nat → V5) : Prop :=
  ∃ a cap, v = .slice a n cap ∧ (n ≤ cap ∧ cap ≤ 9223372036854775807) ∧ (n = 0 ∨ ∃ b off, a = some ⟨b, off, none⟩ ∧ b < w.heap.size ∧ ∀ i, i < n → At5 w b (off + i * 5) (f i))
theorem Qn.kept {w w' : World} {v : Value} {n : Nat} {f : Nat → V5} (h : Qn w v n f) (hb : Below w.heap.size w w') : Qn w' v n f := by
  obtain ⟨a, cap, hv, hl, hr⟩ := h
  refine ⟨a, cap, hv, hl, ?_⟩
  rcases hr with h0 | ⟨b, off, ha, hlt, hc⟩
  · exact .inl h0
  · exact .inr ⟨b, off, ha, Nat.lt_of_lt_of_le hlt hb.size, fun i hi => (hc i hi).kept hb⟩
theorem Qn.slice {w : World} {v : Value} {n : Nat} {f : Nat → V5} (h : Qn w v n f) : ∃ a cap, v = .slice a n cap := by
  obtain ⟨a, cap, hv, _⟩ := h
  exact ⟨a, cap, hv⟩
theorem Qn.len {w : World} {v : Value} {n : Nat} {f : Nat → V5} (h : Qn w v n f) : n ≤ 9223372036854775807 := by
  obtain ⟨a, cap, hv, hl, _⟩ := h
  omega
theorem Qn.caps {w : World} {a : Option Addr} {n m cap : Nat} {f : Nat → V5} (h : Qn w (.slice a m cap) n f) : n ≤ cap ∧ cap ≤ 9223372036854775807 := by
  obtain ⟨a', cap', hv, hl, _⟩ := h
  simp only [Value.slice.injEq] at hv
  obtain ⟨rfl, rfl, rfl⟩ := hv
  exact hl
/-- The cells of one element, in a later world. -/
theorem Qn.at {w : World} {a : Option Addr} {n n' cap : Nat} {f : Nat → V5} (h : Qn w (.slice a n' cap) n f) (i : Nat) (hi : i < n) :
    ∃ b off, a = some ⟨b, off, none⟩ ∧ b < w.heap.size ∧ ∀ w', Below w.heap.size w w' → At5 w' b (off + i * 5) (f i) := by
  obtain ⟨a', cap', hv, hl, hr⟩ := h
  simp only [Value.slice.injEq] at hv
  obtain ⟨rfl, rfl, rfl⟩ := hv
  rcases hr with h0 | ⟨b, off, ha, hlt, hc⟩
  · omega
  · exact ⟨b, off, ha, hlt, fun w' hb => (hc i hi).kept hb⟩
/-- All elements' cells, if there is one. -/
theorem Qn.all {w : World} {a : Option Addr} {n n' cap : Nat} {f : Nat → V5} (h : Qn w (.slice a n' cap) n f) (hn : 0 < n) :
    ∃ b off, a = some ⟨b, off, none⟩ ∧ b < w.heap.size ∧ ∀ i, i < n → ∀ w', Below w.heap.size w w' → At5 w' b (off + i * 5) (f i) := by
  obtain ⟨a', cap', hv, hl, hr⟩ := h
  simp only [Value.slice.injEq] at hv
  obtain ⟨rfl, rfl, rfl⟩ := hv
  rcases hr with h0 | ⟨b, off, ha, hlt, hc⟩
  · omega
  · exact ⟨b, off, ha, hlt, fun i hi w' hb => (hc i hi).kept hb⟩
theorem Qn.take {w : World} {a : Option Addr} {n m cap cap' : Nat} {f : Nat → V5} (h : Qn w (.slice a n cap) n f) (hm : m ≤ n) (hc : m ≤ cap' ∧ cap' ≤ 9223372036854775807) : Qn w (.slice a m cap') m f := by
  obtain ⟨a', cap'', hv, hl, hr⟩ := h
  simp only [Value.slice.injEq, true_and] at hv
  obtain ⟨rfl, rfl⟩ := hv
  refine ⟨a, cap', rfl, hc, ?_⟩
  rcases hr with h0 | ⟨b, off, ha, hlt, hc⟩
  · exact .inl (by omega)
  · exact .inr ⟨b, off, ha, hlt, fun i hi => hc i (by omega)⟩
theorem Qn.congr {w : World} {v : Value} {n : Nat} {f f' : Nat → V5} (h : Qn w v n f) (he : ∀ i, i < n → f i = f' i) : Qn w v n f' := by
  obtain ⟨a, cap, hv, hl, hr⟩ := h
  refine ⟨a, cap, hv, hl, ?_⟩
  rcases hr with h0 | ⟨b, off, ha, hlt, hc⟩
  · exact .inl h0
  · exact .inr ⟨b, off, ha, hlt, fun i hi => he i hi ▸ hc i hi⟩
theorem Qn.nil (w : World) (f : Nat → V5) : Qn w (.slice none 0 0) 0 f := ⟨none, 0, rfl, by omega, .inl rfl⟩

def s5 (s : Smp) : V5 := (s.x, s.y, s.p, s.t, s.m)
def d5 (d : Dab) : V5 := (d.x, d.y, d.sz, d.fl, d.an)
def dbAt (ds : List Dab) (i : Nat) : Dab := ds.getD i ⟨0, 0, 0, 0, 0⟩
def Sm (w : World) (v : Value) (ls : List Smp) : Prop := Qn w v ls.length (fun i => s5 (smAt ls i))
def Bm (w : World) (v : Value) (ds : List Dab) : Prop := Qn w v ds.length (fun i => d5 (dbAt ds i))
theorem Sm.kept {w w' : World} {v : Value} {ls : List Smp} (h : Sm w v ls) (hb : Below w.heap.size w w') : Sm w' v ls := Qn.kept h hb
theorem Bm.kept {w w' : World} {v : Value} {ds : List Dab} (h : Bm w v ds) (hb : Below w.heap.size w w') : Bm w' v ds := Qn.kept h hb
theorem dbAt_snoc (ds : List Dab) (x : Dab) (i : Nat) : dbAt (ds ++ [x]) i = if i = ds.length then x else dbAt ds i := by
  unfold dbAt
  by_cases h : i < ds.length
  · rw [if_neg (by omega), List.getD_eq_getElem?_getD, List.getElem?_append_left h, List.getD_eq_getElem?_getD]
  · by_cases h2 : i = ds.length
    · subst h2; simp [List.getD]
    · rw [if_neg h2, List.getD_eq_getElem?_getD, List.getD_eq_getElem?_getD, List.getElem?_eq_none (by simp; omega), List.getElem?_eq_none (by omega)]

/-- The cells of dabs in a row. -/
def dcs (ds : List Dab) : List Value := ds.flatMap fun d => z5 (d5 d)
theorem dcs_snoc (ds : List Dab) (x : Dab) : dcs (ds ++ [x]) = dcs ds ++ z5 (d5 x) := by simp [dcs]
theorem dcs_len : ∀ ds : List Dab, (dcs ds).length = ds.length * 5
  | [] => rfl
  | d :: ds => by
    have h : dcs (d :: ds) = z5 (d5 d) ++ dcs ds := rfl
    rw [h, List.length_append, dcs_len ds]
    simp [z5]
    omega
theorem dcs_at : ∀ (ds : List Dab) (i j : Nat), i < ds.length → j < 5 → (dcs ds)[i * 5 + j]? = (z5 (d5 (dbAt ds i)))[j]?
  | [], i, j, hi, _ => by simp at hi
  | d :: ds, i, j, hi, hj => by
    have h : dcs (d :: ds) = z5 (d5 d) ++ dcs ds := rfl
    have hz : (z5 (d5 d)).length = 5 := rfl
    rw [h]
    cases i with
    | zero =>
      rw [List.getElem?_append_left (by rw [hz]; omega)]
      simp [dbAt]
    | succ i =>
      rw [List.getElem?_append_right (by rw [hz]; omega), hz, show (i + 1) * 5 + j - 5 = i * 5 + j by omega]
      simp only [List.length_cons] at hi
      rw [dcs_at ds i j (by omega) hj]
      simp [dbAt]
theorem bm_of_own {w : World} {base n : Nat} {e : TypeId} {v : Value} {ds : List Dab} (h : w.ownsRow base e 5 v n (dcs ds)) (hl : ds.length = n) (hn : n ≤ 9223372036854775807) : Bm w v ds := by
  subst hl
  have hc : ∀ g, v.ownBlock = some g → ∀ j u, (dcs ds)[j]? = some u → w.cell? ((⟨g, 0, none⟩ : Addr).add j) = some u := fun g hg => h.cells hg
  obtain ⟨_, h2⟩ := h
  rcases h2 with ⟨rfl, h0⟩ | ⟨g, cap, cur, rfl, hg, hh, hcap, hm, hsz, ht⟩
  · refine ⟨none, 0, by rw [h0], by rw [h0]; omega, .inl h0⟩
  · refine ⟨_, cap, rfl, by unfold maxLen at hm; omega, .inr ⟨g, 0, rfl, lt_of_block hh, fun i hi => ?_⟩⟩
    have c : ∀ j, j < 5 → ∀ u, (z5 (d5 (dbAt ds i)))[j]? = some u → w.cell? ⟨g, 0 + i * 5 + j, none⟩ = some u := fun j hj u hu => by
      have := hc g rfl (i * 5 + j) u (by rw [dcs_at ds i j hi hj]; exact hu)
      rw [Go.WideShapes.add_plain] at this
      rw [show 0 + i * 5 + j = 0 + (i * 5 + j) by omega]
      exact this
    exact ⟨c 0 (by omega) _ rfl, c 1 (by omega) _ rfl, c 2 (by omega) _ rfl, c 3 (by omega) _ rfl, c 4 (by omega) _ rfl⟩
/-- Two blocks whose elements' types differ are two. -/
theorem own_ne {w : World} {base n size : Nat} {e t : TypeId} {v : Value} {xs : List Value} {b : Nat} {cs : Array Value} {fz : Nat × Nat} (own : w.ownsRow base e size v n xs) (k : Blk w b (.cells cs t fz)) (hne : e ≠ t) : v.ownBlock ≠ some b := by
  intro h
  rcases own.2 with ⟨rfl, _⟩ | ⟨g, cap, cur, rfl, hb, hg, _⟩
  · simp [Value.ownBlock] at h
  · simp [Value.ownBlock] at h
    subst h
    have := hg.symm.trans k
    simp at this
    exact hne this.2.1
theorem own_slice5 {w : World} {base n : Nat} {e : TypeId} {size : Nat} {v : Value} {xs : List Value} (h : w.ownsRow base e size v n xs) : ∃ a cap, v = .slice a n cap := by
  obtain ⟨_, h2⟩ := h
  rcases h2 with ⟨rfl, h0⟩ | ⟨g, cap, cur, rfl, _⟩
  · exact ⟨none, 0, by rw [h0]⟩
  · exact ⟨_, cap, rfl⟩
end Go.Proofs.YtjaidcdkkgnfoaaDoor

