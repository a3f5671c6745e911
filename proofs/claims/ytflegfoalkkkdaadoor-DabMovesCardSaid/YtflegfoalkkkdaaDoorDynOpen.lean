/- Openers of the arguments of the laws on dynamics: samples, elements, lists of elements. -/
import Derived.Test.YtflegfoalkkkdaaDoorOpen
import Derived.Test.YtflegfoalkkkdaaDoorDynV
namespace Go.Proofs.YtflegfoalkkkdaaDoor
open Go.ChangeShapes Go.WideShapes Go.ChangeAt Go.RowKit Go.Deep
set_option linter.unusedVariables false

section
variable {H : Type} {enc : TypeId × Value → H} {W : World} {base : Nat} {spare : Nat → Bool} {held : Bool}

theorem ints_cons {k : IntKind} {zs : List Int} {n : Nat} (h : zs.length = n + 1) : ∃ z r, zs = z :: r ∧ r.length = n := by
  cases zs with
  | nil => simp at h
  | cons z r => exact ⟨z, r, rfl, by simpa using h⟩

theorem trodKnot {fuel : Nat} {cs : List Value} {x : DataW H × List MemPlace} (h : DataW.trod enc Tryd.prog W base spare held fuel 74 cs = some x) :
    ∃ a b : Int, cs = [.int .i64 a, .int .i64 b] := by
  obtain ⟨zs, rfl, hl, hw⟩ := trodInts Tryd.underlying74 (by kernel_rfl) (by kernel_rfl) (fun j f hj => by
    match j, hj with
    | 0, hj => cases hj; exact Tryd.underlying3
    | 1, hj => cases hj; exact Tryd.underlying3) h
  match zs, hl with
  | [a, b], _ => exact ⟨a, b, rfl⟩

theorem trodKnots {fuel : Nat} {v : Value} {x : DataW H × List MemPlace} (h : DataW.trod enc Tryd.prog W base spare held fuel 63 [v] = some x) : ∃ ks, Kn W v ks := by
  obtain ⟨a, len, cap, rfl, hlc, hcap, hr⟩ := trodRow (sz := 2) Tryd.underlying63 (by kernel_rfl) h
  unfold maxLen at hcap
  rcases hr with h0 | ⟨p, n, rfl, hel⟩
  · subst h0
    exact ⟨[], _, cap, rfl, by simp, .inl rfl⟩
  · by_cases h0 : len = 0
    · subst h0
      exact ⟨[], _, cap, rfl, by simp, .inl rfl⟩
    · have hel' : ∀ i, i < len → ∃ q : Int × Int, W.cell? (p.add (i * 2)) = some (.int .i64 q.1) ∧ W.cell? (p.add (i * 2 + 1)) = some (.int .i64 q.2) := fun i hi => by
        obtain ⟨cs, y, hcl, hc, ht⟩ := hel i hi
        obtain ⟨u, w, rfl⟩ := trodKnot ht
        exact ⟨(u, w), by simpa using hc 0 (by omega), by simpa using hc 1 (by omega)⟩
      obtain ⟨ks, hkl, hk⟩ := listOf ((0, 0) : Int × Int) _ len hel'
      obtain ⟨b, off, rfl, hlt⟩ := plainAt (by simpa using (hk 0 (by omega)).1)
      refine ⟨ks, _, cap, by rw [hkl], by omega, .inr ⟨b, off, rfl, hlt, fun i hi => ?_⟩⟩
      have := hk i (by omega)
      rw [Go.WideShapes.add_plain, Go.WideShapes.add_plain] at this
      exact ⟨this.1, this.2⟩

theorem trodDyn {fuel : Nat} {cs : List Value} {x : DataW H × List MemPlace} (h : DataW.trod enc Tryd.prog W base spare held fuel 65 cs = some x) :
    ∃ (a b : Int) (v : Value) (ks : Knots), cs = [.int .i64 a, .int .i64 b, v] ∧ Kn W v ks := by
  obtain ⟨hl, n, hf⟩ := trodField Tryd.underlying65 (by kernel_rfl) (by kernel_rfl) h
  obtain ⟨v0, y0, h0, t0⟩ := hf 0 _ rfl
  obtain ⟨v1, y1, h1, t1⟩ := hf 1 _ rfl
  obtain ⟨v2, y2, h2, t2⟩ := hf 2 _ rfl
  obtain ⟨a, ha, _, _⟩ := DataW.trod_int Tryd.underlying3 t0
  obtain ⟨b, hb, _, _⟩ := DataW.trod_int Tryd.underlying3 t1
  obtain ⟨ks, hk⟩ := trodKnots t2
  simp only [List.cons.injEq, and_true] at ha hb
  subst ha hb
  match cs, hl with
  | [c0, c1, c2], _ =>
    simp at h0 h1 h2
    subst h0 h1 h2
    exact ⟨a, b, _, ks, rfl, hk⟩

theorem trodDyns {fuel : Nat} {v : Value} {x : DataW H × List MemPlace} (h : DataW.trod enc Tryd.prog W base spare held fuel 24 [v] = some x) : ∃ ds, Dn W v ds := by
  obtain ⟨a, len, cap, rfl, hlc, hcap, hr⟩ := trodRow (sz := 3) Tryd.underlying24 (by kernel_rfl) h
  unfold maxLen at hcap
  rcases hr with h0 | ⟨p, n, rfl, hel⟩
  · subst h0
    exact ⟨[], _, cap, rfl, by simp, .inl rfl⟩
  · by_cases h0 : len = 0
    · subst h0
      exact ⟨[], _, cap, rfl, by simp, .inl rfl⟩
    · have hel' : ∀ i, i < len → ∃ q : Int × Int × Knots, W.cell? (p.add (i * 3)) = some (.int .i64 q.1) ∧ W.cell? (p.add (i * 3 + 1)) = some (.int .i64 q.2.1) ∧ ∃ c, W.cell? (p.add (i * 3 + 2)) = some c ∧ Kn W c q.2.2 := fun i hi => by
        obtain ⟨cs, y, hcl, hc, ht⟩ := hel i hi
        obtain ⟨u, w, v, ks, rfl, hk⟩ := trodDyn ht
        exact ⟨(u, w, ks), by simpa using hc 0 (by omega), by simpa using hc 1 (by omega), v, by simpa using hc 2 (by omega), hk⟩
      obtain ⟨ds, hkl, hk⟩ := listOf ((0, 0, []) : Int × Int × Knots) _ len hel'
      obtain ⟨b, off, rfl, hlt⟩ := plainAt (by simpa using (hk 0 (by omega)).1)
      refine ⟨ds, _, cap, by rw [hkl], by omega, .inr ⟨b, off, rfl, hlt, fun i hi => ?_⟩⟩
      have := hk i (by omega)
      rw [Go.WideShapes.add_plain, Go.WideShapes.add_plain, Go.WideShapes.add_plain] at this
      exact ⟨this.1, this.2.1, this.2.2⟩

theorem openDyns {v : Value} {d : DataW H} {p : List MemPlace} (hv : Value.okWide Tryd.prog W .any base 24 v) (h : DataW.Trod enc Tryd.prog W 0 (fun _ => true) true 24 v d p) : ∃ ds, Dn W v ds := by
  obtain ⟨a, len, cap, rfl⟩ := okWide_slice Tryd.underlying24 hv
  obtain ⟨fuel, hf⟩ := h
  exact trodDyns hf

theorem openDyn {v : Value} {d : DataW H} {p : List MemPlace} (hv : Value.okWide Tryd.prog W .any base 65 v) (h : DataW.Trod enc Tryd.prog W 0 (fun _ => true) true 65 v d p) :
    ∃ (a b : Int) (u : Value) (ks : Knots), v = .agg #[.int .i64 a, .int .i64 b, u] ∧ Kn W u ks := by
  obtain ⟨cs, rfl, hsz⟩ := okWide_struct Tryd.underlying65 hv
  obtain ⟨fuel, hf⟩ := h
  obtain ⟨a, b, u, ks, hz, hk⟩ := trodDyn hf
  obtain ⟨cs⟩ := cs
  simp only [Value.cells] at hz
  subst hz
  exact ⟨a, b, u, ks, rfl, hk⟩
end
end Go.Proofs.YtflegfoalkkkdaaDoor
