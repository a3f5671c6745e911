/- Openers: slices of integers, slices of stops. -/
import Derived.Test.YtmejdhgknebbbaaOpen
import Derived.Test.YtmejdhgknebbbaaGPar
import Derived.Test.YtmejdhgknebbbaaStop
namespace Go.Proofs.Ytmejdhgknebbbaa
open Go.ChangeShapes Go.WideShapes Go.ChangeAt Go.RowKit Go.Deep
set_option linter.unusedVariables false

section
variable {H : Type} {enc : TypeId × Value → H} {W : World} {base : Nat} {spare : Nat → Bool} {held : Bool}

theorem openNn {v : Value} {d : DataW H} {p : List MemPlace} (hv : Value.okWide Try.prog W .any base 22 v) (h : DataW.Trod enc Try.prog W 0 (fun _ => true) true 22 v d p) : ∃ zs, Nn W v zs := by
  obtain ⟨a, len, cap, rfl⟩ := okWide_slice Try.underlying22 hv
  obtain ⟨fuel, hf⟩ := h
  obtain ⟨a', len', cap', hveq, hlc, hcap, hr⟩ := trodRow (sz := 1) Try.underlying22 (by kernel_rfl) hf
  simp only [Value.slice.injEq] at hveq
  obtain ⟨rfl, rfl, rfl⟩ := hveq
  unfold maxLen at hcap
  rcases hr with h0 | ⟨p, n, rfl, hel⟩
  · subst h0
    exact ⟨[], _, cap, rfl, by simp, .inl rfl⟩
  · by_cases h0 : len = 0
    · subst h0
      exact ⟨[], _, cap, rfl, by simp, .inl rfl⟩
    · have hel' : ∀ i, i < len → ∃ q : Int, W.cell? (p.add i) = some (.int .i64 q) := fun i hi => by
        obtain ⟨cs, y, hcl, hc, ht⟩ := hel i hi
        obtain ⟨z, hz, _, _⟩ := DataW.trod_int Try.underlying3 ht
        subst hz
        exact ⟨z, by simpa using hc 0 (by omega)⟩
      obtain ⟨ks, hkl, hk⟩ := listOf (0 : Int) _ len hel'
      obtain ⟨b, off, rfl, hlt⟩ := plainAt (by simpa using hk 0 (by omega))
      refine ⟨ks, _, cap, by rw [hkl], by omega, .inr ⟨b, off, rfl, hlt, fun i hi => ?_⟩⟩
      have := hk i (by omega)
      rw [Go.WideShapes.add_plain] at this
      exact this

theorem trodPx {fuel : Nat} {cs : List Value} {x : DataW H × List MemPlace} (h : DataW.trod enc Try.prog W base spare held fuel 27 cs = some x) :
    ∃ a b c d : Int, cs = [.int .i64 a, .int .i64 b, .int .i64 c, .int .i64 d] := by
  obtain ⟨zs, rfl, hl, hw⟩ := trodInts Try.underlying27 (by kernel_rfl) (by kernel_rfl) (fun j f hj => by
    match j, hj with
    | 0, hj => cases hj; exact Try.underlying3
    | 1, hj => cases hj; exact Try.underlying3
    | 2, hj => cases hj; exact Try.underlying3
    | 3, hj => cases hj; exact Try.underlying3) h
  match zs, hl with
  | [a, b, c, d], _ => exact ⟨a, b, c, d, rfl⟩

theorem trodStop {fuel : Nat} {cs : List Value} {x : DataW H × List MemPlace} (h : DataW.trod enc Try.prog W base spare held fuel 44 cs = some x) :
    ∃ t a b c d : Int, cs = [.int .i64 t, .int .i64 a, .int .i64 b, .int .i64 c, .int .i64 d] := by
  obtain ⟨ys, n, _, _, hlen, hyl, hf⟩ := DataW.trod_struct Try.underlying44 h
  have e5 : Try.prog.cellsOf 44 = 5 := by kernel_rfl
  have e4 : Try.prog.cellsOf 27 = 4 := by kernel_rfl
  have e1 : Try.prog.cellsOf 3 = 1 := by kernel_rfl
  have hyl' : ys.length = 2 := hyl
  rw [e5] at hlen
  match cs, hlen with
  | [c0, c1, c2, c3, c4], _ =>
    have h0 : DataW.trod enc Try.prog W base spare held n 3 (([c0, c1, c2, c3, c4].drop 0).take (Try.prog.cellsOf 3)) = ys[0]? := hf 0 _ rfl
    have h1 : DataW.trod enc Try.prog W base spare held n 27 (([c0, c1, c2, c3, c4].drop 1).take (Try.prog.cellsOf 27)) = ys[1]? := hf 1 _ rfl
    rw [e1, List.getElem?_eq_getElem (by omega)] at h0
    rw [e4, List.getElem?_eq_getElem (by omega)] at h1
    obtain ⟨t, ht, _, _⟩ := DataW.trod_int Try.underlying3 h0
    obtain ⟨a, b, c, d, hi⟩ := trodPx h1
    simp at ht hi
    obtain ⟨rfl, rfl, rfl, rfl⟩ := hi
    subst ht
    exact ⟨t, a, b, c, d, rfl⟩

theorem openStops {v : Value} {d : DataW H} {p : List MemPlace} (hv : Value.okWide Try.prog W .any base 23 v) (h : DataW.Trod enc Try.prog W 0 (fun _ => true) true 23 v d p) : ∃ ss, Sn W v ss := by
  obtain ⟨a, len, cap, rfl⟩ := okWide_slice Try.underlying23 hv
  obtain ⟨fuel, hf⟩ := h
  obtain ⟨a', len', cap', hveq, hlc, hcap, hr⟩ := trodRow (sz := 5) Try.underlying23 (by kernel_rfl) hf
  simp only [Value.slice.injEq] at hveq
  obtain ⟨rfl, rfl, rfl⟩ := hveq
  unfold maxLen at hcap
  rcases hr with h0 | ⟨p, n, rfl, hel⟩
  · subst h0
    exact ⟨[], _, cap, rfl, by simp, .inl rfl⟩
  · by_cases h0 : len = 0
    · subst h0
      exact ⟨[], _, cap, rfl, by simp, .inl rfl⟩
    · have hel' : ∀ i, i < len → ∃ q : St, W.cell? (p.add (i * 5)) = some (.int .i64 q.1) ∧ W.cell? (p.add (i * 5 + 1)) = some (.int .i64 q.2.1) ∧ W.cell? (p.add (i * 5 + 2)) = some (.int .i64 q.2.2.1) ∧ W.cell? (p.add (i * 5 + 3)) = some (.int .i64 q.2.2.2.1) ∧ W.cell? (p.add (i * 5 + 4)) = some (.int .i64 q.2.2.2.2) := fun i hi => by
        obtain ⟨cs, y, hcl, hc, ht⟩ := hel i hi
        obtain ⟨t, a, b, c, d, rfl⟩ := trodStop ht
        exact ⟨(t, a, b, c, d), by simpa using hc 0 (by omega), by simpa using hc 1 (by omega), by simpa using hc 2 (by omega), by simpa using hc 3 (by omega), by simpa using hc 4 (by omega)⟩
      obtain ⟨ks, hkl, hk⟩ := listOf ((0, 0, 0, 0, 0) : St) _ len hel'
      obtain ⟨b, off, rfl, hlt⟩ := plainAt (by simpa using (hk 0 (by omega)).1)
      refine ⟨ks, _, cap, by rw [hkl], by omega, .inr ⟨b, off, rfl, hlt, fun i hi => ?_⟩⟩
      have := hk i (by omega)
      rw [Go.WideShapes.add_plain, Go.WideShapes.add_plain, Go.WideShapes.add_plain, Go.WideShapes.add_plain, Go.WideShapes.add_plain] at this
      exact ⟨this.1, this.2.1, this.2.2.1, this.2.2.2.1, this.2.2.2.2⟩
end
end Go.Proofs.Ytmejdhgknebbbaa
