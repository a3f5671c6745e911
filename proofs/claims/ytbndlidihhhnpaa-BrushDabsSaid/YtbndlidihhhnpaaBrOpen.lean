/- Openers: samples, dabs, masks, images, and the structs of the laws of package brush. -/
import Derived.Test.YtbndlidihhhnpaaLOpen
import Derived.Test.YtbndlidihhhnpaaLRow
import Derived.Test.YtbndlidihhhnpaaLRow
import Derived.Test.YtbndlidihhhnpaaSeq
namespace Go.Proofs.Ytbndlidihhhnpaa
open Go.ChangeShapes Go.WideShapes Go.ChangeAt Go.RowKit Go.Deep
set_option linter.unusedVariables false

section
variable {H : Type} {enc : TypeId × Value → H} {W : World} {base : Nat} {spare : Nat → Bool} {held : Bool}

theorem trodPx {fuel : Nat} {cs : List Value} {x : DataW H × List MemPlace} (h : DataW.trod enc Try.prog W base spare held fuel 39 cs = some x) :
    ∃ a b c d : Int, cs = [.int .i64 a, .int .i64 b, .int .i64 c, .int .i64 d] := by
  obtain ⟨zs, rfl, hl, hw⟩ := trodInts Try.underlying39 (by kernel_rfl) (by kernel_rfl) (fun j f hj => by
    match j, hj with
    | 0, hj => cases hj; exact Try.underlying3
    | 1, hj => cases hj; exact Try.underlying3
    | 2, hj => cases hj; exact Try.underlying3
    | 3, hj => cases hj; exact Try.underlying3) h
  match zs, hl with
  | [a, b, c, d], _ => exact ⟨a, b, c, d, rfl⟩

theorem trod5 {t : TypeId} {fs : Array Field} {fuel : Nat} {cs : List Value} {x : DataW H × List MemPlace} (hs : Try.prog.underlying t = some (.struct fs)) (hone : oneCellFields Try.prog fs = true) (hC : Try.prog.cellsOf t = fs.size) (h5 : fs.size = 5)
    (he : ∀ (j : Nat) (f : Field), fs[j]? = some f → Try.prog.underlying f.type = some (.int .i64)) (h : DataW.trod enc Try.prog W base spare held fuel t cs = some x) : ∃ q : V5, cs = z5 q := by
  obtain ⟨zs, rfl, hl, hw⟩ := trodInts hs hone hC he h
  rw [h5] at hl
  match zs, hl with
  | [a, b, c, d, e], _ => exact ⟨(a, b, c, d, e), rfl⟩

theorem trodQn {t e : TypeId} {fuel : Nat} {v : Value} {x : DataW H × List MemPlace} (ht : Try.prog.underlying t = some (.slice e)) (hsz : Try.prog.cellsOf e = 5) (he : ∀ (n : Nat) (cs : List Value) y, DataW.trod enc Try.prog W base spare held n e cs = some y → ∃ q : V5, cs = z5 q)
    (h : DataW.trod enc Try.prog W base spare held fuel t [v] = some x) : ∃ (n : Nat) (f : List V5), f.length = n ∧ Qn W v n (fun i => f.getD i (0, 0, 0, 0, 0)) := by
  obtain ⟨a, len, cap, rfl, hlc, hcap, hr⟩ := trodRow (sz := 5) ht hsz h
  unfold maxLen at hcap
  rcases hr with h0 | ⟨p, n, rfl, hel⟩
  · subst h0
    exact ⟨0, [], rfl, _, cap, rfl, by omega, .inl rfl⟩
  · by_cases h0 : len = 0
    · subst h0
      exact ⟨0, [], rfl, _, cap, rfl, by omega, .inl rfl⟩
    · have hel' : ∀ i, i < len → ∃ q : V5, W.cell? (p.add (i * 5)) = some (.int .i64 q.1) ∧ W.cell? (p.add (i * 5 + 1)) = some (.int .i64 q.2.1) ∧ W.cell? (p.add (i * 5 + 2)) = some (.int .i64 q.2.2.1) ∧ W.cell? (p.add (i * 5 + 3)) = some (.int .i64 q.2.2.2.1) ∧ W.cell? (p.add (i * 5 + 4)) = some (.int .i64 q.2.2.2.2) := fun i hi => by
        obtain ⟨cs, y, hcl, hc, ht⟩ := hel i hi
        obtain ⟨q, rfl⟩ := he _ _ _ ht
        exact ⟨q, by simpa [z5] using hc 0 (by omega), by simpa [z5] using hc 1 (by omega), by simpa [z5] using hc 2 (by omega), by simpa [z5] using hc 3 (by omega), by simpa [z5] using hc 4 (by omega)⟩
      obtain ⟨ks, hkl, hk⟩ := listOf ((0, 0, 0, 0, 0) : V5) _ len hel'
      obtain ⟨b, off, rfl, hlt⟩ := plainAt (by simpa using (hk 0 (by omega)).1)
      refine ⟨len, ks, hkl, _, cap, rfl, by omega, .inr ⟨b, off, rfl, hlt, fun i hi => ?_⟩⟩
      have := hk i hi
      rw [Go.WideShapes.add_plain, Go.WideShapes.add_plain, Go.WideShapes.add_plain, Go.WideShapes.add_plain, Go.WideShapes.add_plain] at this
      exact this

theorem trodSms {fuel : Nat} {v : Value} {x : DataW H × List MemPlace} (h : DataW.trod enc Try.prog W base spare held fuel 42 [v] = some x) : ∃ ls, Sm W v ls := by
  obtain ⟨n, f, hl, hq⟩ := trodQn Try.underlying42 (by kernel_rfl) (fun n cs y ht => trod5 Try.underlying27 (by kernel_rfl) (by kernel_rfl) rfl (fun j f hj => by
    match j, hj with
    | 0, hj => cases hj; exact Try.underlying3
    | 1, hj => cases hj; exact Try.underlying3
    | 2, hj => cases hj; exact Try.underlying3
    | 3, hj => cases hj; exact Try.underlying3
    | 4, hj => cases hj; exact Try.underlying3) ht) h
  subst hl
  refine ⟨f.map fun q => ⟨q.1, q.2.1, q.2.2.1, q.2.2.2.1, q.2.2.2.2⟩, ?_⟩
  show Qn W v (f.map _).length _
  rw [List.length_map]
  refine hq.congr fun i hi => ?_
  simp [smAt, s5, hi, List.getD]

theorem trodDbs {fuel : Nat} {v : Value} {x : DataW H × List MemPlace} (h : DataW.trod enc Try.prog W base spare held fuel 43 [v] = some x) : ∃ ds, Bm W v ds := by
  obtain ⟨n, f, hl, hq⟩ := trodQn Try.underlying43 (by kernel_rfl) (fun n cs y ht => trod5 Try.underlying49 (by kernel_rfl) (by kernel_rfl) rfl (fun j f hj => by
    match j, hj with
    | 0, hj => cases hj; exact Try.underlying3
    | 1, hj => cases hj; exact Try.underlying3
    | 2, hj => cases hj; exact Try.underlying3
    | 3, hj => cases hj; exact Try.underlying3
    | 4, hj => cases hj; exact Try.underlying3) ht) h
  subst hl
  refine ⟨f.map fun q => ⟨q.1, q.2.1, q.2.2.1, q.2.2.2.1, q.2.2.2.2⟩, ?_⟩
  show Qn W v (f.map _).length _
  rw [List.length_map]
  refine hq.congr fun i hi => ?_
  simp [dbAt, d5, hi, List.getD]

theorem openSms {v : Value} {d : DataW H} {p : List MemPlace} (hv : Value.okWide Try.prog W .any base 42 v) (h : DataW.Trod enc Try.prog W 0 (fun _ => true) true 42 v d p) : ∃ ls, Sm W v ls := by
  obtain ⟨a, len, cap, rfl⟩ := okWide_slice Try.underlying42 hv
  obtain ⟨fuel, hf⟩ := h
  exact trodSms hf

theorem openDbs {v : Value} {d : DataW H} {p : List MemPlace} (hv : Value.okWide Try.prog W .any base 43 v) (h : DataW.Trod enc Try.prog W 0 (fun _ => true) true 43 v d p) : ∃ ds, Bm W v ds := by
  obtain ⟨a, len, cap, rfl⟩ := okWide_slice Try.underlying43 hv
  obtain ⟨fuel, hf⟩ := h
  exact trodDbs hf

end
end Go.Proofs.Ytbndlidihhhnpaa
