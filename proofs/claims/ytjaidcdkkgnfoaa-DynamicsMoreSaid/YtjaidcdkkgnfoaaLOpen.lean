/- Several texts in one: DynOpen, DabOpen, DabTab. -/
import Derived.Test.YtjaidcdkkgnfoaaLKit
import Derived.Test.YtjaidcdkkgnfoaaLDyn
import Derived.Test.YtjaidcdkkgnfoaaLTurn
import Derived.Lib.LaidTab
import Derived.Deep.DeepHandedRow

/- Openers of the arguments of the laws on dynamics: samples, elements, lists of elements. -/
namespace Go.Proofs.Ytjaidcdkkgnfoaa
open Go.ChangeShapes Go.WideShapes Go.ChangeAt Go.RowKit Go.Deep
set_option linter.unusedVariables false

section
variable {H : Type} {enc : TypeId × Value → H} {W : World} {base : Nat} {spare : Nat → Bool} {held : Bool}

theorem ints_cons {k : IntKind} {zs : List Int} {n : Nat} (h : zs.length = n + 1) : ∃ z r, zs = z :: r ∧ r.length = n := by
  cases zs with
  | nil => simp at h
  | cons z r => exact ⟨z, r, rfl, by simpa using h⟩

theorem trodKnot {fuel : Nat} {cs : List Value} {x : DataW H × List MemPlace} (h : DataW.trod enc Try.prog W base spare held fuel 36 cs = some x) :
    ∃ a b : Int, cs = [.int .i64 a, .int .i64 b] := by
  obtain ⟨zs, rfl, hl, hw⟩ := trodInts Try.underlying36 (by kernel_rfl) (by kernel_rfl) (fun j f hj => by
    match j, hj with
    | 0, hj => cases hj; exact Try.underlying3
    | 1, hj => cases hj; exact Try.underlying3) h
  match zs, hl with
  | [a, b], _ => exact ⟨a, b, rfl⟩

theorem trodKnots {fuel : Nat} {v : Value} {x : DataW H × List MemPlace} (h : DataW.trod enc Try.prog W base spare held fuel 23 [v] = some x) : ∃ ks, Kn W v ks := by
  obtain ⟨a, len, cap, rfl, hlc, hcap, hr⟩ := trodRow (sz := 2) Try.underlying23 (by kernel_rfl) h
  unfold maxLen at hcap
  rcases hr with h0 | ⟨p, n, rfl, hel⟩
  · subst h0
    exact ⟨[], _, cap, rfl, by simp, .inl rfl⟩
  · by_cases h0 : len = 0
    · subst h0
      exact ⟨[], _, cap, rfl, by simp, .inl rfl⟩
    · have hel' : ∀ i, i < len → ∃ q : Int × Int, W.cell? (p.add (i * 2)) = some (.int .i64 q.1) ∧ W.cell? (p.add (i * 2 + 1)) = some (.int .i64 q.2) := fun i hi => by
        obtain ⟨cs, y, hcl, hc, ht⟩ := hel i hi
        obtain ⟨u, w, rfl⟩ := trodKnot ht
        exact ⟨(u, w), by simpa using hc 0 (by omega), by simpa using hc 1 (by omega)⟩
      obtain ⟨ks, hkl, hk⟩ := listOf ((0, 0) : Int × Int) _ len hel'
      obtain ⟨b, off, rfl, hlt⟩ := plainAt (by simpa using (hk 0 (by omega)).1)
      refine ⟨ks, _, cap, by rw [hkl], by omega, .inr ⟨b, off, rfl, hlt, fun i hi => ?_⟩⟩
      have := hk i (by omega)
      rw [Go.WideShapes.add_plain, Go.WideShapes.add_plain] at this
      exact ⟨this.1, this.2⟩

theorem trodDyn {fuel : Nat} {cs : List Value} {x : DataW H × List MemPlace} (h : DataW.trod enc Try.prog W base spare held fuel 25 cs = some x) :
    ∃ (a b : Int) (v : Value) (ks : Knots), cs = [.int .i64 a, .int .i64 b, v] ∧ Kn W v ks := by
  obtain ⟨hl, n, hf⟩ := trodField Try.underlying25 (by kernel_rfl) (by kernel_rfl) h
  obtain ⟨v0, y0, h0, t0⟩ := hf 0 _ rfl
  obtain ⟨v1, y1, h1, t1⟩ := hf 1 _ rfl
  obtain ⟨v2, y2, h2, t2⟩ := hf 2 _ rfl
  obtain ⟨a, ha, _, _⟩ := DataW.trod_int Try.underlying3 t0
  obtain ⟨b, hb, _, _⟩ := DataW.trod_int Try.underlying3 t1
  obtain ⟨ks, hk⟩ := trodKnots t2
  simp only [List.cons.injEq, and_true] at ha hb
  subst ha hb
  match cs, hl with
  | [c0, c1, c2], _ =>
    simp at h0 h1 h2
    subst h0 h1 h2
    exact ⟨a, b, _, ks, rfl, hk⟩

theorem trodDyns {fuel : Nat} {v : Value} {x : DataW H × List MemPlace} (h : DataW.trod enc Try.prog W base spare held fuel 22 [v] = some x) : ∃ ds, Dn W v ds := by
  obtain ⟨a, len, cap, rfl, hlc, hcap, hr⟩ := trodRow (sz := 3) Try.underlying22 (by kernel_rfl) h
  unfold maxLen at hcap
  rcases hr with h0 | ⟨p, n, rfl, hel⟩
  · subst h0
    exact ⟨[], _, cap, rfl, by simp, .inl rfl⟩
  · by_cases h0 : len = 0
    · subst h0
      exact ⟨[], _, cap, rfl, by simp, .inl rfl⟩
    · have hel' : ∀ i, i < len → ∃ q : Int × Int × Knots, W.cell? (p.add (i * 3)) = some (.int .i64 q.1) ∧ W.cell? (p.add (i * 3 + 1)) = some (.int .i64 q.2.1) ∧ ∃ c, W.cell? (p.add (i * 3 + 2)) = some c ∧ Kn W c q.2.2 := fun i hi => by
        obtain ⟨cs, y, hcl, hc, ht⟩ := hel i hi
        obtain ⟨u, w, v, ks, rfl, hk⟩ := trodDyn ht
        exact ⟨(u, w, ks), by simpa using hc 0 (by omega), by simpa using hc 1 (by omega), v, by simpa using hc 2 (by omega), hk⟩
      obtain ⟨ds, hkl, hk⟩ := listOf ((0, 0, []) : Int × Int × Knots) _ len hel'
      obtain ⟨b, off, rfl, hlt⟩ := plainAt (by simpa using (hk 0 (by omega)).1)
      refine ⟨ds, _, cap, by rw [hkl], by omega, .inr ⟨b, off, rfl, hlt, fun i hi => ?_⟩⟩
      have := hk i (by omega)
      rw [Go.WideShapes.add_plain, Go.WideShapes.add_plain, Go.WideShapes.add_plain] at this
      exact ⟨this.1, this.2.1, this.2.2⟩

theorem openDyns {v : Value} {d : DataW H} {p : List MemPlace} (hv : Value.okWide Try.prog W .any base 22 v) (h : DataW.Trod enc Try.prog W 0 (fun _ => true) true 22 v d p) : ∃ ds, Dn W v ds := by
  obtain ⟨a, len, cap, rfl⟩ := okWide_slice Try.underlying22 hv
  obtain ⟨fuel, hf⟩ := h
  exact trodDyns hf

theorem openSample {v : Value} {d : DataW H} {p : List MemPlace} (hv : Value.okWide Try.prog W .any base 27 v) (h : DataW.Trod enc Try.prog W 0 (fun _ => true) true 27 v d p) :
    ∃ a b c d e : Int, v = sv a b c d e := by
  obtain ⟨cs, rfl, hsz⟩ := okWide_struct Try.underlying27 hv
  obtain ⟨fuel, hf⟩ := h
  obtain ⟨zs, hz, hl, hw⟩ := trodInts Try.underlying27 (by kernel_rfl) (by kernel_rfl) (fun j f hj => by
    match j, hj with
    | 0, hj => cases hj; exact Try.underlying3
    | 1, hj => cases hj; exact Try.underlying3
    | 2, hj => cases hj; exact Try.underlying3
    | 3, hj => cases hj; exact Try.underlying3
    | 4, hj => cases hj; exact Try.underlying3) hf
  match zs, hl with
  | [a, b, c, d, e], _ =>
    obtain ⟨cs⟩ := cs
    simp only [Value.cells] at hz
    subst hz
    exact ⟨a, b, c, d, e, rfl⟩

theorem openDyn {v : Value} {d : DataW H} {p : List MemPlace} (hv : Value.okWide Try.prog W .any base 25 v) (h : DataW.Trod enc Try.prog W 0 (fun _ => true) true 25 v d p) :
    ∃ (a b : Int) (u : Value) (ks : Knots), v = .agg #[.int .i64 a, .int .i64 b, u] ∧ Kn W u ks := by
  obtain ⟨cs, rfl, hsz⟩ := okWide_struct Try.underlying25 hv
  obtain ⟨fuel, hf⟩ := h
  obtain ⟨a, b, u, ks, hz, hk⟩ := trodDyn hf
  obtain ⟨cs⟩ := cs
  simp only [Value.cells] at hz
  subst hz
  exact ⟨a, b, u, ks, rfl, hk⟩
end
end Go.Proofs.Ytjaidcdkkgnfoaa


/- Openers of brushes and dabs. -/
namespace Go.Proofs.Ytjaidcdkkgnfoaa
open Go.ChangeShapes Go.WideShapes Go.ChangeAt Go.RowKit Go.Deep
set_option linter.unusedVariables false
section
variable {H : Type} {enc : TypeId × Value → H} {W : World} {base : Nat} {spare : Nat → Bool} {held : Bool}
theorem trodBool {P : Program} {t : TypeId} {fuel : Nat} {cs : List Value} {x : DataW H × List MemPlace} (ht : P.underlying t = some .bool) (h : DataW.trod enc P W base spare held fuel t cs = some x) : ∃ b : Bool, cs = [.bool b] := by
  obtain ⟨b, hb, _⟩ := DataW.trod_bool ht h
  exact ⟨b, hb⟩
end
end Go.Proofs.Ytjaidcdkkgnfoaa


/- What the rows' list gives: the table of the sines. -/
namespace Go.Proofs.Ytjaidcdkkgnfoaa
open Go.RowKit
set_option linter.unusedVariables false

/-- The cells of a table of integers. -/
theorem cells_of_ints {H : Type} {enc : TypeId × Value → H} {P : Program} {w : World} {base : Nat} {sp : Nat → Bool} {held : Bool} {fuel : Nat} {t e : TypeId} {n : Nat} {cs : List Value} {zs : List Int} {p : List MemPlace}
    (ht : P.underlying t = some (.array n e)) (he : P.underlying e = some (.int .i64)) (hce : P.cellsOf e = 1) (hct : P.cellsOf t = n)
    (h : DataW.trod enc P w base sp held fuel t cs = some (.agg (zs.map fun z => .lit (.int .i64 z)), p)) : ∀ i, i < n → cs[i]? = some (.int .i64 (zs.getD i 0)) := by
  cases fuel with
  | zero => simp [DataW.trod] at h
  | succ fuel =>
    simp only [DataW.trod, ht, hce, hct, Nat.mul_one] at h
    split at h
    · rename_i hl
      obtain ⟨xs, hm, hx⟩ := Option.map_eq_some_iff.1 h
      have hxs : xs.map (·.1) = zs.map fun z => (DataW.lit (.int .i64 z) : DataW H) := by
        have := congrArg Prod.fst hx
        simpa using this
      intro i hi
      obtain ⟨b, hb, hf⟩ := Lib.mapM_at hm i i (by simp [hi])
      obtain ⟨z, hc, rfl, _⟩ := DataW.trod_int he hf
      have h1 : cs[i]? = some (.int .i64 z) := by
        have := congrArg (·[0]?) hc
        simpa [List.getElem?_take, List.getElem?_drop] using this
      have h2 : (xs.map (·.1))[i]? = some (DataW.lit (.int .i64 z) : DataW H) := by simp [hb]
      rw [hxs] at h2
      simp only [List.getElem?_map, Option.map_eq_some_iff, DataW.lit.injEq, Lit.int.injEq] at h2
      obtain ⟨z', hz', hz⟩ := h2
      rw [h1, List.getD_eq_getElem?_getD, hz']
      simp [hz]
    · cases h

end Go.Proofs.Ytjaidcdkkgnfoaa

