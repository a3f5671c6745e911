/- What the dabs of a stroke are good for. -/
import Derived.Test.YtjaidcdkkgnfoaaDoorCovPlain
namespace Go.Proofs.YtjaidcdkkgnfoaaDoor
set_option linter.unusedVariables false

/-- What the dabs of a stroke are good for. -/
def dsOk (B : Bru) (ds : List Dab) : Prop := ∀ d ∈ ds, dOk d = true
theorem edge_ok {B : Bru} (hB : BruOk B) (p q : Smp) (speed len : Int) : ∀ (f : Nat) (d r : Int) (out : List Dab) (r' : Int) (out' : List Dab), edge B p q speed len f d r out = some (r', out') → dsOk B out → dsOk B out' ∧ out.length ≤ out'.length ∧ (out.length ≤ 1024 → out'.length ≤ 1024) ∧ out <+: out'
  | 0, d, r, out, r', out', h, _ => by cases h
  | f + 1, d, r, out, r', out', h, ho => by
    unfold edge at h
    split at h
    · split at h
      · cases h
      · rename_i h1 h2
        have ho' : dsOk B (out ++ [dabOf B (btw p q (d + r) len) speed out.length]) := by
          intro x hx
          rcases List.mem_append.1 hx with hx | hx
          · exact ho x hx
          · rw [List.mem_singleton] at hx
            subst hx
            exact dabOf_ok hB _ _ _
        have := edge_ok hB p q speed len f _ _ _ r' out' h ho'
        simp only [List.length_append, List.length_cons, List.length_nil] at this
        exact ⟨this.1, by omega, fun h3 => this.2.2.1 (by omega), (List.prefix_append _ _).trans this.2.2.2⟩
    · cases h
      exact ⟨ho, Nat.le_refl _, fun h => h, List.prefix_refl _⟩
theorem edges_ok {B : Bru} (hB : BruOk B) (ls : List Smp) : ∀ (m i : Nat) (r : Int) (out l : List Dab), edges B ls m i r out = some l → dsOk B out → dsOk B l ∧ out.length ≤ l.length ∧ (out.length ≤ 1024 → l.length ≤ 1024) ∧ out <+: l
  | 0, i, r, out, l, h, ho => by
    cases h
    exact ⟨ho, Nat.le_refl _, fun h => h, List.prefix_refl _⟩
  | m + 1, i, r, out, l, h, ho => by
    unfold edges at h
    split at h
    · cases h
    · rename_i r' out' he
      have h1 := edge_ok hB _ _ _ _ _ _ _ _ _ _ he ho
      have h2 := edges_ok hB ls m (i + 1) r' out' l h h1.1
      exact ⟨h2.1, by omega, fun h3 => h2.2.2.1 (h1.2.2.1 h3), h1.2.2.2.trans h2.2.2.2⟩
theorem dabs_ok {B : Bru} {ls : List Smp} (h : (dabs B ls).2 = 0) : bchk B = 0 ∧ schk ls = 0 ∧ dsOk B (dabs B ls).1 ∧ 1 ≤ (dabs B ls).1.length ∧ (dabs B ls).1.length ≤ 1024 ∧ [dab0 B ls] <+: (dabs B ls).1 := by
  unfold dabs at *
  split at h
  · rename_i h0
    rw [if_pos h0]
    split at h
    · rename_i h1
      rw [if_pos h1]
      cases hs : stroke B ls with
      | none => rw [hs] at h; cases h
      | some l =>
        have h2 := edges_ok (bruOk h0) ls _ _ _ _ l hs (fun x hx => by rw [List.mem_singleton] at hx; subst hx; exact dabOf_ok (bruOk h0) _ _ _)
        simp only [List.length_cons, List.length_nil] at h2
        exact ⟨h0, h1, h2.1, h2.2.1, h2.2.2.1 (by omega), h2.2.2.2⟩
    · exact absurd h ‹_›
  · exact absurd h ‹_›
end Go.Proofs.YtjaidcdkkgnfoaaDoor

