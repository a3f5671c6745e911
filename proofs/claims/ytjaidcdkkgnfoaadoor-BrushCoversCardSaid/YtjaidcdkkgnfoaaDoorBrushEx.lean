/- The examples of the chapter on strokes, plainly. -/
import Derived.Test.YtjaidcdkkgnfoaaDoorBrushPlain
namespace Go.Proofs.YtjaidcdkkgnfoaaDoor
set_option linter.unusedVariables false

def exB (sz : Int) : Bru := ⟨sz, 65535, 65535, 65535, 65535, 100, 0, 0, 0, 0, 0, 0, 65535, 0, [], false⟩
def exS (x : Int) : Smp := ⟨x, 0, 0, 0, 0⟩
theorem ex1 : (dabs (exB 160) [exS 0, exS 100, exS 200]).2 = 0 ∧ (dabs (exB 160) [exS 0, exS 100, exS 200]).1.length = 2 ∧ ((dabs (exB 160) [exS 0, exS 100, exS 200]).1.getD 0 ⟨0, 0, 0, 0, 0⟩).x = 0 ∧ ((dabs (exB 160) [exS 0, exS 100, exS 200]).1.getD 1 ⟨0, 0, 0, 0, 0⟩).x = 160 := by decide +kernel
theorem ex2 : (dabs (exB 160) [exS 0, exS 400]).2 = 0 ∧ (dabs (exB 160) [exS 0, exS 400]).1.length = 3 ∧ ((dabs (exB 160) [exS 0, exS 400]).1.getD 2 ⟨0, 0, 0, 0, 0⟩).x = 320 ∧ ((dabs (exB 160) [exS 0, exS 400]).1.getD 2 ⟨0, 0, 0, 0, 0⟩).sz = 160 := by decide +kernel
/-- Edges on which every dab is as far from the next one. -/
theorem edge_many (B : Bru) (p q : Smp) (speed len r : Int) (hr : 0 < r) (hB : ∀ s a b, bspc B (dabOf B s a b).sz = r) : ∀ (f : Nat) (d : Int) (out : List Dab), r * f ≤ len - d → edge B p q speed len f d r out = none
  | 0, d, out, h => rfl
  | f + 1, d, out, h => by
    have e : r * ((f + 1 : Nat) : Int) = r * (f : Int) + r := by rw [Int.natCast_add, Int.mul_add]; simp
    have h0 : 0 ≤ r * (f : Int) := Int.mul_nonneg (by omega) (by omega)
    unfold edge
    rw [if_pos (by omega)]
    by_cases hl : out.length = 1024
    · rw [if_pos hl]
    · rw [if_neg hl, hB]
      exact edge_many B p q speed len r hr hB f _ _ (by omega)
theorem edge_few (B : Bru) (p q : Smp) (speed len r : Int) (hr : 0 < r) (hB : ∀ s a b, bspc B (dabOf B s a b).sz = r) : ∀ (f : Nat) (d : Int) (out : List Dab) (k : Nat), out.length + f = 1025 → r * k ≤ len - d → len - d < r * k + r → k < f →
    ∃ r' out', edge B p q speed len f d r out = some (r', out') ∧ out'.length = out.length + k
  | 0, d, out, k, _, _, _, h => absurd h (Nat.not_lt_zero _)
  | f + 1, d, out, 0, hf, h1, h2, h3 => by
    unfold edge
    rw [if_neg (by simp at h2; omega)]
    exact ⟨_, _, rfl, rfl⟩
  | f + 1, d, out, k + 1, hf, h1, h2, h3 => by
    have e : r * ((k + 1 : Nat) : Int) = r * (k : Int) + r := by rw [Int.natCast_add, Int.mul_add]; simp
    have h0 : 0 ≤ r * (k : Int) := Int.mul_nonneg (by omega) (by omega)
    unfold edge
    rw [if_pos (by omega), if_neg (by omega), hB]
    obtain ⟨r', out', he, hl⟩ := edge_few B p q speed len r hr hB f (d + r) (out ++ [dabOf B (btw p q (d + r) len) speed out.length]) k (by simp; omega) (by omega) (by omega) (by omega)
    exact ⟨r', out', he, by rw [hl]; simp; omega⟩
theorem ex_spc (s : Smp) (a b : Int) : bspc (exB 1) (dabOf (exB 1) s a b).sz = 16 := rfl
theorem ex_chk : bchk (exB 1) = 0 := by decide +kernel
theorem edges_succ (B : Bru) (ls : List Smp) (m i : Nat) (r : Int) (out : List Dab) : edges B ls (m + 1) i r out =
    match edge B (smAt ls (i - 1)) (smAt ls i) (espd (smAt ls (i - 1)) (smAt ls i)) (elen (smAt ls (i - 1)) (smAt ls i)) (1025 - out.length) 0 r out with
    | none => none
    | some (r', out') => edges B ls m (i + 1) r' out' := rfl
theorem ex_stroke (q : Smp) (f : Nat) (hf : f = 1024) : stroke (exB 1) [exS 0, q] = match edge (exB 1) (exS 0) q (espd (exS 0) q) (elen (exS 0) q) f 0 16 [dab0 (exB 1) [exS 0, q]] with
    | none => none
    | some (r', out') => edges (exB 1) [exS 0, q] 0 2 r' out' := by
  unfold stroke
  have e1 : [exS 0, q].length - 1 = 0 + 1 := rfl
  have e2 : 1025 - [dab0 (exB 1) [exS 0, q]].length = f := by rw [hf]; rfl
  have e3 : smAt [exS 0, q] (1 - 1) = exS 0 := rfl
  have e4 : smAt [exS 0, q] 1 = q := rfl
  have e5 : bspc (exB 1) (dab0 (exB 1) [exS 0, q]).sz = 16 := ex_spc _ _ _
  rw [e1, edges_succ, e2, e3, e4, e5]
theorem ex3 : (dabs (exB 1) [exS 0, exS 1026]).2 = 3 := by
  have h1 : schk [exS 0, exS 1026] = 0 := by decide +kernel
  have h2 : elen (exS 0) (exS 1026) = 16416 := by decide +kernel
  obtain ⟨f, hf⟩ : ∃ f : Nat, f = 1024 := ⟨_, rfl⟩
  have h3 : stroke (exB 1) [exS 0, exS 1026] = none := by
    rw [ex_stroke _ f hf, edge_many (exB 1) _ _ _ _ 16 (by omega) ex_spc f 0 _ (by rw [h2]; omega)]
  unfold dabs
  rw [if_pos ex_chk, if_pos h1, h3]
theorem ex4 : (dabs (exB 1) [exS 0, exS 1023]).2 = 0 ∧ (dabs (exB 1) [exS 0, exS 1023]).1.length = 1024 := by
  have h1 : schk [exS 0, exS 1023] = 0 := by decide +kernel
  have h2 : elen (exS 0) (exS 1023) = 16368 := by decide +kernel
  obtain ⟨f, hf⟩ : ∃ f : Nat, f = 1024 := ⟨_, rfl⟩
  obtain ⟨k, hk⟩ : ∃ k : Nat, k = 1023 := ⟨_, rfl⟩
  obtain ⟨r', out', he, hl⟩ := edge_few (exB 1) (exS 0) (exS 1023) (espd (exS 0) (exS 1023)) (elen (exS 0) (exS 1023)) 16 (by omega) ex_spc f 0 [dab0 (exB 1) [exS 0, exS 1023]] k (by rw [List.length_singleton]; omega) (by rw [h2]; omega) (by rw [h2]; omega) (by omega)
  have h3 : stroke (exB 1) [exS 0, exS 1023] = some out' := by
    rw [ex_stroke _ f hf, he]
    rfl
  rw [List.length_singleton] at hl
  unfold dabs
  rw [if_pos ex_chk, if_pos h1, h3]
  exact ⟨rfl, by show out'.length = 1024; omega⟩
end Go.Proofs.YtjaidcdkkgnfoaaDoor

