/- The dabs of the first samples are the first dabs, plainly. -/
import Derived.Test.YtjaidcdkkgnfoaaDoorStrokeP
namespace Go.Proofs.YtjaidcdkkgnfoaaDoor
set_option linter.unusedVariables false

theorem smAt_take (ls : List Smp) (n i : Nat) (h : i < n) : smAt (ls.take n) i = smAt ls i := by
  unfold smAt
  rw [List.getD_eq_getElem?_getD, List.getD_eq_getElem?_getD, List.getElem?_take, if_pos h]
theorem schk_take {ls : List Smp} (h : schk ls = 0) (n : Nat) (h1 : 1 ≤ n) (h2 : n ≤ ls.length) : schk (ls.take n) = 0 := by
  obtain ⟨a, b, c⟩ := schk_ok h
  have hl : (ls.take n).length = n := by simp; omega
  unfold schk
  rw [if_neg (by omega), if_neg (by omega)]
  refine ferr_of _ _ _ (fun j h3 h4 => ?_)
  have hj := c j (by omega)
  unfold sbad
  rw [smAt_take ls n j (by omega), if_pos hj.1]
  by_cases h0 : 0 < j
  · rw [smAt_take ls n (j - 1) (by omega), if_neg (by have := hj.2 h0; omega)]
  · rw [if_neg (by omega)]
theorem edges_take (B : Bru) (ls : List Smp) (n : Nat) : ∀ (m i : Nat) (r : Int) (out : List Dab), 1 ≤ i → i + m ≤ n → edges B (ls.take n) m i r out = edges B ls m i r out
  | 0, i, r, out, _, _ => rfl
  | m + 1, i, r, out, h1, h2 => by
    unfold edges
    rw [smAt_take ls n (i - 1) (by omega), smAt_take ls n i (by omega)]
    split
    · rfl
    · exact edges_take B ls n m (i + 1) _ _ (by omega) (by omega)
theorem edges_first {B : Bru} (hB : BruOk B) (ls : List Smp) (b : Nat) (l : List Dab) : ∀ (a i : Nat) (r : Int) (out : List Dab), dsOk B out → edges B ls (a + b) i r out = some l → ∃ l1, edges B ls a i r out = some l1 ∧ l1 <+: l
  | 0, i, r, out, ho, h => by
    rw [Nat.zero_add] at h
    exact ⟨out, rfl, (edges_ok hB ls _ _ _ _ l h ho).2.2.2⟩
  | a + 1, i, r, out, ho, h => by
    rw [show a + 1 + b = (a + b) + 1 by omega] at h
    unfold edges at h ⊢
    split at h
    · cases h
    · rename_i r' out' he
      exact edges_first hB ls b l a (i + 1) r' out' (edge_ok hB _ _ _ _ _ _ _ _ _ _ he ho).1 h
theorem dabs_take {B : Bru} {ls : List Smp} (h : (dabs B ls).2 = 0) (n : Nat) (h1 : 1 ≤ n) (h2 : n ≤ ls.length) : (dabs B (ls.take n)).2 = 0 ∧ (dabs B (ls.take n)).1 <+: (dabs B ls).1 := by
  obtain ⟨h0, hs, _⟩ := dabs_ok h
  have ht := schk_take hs n h1 h2
  have hl : (ls.take n).length = n := by simp; omega
  unfold dabs at *
  rw [if_pos h0, if_pos hs] at h ⊢
  rw [if_pos h0, if_pos ht]
  cases hk : stroke B ls with
  | none => rw [hk] at h; cases h
  | some l =>
    have e0 : dab0 B (ls.take n) = dab0 B ls := by unfold dab0; rw [smAt_take ls n 0 (by omega)]
    unfold stroke at hk
    rw [show ls.length - 1 = (n - 1) + (ls.length - n) by omega] at hk
    obtain ⟨l1, hl1, hp⟩ := edges_first (bruOk h0) ls _ l (n - 1) 1 _ _ (fun x hx => by rw [List.mem_singleton] at hx; subst hx; exact dabOf_ok (bruOk h0) _ _ _) hk
    have : stroke B (ls.take n) = some l1 := by
      unfold stroke
      rw [hl, e0, edges_take B ls n (n - 1) 1 _ _ (by omega) (by omega)]
      exact hl1
    rw [this]
    exact ⟨rfl, hp⟩
theorem dab0_place {B : Bru} {ls : List Smp} (h : (dabs B ls).2 = 0) (hsc : B.sc = 0) : (dab0 B ls).x = (smAt ls 0).x ∧ (dab0 B ls).y = (smAt ls 0).y := by
  obtain ⟨h0, hs, _⟩ := dabs_ok h
  obtain ⟨a, b, c⟩ := schk_ok hs
  have hb := smOk_bd (c 0 (by omega)).1
  have hm : ∀ z v, bsc z B.sc v = 0 := fun z v => by
    unfold bsc
    rw [hsc, Int.mul_zero, dv_zero _ (by omega), Int.zero_mul, dv_zero _ (by omega)]
  have hw : ∀ i k, belowI B.sd i k (2 * 0 + 1) = 0 := fun i k => by
    have := below_bd B.sd i k (2 * 0 + 1) (by omega)
    omega
  have hp : ∀ x k, -16777216 ≤ x ∧ x ≤ 16777216 → bpos x B.sd 0 k 0 = x := fun x k hx => by
    unfold bpos
    rw [hw]
    unfold co
    omega
  unfold dab0 dabOf
  simp only [hm]
  exact ⟨hp _ _ hb.1, hp _ _ hb.2.1⟩
end Go.Proofs.YtjaidcdkkgnfoaaDoor

