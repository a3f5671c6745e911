/- What a stroke leaves as it was, plainly: pixels outside of the box of its dabs, and outside of the selection. -/
import Derived.Test.YtieacbccadbdbaaDoorLPaint
import Derived.Test.YtieacbccadbdbaaDoorLCovR
namespace Go.Proofs.YtieacbccadbdbaaDoor
set_option linter.unusedVariables false

theorem hasR_emp {a : R4} {x y : Int} (ho : rOk a = true) (h : hasR a.1 a.2.1 a.2.2.1 a.2.2.2 x y) : rEmp a = false := by
  unfold hasR at h
  unfold rEmp
  rw [ho]
  simp only [Bool.not_true, Bool.false_or, Bool.or_eq_false_iff, beq_eq_false_iff_ne]
  omega
theorem rjoin_ok {a b : R4} (ha : rOk a = true) : rOk (rjoin a b) = true := by
  unfold rjoin
  split
  · split
    · exact r0_ok
    · rename_i h
      have h2 : rEmp b = false := by simpa using h
      exact (rOk_iff _).2 (by have := rEmp_false h2; omega)
  · split
    · exact ha
    · exact rbtw_ok _ _ _ _
theorem rjoin_left {a b : R4} {x y : Int} (ha : rOk a = true) (h : hasR a.1 a.2.1 a.2.2.1 a.2.2.2 x y) : hasR (rjoin a b).1 (rjoin a b).2.1 (rjoin a b).2.2.1 (rjoin a b).2.2.2 x y := by
  have ea := hasR_emp ha h
  cases eb : rEmp b with
  | true =>
    have e : rjoin a b = a := by unfold rjoin; rw [ea, eb, if_neg (by decide), if_pos rfl]
    rw [e]
    exact h
  | false =>
    rw [rjoin_in ea eb]
    unfold hasR at *
    simp only
    omega
theorem rjoin_right {a b : R4} {x y : Int} (hb : rOk b = true) (h : hasR b.1 b.2.1 b.2.2.1 b.2.2.2 x y) : hasR (rjoin a b).1 (rjoin a b).2.1 (rjoin a b).2.2.1 (rjoin a b).2.2.2 x y := by
  have eb := hasR_emp hb h
  cases ea : rEmp a with
  | true =>
    have e : rjoin a b = b := by unfold rjoin; rw [ea, eb, if_pos rfl, if_neg (by decide)]
    rw [e]
    exact h
  | false =>
    rw [rjoin_in ea eb]
    unfold hasR at *
    simp only
    omega
theorem bfrom_has (ds : List Dab) (x y : Int) : ∀ (m i : Nat) (r : R4), rOk r = true → (hasR r.1 r.2.1 r.2.2.1 r.2.2.2 x y ∨ ∃ j, i ≤ j ∧ j < i + m ∧ rOk (dbox (dbAt ds j)) = true ∧ hasR (dbox (dbAt ds j)).1 (dbox (dbAt ds j)).2.1 (dbox (dbAt ds j)).2.2.1 (dbox (dbAt ds j)).2.2.2 x y) →
    hasR (bfrom ds m i r).1 (bfrom ds m i r).2.1 (bfrom ds m i r).2.2.1 (bfrom ds m i r).2.2.2 x y
  | 0, i, r, _, h => by
    rcases h with h | ⟨j, h1, h2, _⟩
    · exact h
    · omega
  | m + 1, i, r, ho, h => by
    show hasR (bfrom ds m (i + 1) (rjoin r (dbox (dbAt ds i)))).1 _ _ _ x y
    refine bfrom_has ds x y m (i + 1) _ (rjoin_ok ho) ?_
    rcases h with h | ⟨j, h1, h2, h3, h4⟩
    · exact .inl (rjoin_left ho h)
    · by_cases hj : j = i
      · subst hj
        exact .inl (rjoin_right h3 h4)
      · exact .inr ⟨j, by omega, by omega, h3, h4⟩
theorem bfrom_ok (ds : List Dab) : ∀ (m i : Nat) (r : R4), rOk r = true → rOk (bfrom ds m i r) = true
  | 0, i, r, h => h
  | m + 1, i, r, h => bfrom_ok ds m (i + 1) _ (rjoin_ok h)
theorem bbox_ok (ds : List Dab) : rOk (bbox ds) = true := bfrom_ok ds _ _ _ r0_ok
/-- Outside of the box no dab covers. -/
theorem out_cov (B : Bru) (ds : List Dab) (x y : Int) (hx : -1048576 ≤ x ∧ x < 1048576) (hy : -1048576 ≤ y ∧ y < 1048576) (hn : ¬ hasR (bbox ds).1 (bbox ds).2.1 (bbox ds).2.2.1 (bbox ds).2.2.2 x y) (j : Nat) (hj : j < ds.length) : dcov B (dbAt ds j) x y = 0 := by
  by_cases h : dcov B (dbAt ds j) x y = 0
  · exact h
  · exfalso
    obtain ⟨b1, b2, b3⟩ := in_box B (dbAt ds j) x y hx hy h
    exact hn (bfrom_has ds x y _ _ _ r0_ok (.inr ⟨j, by omega, by omega, (rOk_iff _).2 ⟨b1, b2⟩, b3⟩))
theorem cfold_zero (B : Bru) (x y : Int) : ∀ ds : List Dab, (∀ d ∈ ds, dcov B d x y = 0) → cfold B ds x y 0 = 0
  | [], _ => rfl
  | d :: ds, h => by
    have e : cfold B (d :: ds) x y 0 = cfold B ds x y (cst 0 (dcov B d x y)) := rfl
    rw [e, h d (List.mem_cons_self ..), cst_zero]
    exact cfold_zero B x y ds (fun d hd => h d (List.mem_cons_of_mem _ hd))
theorem mem_dbAt {ds : List Dab} {d : Dab} (h : d ∈ ds) : ∃ j, j < ds.length ∧ dbAt ds j = d := by
  obtain ⟨j, hj, e⟩ := List.getElem_of_mem h
  refine ⟨j, hj, ?_⟩
  unfold dbAt
  rw [List.getD_eq_getElem?_getD, List.getElem?_eq_getElem hj, e]
  rfl
theorem dv0 (v : Int) : dv (cl 0 * v) 65535 = 0 := by
  rw [show cl 0 = 0 from rfl, Int.zero_mul, dv_zero _ (by omega)]
/-- What BrushKeeps asks of pixel k. -/
theorem keeps_at (B : Bru) (ds : List Dab) (W : Nat) (sw : Int) (zs : List Int) (ps : List Px) (k : Nat) (hx : k % W ≤ 256) (hy : k / W ≤ 65536)
    (h : (sw ≠ 0 ∧ zs.getD k 0 = 0) ∨ ¬ hasR (bbox ds).1 (bbox ds).2.1 (bbox ds).2.2.1 (bbox ds).2.2.2 ((k % W : Nat) : Int) ((k / W : Nat) : Int)) : pxOut B ds W sw zs ps k = pxAt ps k := by
  have hk : kAt B ds W sw zs k = 0 := by
    rcases h with ⟨h1, h2⟩ | h
    · rw [kAt_sel B ds W zs k h1, h2, Int.mul_comm]
      exact dv0 _
    · have hc : cout B ds W k = 0 := by
        unfold cout cpix
        have n1 : (0 : Int) ≤ ((k % W : Nat) : Int) := Int.natCast_nonneg _
        have n2 : (0 : Int) ≤ ((k / W : Nat) : Int) := Int.natCast_nonneg _
        rw [cfold_zero B _ _ ds (fun d hd => by
          obtain ⟨j, hj, rfl⟩ := mem_dbAt hd
          exact out_cov B ds _ _ (by omega) (by omega) h j hj)]
        exact dv0 _
      unfold kAt
      rw [hc]
      split
      · rfl
      · exact dv0 _
  unfold pxOut
  rw [hk, painted_0]
end Go.Proofs.YtieacbccadbdbaaDoor

