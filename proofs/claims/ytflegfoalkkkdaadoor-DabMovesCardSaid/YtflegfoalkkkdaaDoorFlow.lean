/- A region that draws its order, in which stores stand among operations that give one value each whatever the order: walked once, in the order of the text. -/
import Derived.Test.YtflegfoalkkkdaaDoorGrow
namespace Go.Proofs.YtflegfoalkkkdaaDoor
open Go.RowKit
set_option linter.unusedVariables false

section
variable {P : Program} {ops : Array Oper} {S : World → Prop}

/-- An operation that may change what S does not speak of: a store. -/
def effB (o : Oper) : Bool := match o.op with
  | .store _ _ _ => true
  | _ => false

/-- What a store comes to: it runs to its end here and now. -/
def eYields (P : Program) (ops : Array Oper) (o : Oper) (v : Value) (a : Act) (w w' : World) : Prop :=
  (Region.wanted o (yielded ops a.tmps) = true ∧ ((execOp a.eval o).run P w = .ok (.value v) w' ∨ ((execOp a.eval o).run P w = .ok .skip w' ∧ v = undef))) ∨
  (Region.wanted o (yielded ops a.tmps) = false ∧ v = undef ∧ w' = w)

/-- What an operation comes to that leaves the world alone: one value, whatever the world (as long as it has S). -/
def sYields (P : Program) (ops : Array Oper) (S : World → Prop) (o : Oper) (v : Value) (a : Act) : Prop :=
  (Region.wanted o (yielded ops a.tmps) = true ∧ ∀ w, S w → ((execOp a.eval o).run P w = .ok (.value v) w ∨ ((execOp a.eval o).run P w = .ok .skip w ∧ v = undef))) ∨ (Region.wanted o (yielded ops a.tmps) = false ∧ v = undef)
theorem sYields.same {o : Oper} {v : Value} {a a' : Act} (h : sYields P ops S o v a) (he : execOp a'.eval o = execOp a.eval o) (hw : Region.wanted o (yielded ops a'.tmps) = Region.wanted o (yielded ops a.tmps)) : sYields P ops S o v a' := by
  unfold sYields at *
  rw [he, hw]
  exact h
theorem sYields.wpOp {i : Nat} {o : Oper} {v : Value} {a : Act} {w : World} {K : Act → World → Prop} {Q' : Exit → Act → World → Prop} (hi : ops[i]? = some o) (hy : sYields P ops S o v a) (hS : S w) (hK : K (a.put o.dst v) w) : wpOp P ops Q' i K a w := by
  unfold Go.wpOp
  simp only [hi]
  rcases hy with ⟨hw, hr⟩ | ⟨hw, rfl⟩
  · simp only [hw, if_true]
    refine .inl ?_
    unfold Oper.wp
    rcases hr w hS with hr' | ⟨hr', rfl⟩ <;> rw [hr'] <;> exact hK
  · simp only [hw, Bool.false_eq_true, if_false]
    exact hK

def wpF (P : Program) (ops : Array Oper) (S : World → Prop) (Q : Act → World → Prop) : List (Nat × Oper) → Act → World → Prop
  | [], a, w => Q a w
  | (_, o) :: rest, a, w => (effB o = true ∧ ∃ v w', eYields P ops o v a w w' ∧ S w' ∧ wpF P ops S Q rest (a.put o.dst v) w') ∨ (effB o = false ∧ ∃ v, sYields P ops S o v a ∧ wpF P ops S Q rest (a.put o.dst v) w)

theorem eYields.same {o : Oper} {v : Value} {a a' : Act} {w w' : World} (h : eYields P ops o v a w w') (he : execOp a'.eval o = execOp a.eval o) (hw : Region.wanted o (yielded ops a'.tmps) = Region.wanted o (yielded ops a.tmps)) : eYields P ops o v a' w w' := by
  unfold eYields at *
  rw [he, hw]
  exact h
theorem eYields.wpOp {i : Nat} {o : Oper} {v : Value} {a : Act} {w w' : World} {K : Act → World → Prop} {Q' : Exit → Act → World → Prop} (hi : ops[i]? = some o) (hy : eYields P ops o v a w w') (hK : K (a.put o.dst v) w') : wpOp P ops Q' i K a w := by
  unfold Go.wpOp
  simp only [hi]
  rcases hy with ⟨hw, hr⟩ | ⟨hw, rfl, rfl⟩
  · simp only [hw, if_true]
    refine .inl ?_
    unfold Oper.wp
    rcases hr with hr | ⟨hr, rfl⟩ <;> rw [hr] <;> exact hK
  · simp only [hw, Bool.false_eq_true, if_false]
    exact hK

/-- j, behind i in the text, waits for i (by an edge of its own), or the two touch nothing of one another and are not both stores. -/
def pairB (ops : Array Oper) (i : Nat) (oi oj : Oper) : Bool :=
  (oj.after.any fun e => Region.binds .any e && e.on == i) || (oi.apart ops oj && !(effB oi && effB oj))
/-- The closed look at a region. -/
def flowB (ops : Array Oper) : Bool :=
  Region.noSelect ops &&
  (List.range ops.size).all fun j => match ops[j]? with
    | none => true
    | some oj => (oj.after.all fun e => !Region.binds .any e || decide (e.on < j)) && (List.range j).all fun i => match ops[i]? with
      | none => true
      | some oi => pairB ops i oi oj

/-- What is left: the operations that have not run, in the order of the text. -/
structure Left (ops : Array Oper) (listed : Array Bool) (l : List (Nat × Oper)) : Prop where
  at_ : ∀ x ∈ l, ops[x.1]? = some x.2
  un : ∀ x ∈ l, listed.getD x.1 true = false
  all : ∀ i o, ops[i]? = some o → listed.getD i true = false → (i, o) ∈ l
  sorted : l.Pairwise fun x y => x.1 < y.1
  size : listed.size = ops.size

theorem pair_of (hB : flowB ops = true) {i j : Nat} {oi oj : Oper} (hi : ops[i]? = some oi) (hj : ops[j]? = some oj) (hlt : i < j) : pairB ops i oi oj = true := by
  simp only [flowB, Bool.and_eq_true] at hB
  have hjl : j < ops.size := (Array.getElem?_eq_some_iff.1 hj).1
  have h := List.all_eq_true.1 hB.2 j (List.mem_range.2 hjl)
  simp only [hj, Bool.and_eq_true] at h
  have h2 := List.all_eq_true.1 h.2 i (List.mem_range.2 hlt)
  simpa only [hi] using h2
theorem noSel_of (hB : flowB ops = true) : ∀ (j : Nat) (o : Oper) cs b, ops[j]? = some o → o.op ≠ .select cs b := by
  simp only [flowB, Bool.and_eq_true] at hB
  exact Region.noSelect_spec hB.1
theorem back_of (hB : flowB ops = true) {j : Nat} {oj : Oper} (hj : ops[j]? = some oj) (e : Edge) (he : e ∈ oj.after) (hb : Region.binds .any e = true) : e.on < j := by
  simp only [flowB, Bool.and_eq_true] at hB
  have hjl : j < ops.size := (Array.getElem?_eq_some_iff.1 hj).1
  have h := List.all_eq_true.1 hB.2 j (List.mem_range.2 hjl)
  simp only [hj, Bool.and_eq_true] at h
  have h2 := Array.all_eq_true'.1 h.1 e he
  simpa [hb] using h2

/-- If j may run now, it does not wait for what has not run: the two are apart, and not both stores. -/
theorem apart_of (hB : flowB ops = true) {listed : Array Bool} {i j : Nat} {oi oj : Oper} (hi : ops[i]? = some oi) (hj : ops[j]? = some oj) (hlt : i < j) (hun : listed.getD i true = false) (hr : j ∈ Region.ready .any ops listed) :
    oi.apart ops oj = true ∧ (effB oi = true → effB oj = true → False) := by
  have h := pair_of hB hi hj hlt
  simp only [pairB, Bool.or_eq_true] at h
  rcases h with h | h
  · obtain ⟨hjun, o, ho, hall⟩ := mem_ready.1 hr
    have : o = oj := Option.some.inj (ho.symm.trans hj)
    subst this
    obtain ⟨e, he, hb⟩ := Array.any_eq_true'.1 h
    simp only [Bool.and_eq_true, beq_iff_eq] at hb
    have h1 := hall e he hb.1
    rw [hb.2, getD_both hun] at h1
    cases h1
  · simp only [Bool.and_eq_true, Bool.not_eq_true', Bool.and_eq_false_iff] at h
    exact ⟨h.1, fun h1 h2 => by rcases h.2 with h3 | h3 <;> simp_all⟩

/-- An operation that gives one value, taken first. -/
theorem flow_pure (hB : flowB ops = true) {listed : Array Bool} {Q : Act → World → Prop} {j : Nat} {oj : Oper} (hj : ops[j]? = some oj) (hr : j ∈ Region.ready .any ops listed) (he : effB oj = false) :
    ∀ (l : List (Nat × Oper)) (a : Act) (w : World), (∀ x ∈ l, ops[x.1]? = some x.2) → (∀ x ∈ l, listed.getD x.1 true = false) → (l.Pairwise fun x y => x.1 < y.1) → (j, oj) ∈ l → wpF P ops S Q l a w →
      ∃ v, sYields P ops S oj v a ∧ wpF P ops S Q (l.filter fun x => x.1 != j) (a.put oj.dst v) w
  | [], a, w, _, _, _, hm, _ => by cases hm
  | (i, oi) :: rest, a, w, hat, hun, hs, hm, hF => by
    have hi := hat (i, oi) List.mem_cons_self
    by_cases hij : i = j
    · subst hij
      have : oi = oj := Option.some.inj (hi.symm.trans hj)
      subst this
      have hrest : (rest.filter fun x => x.1 != i) = rest := by
        rw [List.filter_eq_self]
        intro x hx
        have := (List.pairwise_cons.1 hs).1 x hx
        simp; omega
      rcases hF with ⟨h1, _⟩ | ⟨_, v, hy, hF⟩
      · rw [he] at h1; cases h1
      · refine ⟨v, hy, ?_⟩
        rw [List.filter_cons_of_neg (by simp), hrest]
        exact hF
    · have hm' : (j, oj) ∈ rest := by
        rcases List.mem_cons.1 hm with h | h
        · cases h; exact absurd rfl hij
        · exact h
      have hlt : i < j := (List.pairwise_cons.1 hs).1 _ hm'
      obtain ⟨hap, _⟩ := apart_of hB hi hj hlt (hun (i, oi) List.mem_cons_self) hr
      obtain ⟨p1, p2, p3⟩ := Oper.apart_spec hap
      have hsi : ∀ cs b, oi.op ≠ .select cs b := fun cs b => noSel_of hB i oi cs b hi
      have hsj : ∀ cs b, oj.op ≠ .select cs b := fun cs b => noSel_of hB j oj cs b hj
      rw [List.filter_cons_of_pos (by simpa using hij)]
      rcases hF with ⟨h1, v, w', hy, hS, hF⟩ | ⟨h1, v, hy, hF⟩
      · obtain ⟨u, hyj, hF'⟩ := flow_pure hB hj hr he rest _ _ (fun x hx => hat x (List.mem_cons_of_mem _ hx)) (fun x hx => hun x (List.mem_cons_of_mem _ hx)) (List.pairwise_cons.1 hs).2 hm' hF
        have hyj' : sYields P ops S oj u a := hyj.same (execOp_put oj hsj a oi.dst v p1).symm (wanted_put oj a oi.dst v p1).symm
        refine ⟨u, hyj', .inl ⟨h1, v, w', hy.same (execOp_put oi hsi a oj.dst u p3) (wanted_put oi a oj.dst u p3), hS, ?_⟩⟩
        rw [← Act.put_comm a v u p2]
        exact hF'
      · obtain ⟨u, hyj, hF'⟩ := flow_pure hB hj hr he rest _ _ (fun x hx => hat x (List.mem_cons_of_mem _ hx)) (fun x hx => hun x (List.mem_cons_of_mem _ hx)) (List.pairwise_cons.1 hs).2 hm' hF
        have hyj' : sYields P ops S oj u a := hyj.same (execOp_put oj hsj a oi.dst v p1).symm (wanted_put oj a oi.dst v p1).symm
        refine ⟨u, hyj', .inr ⟨h1, v, hy.same (execOp_put oi hsi a oj.dst u p3) (wanted_put oi a oj.dst u p3), ?_⟩⟩
        rw [← Act.put_comm a v u p2]
        exact hF'

/-- A store, taken first: all that stands before it and has not run gives one value each. -/
theorem flow_eff (hB : flowB ops = true) {listed : Array Bool} {Q : Act → World → Prop} {j : Nat} {oj : Oper} (hj : ops[j]? = some oj) (hr : j ∈ Region.ready .any ops listed) (he : effB oj = true) :
    ∀ (l : List (Nat × Oper)) (a : Act) (w : World), (∀ x ∈ l, ops[x.1]? = some x.2) → (∀ x ∈ l, listed.getD x.1 true = false) → (l.Pairwise fun x y => x.1 < y.1) → (j, oj) ∈ l → wpF P ops S Q l a w →
      ∃ v w', eYields P ops oj v a w w' ∧ S w' ∧ wpF P ops S Q (l.filter fun x => x.1 != j) (a.put oj.dst v) w'
  | [], a, w, _, _, _, hm, _ => by cases hm
  | (i, oi) :: rest, a, w, hat, hun, hs, hm, hF => by
    have hi := hat (i, oi) List.mem_cons_self
    by_cases hij : i = j
    · subst hij
      have : oi = oj := Option.some.inj (hi.symm.trans hj)
      subst this
      have hrest : (rest.filter fun x => x.1 != i) = rest := by
        rw [List.filter_eq_self]
        intro x hx
        have := (List.pairwise_cons.1 hs).1 x hx
        simp; omega
      rcases hF with ⟨_, v, w', hy, hS, hF⟩ | ⟨h1, _⟩
      · refine ⟨v, w', hy, hS, ?_⟩
        rw [List.filter_cons_of_neg (by simp), hrest]
        exact hF
      · rw [he] at h1; cases h1
    · have hm' : (j, oj) ∈ rest := by
        rcases List.mem_cons.1 hm with h | h
        · cases h; exact absurd rfl hij
        · exact h
      have hlt : i < j := (List.pairwise_cons.1 hs).1 _ hm'
      obtain ⟨hap, hno⟩ := apart_of hB hi hj hlt (hun (i, oi) List.mem_cons_self) hr
      obtain ⟨p1, p2, p3⟩ := Oper.apart_spec hap
      have hsi : ∀ cs b, oi.op ≠ .select cs b := fun cs b => noSel_of hB i oi cs b hi
      have hsj : ∀ cs b, oj.op ≠ .select cs b := fun cs b => noSel_of hB j oj cs b hj
      rw [List.filter_cons_of_pos (by simpa using hij)]
      rcases hF with ⟨h1, _⟩ | ⟨h1, v, hy, hF⟩
      · exact absurd he (fun h => hno h1 h)
      · obtain ⟨u, w', hyj, hS, hF'⟩ := flow_eff hB hj hr he rest _ _ (fun x hx => hat x (List.mem_cons_of_mem _ hx)) (fun x hx => hun x (List.mem_cons_of_mem _ hx)) (List.pairwise_cons.1 hs).2 hm' hF
        have hyj' : eYields P ops oj u a w w' := hyj.same (execOp_put oj hsj a oi.dst v p1).symm (wanted_put oj a oi.dst v p1).symm
        refine ⟨u, w', hyj', hS, .inr ⟨h1, v, hy.same (execOp_put oi hsi a oj.dst u p3) (wanted_put oi a oj.dst u p3), ?_⟩⟩
        rw [← Act.put_comm a v u p2]
        exact hF'

theorem lenFilter : ∀ (l : List (Nat × Oper)) (i : Nat), (l.Pairwise fun x y => x.1 < y.1) → (∃ o, (i, o) ∈ l) → (l.filter fun x => x.1 != i).length + 1 = l.length
  | [], _, _, ⟨_, h⟩ => by cases h
  | x :: rest, i, hs, ⟨o, hm⟩ => by
    by_cases e : x.1 = i
    · have hrest : (rest.filter fun y => y.1 != i) = rest := by
        rw [List.filter_eq_self]
        intro y hy
        have := (List.pairwise_cons.1 hs).1 y hy
        simp; omega
      rw [List.filter_cons_of_neg (by simp [e]), hrest]
      rfl
    · rw [List.filter_cons_of_pos (by simpa using e)]
      have hm' : (i, o) ∈ rest := by
        rcases List.mem_cons.1 hm with h | h
        · exact absurd (by rw [← h]) e
        · exact h
      have := lenFilter rest i (List.pairwise_cons.1 hs).2 ⟨o, hm'⟩
      simp only [List.length_cons]
      omega
theorem Left.take {listed : Array Bool} {l : List (Nat × Oper)} (h : Left ops listed l) (j : Nat) : Left ops (listed.setIfInBounds j true) (l.filter fun x => x.1 != j) := by
  refine ⟨fun x hx => h.at_ x ((List.mem_filter.1 hx).1), fun x hx => ?_, fun i o hi hun => ?_, h.sorted.filter _, by simpa using h.size⟩
  · have h1 := List.mem_filter.1 hx
    have hne : j ≠ x.1 := fun e => by simp [e] at h1
    rw [getD_set_ne true hne]
    exact h.un x h1.1
  · have hne : j ≠ i := fun e => by
      subst e
      have hlt : j < listed.size := by rw [h.size]; exact (Array.getElem?_eq_some_iff.1 hi).1
      simp [Array.getD, hlt] at hun
    rw [getD_set_ne true hne] at hun
    exact List.mem_filter.2 ⟨h.all i o hi hun, by simp; omega⟩

theorem wpAny_of_F (hB : flowB ops = true) {Q' : Exit → Act → World → Prop} : ∀ (f : Nat) (listed : Array Bool) (l : List (Nat × Oper)) (a : Act) (w : World), Left ops listed l → l.length = f → S w → wpF P ops S (fun a w => Q' .normal a w) l a w → wpAny P .any ops Q' f listed a w
  | 0, listed, l, a, w, hL, hl, hS, hF => by
    have : l = [] := List.length_eq_zero_iff.1 hl
    subst this
    refine ⟨?_, hF⟩
    rw [List.eq_nil_iff_forall_not_mem]
    intro i hi
    obtain ⟨hun, o, ho, _⟩ := mem_ready.1 hi
    cases hL.all i o ho hun
  | f + 1, listed, l, a, w, hL, hl, hS, hF => by
    have key : ∀ i ∈ Region.ready .any ops listed, ∃ o, ops[i]? = some o ∧ (i, o) ∈ l ∧ (l.filter fun x => x.1 != i).length = f := fun i hi => by
      obtain ⟨hun, o, ho, _⟩ := mem_ready.1 hi
      have hm := hL.all i o ho hun
      refine ⟨o, ho, hm, ?_⟩
      have hnd : ∀ x ∈ l, x.1 = i → x = (i, o) := fun x hx e => by
        have := hL.at_ x hx
        rw [e, ho] at this
        cases x; simp_all
      have := lenFilter l i hL.sorted ⟨o, hm⟩
      omega
    refine ⟨fun h0 => ?_, fun i hi => ?_⟩
    · exfalso
      match l, hl, hL with
      | (i, o) :: rest, _, hL =>
        have hi := hL.at_ (i, o) List.mem_cons_self
        have : i ∈ Region.ready .any ops listed := mem_ready.2 ⟨hL.un (i, o) List.mem_cons_self, o, hi, fun e he hb => by
          have hlt := back_of hB hi e he hb
          cases hv : listed.getD e.on true with
          | true =>
            have hlt' : e.on < listed.size := by rw [hL.size]; have := (Array.getElem?_eq_some_iff.1 hi).1; omega
            simpa [Array.getD, hlt'] using hv
          | false =>
            have hlt' : e.on < ops.size := by have := (Array.getElem?_eq_some_iff.1 hi).1; omega
            have hm := hL.all e.on _ (Array.getElem?_eq_getElem hlt') hv
            rcases List.mem_cons.1 hm with h | h
            · have : e.on = i := congrArg Prod.fst h; omega
            · have := (List.pairwise_cons.1 hL.sorted).1 _ h; simp at this; omega⟩
        rw [h0] at this
        cases this
    · obtain ⟨o, ho, hm, hlen⟩ := key i hi
      cases he : effB o with
      | true =>
        obtain ⟨v, w', hy, hS', hF'⟩ := flow_eff hB ho hi he l a w hL.at_ hL.un hL.sorted hm hF
        exact hy.wpOp ho (wpAny_of_F hB f _ _ _ _ (hL.take i) hlen hS' hF')
      | false =>
        obtain ⟨v, hy, hF'⟩ := flow_pure hB ho hi he l a w hL.at_ hL.un hL.sorted hm hF
        exact hy.wpOp ho hS (wpAny_of_F hB f _ _ _ _ (hL.take i) hlen hS hF')

/-- The operations with their numbers. -/
def numbered : List Oper → Nat → List (Nat × Oper)
  | [], _ => []
  | o :: l, k => (k, o) :: numbered l (k + 1)
theorem numbered_mem : ∀ (l : List Oper) (k i : Nat) (o : Oper), (i, o) ∈ numbered l k ↔ k ≤ i ∧ l[i - k]? = some o
  | [], k, i, o => by simp [numbered]
  | x :: l, k, i, o => by
    simp only [numbered, List.mem_cons, Prod.mk.injEq, numbered_mem l (k + 1) i o]
    by_cases h : i = k
    · subst h
      simp only [Nat.sub_self, List.getElem?_cons_zero, Option.some.injEq, true_and, Nat.le_refl]
      constructor
      · rintro (h | h)
        · exact h.symm
        · omega
      · exact fun h => .inl h.symm
    · by_cases hk : k ≤ i
      · have e : i - k = (i - (k + 1)) + 1 := by omega
        rw [e, List.getElem?_cons_succ]
        constructor
        · rintro (h' | h')
          · exact absurd h'.1 h
          · exact ⟨hk, h'.2⟩
        · exact fun h' => .inr ⟨by omega, h'.2⟩
      · constructor
        · rintro (h' | h')
          · omega
          · omega
        · intro h'; omega
theorem numbered_sorted : ∀ (l : List Oper) (k : Nat), (numbered l k).Pairwise fun x y => x.1 < y.1
  | [], k => List.Pairwise.nil
  | x :: l, k => List.pairwise_cons.2 ⟨fun y hy => by
      have := (numbered_mem l (k + 1) y.1 y.2).1 hy
      show k < y.1
      omega, numbered_sorted l (k + 1)⟩
theorem numbered_length : ∀ (l : List Oper) (k : Nat), (numbered l k).length = l.length
  | [], _ => rfl
  | _ :: l, k => by simp [numbered, numbered_length l (k + 1)]

/-- The walk, by the operations alone. -/
def wpS (P : Program) (ops : Array Oper) (S : World → Prop) (Q : Act → World → Prop) : List Oper → Act → World → Prop
  | [], a, w => Q a w
  | o :: rest, a, w => (effB o = true ∧ ∃ v w', eYields P ops o v a w w' ∧ S w' ∧ wpS P ops S Q rest (a.put o.dst v) w') ∨ (effB o = false ∧ ∃ v, sYields P ops S o v a ∧ wpS P ops S Q rest (a.put o.dst v) w)
theorem wpF_of_S {Q : Act → World → Prop} : ∀ (l : List Oper) (k : Nat) (a : Act) (w : World), wpS P ops S Q l a w → wpF P ops S Q (numbered l k) a w
  | [], _, _, _, h => h
  | o :: rest, k, a, w, h => by
    rcases h with ⟨h1, v, w', hy, hS, h⟩ | ⟨h1, v, hy, h⟩
    · exact .inl ⟨h1, v, w', hy, hS, wpF_of_S rest (k + 1) _ _ h⟩
    · exact .inr ⟨h1, v, hy, wpF_of_S rest (k + 1) _ _ h⟩

theorem wp_region_flow {id : Nat} {Q : Exit → Act → World → Prop} {a : Act} {w : World} {l : List Oper} (S : World → Prop) (hm : P.follows .mixedOrders = true) (hB : flowB l.toArray = true) (hS : S w.drew)
    (h : wpS P l.toArray S (fun a' w' => Q .normal a' w') l a w.drew) : (Code.region id l.toArray true).wp P Q a w := by
  refine wp_region_any hm ?_
  have hL : Left l.toArray (Array.replicate l.toArray.size false) (numbered l 0) := by
    refine ⟨fun x hx => ?_, fun x hx => ?_, fun i o hi hun => ?_, numbered_sorted l 0, by simp⟩
    · have := (numbered_mem l 0 x.1 x.2).1 hx
      simpa using this.2
    · have := (numbered_mem l 0 x.1 x.2).1 hx
      have hlt : x.1 < l.length := by
        have h2 := this.2
        simp only [Nat.sub_zero] at h2
        exact (List.getElem?_eq_some_iff.1 h2).1
      exact getD_in (by simpa using hlt) (getD_replicate_false _ _)
    · exact (numbered_mem l 0 i o).2 ⟨by omega, by simpa using hi⟩
  exact wpAny_of_F hB _ _ _ _ _ hL (by rw [numbered_length]; simp) hS (wpF_of_S l 0 a w.drew h)

theorem wpS_nil {Q : Act → World → Prop} {a : Act} {w : World} (h : Q a w) : wpS P ops S Q [] a w := h
/-- What one operation comes to, at this world alone. -/
def stilK (K : Value → World → Prop) : Result Next → Prop
  | .ok (.value u) w' => K u w'
  | .ok .skip w' => K undef w'
  | _ => False
def Oper.sAt (P : Program) (o : Oper) (a : Act) (w : World) (K : Value → World → Prop) : Prop := stilK K ((execOp a.eval o).run P w)
/-- An operation that leaves the world alone. -/
theorem wpS_on {Q : Act → World → Prop} {a : Act} {w : World} {o : Oper} {rest : List Oper} (v : Value) (he : effB o = false) (hw : Region.wanted o (yielded ops a.tmps) = true)
    (h : ∀ w, S w → ∀ K : Value → World → Prop, Hid (K v w) → Oper.sAt P o a w K) (hr : wpS P ops S Q rest (a.put o.dst v) w) : wpS P ops S Q (o :: rest) a w := by
  refine .inr ⟨he, v, .inl ⟨hw, fun w hS => ?_⟩, hr⟩
  have h1 := h w hS (fun u w' => u = v ∧ w' = w) ⟨rfl, rfl⟩
  unfold Oper.sAt at h1
  generalize (execOp a.eval o).run P w = r at h1 ⊢
  cases r with
  | ok x w' =>
    cases x <;> simp only [stilK] at h1
    case value u => obtain ⟨rfl, rfl⟩ := h1; exact .inl rfl
    case skip => obtain ⟨rfl, rfl⟩ := h1; exact .inr ⟨rfl, rfl⟩
  | halt x w' => simp only [stilK] at h1
theorem wpS_off {Q : Act → World → Prop} {a : Act} {w : World} {o : Oper} {rest : List Oper} (he : effB o = false) (hw : Region.wanted o (yielded ops a.tmps) = false) (hr : wpS P ops S Q rest (a.put o.dst undef) w) : wpS P ops S Q (o :: rest) a w :=
  .inr ⟨he, undef, .inr ⟨hw, rfl⟩, hr⟩
/-- A store. -/
theorem wpS_store {Q : Act → World → Prop} {a : Act} {w : World} {o : Oper} {rest : List Oper} (v : Value) (w1 : World) (he : effB o = true) (hw : Region.wanted o (yielded ops a.tmps) = true)
    (h : ∀ K : Value → World → Prop, Hid (K v w1) → Oper.sAt P o a w K) (hS : S w1) (hr : wpS P ops S Q rest (a.put o.dst v) w1) : wpS P ops S Q (o :: rest) a w := by
  refine .inl ⟨he, v, w1, .inl ⟨hw, ?_⟩, hS, hr⟩
  have h1 := h (fun u w' => u = v ∧ w' = w1) ⟨rfl, rfl⟩
  unfold Oper.sAt at h1
  generalize (execOp a.eval o).run P w = r at h1 ⊢
  cases r with
  | ok x w' =>
    cases x <;> simp only [stilK] at h1
    case value u => obtain ⟨rfl, rfl⟩ := h1; exact .inl rfl
    case skip => obtain ⟨rfl, rfl⟩ := h1; exact .inr ⟨rfl, rfl⟩
  | halt x w' => simp only [stilK] at h1
end
end Go.Proofs.YtflegfoalkkkdaaDoor
