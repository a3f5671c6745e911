/- A region that draws its order, in which variables are made (alloc, a slice built) beside operations and calls that keep what was there: walked once; where a new block lies is left open. -/
import Derived.Test.YtflegfoalkkkdaaDoorFlow
import Derived.Test.YtflegfoalkkkdaaDoorBlk
namespace Go.Proofs.YtflegfoalkkkdaaDoor
open Go.RowKit
set_option linter.unusedVariables false

section
variable {P : Program} {ops : Array Oper} {W : World}

/-- An operation that makes a block. -/
def mkB (o : Oper) : Bool := match o.op with
  | .alloc _ => true
  | .buildSlice _ _ _ => true
  | _ => false
/-- What it gives, the block being x. -/
def mkOf (o : Oper) (x : Nat) : Value := match o.op with
  | .buildSlice _ n _ => .slice (some ⟨x, 0, none⟩) n n
  | _ => .pointer (some ⟨x, 0, none⟩)

/-- What an operation comes to that keeps all that was there: one value. -/
def bUpon (P : Program) (w : World) (v : Value) : Result Next → Prop
  | .ok (.value u) w' => u = v ∧ Below w.heap.size w w'
  | .ok .skip w' => v = undef ∧ Below w.heap.size w w'
  | .ok (.enter f args) w' => Calls P f args w' fun e w'' => e = .returned v ∧ Below w.heap.size w w''
  | _ => False
def bYields (P : Program) (ops : Array Oper) (W : World) (o : Oper) (v : Value) (a : Act) : Prop :=
  (Region.wanted o (yielded ops a.tmps) = true ∧ ∀ w, Below W.heap.size W w → bUpon P w v ((execOp a.eval o).run P w)) ∨ (Region.wanted o (yielded ops a.tmps) = false ∧ v = undef)
def nYields (P : Program) (ops : Array Oper) (W : World) (o : Oper) (obj : Obj) (a : Act) : Prop :=
  Region.wanted o (yielded ops a.tmps) = true ∧ ∀ w, Below W.heap.size W w → (execOp a.eval o).run P w = .ok (.value (mkOf o w.heap.size)) (w.alloc obj)

def wpN (P : Program) (ops : Array Oper) (W : World) (Q : Act → World → Prop) : List (Nat × Oper) → List Nat → (World → Prop) → Act → Prop
  | [], _, F, a => ∀ w, Below W.heap.size W w → F w → Q a w
  | (_, o) :: rest, ys, F, a => (mkB o = false ∧ ∃ v, bYields P ops W o v a ∧ wpN P ops W Q rest ys F (a.put o.dst v)) ∨
    (mkB o = true ∧ ∃ obj, nYields P ops W o obj a ∧ ∀ x, W.heap.size ≤ x → x ∉ ys → wpN P ops W Q rest (x :: ys) (fun w => F w ∧ Blk w x obj) (a.put o.dst (mkOf o x)))

theorem wpN_mono {Q : Act → World → Prop} : ∀ (l : List (Nat × Oper)) (ys ys' : List Nat) (F F' : World → Prop) (a : Act), (∀ y ∈ ys, y ∈ ys') → (∀ w, F' w → F w) → wpN P ops W Q l ys F a → wpN P ops W Q l ys' F' a
  | [], ys, ys', F, F', a, hy, hF, h => fun w hb hf => h w hb (hF w hf)
  | (_, o) :: rest, ys, ys', F, F', a, hy, hF, h => by
    rcases h with ⟨h1, v, h2, h3⟩ | ⟨h1, obj, h2, h3⟩
    · exact .inl ⟨h1, v, h2, wpN_mono rest ys ys' F F' _ hy hF h3⟩
    · refine .inr ⟨h1, obj, h2, fun x hx hn => wpN_mono rest (x :: ys) (x :: ys') _ _ _ (fun y hy' => ?_) (fun w hw => ⟨hF w hw.1, hw.2⟩) (h3 x hx (fun hm => hn (hy x hm)))⟩
      rcases List.mem_cons.1 hy' with e | e
      · exact e ▸ List.mem_cons_self
      · exact List.mem_cons_of_mem _ (hy y e)

theorem bYields.same {o : Oper} {v : Value} {a a' : Act} (h : bYields P ops W o v a) (he : execOp a'.eval o = execOp a.eval o) (hw : Region.wanted o (yielded ops a'.tmps) = Region.wanted o (yielded ops a.tmps)) : bYields P ops W o v a' := by
  unfold bYields at *
  rw [he, hw]
  exact h
theorem nYields.same {o : Oper} {obj : Obj} {a a' : Act} (h : nYields P ops W o obj a) (he : execOp a'.eval o = execOp a.eval o) (hw : Region.wanted o (yielded ops a'.tmps) = Region.wanted o (yielded ops a.tmps)) : nYields P ops W o obj a' := by
  unfold nYields at *
  rw [he, hw]
  exact h
theorem nYields.unique {o : Oper} {obj obj' : Obj} {a : Act} (h : nYields P ops W o obj a) (h' : nYields P ops W o obj' a) : obj = obj' := by
  have e := (h.2 W (Below.refl _ _)).symm.trans (h'.2 W (Below.refl _ _))
  simp only [Result.ok.injEq, true_and] at e
  have e2 := heap_alloc_new W obj
  rw [e, heap_alloc_new W obj'] at e2
  exact (Option.some.inj e2).symm
theorem bYields.wpOp {i : Nat} {o : Oper} {v : Value} {a : Act} {w : World} {K : Act → World → Prop} {Q' : Exit → Act → World → Prop} (hi : ops[i]? = some o) (hy : bYields P ops W o v a) (hS : Below W.heap.size W w) (hK : ∀ w', Below w.heap.size w w' → K (a.put o.dst v) w') : wpOp P ops Q' i K a w := by
  unfold Go.wpOp
  simp only [hi]
  rcases hy with ⟨hw, hr⟩ | ⟨hw, rfl⟩
  · simp only [hw, if_true]
    refine .inl ?_
    have h := hr w hS
    unfold Oper.wp
    generalize (execOp a.eval o).run P w = r at h ⊢
    cases r with
    | ok x w' =>
      cases x <;> simp only [bUpon] at h
      case value u => obtain ⟨rfl, h2⟩ := h; exact hK _ h2
      case skip => obtain ⟨rfl, h2⟩ := h; exact hK _ h2
      case enter f args => exact h.mono fun e w'' ⟨he, h2⟩ => by subst he; exact hK _ h2
    | halt x w' => simp only [bUpon] at h
  · simp only [hw, Bool.false_eq_true, if_false]
    exact hK _ (Below.refl _ _)
theorem nYields.wpOp {i : Nat} {o : Oper} {obj : Obj} {a : Act} {w : World} {K : Act → World → Prop} {Q' : Exit → Act → World → Prop} (hi : ops[i]? = some o) (hy : nYields P ops W o obj a) (hS : Below W.heap.size W w) (hK : K (a.put o.dst (mkOf o w.heap.size)) (w.alloc obj)) : wpOp P ops Q' i K a w := by
  unfold Go.wpOp
  simp only [hi, hy.1, if_true]
  refine .inl ?_
  unfold Oper.wp
  rw [hy.2 w hS]
  exact hK

theorem fresh_above : ∀ (ys : List Nat) (n : Nat), ∃ x, n ≤ x ∧ ∀ y ∈ ys, y < x
  | [], n => ⟨n, Nat.le_refl _, fun y hy => by cases hy⟩
  | z :: ys, n => by
    obtain ⟨x, hx, h⟩ := fresh_above ys n
    refine ⟨x + z + 1, by omega, fun y hy => ?_⟩
    rcases List.mem_cons.1 hy with e | e
    · omega
    · have := h y e; omega

/-- y, behind x in the order of the walk, waits for x, or the two touch nothing of one another; behind a maker stand makers alone. -/
def okPair (ops : Array Oper) (x y : Nat × Oper) : Bool :=
  (!mkB x.2 || mkB y.2) && ((y.2.after.any fun e => Region.binds .any e && e.on == x.1) || x.2.apart ops y.2)
def okPairs (ops : Array Oper) : List (Nat × Oper) → Bool
  | [] => true
  | x :: l => (l.all fun y => okPair ops x y && (x.1 != y.1)) && okPairs ops l
/-- Each waits for such alone as stand before it in the order of the walk. -/
def okBack (ops : Array Oper) : List (Nat × Oper) → List Nat → Bool
  | [], _ => true
  | x :: l, seen => (x.2.after.all fun e => !Region.binds .any e || seen.contains e.on) && okBack ops l (x.1 :: seen)

structure LeftN (ops : Array Oper) (n : Nat) (listed : Array Bool) (l : List (Nat × Oper)) : Prop where
  at_ : ∀ x ∈ l, ops[x.1]? = some x.2
  un : ∀ x ∈ l, listed.getD x.1 true = false
  lt : ∀ x ∈ l, x.1 < n
  all : ∀ i o, i < n → ops[i]? = some o → listed.getD i true = false → (i, o) ∈ l
  pairs : l.Pairwise fun x y => okPair ops x y = true ∧ x.1 ≠ y.1
  inv : HeadInv .any ops n listed

theorem LeftN.take {n : Nat} {listed : Array Bool} {l : List (Nat × Oper)} (h : LeftN ops n listed l) {j : Nat} (hj : j ∈ Region.ready .any ops listed) (hjn : j < n) : LeftN ops n (listed.setIfInBounds j true) (l.filter fun x => x.1 != j) := by
  refine ⟨fun x hx => h.at_ x (List.mem_filter.1 hx).1, fun x hx => ?_, fun x hx => h.lt x (List.mem_filter.1 hx).1, fun i o hin hi hun => ?_, h.pairs.filter _, h.inv.set hj hjn⟩
  · have h1 := List.mem_filter.1 hx
    have hne : j ≠ x.1 := fun e => by simp [e] at h1
    rw [getD_set_ne true hne]
    exact h.un x h1.1
  · have hne : j ≠ i := fun e => by
      subst e
      have hlt : j < listed.size := by rw [h.inv.size]; exact (Array.getElem?_eq_some_iff.1 hi).1
      simp [Array.getD, hlt] at hun
    rw [getD_set_ne true hne] at hun
    exact List.mem_filter.2 ⟨h.all i o hin hi hun, by simp; omega⟩

theorem apartN {listed : Array Bool} {i j : Nat} {oi oj : Oper} (hj : ops[j]? = some oj) (hp : okPair ops (i, oi) (j, oj) = true) (hun : listed.getD i true = false) (hr : j ∈ Region.ready .any ops listed) :
    oi.apart ops oj = true ∧ (mkB oi = true → mkB oj = true) := by
  simp only [okPair, Bool.and_eq_true, Bool.or_eq_true, Bool.not_eq_true'] at hp
  refine ⟨?_, fun h => hp.1.elim (fun h1 => by rw [h] at h1; cases h1) (fun h1 => h1)⟩
  rcases hp.2 with h | h
  · obtain ⟨hjun, o, ho, hall⟩ := mem_ready.1 hr
    have : o = oj := Option.some.inj (ho.symm.trans hj)
    subst this
    obtain ⟨e, he, hb⟩ := Array.any_eq_true'.1 h
    simp only [Bool.and_eq_true, beq_iff_eq] at hb
    have h1 := hall e he hb.1
    rw [hb.2, getD_both hun] at h1
    cases h1
  · exact h

theorem filter_front {l : List (Nat × Oper)} {i : Nat} (h : ∀ y ∈ l, i ≠ y.1) : (l.filter fun x => x.1 != i) = l := by
  rw [List.filter_eq_self]
  intro x hx
  have := h x hx
  simp; omega

theorem takeP (hsel : ∀ (j : Nat) (o : Oper) cs b, ops[j]? = some o → o.op ≠ .select cs b) {listed : Array Bool} {Q : Act → World → Prop} {j : Nat} {oj : Oper} (hj : ops[j]? = some oj) (hr : j ∈ Region.ready .any ops listed) (hm : mkB oj = false) :
    ∀ (l : List (Nat × Oper)) (ys : List Nat) (F : World → Prop) (a : Act), (∀ x ∈ l, ops[x.1]? = some x.2) → (∀ x ∈ l, listed.getD x.1 true = false) → (l.Pairwise fun x y => okPair ops x y = true ∧ x.1 ≠ y.1) → (j, oj) ∈ l → wpN P ops W Q l ys F a →
      ∃ v, bYields P ops W oj v a ∧ wpN P ops W Q (l.filter fun x => x.1 != j) ys F (a.put oj.dst v)
  | [], ys, F, a, _, _, _, hmem, _ => by cases hmem
  | (i, oi) :: rest, ys, F, a, hat, hun, hs, hmem, hN => by
    have hi := hat (i, oi) List.mem_cons_self
    have hpr := List.pairwise_cons.1 hs
    by_cases hij : i = j
    · subst hij
      have : oi = oj := Option.some.inj (hi.symm.trans hj)
      subst this
      rcases hN with ⟨_, v, hy, hN⟩ | ⟨h1, _⟩
      · refine ⟨v, hy, ?_⟩
        rw [List.filter_cons_of_neg (by simp), filter_front (fun y hy => (hpr.1 y hy).2)]
        exact hN
      · rw [hm] at h1; cases h1
    · have hm' : (j, oj) ∈ rest := by
        rcases List.mem_cons.1 hmem with h | h
        · cases h; exact absurd rfl hij
        · exact h
      obtain ⟨hap, hmk⟩ := apartN hj (hpr.1 _ hm').1 (hun (i, oi) List.mem_cons_self) hr
      obtain ⟨p1, p2, p3⟩ := Oper.apart_spec hap
      have hsi : ∀ cs b, oi.op ≠ .select cs b := fun cs b => hsel i oi cs b hi
      have hsj : ∀ cs b, oj.op ≠ .select cs b := fun cs b => hsel j oj cs b hj
      rw [List.filter_cons_of_pos (by simpa using hij)]
      rcases hN with ⟨h1, v, hy, hN⟩ | ⟨h1, _⟩
      · obtain ⟨u, hyj, hN'⟩ := takeP hsel hj hr hm rest ys F _ (fun x hx => hat x (List.mem_cons_of_mem _ hx)) (fun x hx => hun x (List.mem_cons_of_mem _ hx)) hpr.2 hm' hN
        refine ⟨u, hyj.same (execOp_put oj hsj a oi.dst v p1).symm (wanted_put oj a oi.dst v p1).symm, .inl ⟨h1, v, hy.same (execOp_put oi hsi a oj.dst u p3) (wanted_put oi a oj.dst u p3), ?_⟩⟩
        rw [← Act.put_comm a v u p2]
        exact hN'
      · have := hmk h1
        rw [hm] at this; cases this

theorem takeM (hsel : ∀ (j : Nat) (o : Oper) cs b, ops[j]? = some o → o.op ≠ .select cs b) {listed : Array Bool} {Q : Act → World → Prop} {j : Nat} {oj : Oper} (hj : ops[j]? = some oj) (hr : j ∈ Region.ready .any ops listed) (hm : mkB oj = true) :
    ∀ (l : List (Nat × Oper)) (ys : List Nat) (F : World → Prop) (a : Act), (∀ x ∈ l, ops[x.1]? = some x.2) → (∀ x ∈ l, listed.getD x.1 true = false) → (l.Pairwise fun x y => okPair ops x y = true ∧ x.1 ≠ y.1) → (j, oj) ∈ l → wpN P ops W Q l ys F a →
      ∃ obj, nYields P ops W oj obj a ∧ ∀ x, W.heap.size ≤ x → x ∉ ys → wpN P ops W Q (l.filter fun x => x.1 != j) (x :: ys) (fun w => F w ∧ Blk w x obj) (a.put oj.dst (mkOf oj x))
  | [], ys, F, a, _, _, _, hmem, _ => by cases hmem
  | (i, oi) :: rest, ys, F, a, hat, hun, hs, hmem, hN => by
    have hi := hat (i, oi) List.mem_cons_self
    have hpr := List.pairwise_cons.1 hs
    by_cases hij : i = j
    · subst hij
      have : oi = oj := Option.some.inj (hi.symm.trans hj)
      subst this
      rcases hN with ⟨h1, _⟩ | ⟨_, obj, hy, hN⟩
      · rw [hm] at h1; cases h1
      · refine ⟨obj, hy, ?_⟩
        rw [List.filter_cons_of_neg (by simp), filter_front (fun y hy => (hpr.1 y hy).2)]
        exact hN
    · have hm' : (j, oj) ∈ rest := by
        rcases List.mem_cons.1 hmem with h | h
        · cases h; exact absurd rfl hij
        · exact h
      obtain ⟨hap, hmk⟩ := apartN hj (hpr.1 _ hm').1 (hun (i, oi) List.mem_cons_self) hr
      obtain ⟨p1, p2, p3⟩ := Oper.apart_spec hap
      have hsi : ∀ cs b, oi.op ≠ .select cs b := fun cs b => hsel i oi cs b hi
      have hsj : ∀ cs b, oj.op ≠ .select cs b := fun cs b => hsel j oj cs b hj
      rw [List.filter_cons_of_pos (by simpa using hij)]
      rcases hN with ⟨h1, v, hy, hN⟩ | ⟨h1, obi, hy, hN⟩
      · obtain ⟨obj, hyj, hN'⟩ := takeM hsel hj hr hm rest ys F _ (fun x hx => hat x (List.mem_cons_of_mem _ hx)) (fun x hx => hun x (List.mem_cons_of_mem _ hx)) hpr.2 hm' hN
        refine ⟨obj, hyj.same (execOp_put oj hsj a oi.dst v p1).symm (wanted_put oj a oi.dst v p1).symm, fun x hx hn => .inl ⟨h1, v, hy.same (execOp_put oi hsi a oj.dst _ p3) (wanted_put oi a oj.dst _ p3), ?_⟩⟩
        rw [← Act.put_comm a v _ p2]
        exact hN' x hx hn
      · have step : ∀ x, W.heap.size ≤ x → x ∉ ys → ∃ obj, nYields P ops W oj obj a ∧ ∀ z, W.heap.size ≤ z → z ∉ x :: ys → wpN P ops W Q (rest.filter fun x => x.1 != j) (z :: x :: ys) (fun w => (F w ∧ Blk w x obi) ∧ Blk w z obj) ((a.put oi.dst (mkOf oi x)).put oj.dst (mkOf oj z)) := fun x hx hn => by
          obtain ⟨obj, hyj, hN'⟩ := takeM hsel hj hr hm rest (x :: ys) _ _ (fun x hx => hat x (List.mem_cons_of_mem _ hx)) (fun x hx => hun x (List.mem_cons_of_mem _ hx)) hpr.2 hm' (hN x hx hn)
          exact ⟨obj, hyj.same (execOp_put oj hsj a oi.dst _ p1).symm (wanted_put oj a oi.dst _ p1).symm, hN'⟩
        obtain ⟨x0, hx0, hf0⟩ := fresh_above ys W.heap.size
        obtain ⟨obj, hyj, _⟩ := step x0 hx0 (fun h => by have := hf0 x0 h; omega)
        refine ⟨obj, hyj, fun z hz hzn => .inr ⟨h1, obi, hy.same (execOp_put oi hsi a oj.dst _ p3) (wanted_put oi a oj.dst _ p3), fun x hx hxn => ?_⟩⟩
        have hxy : x ∉ ys := fun h => hxn (List.mem_cons_of_mem _ h)
        obtain ⟨obj', hyj', hN'⟩ := step x hx hxy
        obtain rfl := hyj.unique hyj'
        have hzx : z ∉ x :: ys := fun h => by
          rcases List.mem_cons.1 h with e | e
          · exact hxn (e ▸ List.mem_cons_self)
          · exact hzn e
        have h5 := hN' z hz hzx
        rw [Act.put_comm a _ _ p2] at h5
        refine wpN_mono _ _ _ _ _ _ (fun y hy => ?_) (fun w hw => ⟨⟨hw.1.1, hw.2⟩, hw.1.2⟩) h5
        simp only [List.mem_cons] at hy ⊢
        rcases hy with h | h | h
        · exact .inr (.inl h)
        · exact .inl h
        · exact .inr (.inr h)

theorem lenFilterN : ∀ (l : List (Nat × Oper)) (i : Nat), (l.Pairwise fun x y => okPair ops x y = true ∧ x.1 ≠ y.1) → (∃ o, (i, o) ∈ l) → (l.filter fun x => x.1 != i).length + 1 = l.length
  | [], _, _, ⟨_, h⟩ => by cases h
  | x :: rest, i, hs, ⟨o, hm⟩ => by
    have hpr := List.pairwise_cons.1 hs
    by_cases e : x.1 = i
    · rw [List.filter_cons_of_neg (by simp [e]), filter_front (fun y hy => e ▸ (hpr.1 y hy).2)]
      rfl
    · rw [List.filter_cons_of_pos (by simpa using e)]
      have hm' : (i, o) ∈ rest := by
        rcases List.mem_cons.1 hm with h | h
        · exact absurd (by rw [← h]) e
        · exact h
      have := lenFilterN rest i hpr.2 ⟨o, hm'⟩
      simp only [List.length_cons]
      omega

/-- The head of what is left may run. -/
def Back (ops : Array Oper) (listed : Array Bool) (l : List (Nat × Oper)) : Prop :=
  ∀ pre x post, l = pre ++ x :: post → ∀ e ∈ x.2.after, Region.binds .any e = true → listed.getD e.on false = true ∨ ∃ y ∈ pre, y.1 = e.on
theorem Back.take {listed : Array Bool} {l : List (Nat × Oper)} (h : Back ops listed l) (j : Nat) (hj : j < listed.size) : Back ops (listed.setIfInBounds j true) (l.filter fun x => x.1 != j) := by
  intro pre x post hl e he hb
  obtain ⟨pre', post', h1, h2, h3⟩ : ∃ pre' post', l = pre' ++ x :: post' ∧ pre'.filter (fun x => x.1 != j) = pre ∧ post'.filter (fun x => x.1 != j) = post := by
    clear h
    induction l generalizing pre with
    | nil => simp at hl
    | cons y l ih =>
      by_cases hy : (y.1 != j) = true
      · rw [List.filter_cons_of_pos (p := fun x : Nat × Oper => x.1 != j) hy] at hl
        cases pre with
        | nil =>
          simp only [List.nil_append, List.cons.injEq] at hl
          exact ⟨[], l, by rw [hl.1]; rfl, rfl, hl.2⟩
        | cons z pre =>
          simp only [List.cons_append, List.cons.injEq] at hl
          obtain ⟨a, b, h1, h2, h3⟩ := ih pre hl.2
          exact ⟨y :: a, b, by rw [h1]; rfl, by rw [List.filter_cons_of_pos (p := fun x : Nat × Oper => x.1 != j) hy, h2, hl.1], h3⟩
      · rw [List.filter_cons_of_neg (p := fun x : Nat × Oper => x.1 != j) hy] at hl
        obtain ⟨a, b, h1, h2, h3⟩ := ih pre hl
        exact ⟨y :: a, b, by rw [h1]; rfl, by rw [List.filter_cons_of_neg (p := fun x : Nat × Oper => x.1 != j) hy, h2], h3⟩
  rcases h pre' x post' h1 e he hb with h4 | ⟨y, hy, hye⟩
  · left
    by_cases hej : j = e.on
    · subst hej; simp [Array.getD, hj]
    · rw [getD_set_ne false hej]; exact h4
  · by_cases hyj : y.1 = j
    · left
      rw [← hye, hyj]
      simp [Array.getD, hj]
    · right
      exact ⟨y, by rw [← h2]; exact List.mem_filter.2 ⟨hy, by simpa using hyj⟩, hye⟩

theorem wpAny_of_N (hsel : ∀ (j : Nat) (o : Oper) cs b, ops[j]? = some o → o.op ≠ .select cs b) {n g : Nat} {Q' : Exit → Act → World → Prop} {Q : Act → World → Prop}
    (hwait : ∀ listed, HeadInv .any ops n listed → ∀ i, i < n → listed.getD i true = false → ∀ t, n ≤ t → t ∉ Region.ready .any ops listed)
    (hend : ∀ listed a w, LeftN ops n listed [] → Q a w → wpAny P .any ops Q' g listed a w) :
    ∀ (f : Nat) (listed : Array Bool) (l : List (Nat × Oper)) (ys : List Nat) (F : World → Prop) (a : Act) (w : World), LeftN ops n listed l → Back ops listed l → l.length = f → Below W.heap.size W w → F w → (∀ w w', F w → Below w.heap.size w w' → F w') → (∀ y ∈ ys, y < w.heap.size) →
      wpN P ops W Q l ys F a → wpAny P .any ops Q' (f + g) listed a w
  | 0, listed, l, ys, F, a, w, hL, hBk, hl, hb, hF, hst, hys, hN => by
    have : l = [] := List.length_eq_zero_iff.1 hl
    subst this
    rw [Nat.zero_add]
    exact hend listed a w hL (hN w hb hF)
  | f + 1, listed, l, ys, F, a, w, hL, hBk, hl, hb, hF, hst, hys, hN => by
    rw [show f + 1 + g = (f + g) + 1 by omega]
    refine ⟨fun h0 => ?_, fun i hi => ?_⟩
    · exfalso
      match l, hl, hL, hBk with
      | (i, o) :: rest, _, hL, hBk =>
        have : i ∈ Region.ready .any ops listed := mem_ready.2 ⟨hL.un (i, o) List.mem_cons_self, o, hL.at_ (i, o) List.mem_cons_self, fun e he hbn => by
          rcases hBk [] (i, o) rest rfl e he hbn with h | ⟨y, hy, _⟩
          · exact h
          · cases hy⟩
        rw [h0] at this
        cases this
    · obtain ⟨hun, o, ho, _⟩ := mem_ready.1 hi
      have hin : i < n := by
        rcases Nat.lt_or_ge i n with h | h
        · exact h
        · match l, hl, hL with
          | (k, ok) :: rest, _, hL => exact absurd hi (hwait listed hL.inv k (hL.lt (k, ok) List.mem_cons_self) (hL.un (k, ok) List.mem_cons_self) i h)
      have hmem := hL.all i o hin ho hun
      have hlen : (l.filter fun x => x.1 != i).length = f := by
        have := lenFilterN l i hL.pairs ⟨o, hmem⟩
        omega
      have hsz : i < listed.size := by rw [hL.inv.size]; exact (Array.getElem?_eq_some_iff.1 ho).1
      cases hm : mkB o with
      | false =>
        obtain ⟨v, hy, hN'⟩ := takeP hsel ho hi hm l ys F a hL.at_ hL.un hL.pairs hmem hN
        exact hy.wpOp ho hb (fun w' hb' => wpAny_of_N hsel hwait hend f _ _ ys F _ w' (hL.take hi hin) (hBk.take i hsz) hlen (hb.trans (hb'.mono hb.size)) (hst w w' hF hb') hst (fun y hy => Nat.lt_of_lt_of_le (hys y hy) hb'.size) hN')
      | true =>
        obtain ⟨obj, hy, hN'⟩ := takeM hsel ho hi hm l ys F a hL.at_ hL.un hL.pairs hmem hN
        have hA : Below w.heap.size w (w.alloc obj) := (Below.refl _ _).alloc (Nat.le_refl _) _
        refine hy.wpOp ho hb (wpAny_of_N hsel hwait hend f _ _ (w.heap.size :: ys) (fun w' => F w' ∧ Blk w' w.heap.size obj) _ _ (hL.take hi hin) (hBk.take i hsz) hlen (hb.trans (hA.mono hb.size)) ⟨hst w _ hF hA, heap_alloc_new _ _⟩ (fun w1 w2 h h' => ⟨hst w1 w2 h.1 h', h.2.kept h'⟩) (fun y hy => ?_) (hN' w.heap.size hb.size (fun h => Nat.lt_irrefl _ (hys _ h))))
        rcases List.mem_cons.1 hy with e | e
        · subst e; simp
        · have := hys y e; simp; omega

/-- The order of the walk: first what makes no block, then what makes one. -/
def makeOrder (l : List Oper) (n : Nat) : List (Nat × Oper) := (numbered (l.take n) 0).filter (fun x => !mkB x.2) ++ (numbered (l.take n) 0).filter (fun x => mkB x.2)
def fullTo (n size : Nat) : Array Bool := ((List.range size).map fun i => decide (i < n)).toArray
/-- The closed look at a region. -/
def makeB (l : List Oper) (n : Nat) : Bool :=
  Region.noSelect l.toArray && okPairs l.toArray (makeOrder l n) && okBack l.toArray (makeOrder l n) [] && (decide (n = l.length) || (decide (n < l.length) && Region.sinkB .any l.toArray n && Region.chainB .any l.toArray n)) && Region.seqB .any l.toArray (l.length - n) n (fullTo n l.length)

theorem okPairs_spec : ∀ l : List (Nat × Oper), okPairs ops l = true → l.Pairwise fun x y => okPair ops x y = true ∧ x.1 ≠ y.1
  | [], _ => List.Pairwise.nil
  | x :: l, h => by
    simp only [okPairs, Bool.and_eq_true] at h
    refine List.pairwise_cons.2 ⟨fun y hy => ?_, okPairs_spec l h.2⟩
    have := List.all_eq_true.1 h.1 y hy
    simp only [Bool.and_eq_true, bne_iff_ne] at this
    exact this
theorem okBack_spec : ∀ (l : List (Nat × Oper)) (seen : List Nat), okBack ops l seen = true → ∀ pre x post, l = pre ++ x :: post → ∀ e ∈ x.2.after, Region.binds .any e = true → e.on ∈ seen ∨ ∃ y ∈ pre, y.1 = e.on
  | [], _, _, pre, x, post, hl, _, _, _ => by simp at hl
  | y :: l, seen, h, pre, x, post, hl, e, he, hb => by
    simp only [okBack, Bool.and_eq_true] at h
    cases pre with
    | nil =>
      simp only [List.nil_append, List.cons.injEq] at hl
      have := Array.all_eq_true'.1 h.1 e (by rw [hl.1]; exact he)
      simp [hb] at this
      exact .inl this
    | cons z pre =>
      simp only [List.cons_append, List.cons.injEq] at hl
      rcases okBack_spec l (y.1 :: seen) h.2 pre x post hl.2 e he hb with h1 | ⟨u, hu, hue⟩
      · rcases List.mem_cons.1 h1 with h2 | h2
        · exact .inr ⟨z, List.mem_cons_self, by rw [← hl.1]; exact h2.symm⟩
        · exact .inl h2
      · exact .inr ⟨u, List.mem_cons_of_mem _ hu, hue⟩

theorem wp_region_make {id : Nat} {Q : Exit → Act → World → Prop} {a : Act} {w : World} {l : List Oper} (n : Nat) (hm : P.follows .mixedOrders = true) (hB : makeB l n = true)
    (h : wpN P l.toArray w (fun a' w' => wpList P l.toArray Q (l.drop n) a' w') (makeOrder l n) [] (fun _ => True) a) : (Code.region id l.toArray true).wp P Q a w := by
  simp only [makeB, Bool.and_eq_true, Bool.or_eq_true, decide_eq_true_eq] at hB
  obtain ⟨⟨⟨⟨hsel, hpr⟩, hbk⟩, hn⟩, hseq⟩ := hB
  have hn' : n ≤ l.length := by rcases hn with hn | hn <;> omega
  have hmem : ∀ x, x ∈ makeOrder l n ↔ x ∈ numbered (l.take n) 0 := fun x => by
    simp only [makeOrder, List.mem_append, List.mem_filter]
    cases mkB x.2 <;> simp
  have hin : ∀ x, x ∈ makeOrder l n → x.1 < n ∧ l[x.1]? = some x.2 := fun x hx => by
    have h1 := (numbered_mem (l.take n) 0 x.1 x.2).1 ((hmem x).1 hx)
    have h2 := h1.2
    simp only [Nat.sub_zero] at h2
    have hlt0 := (List.getElem?_eq_some_iff.1 h2).1
    rw [List.length_take] at hlt0
    have hlt : x.1 < n := by omega
    rw [List.getElem?_take] at h2
    simp [hlt] at h2
    exact ⟨hlt, h2⟩
  have inv0 : HeadInv .any l.toArray n (Array.replicate l.toArray.size false) :=
    ⟨by simp, fun j oj _ hl => (by rw [getD_replicate_false] at hl; cases hl), fun t _ ht => getD_in (by simpa using ht) (getD_replicate_false _ _)⟩
  have hL : LeftN l.toArray n (Array.replicate l.toArray.size false) (makeOrder l n) := by
    refine ⟨fun x hx => by simpa using (hin x hx).2, fun x hx => getD_in ?_ (getD_replicate_false _ _), fun x hx => (hin x hx).1, fun i o hi hio _ => ?_, okPairs_spec _ hpr, inv0⟩
    · have := (List.getElem?_eq_some_iff.1 (hin x hx).2).1
      simpa using this
    · refine (hmem _).2 ((numbered_mem (l.take n) 0 i o).2 ⟨by omega, ?_⟩)
      simp only [Nat.sub_zero]
      rw [List.getElem?_take]
      simpa [hi] using hio
  have hBk : Back l.toArray (Array.replicate l.toArray.size false) (makeOrder l n) := fun pre x post hl e he hb => by
    rcases okBack_spec _ _ hbk pre x post hl e he hb with h1 | h1
    · cases h1
    · exact .inr h1
  have hlen : (makeOrder l n).length = n := by
    have h1 : ∀ (m : List (Nat × Oper)), (m.filter (fun x => !mkB x.2)).length + (m.filter (fun x => mkB x.2)).length = m.length := fun m => by
      induction m with
      | nil => rfl
      | cons x m ih => cases hx : mkB x.2 <;> simp [hx] <;> omega
    rw [makeOrder, List.length_append, h1, numbered_length]
    simp; omega
  have hwait : ∀ listed, HeadInv .any l.toArray n listed → ∀ i, i < n → listed.getD i true = false → ∀ t, n ≤ t → t ∉ Region.ready .any l.toArray listed := by
    intro listed inv i hi hun t ht hr
    rcases hn with hn | hn
    · obtain ⟨_, ot, hot, _⟩ := mem_ready.1 hr
      have htlt : t < l.toArray.size := (Array.getElem?_eq_some_iff.1 hot).1
      simp at htlt
      omega
    · exact tail_waits hn.1.2 hn.2 (by simpa using hn.1.1) inv _ i rfl hi hun t ht hr
  have hdl : (l.drop n).length = l.length - n := by simp
  have hend : ∀ listed a w, LeftN l.toArray n listed [] → wpList P l.toArray Q (l.drop n) a w → wpAny P .any l.toArray Q (l.length - n) listed a w := fun listed a w hL0 hq => by
    have he : listed = fullTo n l.length := by
      apply Array.ext
      · rw [hL0.inv.size]; simp [fullTo]
      · intro i h1 h2
        have hi : i < l.length := by have := hL0.inv.size; simp at this; omega
        have hv : (fullTo n l.length)[i] = decide (i < n) := by simp [fullTo]
        rw [hv]
        by_cases hin : i < n
        · cases hb : listed[i] with
          | true => simp [hin]
          | false =>
            have := hL0.all i l[i] hin (by simp [hi]) (by simp [Array.getD, h1, hb])
            cases this
        · have := hL0.inv.tail i (by omega) (by simpa using hi)
          simp [Array.getD, h1] at this
          simp [this, hin]
    subst he
    have := wpAny_of_seq (md := .any) (P := P) (ops := l.toArray) (Q' := Q) (l.drop n) n (fullTo n l.length) a w (fun j => by simp [List.getElem?_drop]) (by rw [hdl]; exact hseq) hq
    rwa [hdl] at this
  refine wp_region_any hm ?_
  have := wpAny_of_N (W := w) (Q' := Q) (Region.noSelect_spec hsel) hwait hend n _ _ [] _ a w.drew hL hBk hlen (Below.refl _ _).drew trivial (fun _ _ _ _ => trivial) (fun y hy => by cases hy) h
  rw [show n + (l.length - n) = l.toArray.size by simp; omega] at this
  exact this

theorem wpN_nil {Q : Act → World → Prop} {ys : List Nat} {F : World → Prop} {a : Act} (h : ∀ w, Below W.heap.size W w → F w → Q a w) : wpN P ops W Q [] ys F a := h
theorem wpN_on {Q : Act → World → Prop} {ys : List Nat} {F : World → Prop} {a : Act} {i : Nat} {o : Oper} {rest : List (Nat × Oper)} (v : Value) (hmk : mkB o = false) (hw : Region.wanted o (yielded ops a.tmps) = true)
    (h : ∀ w, Below W.heap.size W w → ∀ K : Value → World → Prop, Hid (∀ w', Below w.heap.size w w' → K v w') → Oper.gAt P o a w K) (hr : wpN P ops W Q rest ys F (a.put o.dst v)) : wpN P ops W Q ((i, o) :: rest) ys F a := by
  refine .inl ⟨hmk, v, .inl ⟨hw, fun w hS => ?_⟩, hr⟩
  have h1 := h w hS (fun u w' => u = v ∧ Below w.heap.size w w') (fun w' hS' => ⟨rfl, hS'⟩)
  unfold Oper.gAt at h1
  generalize (execOp a.eval o).run P w = r at h1 ⊢
  cases r with
  | ok x w' =>
    cases x <;> simp only [gUponK] at h1 <;> simp only [bUpon]
    case value u => exact h1
    case skip => exact ⟨h1.1.symm, h1.2⟩
    case enter f args => exact h1.mono fun e w'' ⟨u, he, hu, hS''⟩ => ⟨by rw [he, hu], hS''⟩
  | halt x w' => simp only [gUponK] at h1
theorem wpN_off {Q : Act → World → Prop} {ys : List Nat} {F : World → Prop} {a : Act} {i : Nat} {o : Oper} {rest : List (Nat × Oper)} (hmk : mkB o = false) (hw : Region.wanted o (yielded ops a.tmps) = false) (hr : wpN P ops W Q rest ys F (a.put o.dst undef)) : wpN P ops W Q ((i, o) :: rest) ys F a :=
  .inl ⟨hmk, undef, .inr ⟨hw, rfl⟩, hr⟩
theorem wpN_new {Q : Act → World → Prop} {ys : List Nat} {F : World → Prop} {a : Act} {i : Nat} {o : Oper} {rest : List (Nat × Oper)} (obj : Obj) (hmk : mkB o = true) (hw : Region.wanted o (yielded ops a.tmps) = true)
    (h : ∀ w, Below W.heap.size W w → ∀ K : Value → World → Prop, Hid (K (mkOf o w.heap.size) (w.alloc obj)) → Oper.sAt P o a w K)
    (hr : ∀ x, W.heap.size ≤ x → x ∉ ys → wpN P ops W Q rest (x :: ys) (fun w => F w ∧ Blk w x obj) (a.put o.dst (mkOf o x))) : wpN P ops W Q ((i, o) :: rest) ys F a := by
  refine .inr ⟨hmk, obj, ⟨hw, fun w hS => ?_⟩, hr⟩
  have h1 := h w hS (fun u w' => u = mkOf o w.heap.size ∧ w' = w.alloc obj) ⟨rfl, rfl⟩
  unfold Oper.sAt at h1
  generalize (execOp a.eval o).run P w = r at h1 ⊢
  cases r with
  | ok x w' =>
    cases x <;> simp only [stilK] at h1
    case value u => obtain ⟨rfl, rfl⟩ := h1; rfl
    case skip => exfalso; have := h1.1; unfold mkOf at this; split at this <;> cases this
  | halt x w' => simp only [stilK] at h1
end
end Go.Proofs.YtflegfoalkkkdaaDoor
