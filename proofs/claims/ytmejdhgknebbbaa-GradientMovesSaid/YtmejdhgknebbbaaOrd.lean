/- A region that draws its order: a head, walked in an order that is given (what makes no block, then what makes one), and a forced tail; head and tail are lists of numbers, in whatever places of the text. -/
import Derived.Test.YtmejdhgknebbbaaMake
namespace Go.Proofs.Ytmejdhgknebbbaa
open Go.RowKit
set_option linter.unusedVariables false

section
variable {P : Program} {ops : Array Oper} {W : World}

/-- The operations of these numbers. -/
def picked (l : List Oper) : List Nat → List (Nat × Oper)
  | [] => []
  | i :: r => match l[i]? with
    | some o => (i, o) :: picked l r
    | none => picked l r
def opsAt (l : List Oper) : List Nat → List Oper
  | [] => []
  | i :: r => match l[i]? with
    | some o => o :: opsAt l r
    | none => opsAt l r
theorem picked_mem (l : List Oper) : ∀ (h : List Nat) (i : Nat) (o : Oper), (i, o) ∈ picked l h ↔ i ∈ h ∧ l[i]? = some o
  | [], i, o => by simp [picked]
  | j :: h, i, o => by
    have ih := picked_mem l h i o
    simp only [picked]
    split
    · rename_i oj hj
      simp only [List.mem_cons, Prod.mk.injEq, ih]
      constructor
      · rintro (⟨rfl, rfl⟩ | ⟨h1, h2⟩)
        · exact ⟨.inl rfl, hj⟩
        · exact ⟨.inr h1, h2⟩
      · rintro ⟨rfl | h1, h2⟩
        · exact .inl ⟨rfl, (Option.some.inj (hj.symm.trans h2)).symm⟩
        · exact .inr ⟨h1, h2⟩
    · rename_i hj
      rw [ih, List.mem_cons]
      constructor
      · rintro ⟨h1, h2⟩
        exact ⟨.inr h1, h2⟩
      · rintro ⟨rfl | h1, h2⟩
        · rw [hj] at h2; cases h2
        · exact ⟨h1, h2⟩

structure OInv (ops : Array Oper) (tl : List Nat) (listed : Array Bool) : Prop where
  size : listed.size = ops.size
  closed : ∀ j oj, ops[j]? = some oj → listed.getD j false = true → ∀ e ∈ oj.after, Region.binds .any e = true → listed.getD e.on false = true
  tail : ∀ t, t ∈ tl → t < ops.size → listed.getD t true = false
theorem OInv.set {tl : List Nat} {i : Nat} {listed : Array Bool} (inv : OInv ops tl listed) (hi : i ∈ Region.ready .any ops listed) (hin : i ∉ tl) : OInv ops tl (listed.setIfInBounds i true) := by
  obtain ⟨_, oi, hoi, hall⟩ := mem_ready.1 hi
  refine ⟨by simp [inv.size], fun j oj hj hl e he hb => ?_, fun t ht ht' => by rw [getD_set_ne true (show i ≠ t from fun h => hin (by rw [h]; exact ht))]; exact inv.tail t ht ht'⟩
  by_cases hij : i = j
  · subst hij
    have : oj = oi := Option.some.inj (hj.symm.trans hoi)
    subst this
    exact getD_set_true (hall e he hb)
  · rw [getD_set_ne false hij] at hl
    exact getD_set_true (inv.closed j oj hj hl e he hb)

/-- All that is waited for, from above down. -/
def cloDown (ops : Array Oper) : Nat → List Nat → List Nat
  | 0, s => s
  | i + 1, s => if s.any (fun j => Region.waitsFor .any ops j i) then cloDown ops i (i :: s) else cloDown ops i s
theorem cloDown_listed {tl : List Nat} {listed : Array Bool} {t : Nat} (inv : OInv ops tl listed) (hr : t ∈ Region.ready .any ops listed) :
    ∀ (i : Nat) (s : List Nat), (∀ x ∈ s, x = t ∨ listed.getD x false = true) → ∀ x ∈ cloDown ops i s, x = t ∨ listed.getD x false = true
  | 0, s, h => h
  | i + 1, s, h => by
    unfold cloDown
    split
    · rename_i ha
      refine cloDown_listed inv hr i _ (fun x hx => ?_)
      rcases List.mem_cons.1 hx with rfl | hx
      · right
        obtain ⟨j, hj, hw⟩ := List.any_eq_true.1 ha
        obtain ⟨oj, hoj, e, he, hb, hon⟩ := Region.waitsFor_spec hw
        rcases h j hj with rfl | hl
        · obtain ⟨_, ot, hot, hall⟩ := mem_ready.1 hr
          have : oj = ot := Option.some.inj (hoj.symm.trans hot)
          subst this
          exact hon ▸ hall e he hb
        · exact hon ▸ inv.closed j oj hoj hl e he hb
      · exact h x hx
    · exact cloDown_listed inv hr i _ h
/-- Each of the tail waits for another one of the tail, or for all of the head. -/
def waitB (ops : Array Oper) (hd tl : List Nat) : Bool :=
  tl.all fun t => (tl.any fun u => Region.waitsFor .any ops t u) || (hd.all fun i => (cloDown ops ops.size [t]).contains i)
theorem waits {hd tl : List Nat} {listed : Array Bool} (hw : waitB ops hd tl = true) (hdis : ∀ i ∈ hd, i ∉ tl) (hlt : ∀ t ∈ tl, t < ops.size) (inv : OInv ops tl listed) (i : Nat) (hi : i ∈ hd) (hun : listed.getD i true = false) (t : Nat) (ht : t ∈ tl) : t ∉ Region.ready .any ops listed := by
  intro hr
  have h1 := List.all_eq_true.1 hw t ht
  simp only [Bool.or_eq_true] at h1
  rcases h1 with h1 | h1
  · obtain ⟨u, hu, hwf⟩ := List.any_eq_true.1 h1
    obtain ⟨oj, hoj, e, he, hb, hon⟩ := Region.waitsFor_spec hwf
    obtain ⟨_, ot, hot, hall⟩ := mem_ready.1 hr
    have : oj = ot := Option.some.inj (hoj.symm.trans hot)
    subst this
    have h2 := hall e he hb
    rw [hon, getD_both (inv.tail u hu (hlt u hu))] at h2
    cases h2
  · have h2 := List.all_eq_true.1 h1 i hi
    have h3 : i ∈ cloDown ops ops.size [t] := by simpa using h2
    rcases cloDown_listed inv hr ops.size [t] (fun x hx => .inl (by simpa using hx)) i h3 with rfl | h4
    · exact hdis i hi ht
    · rw [getD_both hun] at h4; cases h4

structure LeftO (ops : Array Oper) (tl : List Nat) (listed : Array Bool) (l : List (Nat × Oper)) : Prop where
  at_ : ∀ x ∈ l, ops[x.1]? = some x.2
  un : ∀ x ∈ l, listed.getD x.1 true = false
  lt : ∀ x ∈ l, x.1 ∉ tl
  all : ∀ i o, i ∉ tl → ops[i]? = some o → listed.getD i true = false → (i, o) ∈ l
  pairs : l.Pairwise fun x y => okPair ops x y = true ∧ x.1 ≠ y.1
  inv : OInv ops tl listed

theorem LeftO.take {tl : List Nat} {listed : Array Bool} {l : List (Nat × Oper)} (h : LeftO ops tl listed l) {j : Nat} (hj : j ∈ Region.ready .any ops listed) (hjn : j ∉ tl) : LeftO ops tl (listed.setIfInBounds j true) (l.filter fun x => x.1 != j) := by
  refine ⟨fun x hx => h.at_ x (List.mem_filter.1 hx).1, fun x hx => ?_, fun x hx => h.lt x (List.mem_filter.1 hx).1, fun i o hin hi hun => ?_, h.pairs.filter _, h.inv.set hj hjn⟩
  · have h1 := List.mem_filter.1 hx
    have hne : j ≠ x.1 := fun e => by simp [e] at h1
    rw [getD_set_ne true hne]
    exact h.un x h1.1
  · have hne : j ≠ i := fun e => by
      subst e
      have hlt : j < listed.size := by rw [h.inv.size]; exact (Array.getElem?_eq_some_iff.1 hi).1
      simp [Array.getD, hlt] at hun
    rw [getD_set_ne true hne] at hun
    exact List.mem_filter.2 ⟨h.all i o hin hi hun, by simp; omega⟩

theorem wpAny_of_O (hsel : ∀ (j : Nat) (o : Oper) cs b, ops[j]? = some o → o.op ≠ .select cs b) {tl : List Nat} {g : Nat} {Q' : Exit → Act → World → Prop} {Q : Act → World → Prop}
    {hd : List Nat} (hwait : ∀ listed, OInv ops tl listed → ∀ i o, ops[i]? = some o → i ∉ tl → listed.getD i true = false → i ∈ hd → ∀ t, t ∈ tl → t ∉ Region.ready .any ops listed)
    (hend : ∀ listed a w, LeftO ops tl listed [] → Q a w → wpAny P .any ops Q' g listed a w) :
    ∀ (f : Nat) (listed : Array Bool) (l : List (Nat × Oper)) (ys : List Nat) (F : World → Prop) (a : Act) (w : World), LeftO ops tl listed l → (∀ x ∈ l, x.1 ∈ hd) → Back ops listed l → l.length = f → Below W.heap.size W w → F w → (∀ w w', F w → Below w.heap.size w w' → F w') → (∀ y ∈ ys, y < w.heap.size) →
      wpN P ops W Q l ys F a → wpAny P .any ops Q' (f + g) listed a w
  | 0, listed, l, ys, F, a, w, hL, hLh, hBk, hl, hb, hF, hst, hys, hN => by
    have : l = [] := List.length_eq_zero_iff.1 hl
    subst this
    rw [Nat.zero_add]
    exact hend listed a w hL (hN w hb hF)
  | f + 1, listed, l, ys, F, a, w, hL, hLh, hBk, hl, hb, hF, hst, hys, hN => by
    rw [show f + 1 + g = (f + g) + 1 by omega]
    refine ⟨fun h0 => ?_, fun i hi => ?_⟩
    · exfalso
      match l, hl, hL, hBk with
      | (i, o) :: rest, _, hL, hBk =>
        have : i ∈ Region.ready .any ops listed := mem_ready.2 ⟨hL.un (i, o) List.mem_cons_self, o, hL.at_ (i, o) List.mem_cons_self, fun e he hbn => by
          rcases hBk [] (i, o) rest rfl e he hbn with h | ⟨y, hy, _⟩
          · exact h
          · cases hy⟩
        rw [h0] at this
        cases this
    · obtain ⟨hun, o, ho, _⟩ := mem_ready.1 hi
      have hin : i ∉ tl := fun h => by
        match l, hl, hL, hLh with
        | (k, ok) :: rest, _, hL, hLh => exact absurd hi (hwait listed hL.inv k ok (hL.at_ (k, ok) List.mem_cons_self) (hL.lt (k, ok) List.mem_cons_self) (hL.un (k, ok) List.mem_cons_self) (hLh (k, ok) List.mem_cons_self) i h)
      have hmem := hL.all i o hin ho hun
      have hlen : (l.filter fun x => x.1 != i).length = f := by
        have := lenFilterN l i hL.pairs ⟨o, hmem⟩
        omega
      have hsz : i < listed.size := by rw [hL.inv.size]; exact (Array.getElem?_eq_some_iff.1 ho).1
      cases hm : mkB o with
      | false =>
        obtain ⟨v, hy, hN'⟩ := takeP hsel ho hi hm l ys F a hL.at_ hL.un hL.pairs hmem hN
        exact hy.wpOp ho hb (fun w' hb' => wpAny_of_O hsel hwait hend f _ _ ys F _ w' (hL.take hi hin) (fun x hx => hLh x (List.mem_filter.1 hx).1) (hBk.take i hsz) hlen (hb.trans (hb'.mono hb.size)) (hst w w' hF hb') hst (fun y hy => Nat.lt_of_lt_of_le (hys y hy) hb'.size) hN')
      | true =>
        obtain ⟨obj, hy, hN'⟩ := takeM hsel ho hi hm l ys F a hL.at_ hL.un hL.pairs hmem hN
        have hA : Below w.heap.size w (w.alloc obj) := (Below.refl _ _).alloc (Nat.le_refl _) _
        refine hy.wpOp ho hb (wpAny_of_O hsel hwait hend f _ _ (w.heap.size :: ys) (fun w' => F w' ∧ Blk w' w.heap.size obj) _ _ (hL.take hi hin) (fun x hx => hLh x (List.mem_filter.1 hx).1) (hBk.take i hsz) hlen (hb.trans (hA.mono hb.size)) ⟨hst w _ hF hA, heap_alloc_new _ _⟩ (fun w1 w2 h h' => ⟨hst w1 w2 h.1 h', h.2.kept h'⟩) (fun y hy => ?_) (hN' w.heap.size hb.size (fun h => by have := hys _ h; omega)))
        rcases List.mem_cons.1 hy with e | e
        · subst e; simp
        · have := hys y e; simp; omega

/-- The tail is forced. -/
def seqL (ops : Array Oper) : List Nat → Array Bool → Bool
  | [], listed => (Region.ready .any ops listed).isEmpty
  | t :: ts, listed => decide (Region.ready .any ops listed = [t]) && seqL ops ts (listed.setIfInBounds t true)
theorem wpAny_of_seqL {Q' : Exit → Act → World → Prop} {l : List Oper} : ∀ (ts : List Nat) (listed : Array Bool) (a : Act) (w : World), (∀ t ∈ ts, t < l.length) →
    seqL l.toArray ts listed = true → wpList P l.toArray Q' (opsAt l ts) a w → wpAny P .any l.toArray Q' ts.length listed a w
  | [], _, _, _, _, hB, h => ⟨by simpa [seqL] using hB, h⟩
  | t :: ts, listed, a, w, hlt, hB, h => by
    have ht := hlt t List.mem_cons_self
    have h0 : l[t]? = some l[t] := List.getElem?_eq_getElem ht
    simp only [opsAt, h0] at h
    simp only [seqL, Bool.and_eq_true, decide_eq_true_eq] at hB
    refine ⟨fun h1 => (by rw [hB.1] at h1; cases h1), fun i hi => ?_⟩
    rw [hB.1] at hi
    have hik : i = t := by simpa using hi
    subst hik
    have h00 : l.toArray[i]? = some l[i] := by simp
    have hw : wpOp P l.toArray Q' i (wpList P l.toArray Q' (opsAt l ts)) a w := by unfold wpOp; simp only [h00]; exact h
    exact wpOp_mono (fun a' w' h' => wpAny_of_seqL ts _ a' w' (fun t ht => hlt t (List.mem_cons_of_mem _ ht)) hB.2 h') hw

def fullBut (tl : List Nat) (size : Nat) : Array Bool := ((List.range size).map fun i => !tl.contains i).toArray
/-- What looks at no memory may be run first, one after the other. -/
def marks : List Nat → Array Bool → Array Bool
  | [], listed => listed
  | j :: r, listed => marks r (listed.setIfInBounds j true)
def floatB (ops : Array Oper) : List Nat → Array Bool → Bool
  | [], _ => true
  | j :: r, listed => Region.free .any ops listed j && (Region.ready .any ops listed).contains j && floatB ops r (listed.setIfInBounds j true)
def wpFl (P : Program) (ops : Array Oper) (C : Act → Prop) : List (Nat × Oper) → Act → Prop
  | [], a => C a
  | (_, o) :: rest, a => ∃ v, Yields P ops o v a ∧ wpFl P ops C rest (a.put o.dst v)
theorem marks_size : ∀ (fl : List Nat) (listed : Array Bool), (marks fl listed).size = listed.size
  | [], _ => rfl
  | j :: r, listed => by rw [marks, marks_size r]; simp
theorem marks_getD : ∀ (fl : List Nat) (listed : Array Bool) (i : Nat) (d : Bool), i < listed.size → (marks fl listed).getD i d = (decide (i ∈ fl) || listed.getD i d)
  | [], _, _, _, _ => by simp [marks]
  | j :: r, listed, i, d, hi => by
    rw [marks, marks_getD r _ i d (by simpa using hi)]
    by_cases e : j = i
    · subst e
      simp [Array.getD, hi]
    · rw [getD_set_ne d e]
      have : i ≠ j := fun h => e h.symm
      simp [this]
theorem wpAny_of_float {Q' : Exit → Act → World → Prop} {l : List Oper} (hsel : Region.noSelect l.toArray = true) (hQ : ∀ c a d v w, Q' (.panic c) (a.put d v) w → Q' (.panic c) a w) :
    ∀ (fl : List Nat) (listed : Array Bool) (a : Act) (w : World) (g : Nat) (C : Act → Prop), (∀ j ∈ fl, j < l.length) → floatB l.toArray fl listed = true → wpFl P l.toArray C (picked l fl) a →
      (∀ a', C a' → wpAny P .any l.toArray Q' g (marks fl listed) a' w) → wpAny P .any l.toArray Q' (fl.length + g) listed a w
  | [], listed, a, w, g, C, _, _, h, hc => by rw [List.length_nil, Nat.zero_add]; exact hc a h
  | j :: r, listed, a, w, g, C, hlt, hB, h, hc => by
    have hj := hlt j List.mem_cons_self
    have h0 : l[j]? = some l[j] := List.getElem?_eq_getElem hj
    simp only [picked, h0] at h
    obtain ⟨v, hy, hr⟩ := h
    simp only [floatB, Bool.and_eq_true] at hB
    rw [show (j :: r).length + g = (r.length + g) + 1 by simp; omega]
    exact wpAny_take (by simp [hj]) hsel hB.1.1 hB.1.2 (fun c a w => hQ c a _ _ w) hy (wpAny_of_float hsel hQ r _ _ w g C (fun i hi => hlt i (List.mem_cons_of_mem _ hi)) hB.2 hr hc)

/-- The closed look at a region. -/
def ordB (l : List Oper) (fl hd tl : List Nat) : Bool :=
  Region.noSelect l.toArray && okPairs l.toArray (picked l hd) && okBack l.toArray (picked l hd) fl && waitB l.toArray hd tl && (hd.all fun i => !tl.contains i && !fl.contains i) && (tl.all fun t => decide (t < l.length) && !fl.contains t) && ((List.range l.length).all fun i => fl.contains i || hd.contains i || tl.contains i) && decide (fl.length + ((picked l hd).length + tl.length) = l.length) && seqL l.toArray tl (fullBut tl l.length)
   && floatB l.toArray fl (Array.replicate l.length false) && (fl.all fun j => decide (j < l.length)) && (fl.all fun j => match l[j]? with | some o => o.after.all (fun e => !Region.binds .any e || (fl.contains e.on && decide (e.on < l.length))) | none => true)

theorem wp_region_ord {id : Nat} {Q : Exit → Act → World → Prop} {a : Act} {w : World} {l : List Oper} (fl hd tl : List Nat) (hQ : fl ≠ [] → ∀ c a d v w, Q (.panic c) (a.put d v) w → Q (.panic c) a w) (hm : P.follows .mixedOrders = true) (hB : ordB l fl hd tl = true)
    (h : wpFl P l.toArray (fun a => wpN P l.toArray w (fun a' w' => wpList P l.toArray Q (opsAt l tl) a' w') (picked l hd) [] (fun _ => True) a) (picked l fl) a) : (Code.region id l.toArray true).wp P Q a w := by
  simp only [ordB, Bool.and_eq_true] at hB
  obtain ⟨⟨⟨⟨⟨⟨⟨⟨⟨⟨⟨hsel, hpr⟩, hbk⟩, hwt⟩, hdis0⟩, htl0⟩, hall0⟩, hlen0⟩, hseq⟩, hflB⟩, hfl0⟩, hflc⟩ := hB
  have hdis : ∀ i ∈ hd, i ∉ tl ∧ i ∉ fl := fun i hi => by simpa using List.all_eq_true.1 hdis0 i hi
  have htl : ∀ t ∈ tl, t < l.length ∧ t ∉ fl := fun t ht => by simpa using List.all_eq_true.1 htl0 t ht
  have hall : ∀ i, i < l.length → (i ∈ fl ∨ i ∈ hd) ∨ i ∈ tl := fun i hi => by simpa using List.all_eq_true.1 hall0 i (List.mem_range.2 hi)
  have hlen : fl.length + ((picked l hd).length + tl.length) = l.length := of_decide_eq_true hlen0
  have hfl : ∀ j ∈ fl, j < l.length := fun j hj => of_decide_eq_true (List.all_eq_true.1 hfl0 j hj)
  have hLsz : (marks fl (Array.replicate l.length false)).size = l.toArray.size := by rw [marks_size]; simp
  have hLg : ∀ i d, i < l.length → (marks fl (Array.replicate l.length false)).getD i d = decide (i ∈ fl) := fun i d hi => by
    rw [marks_getD fl _ i d (by simpa using hi)]
    simp [Array.getD, hi]
  have hLout : ∀ i, ¬ i < l.length → (marks fl (Array.replicate l.length false)).getD i false = false := fun i hi => by
    rw [Array.getD, dif_neg (by rw [hLsz]; simpa using hi)]
  have inv0 : OInv l.toArray tl (marks fl (Array.replicate l.length false)) := by
    refine ⟨hLsz, fun j oj hj hl e he hb => ?_, fun t ht htlt => ?_⟩
    · have hj' : l[j]? = some oj := by simpa using hj
      have hjlt := (List.getElem?_eq_some_iff.1 hj').1
      rw [hLg j false hjlt] at hl
      have h1 := List.all_eq_true.1 hflc j (of_decide_eq_true hl)
      rw [hj'] at h1
      have h2 := Array.all_eq_true'.1 h1 e he
      simp [hb] at h2
      rw [hLg e.on false h2.2]
      simpa using h2.1
    · rw [hLg t true (htl t ht).1]
      simpa using (htl t ht).2
  have hL : LeftO l.toArray tl (marks fl (Array.replicate l.length false)) (picked l hd) := by
    refine ⟨fun x hx => by simpa using ((picked_mem l hd x.1 x.2).1 hx).2, fun x hx => ?_, fun x hx => (hdis _ ((picked_mem l hd x.1 x.2).1 hx).1).1, fun i o hi hio hun => ?_, okPairs_spec _ hpr, inv0⟩
    · have h1 := (picked_mem l hd x.1 x.2).1 hx
      rw [hLg x.1 true (List.getElem?_eq_some_iff.1 h1.2).1]
      simpa using (hdis _ h1.1).2
    · have hio' : l[i]? = some o := by simpa using hio
      have hilt := (List.getElem?_eq_some_iff.1 hio').1
      rw [hLg i true hilt] at hun
      refine (picked_mem l hd i o).2 ⟨?_, hio'⟩
      rcases hall i hilt with (h1 | h1) | h1
      · simp [h1] at hun
      · exact h1
      · exact absurd h1 hi
  have hBk : Back l.toArray (marks fl (Array.replicate l.length false)) (picked l hd) := fun pre x post hl e he hb => by
    rcases okBack_spec _ _ hbk pre x post hl e he hb with h1 | h1
    · left
      rw [hLg e.on false (hfl _ h1)]
      simpa using h1
    · exact .inr h1
  have hwait : ∀ listed, OInv l.toArray tl listed → ∀ i o, l.toArray[i]? = some o → i ∉ tl → listed.getD i true = false → i ∈ hd → ∀ t, t ∈ tl → t ∉ Region.ready .any l.toArray listed := by
    intro listed inv i o hio hi hun hih t ht
    exact waits hwt (fun i hi => (hdis i hi).1) (fun t ht => by simpa using (htl t ht).1) inv i hih hun t ht
  have hend : ∀ listed a w, LeftO l.toArray tl listed [] → wpList P l.toArray Q (opsAt l tl) a w → wpAny P .any l.toArray Q tl.length listed a w := fun listed a w hL0 hq => by
    have he : listed = fullBut tl l.length := by
      apply Array.ext
      · rw [hL0.inv.size]; simp [fullBut]
      · intro i h1 h2
        have hi : i < l.length := by have := hL0.inv.size; simp at this; omega
        have hv : (fullBut tl l.length)[i] = !tl.contains i := by simp [fullBut]
        rw [hv]
        by_cases hin : i ∈ tl
        · have := hL0.inv.tail i hin (by simpa using hi)
          simp [Array.getD, h1] at this
          simp [this, hin]
        · cases hb : listed[i] with
          | true => simp [hin]
          | false =>
            have := hL0.all i l[i] hin (by simp [hi]) (by simp [Array.getD, h1, hb])
            cases this
    subst he
    exact wpAny_of_seqL tl _ a w (fun t ht => (htl t ht).1) hseq hq
  refine wp_region_any hm ?_
  have hO : ∀ a', wpN P l.toArray w (fun a' w' => wpList P l.toArray Q (opsAt l tl) a' w') (picked l hd) [] (fun _ => True) a' → wpAny P .any l.toArray Q ((picked l hd).length + tl.length) (marks fl (Array.replicate l.length false)) a' w.drew := fun a' hc =>
    wpAny_of_O (W := w) (Q' := Q) (Region.noSelect_spec hsel) (hd := hd) hwait hend (picked l hd).length _ _ [] _ a' w.drew hL (fun x hx => ((picked_mem l hd x.1 x.2).1 hx).1) hBk rfl (Below.refl _ _).drew trivial (fun _ _ _ _ => trivial) (fun y hy => by cases hy) hc
  have : wpAny P .any l.toArray Q (fl.length + ((picked l hd).length + tl.length)) (Array.replicate l.length false) a w.drew := by
    by_cases hf : fl = []
    · subst hf
      rw [List.length_nil, Nat.zero_add]
      exact hO a h
    · exact wpAny_of_float (Q' := Q) hsel (hQ hf) fl (Array.replicate l.length false) a w.drew ((picked l hd).length + tl.length) _ hfl hflB h hO
  rw [hlen] at this
  simpa using this

theorem wpFl_nil {C : Act → Prop} {a : Act} (h : C a) : wpFl P ops C [] a := h
/-- What one operation comes to that gives a value, at this world alone. -/
def valK (K : Value → World → Prop) : Result Next → Prop
  | .ok (.value u) w' => K u w'
  | _ => False
def Oper.vAt (P : Program) (o : Oper) (a : Act) (w : World) (K : Value → World → Prop) : Prop := valK K ((execOp a.eval o).run P w)
theorem wpFl_on {C : Act → Prop} {a : Act} {i : Nat} {o : Oper} {rest : List (Nat × Oper)} (v : Value) (hw : Region.wanted o (yielded ops a.tmps) = true)
    (h : ∀ w, ∀ K : Value → World → Prop, Hid (K v w) → Oper.vAt P o a w K) (hr : wpFl P ops C rest (a.put o.dst v)) : wpFl P ops C ((i, o) :: rest) a := by
  refine ⟨v, .inl ⟨hw, fun w => ?_⟩, hr⟩
  have h1 := h w (fun u w' => u = v ∧ w' = w) ⟨rfl, rfl⟩
  unfold Oper.vAt at h1
  generalize (execOp a.eval o).run P w = r at h1 ⊢
  cases r with
  | ok x w' =>
    cases x <;> simp only [valK] at h1
    case value u => obtain ⟨rfl, rfl⟩ := h1; rfl
  | halt x w' => simp only [valK] at h1
end
end Go.Proofs.Ytmejdhgknebbbaa
