/- Several texts in one: Kit, Grow, Blk, Flow, Make, Ord, Frame, Open. -/
import Derived.Test.YtieacbccadbdbaaGreatDoorRows
import Derived.WalkKit
import Derived.WalkSpells
import Derived.WalkLawsBesides
import Derived.OneCell
import Derived.Lib.Hide
import Derived.Deep.QuietTactic
import Derived.BigQuiet
import Derived.Deep.Draws
import Derived.StillTail
import Derived.Below
import Derived.KernelRfl
import Derived.Laws.AppendOwn
import Derived.ProofKit
import Derived.OpenShut
import Derived.SizedLaws
import Derived.Lib.SmallJoins
import Derived.Deep.Slices
import Derived.Deep.Fields
import Derived.ChangeSame

/- Small facts on worlds and calls that the walks of this seat share. -/
namespace Go.Proofs.YtieacbccadbdbaaGreatDoor
open Go.RowKit
set_option linter.unusedVariables false

/-- A callee that leaves the world alone, met inside a region that draws its order. -/
theorem quietSame {P : Program} {f : FuncId} {args : Array Value} {w : World} {n : Nat} {v : Value}
    (h : Calls P f args (w.drewN n) fun e w' => e = .returned v ∧ w.drewN n = w') : Calls P f args (w.drewN n) fun e w'' => e = .returned v ∧ ∃ m, w'' = w.drewN m :=
  h.mono fun _ _ ⟨he, hm⟩ => ⟨he, n, hm.symm⟩
theorem quietSame2 {P : Program} {f : FuncId} {args : Array Value} {w : World} {a n : Nat} {v : Value}
    (h : Calls P f args (w.drewN (a + n)) fun e w' => e = .returned v ∧ w.drewN (a + n) = w') : Calls P f args (w.drewN (a + n)) fun e w'' => e = .returned v ∧ ∃ m, w'' = w.drewN (a + m) :=
  h.mono fun _ _ ⟨he, hm⟩ => ⟨he, n, hm.symm⟩

theorem ret_int {k : IntKind} {a b : Int} (h : a = b) : Ending.returned (.int k a) = .returned (.int k b) := by rw [h]
theorem ret_bool {a b : Bool} (h : a = b) : Ending.returned (.bool a) = .returned (.bool b) := by rw [h]

theorem belowN {B : Nat} {a w : World} (h : Below B a w) (n : Nat) : Below B a (w.drewN n) := ⟨h.os, h.tape, h.output, h.size, h.block⟩

/-- Cells and marks that were there before a call that only makes memory. -/
theorem oldCells {W w1 : World} (hb : Below W.heap.size W w1) : (∀ b o, b < W.heap.size → w1.cell? ⟨b, o, none⟩ = W.cell? ⟨b, o, none⟩) ∧ (∀ b o, b < W.heap.size → w1.frozen? ⟨b, o, none⟩ = W.frozen? ⟨b, o, none⟩) :=
  ⟨fun b o h => hb.cell (p := ⟨b, o, none⟩) h, fun b o h => hb.frozen (p := ⟨b, o, none⟩) h⟩

/-- Block b has become o; all else is as it was. -/
structure Chg (b : Nat) (o : Obj) (w w' : World) : Prop where
  os : w'.os = w.os
  tape : w'.tape = w.tape
  output : w'.output = w.output
  size : w'.heap.size = w.heap.size
  at_ : w'.heap[b]? = some o
  other : ∀ k, k ≠ b → w'.heap[k]? = w.heap[k]?

theorem Chg.below {b B : Nat} {o : Obj} {w w' : World} (h : Chg b o w w') (hB : B ≤ b) : Below B w w' :=
  ⟨h.os, h.tape, h.output, by rw [h.size]; exact Nat.le_refl _, fun k hk => h.other k (by omega)⟩

/-- A cell of a block that is known whole. -/
theorem cell_blk {w : World} {b i : Nat} {cs : Array Value} {t : TypeId} {m : Nat × Nat} {v : Value} (h : w.heap[b]? = some (.cells cs t m)) (hi : cs[i]? = some v) : w.cell? ⟨b, i, none⟩ = some v := by
  simp [World.cell?, h, hi]
theorem free_blk {w : World} {b i : Nat} {cs : Array Value} {t : TypeId} (h : w.heap[b]? = some (.cells cs t (0, 0))) : w.frozen? ⟨b, i, none⟩ = false := by
  simp [World.frozen?, h]
/-- A store into a block that is known whole. -/
theorem chg_set {w : World} {b i : Nat} {cs : Array Value} {t : TypeId} {m : Nat × Nat} (h : w.heap[b]? = some (.cells cs t m)) (u : Value) (hi : i < cs.size) : Chg b (.cells (cs.set i u) t m) w (w.setCell ⟨b, i, none⟩ u) := by
  refine ⟨rfl, rfl, rfl, by simp [World.setCell], ?_, fun k hk => Below.heap_setCell _ _ _ _ hk⟩
  have hlt := lt_of_block h
  have h' : w.heap[b] = .cells cs t m := by simpa [Array.getElem?_eq_getElem hlt] using h
  show (w.heap.modify b _)[b]? = _
  rw [Array.getElem?_eq_getElem (by simpa using hlt), Array.getElem_modify_self, h']
  simp [Array.setIfInBounds, hi]
/-- A block of four cells, written whole. -/
theorem set4 {w : World} {b : Nat} {x0 x1 x2 x3 : Value} {t : TypeId} {m : Nat × Nat} (h : w.heap[b]? = some (.cells #[x0, x1, x2, x3] t m)) (v0 v1 v2 v3 : Value) :
    Chg b (.cells #[v0, v1, v2, v3] t m) w ((((w.setCell ⟨b, 0, none⟩ v0).setCell ⟨b, 1, none⟩ v1).setCell ⟨b, 2, none⟩ v2).setCell ⟨b, 3, none⟩ v3) := by
  have h0 := chg_set h v0 (i := 0) (by simp)
  have h1 := chg_set h0.at_ v1 (i := 1) (by simp)
  have h2 := chg_set h1.at_ v2 (i := 2) (by simp)
  have h3 := chg_set h2.at_ v3 (i := 3) (by simp)
  exact ⟨rfl, rfl, rfl, by rw [h3.size, h2.size, h1.size, h0.size], h3.at_, fun k hk => by rw [h3.other k hk, h2.other k hk, h1.other k hk, h0.other k hk]⟩
theorem cells4 {w : World} {b : Nat} {x0 x1 x2 x3 : Value} {t : TypeId} (h : w.heap[b]? = some (.cells #[x0, x1, x2, x3] t (0, 0))) :
    w.cell? ⟨b, 0, none⟩ = some x0 ∧ w.cell? ⟨b, 1, none⟩ = some x1 ∧ w.cell? ⟨b, 2, none⟩ = some x2 ∧ w.cell? ⟨b, 3, none⟩ = some x3 ∧ ∀ o, w.frozen? ⟨b, o, none⟩ = false :=
  ⟨cell_blk h rfl, cell_blk h rfl, cell_blk h rfl, cell_blk h rfl, fun _ => free_blk h⟩
theorem Chg.drewN {b : Nat} {o : Obj} {w w' : World} (h : Chg b o w w') (n : Nat) : Chg b o w (w'.drewN n) := ⟨h.os, h.tape, h.output, h.size, h.at_, h.other⟩
theorem Chg.drewN' {b : Nat} {o : Obj} {w w' : World} {n : Nat} (h : Chg b o (w.drewN n) w') : Chg b o w w' := ⟨h.os, h.tape, h.output, h.size, h.at_, h.other⟩
end Go.Proofs.YtieacbccadbdbaaGreatDoor


/- A region that draws its order, whose operations (but for a forced tail) all keep one property of the world and give one value each: walked once, in the order of the text. Calls that make memory are let in. -/
namespace Go.Proofs.YtieacbccadbdbaaGreatDoor
open Go.RowKit
set_option linter.unusedVariables false

section
variable {P : Program} {ops : Array Oper} {md : Region.Mode} {S : World → Prop}

/-- What one operation comes to: the value v, and a world that has the property S. -/
def gUpon (P : Program) (S : World → Prop) (v : Value) : Result Next → Prop
  | .ok (.value u) w' => u = v ∧ S w'
  | .ok .skip w' => v = undef ∧ S w'
  | .ok (.enter f args) w' => Calls P f args w' fun e w'' => e = .returned v ∧ S w''
  | _ => False

def gYields (P : Program) (ops : Array Oper) (S : World → Prop) (o : Oper) (v : Value) (a : Act) : Prop :=
  (Region.wanted o (yielded ops a.tmps) = true ∧ ∀ w, S w → gUpon P S v ((execOp a.eval o).run P w)) ∨ (Region.wanted o (yielded ops a.tmps) = false ∧ v = undef)

def wpG (P : Program) (ops : Array Oper) (S : World → Prop) (Q : Act → Prop) : List Oper → Act → Prop
  | [], a => Q a
  | o :: rest, a => ∃ v, gYields P ops S o v a ∧ wpG P ops S Q rest (a.put o.dst v)

def wpAnyG (P : Program) (md : Region.Mode) (ops : Array Oper) (S : World → Prop) (n : Nat) (L : Array Bool → Act → Prop) : Nat → Array Bool → Act → Prop
  | 0, listed, a => L listed a
  | f + 1, listed, a => Region.ready md ops listed ≠ [] ∧ ∀ i ∈ Region.ready md ops listed, i < n ∧ ∃ o v, ops[i]? = some o ∧ gYields P ops S o v a ∧ wpAnyG P md ops S n L f (listed.setIfInBounds i true) (a.put o.dst v)

theorem gYields.same {o : Oper} {v : Value} {a a' : Act} (h : gYields P ops S o v a) (he : execOp a'.eval o = execOp a.eval o) (hw : Region.wanted o (yielded ops a'.tmps) = Region.wanted o (yielded ops a.tmps)) : gYields P ops S o v a' := by
  unfold gYields at *
  rw [he, hw]
  exact h

theorem gYields.wpOp {i : Nat} {o : Oper} {v : Value} {a : Act} {w : World} {K : Act → World → Prop} {Q' : Exit → Act → World → Prop} (hi : ops[i]? = some o) (hy : gYields P ops S o v a) (hS : S w) (hK : ∀ w', S w' → K (a.put o.dst v) w') :
    wpOp P ops Q' i K a w := by
  unfold Go.wpOp
  simp only [hi]
  rcases hy with ⟨hw, hr⟩ | ⟨hw, rfl⟩
  · simp only [hw, if_true]
    refine .inl ?_
    have h := hr w hS
    unfold Oper.wp
    generalize (execOp a.eval o).run P w = r at h ⊢
    cases r with
    | ok x w' =>
      cases x <;> simp only [gUpon] at h
      case value u => obtain ⟨rfl, h2⟩ := h; exact hK _ h2
      case skip => obtain ⟨rfl, h2⟩ := h; exact hK _ h2
      case enter f args => exact h.mono fun e w'' ⟨he, h2⟩ => by subst he; exact hK _ h2
    | halt x w' => simp only [gUpon] at h
  · simp only [hw, Bool.false_eq_true, if_false]
    exact hK _ hS

theorem wpAny_of_G {n g : Nat} {L : Array Bool → Act → Prop} {Q' : Exit → Act → World → Prop} (hL : ∀ listed a w, L listed a → S w → wpAny P md ops Q' g listed a w) :
    ∀ (f : Nat) (listed : Array Bool) (a : Act) (w : World), S w → wpAnyG P md ops S n L f listed a → wpAny P md ops Q' (f + g) listed a w
  | 0, listed, a, w, hS, h => by rw [Nat.zero_add]; exact hL _ _ _ h hS
  | f + 1, listed, a, w, hS, h => by
    rw [show f + 1 + g = (f + g) + 1 by omega]
    refine ⟨fun h0 => absurd h0 h.1, fun i hi => ?_⟩
    obtain ⟨_, o, v, ho, hy, hr⟩ := h.2 i hi
    exact hy.wpOp ho hS (fun w' hS' => wpAny_of_G hL f _ _ w' hS' hr)

theorem wpAnyG_first {n i : Nat} {oi : Oper} {v : Value} {L : Array Bool → Act → Prop} (hi : ops[i]? = some oi) (hsel : ∀ (j : Nat) (o : Oper) cs b, ops[j]? = some o → o.op ≠ .select cs b)
    (hwait : ∀ listed, HeadInv md ops n listed → listed.getD i true = false → ∀ t, n ≤ t → t ∉ Region.ready md ops listed)
    (hdone : ∀ listed a, L listed a → ∀ j ∈ Region.ready md ops listed, n ≤ j) :
    ∀ (f : Nat) (listed : Array Bool) (a : Act), HeadInv md ops n listed →
      (∀ j oj, ops[j]? = some oj → j ≠ i → listed.getD j true = false → (∀ e ∈ oj.after, Region.binds md e = true → e.on ≠ i) → oi.apart ops oj = true) →
      i ∈ Region.ready md ops listed → gYields P ops S oi v a →
      wpAnyG P md ops S n L f (listed.setIfInBounds i true) (a.put oi.dst v) → wpAnyG P md ops S n L (f + 1) listed a := by
  intro f
  induction f with
  | zero =>
    intro listed a inv _ hr hy H
    have hun := (mem_ready.1 hr).1
    refine ⟨fun h => (by rw [h] at hr; cases hr), fun j hj => ?_⟩
    have hjn : j < n := by
      rcases Nat.lt_or_ge j n with h | h
      · exact h
      · exact absurd hj (hwait listed inv hun j h)
    refine ⟨hjn, ?_⟩
    by_cases hji : j = i
    · subst hji; exact ⟨oi, v, hi, hy, H⟩
    · have := hdone _ _ H j (ready_mono hj hji)
      omega
  | succ f ih =>
    intro listed a inv hfree hr hy H
    have hun := (mem_ready.1 hr).1
    refine ⟨fun h => (by rw [h] at hr; cases hr), fun j hj => ?_⟩
    have hjn : j < n := by
      rcases Nat.lt_or_ge j n with h | h
      · exact h
      · exact absurd hj (hwait listed inv hun j h)
    refine ⟨hjn, ?_⟩
    by_cases hji : j = i
    · subst hji; exact ⟨oi, v, hi, hy, H⟩
    · obtain ⟨_, oj, u, hoj, hyj, hrest⟩ := H.2 j (ready_mono hj hji)
      obtain ⟨hjun, oj', hoj', hall⟩ := mem_ready.1 hj
      have : oj' = oj := Option.some.inj (hoj'.symm.trans hoj)
      subst this
      have hnot : ∀ e ∈ oj'.after, Region.binds md e = true → e.on ≠ i := fun e he hb heq => by
        have h1 := hall e he hb
        rw [heq, getD_both hun] at h1
        cases h1
      obtain ⟨p1, p2, p3⟩ := Oper.apart_spec (hfree j oj' hoj hji hjun hnot)
      have hsi : ∀ cs b, oi.op ≠ .select cs b := fun cs b => hsel i oi cs b hi
      have hsj : ∀ cs b, oj'.op ≠ .select cs b := fun cs b => hsel j oj' cs b hoj
      have hyj' : gYields P ops S oj' u a := hyj.same (execOp_put oj' hsj a oi.dst v p1).symm (wanted_put oj' a oi.dst v p1).symm
      have hyi' : gYields P ops S oi v (a.put oj'.dst u) := hy.same (execOp_put oi hsi a oj'.dst u p3) (wanted_put oi a oj'.dst u p3)
      refine ⟨oj', u, hoj, hyj', ?_⟩
      have hfree' : ∀ k ok, ops[k]? = some ok → k ≠ i → (listed.setIfInBounds j true).getD k true = false →
          (∀ e ∈ ok.after, Region.binds md e = true → e.on ≠ i) → oi.apart ops ok = true := fun k ok hk hki hun hno => by
        refine hfree k ok hk hki ?_ hno
        by_cases hjk : j = k
        · subst hjk; exact hjun
        · rw [getD_set_ne true hjk] at hun; exact hun
      refine ih (listed.setIfInBounds j true) (a.put oj'.dst u) (inv.set hj hjn) hfree' (ready_mono hr (Ne.symm hji)) hyi' ?_
      rw [Array.setIfInBounds_comm _ _ hji, ← Act.put_comm a v u p2]
      exact hrest

theorem wpAnyG_lex {n g : Nat} {Lq : Act → Prop} (hsel : Region.noSelect ops = true)
    (hwait : ∀ listed, HeadInv md ops n listed → ∀ i, i < n → listed.getD i true = false → ∀ t, n ≤ t → t ∉ Region.ready md ops listed) :
    ∀ (l : List Oper) (k : Nat) (listed : Array Bool) (a : Act), (∀ j, j < l.length → l[j]? = ops[k + j]?) → k + l.length = n → HeadInv md ops n listed →
    Region.lexHead md ops g l.length k listed = true → wpG P ops S Lq l a →
    wpAnyG P md ops S n (fun listed' a' => Region.seqB md ops g n listed' = true ∧ Lq a') l.length listed a
  | [], k, listed, a, _, hk, _, hB, h => by
    have : k = n := by simpa using hk
    subst this
    exact ⟨by simpa [Region.lexHead] using hB, h⟩
  | o :: l, k, listed, a, hl, hk, inv, hB, h => by
    have h0 : ops[k]? = some o := by simpa using (hl 0 (by simp)).symm
    simp only [List.length_cons, Region.lexHead, Bool.and_eq_true] at hB
    obtain ⟨⟨hr, hf⟩, hB'⟩ := hB
    have hkn : k < n := by simp only [List.length_cons] at hk; omega
    have hr' : k ∈ Region.ready md ops listed := by simpa using hr
    obtain ⟨v, hy, hK⟩ := h
    exact wpAnyG_first h0 (Region.noSelect_spec hsel) (fun listed' inv' hun => hwait listed' inv' k hkn hun) (fun listed' a' hL => seqB_ready hL.1) l.length listed a inv (Region.free_spec h0 hf) hr' hy
      (wpAnyG_lex hsel hwait l (k + 1) _ _ (fun j hj => by have := hl (j + 1) (by simp; omega); simpa [Nat.add_assoc, Nat.add_comm 1 j] using this) (by simp only [List.length_cons] at hk; omega) (inv.set hr' hkn) hB' hK)

/-- The closed look at a region: its first n operations may be walked in the order of the text, the others wait for them and are forced. -/
def growB (ops : Array Oper) (n : Nat) : Bool :=
  Region.noSelect ops && (decide (n = ops.size) || (decide (n < ops.size) && Region.sinkB .any ops n && Region.chainB .any ops n)) && Region.lexHead .any ops (ops.size - n) n 0 (Array.replicate ops.size false)

theorem wp_region_grow {id : Nat} {Q : Exit → Act → World → Prop} {a : Act} {w : World} {l : List Oper} (n : Nat) (S : World → Prop) (hm : P.follows .mixedOrders = true) (hB : growB l.toArray n = true) (hS : S w.drew)
    (h : wpG P l.toArray S (fun a' => ∀ w', S w' → wpList P l.toArray Q (l.drop n) a' w') (l.take n) a) : (Code.region id l.toArray true).wp P Q a w := by
  simp only [growB, Bool.and_eq_true, Bool.or_eq_true, decide_eq_true_eq] at hB
  obtain ⟨⟨hsel, hn⟩, hlex⟩ := hB
  have hn' : n ≤ l.length := by
    rcases hn with hn | hn
    · simp at hn; omega
    · have := hn.1.1; simp at this; omega
  have htl : (l.take n).length = n := by simp; omega
  have hdl : (l.drop n).length = l.toArray.size - n := by simp
  have inv0 : HeadInv .any l.toArray n (Array.replicate l.toArray.size false) :=
    ⟨by simp, fun j oj _ hl => (by rw [getD_replicate_false] at hl; cases hl), fun t _ ht => getD_in (by simpa using ht) (getD_replicate_false _ _)⟩
  have hwait : ∀ listed, HeadInv .any l.toArray n listed → ∀ i, i < n → listed.getD i true = false → ∀ t, n ≤ t → t ∉ Region.ready .any l.toArray listed := by
    intro listed inv i hi hun t ht hr
    rcases hn with hn | hn
    · obtain ⟨_, ot, hot, _⟩ := mem_ready.1 hr
      have htlt : t < l.toArray.size := (Array.getElem?_eq_some_iff.1 hot).1
      omega
    · exact tail_waits hn.1.2 hn.2 hn.1.1 inv _ i rfl hi hun t ht hr
  have H := wpAnyG_lex (md := .any) (S := S) (g := l.toArray.size - n) hsel hwait (l.take n) 0 _ a (fun j hj => by
    have hj' : j < n := by rw [htl] at hj; exact hj
    simp [hj']) (by simpa using htl) inv0 (by rw [htl]; exact hlex) h
  refine wp_region_any hm ?_
  have := wpAny_of_G (Q' := Q) (g := l.toArray.size - n) (fun listed a' w' hL hS' => by
    have := wpAny_of_seq (md := .any) (Q' := Q) (l.drop n) n listed a' w' (fun j => by simp [List.getElem?_drop]) (by rw [hdl]; exact hL.1) (hL.2 w' hS')
    rwa [hdl] at this) _ _ _ _ hS H
  rw [htl, show n + (l.toArray.size - n) = l.toArray.size by omega] at this
  exact this

theorem wpG_nil {Q : Act → Prop} {a : Act} (h : Q a) : wpG P ops S Q [] a := h
/-- What a call's end must be: a value that has the property K. -/
def gRet (K : Value → World → Prop) (e : Ending) (w : World) : Prop := ∃ u, e = .returned u ∧ K u w
def gUponK (P : Program) (K : Value → World → Prop) : Result Next → Prop
  | .ok (.value u) w' => K u w'
  | .ok .skip w' => K undef w'
  | .ok (.enter f args) w' => Calls P f args w' (gRet K)
  | _ => False
def Oper.gAt (P : Program) (o : Oper) (a : Act) (w : World) (K : Value → World → Prop) : Prop := gUponK P K ((execOp a.eval o).run P w)
/-- An operation that runs: the walk finds its value. -/
theorem wpG_on {Q : Act → Prop} {a : Act} {o : Oper} {rest : List Oper} (v : Value) (hw : Region.wanted o (yielded ops a.tmps) = true)
    (h : ∀ w, S w → ∀ K : Value → World → Prop, Hid (∀ w', S w' → K v w') → Oper.gAt P o a w K) (hr : wpG P ops S Q rest (a.put o.dst v)) : wpG P ops S Q (o :: rest) a := by
  refine ⟨v, .inl ⟨hw, fun w hS => ?_⟩, hr⟩
  have h1 := h w hS (fun u w' => u = v ∧ S w') (fun w' hS' => ⟨rfl, hS'⟩)
  unfold Oper.gAt at h1
  generalize (execOp a.eval o).run P w = r at h1 ⊢
  cases r with
  | ok x w' =>
    cases x <;> simp only [gUponK] at h1 <;> simp only [gUpon]
    case value u => exact h1
    case skip => exact ⟨h1.1.symm, h1.2⟩
    case enter f args => exact h1.mono fun e w'' ⟨u, he, hu, hS''⟩ => ⟨by rw [he, hu], hS''⟩
  | halt x w' => simp only [gUponK] at h1
/-- An operation whose guard is false. -/
theorem wpG_off {Q : Act → Prop} {a : Act} {o : Oper} {rest : List Oper} (hw : Region.wanted o (yielded ops a.tmps) = false) (hr : wpG P ops S Q rest (a.put o.dst undef)) : wpG P ops S Q (o :: rest) a :=
  ⟨undef, .inr ⟨hw, rfl⟩, hr⟩
end
end Go.Proofs.YtieacbccadbdbaaGreatDoor


/- Blocks of the call's own, known whole: what a call that only makes memory leaves of them, what a store makes of them; the world under new names. -/
namespace Go.Proofs.YtieacbccadbdbaaGreatDoor
open Go.RowKit
set_option linter.unusedVariables false

/-- Block b of the world w is o. -/
def Blk (w : World) (b : Nat) (o : Obj) : Prop := w.heap[b]? = some o
theorem Blk.lt {w : World} {b : Nat} {o : Obj} (k : Blk w b o) : b < w.heap.size := lt_of_block k
theorem Blk.kept {W w' : World} {b : Nat} {o : Obj} (k : Blk W b o) (h : Below W.heap.size W w') : Blk w' b o := (h.block _ k.lt).trans k
theorem Blk.keptB {B : Nat} {W w' : World} {b : Nat} {o : Obj} (k : Blk W b o) (h : Below B W w') (hlt : b < B) : Blk w' b o := (h.block _ hlt).trans k
theorem Blk.drewN {w : World} {b : Nat} {o : Obj} (k : Blk w b o) (n : Nat) : Blk (w.drewN n) b o := k

/-- The cells of a block, and that they may be written, as rules for the walk. -/
theorem Blk.c1 {w : World} {b : Nat} {x0 : Value} {t : TypeId} (k : Blk w b (.cells #[x0] t (0, 0))) :
    w.cell? ⟨b, 0, none⟩ = some x0 ∧ ∀ o, w.frozen? ⟨b, o, none⟩ = false := ⟨cell_blk k rfl, fun _ => free_blk k⟩
theorem Blk.c2 {w : World} {b : Nat} {x0 x1 : Value} {t : TypeId} (k : Blk w b (.cells #[x0, x1] t (0, 0))) :
    w.cell? ⟨b, 0, none⟩ = some x0 ∧ w.cell? ⟨b, 1, none⟩ = some x1 ∧ ∀ o, w.frozen? ⟨b, o, none⟩ = false := ⟨cell_blk k rfl, cell_blk k rfl, fun _ => free_blk k⟩
theorem Blk.c3 {w : World} {b : Nat} {x0 x1 x2 : Value} {t : TypeId} (k : Blk w b (.cells #[x0, x1, x2] t (0, 0))) :
    w.cell? ⟨b, 0, none⟩ = some x0 ∧ w.cell? ⟨b, 1, none⟩ = some x1 ∧ w.cell? ⟨b, 2, none⟩ = some x2 ∧ ∀ o, w.frozen? ⟨b, o, none⟩ = false := ⟨cell_blk k rfl, cell_blk k rfl, cell_blk k rfl, fun _ => free_blk k⟩
theorem Blk.c4 {w : World} {b : Nat} {x0 x1 x2 x3 : Value} {t : TypeId} (k : Blk w b (.cells #[x0, x1, x2, x3] t (0, 0))) :
    w.cell? ⟨b, 0, none⟩ = some x0 ∧ w.cell? ⟨b, 1, none⟩ = some x1 ∧ w.cell? ⟨b, 2, none⟩ = some x2 ∧ w.cell? ⟨b, 3, none⟩ = some x3 ∧ ∀ o, w.frozen? ⟨b, o, none⟩ = false := cells4 k

theorem Blk.c5 {w : World} {b : Nat} {x0 x1 x2 x3 x4 : Value} {t : TypeId} (k : Blk w b (.cells #[x0, x1, x2, x3, x4] t (0, 0))) :
    w.cell? ⟨b, 0, none⟩ = some x0 ∧ w.cell? ⟨b, 1, none⟩ = some x1 ∧ w.cell? ⟨b, 2, none⟩ = some x2 ∧ w.cell? ⟨b, 3, none⟩ = some x3 ∧ w.cell? ⟨b, 4, none⟩ = some x4 ∧ ∀ o, w.frozen? ⟨b, o, none⟩ = false :=
  ⟨cell_blk k rfl, cell_blk k rfl, cell_blk k rfl, cell_blk k rfl, cell_blk k rfl, fun _ => free_blk k⟩

/-- Entering: the boxes that a function makes first. -/
theorem name1 {P : Program} {c : Code} {Q : Exit → Act → World → Prop} {a : Act} {w : World} {A : Obj}
    (h : ∀ W : World, Blk W w.heap.size A → Below w.heap.size w W → c.wp P Q a W) : c.wp P Q a (w.alloc A) :=
  h _ (heap_alloc_new _ _) ((Below.refl _ _).alloc (Nat.le_refl _) _)
theorem alloc2 (w : World) (A B : Obj) : Blk ((w.alloc A).alloc B) w.heap.size A ∧ Blk ((w.alloc A).alloc B) (w.heap.size + 1) B ∧ Below w.heap.size w ((w.alloc A).alloc B) := by
  refine ⟨?_, ?_, ((Below.refl _ _).alloc (Nat.le_refl _) _).alloc (by simp) _⟩
  · show _ = _
    rw [Below.heap_alloc _ _ _ (by simp), heap_alloc_new]
  · have := heap_alloc_new (w.alloc A) B
    show _ = _
    simpa using this
theorem name2 {P : Program} {c : Code} {Q : Exit → Act → World → Prop} {a : Act} {w : World} {A B : Obj}
    (h : ∀ W : World, Blk W w.heap.size A → Blk W (w.heap.size + 1) B → Below w.heap.size w W → c.wp P Q a W) : c.wp P Q a ((w.alloc A).alloc B) :=
  h _ (alloc2 w A B).1 (alloc2 w A B).2.1 (alloc2 w A B).2.2
theorem name1d {P : Program} {c : Code} {Q : Exit → Act → World → Prop} {a : Act} {w : World} {A : Obj}
    (h : ∀ W : World, Blk W w.heap.size A → Below w.heap.size w W → c.wp P Q a W) : c.wp P Q a (w.alloc A).drew :=
  h _ (heap_alloc_new _ _) ((Below.refl _ _).alloc (Nat.le_refl _) _).drew
theorem name2d {P : Program} {c : Code} {Q : Exit → Act → World → Prop} {a : Act} {w : World} {A B : Obj}
    (h : ∀ W : World, Blk W w.heap.size A → Blk W (w.heap.size + 1) B → Below w.heap.size w W → c.wp P Q a W) : c.wp P Q a ((w.alloc A).alloc B).drew :=
  h _ (alloc2 w A B).1 (alloc2 w A B).2.1 (alloc2 w A B).2.2.drew
theorem alloc3 (w : World) (A B C : Obj) : Blk (((w.alloc A).alloc B).alloc C) w.heap.size A ∧ Blk (((w.alloc A).alloc B).alloc C) (w.heap.size + 1) B ∧ Blk (((w.alloc A).alloc B).alloc C) (w.heap.size + 1 + 1) C ∧ Below w.heap.size w (((w.alloc A).alloc B).alloc C) := by
  obtain ⟨h1, h2, h3⟩ := alloc2 w A B
  have hz : ((w.alloc A).alloc B).heap.size = w.heap.size + 1 + 1 := by simp
  have hb : Below ((w.alloc A).alloc B).heap.size ((w.alloc A).alloc B) (((w.alloc A).alloc B).alloc C) := (Below.refl _ _).alloc (Nat.le_refl _) _
  refine ⟨h1.kept hb, h2.kept hb, ?_, h3.trans (hb.mono (by omega))⟩
  have := heap_alloc_new ((w.alloc A).alloc B) C
  rw [hz] at this
  exact this
theorem name3 {P : Program} {c : Code} {Q : Exit → Act → World → Prop} {a : Act} {w : World} {A B C : Obj}
    (h : ∀ W : World, Blk W w.heap.size A → Blk W (w.heap.size + 1) B → Blk W (w.heap.size + 1 + 1) C → Below w.heap.size w W → c.wp P Q a W) : c.wp P Q a (((w.alloc A).alloc B).alloc C) :=
  h _ (alloc3 w A B C).1 (alloc3 w A B C).2.1 (alloc3 w A B C).2.2.1 (alloc3 w A B C).2.2.2
theorem callName1 {P : Program} {f : FuncId} {args : Array Value} {Q : Ending → World → Prop} {w : World} {A : Obj}
    (h : ∀ W : World, Blk W w.heap.size A → Below w.heap.size w W → Calls P f args W Q) : Calls P f args (w.alloc A) Q :=
  h _ (heap_alloc_new _ _) ((Below.refl _ _).alloc (Nat.le_refl _) _)
theorem callName2 {P : Program} {f : FuncId} {args : Array Value} {Q : Ending → World → Prop} {w : World} {A B : Obj}
    (h : ∀ W : World, Blk W w.heap.size A → Blk W (w.heap.size + 1) B → Below w.heap.size w W → Calls P f args W Q) : Calls P f args ((w.alloc A).alloc B) Q :=
  h _ (alloc2 w A B).1 (alloc2 w A B).2.1 (alloc2 w A B).2.2
theorem callName3 {P : Program} {f : FuncId} {args : Array Value} {Q : Ending → World → Prop} {w : World} {A B C : Obj}
    (h : ∀ W : World, Blk W w.heap.size A → Blk W (w.heap.size + 1) B → Blk W (w.heap.size + 1 + 1) C → Below w.heap.size w W → Calls P f args W Q) : Calls P f args (((w.alloc A).alloc B).alloc C) Q :=
  h _ (alloc3 w A B C).1 (alloc3 w A B C).2.1 (alloc3 w A B C).2.2.1 (alloc3 w A B C).2.2.2

theorem Chg.blk {b : Nat} {o : Obj} {w w' : World} (h : Chg b o w w') : Blk w' b o := h.at_
theorem Chg.keeps {b : Nat} {o : Obj} {w w' : World} (h : Chg b o w w') (k : Nat) (o' : Obj) (hk : k ≠ b) (h' : Blk w k o') : Blk w' k o' := (h.other k hk).trans h'

/-- A struct of four cells stored whole into a block of the call's own: the world goes by a new name. -/
theorem mid4 {P : Program} {c : Code} {Q : Exit → Act → World → Prop} {a : Act} {B : Nat} {w0 w : World} {b : Nat} {x0 x1 x2 x3 v0 v1 v2 v3 : Value} {t : TypeId} (hb : Below B w0 w) (k : Blk w b (.cells #[x0, x1, x2, x3] t (0, 0))) (hB : B ≤ b)
    (hn : ∀ w2 : World, Blk w2 b (.cells #[v0, v1, v2, v3] t (0, 0)) → (∀ i o, i ≠ b → Blk w i o → Blk w2 i o) → Below B w0 w2 → c.wp P Q a w2) :
    c.wp P Q a ((((w.setCell ⟨b, 0, none⟩ v0).setCell ⟨b, 1, none⟩ v1).setCell ⟨b, 2, none⟩ v2).setCell ⟨b, 3, none⟩ v3) :=
  have ch := set4 k v0 v1 v2 v3
  hn _ ch.blk (fun i o hi => ch.keeps i o hi) (hb.trans (ch.below hB))
theorem callMid4 {P : Program} {f : FuncId} {args : Array Value} {Q : Ending → World → Prop} {B : Nat} {w0 w : World} {b : Nat} {x0 x1 x2 x3 v0 v1 v2 v3 : Value} {t : TypeId} (hb : Below B w0 w) (k : Blk w b (.cells #[x0, x1, x2, x3] t (0, 0))) (hB : B ≤ b)
    (hn : ∀ w2 : World, Blk w2 b (.cells #[v0, v1, v2, v3] t (0, 0)) → (∀ i o, i ≠ b → Blk w i o → Blk w2 i o) → Below B w0 w2 → Calls P f args w2 Q) :
    Calls P f args ((((w.setCell ⟨b, 0, none⟩ v0).setCell ⟨b, 1, none⟩ v1).setCell ⟨b, 2, none⟩ v2).setCell ⟨b, 3, none⟩ v3) Q :=
  have ch := set4 k v0 v1 v2 v3
  hn _ ch.blk (fun i o hi => ch.keeps i o hi) (hb.trans (ch.below hB))
theorem mid44 {P : Program} {c : Code} {Q : Exit → Act → World → Prop} {a : Act} {B : Nat} {w0 w : World} {b b' : Nat} {x0 x1 x2 x3 v0 v1 v2 v3 y0 y1 y2 y3 u0 u1 u2 u3 : Value} {t t' : TypeId} (hb : Below B w0 w) (k : Blk w b (.cells #[x0, x1, x2, x3] t (0, 0))) (k' : Blk w b' (.cells #[y0, y1, y2, y3] t' (0, 0)))
    (hne : b' ≠ b) (hB : B ≤ b) (hB' : B ≤ b')
    (hn : ∀ w2 : World, Blk w2 b (.cells #[v0, v1, v2, v3] t (0, 0)) → Blk w2 b' (.cells #[u0, u1, u2, u3] t' (0, 0)) → (∀ i o, i ≠ b → i ≠ b' → Blk w i o → Blk w2 i o) → Below B w0 w2 → c.wp P Q a w2) :
    c.wp P Q a ((((((((w.setCell ⟨b, 0, none⟩ v0).setCell ⟨b, 1, none⟩ v1).setCell ⟨b, 2, none⟩ v2).setCell ⟨b, 3, none⟩ v3).setCell ⟨b', 0, none⟩ u0).setCell ⟨b', 1, none⟩ u1).setCell ⟨b', 2, none⟩ u2).setCell ⟨b', 3, none⟩ u3) :=
  have ch := set4 k v0 v1 v2 v3
  have ch' := set4 (ch.keeps _ _ hne k') u0 u1 u2 u3
  hn _ (ch'.keeps _ _ (Ne.symm hne) ch.blk) ch'.blk (fun i o hi hi' hk => ch'.keeps i o hi' (ch.keeps i o hi hk)) ((hb.trans (ch.below hB)).trans (ch'.below hB'))
/-- The end of a function that returns a struct of four cells, just stored. -/
theorem end4 {P : Program} {fn : Func} {R : Ending → World → Prop} {a : Act} {B : Nat} {w0 w : World} {b : Nat} {x0 x1 x2 x3 v0 v1 v2 v3 : Value} {t : TypeId} (hb : Below B w0 w) (k : Blk w b (.cells #[x0, x1, x2, x3] t (0, 0))) (hB : B ≤ b)
    (hres : ∀ w3 : World, (w3.cell? ⟨b, 0, none⟩ = some v0 ∧ w3.cell? ⟨b, 1, none⟩ = some v1 ∧ w3.cell? ⟨b, 2, none⟩ = some v2 ∧ w3.cell? ⟨b, 3, none⟩ = some v3 ∧ ∀ o, w3.frozen? ⟨b, o, none⟩ = false) → (results fn a.tmps).run P w3 = .ok (.agg #[v0, v1, v2, v3]) w3)
    (hd : a.defers = []) (hn : ∀ w3 : World, Below B w0 w3 → R (.returned (.agg #[v0, v1, v2, v3])) w3) :
    bodyPost P fn R .ret a ((((w.setCell ⟨b, 0, none⟩ v0).setCell ⟨b, 1, none⟩ v1).setCell ⟨b, 2, none⟩ v2).setCell ⟨b, 3, none⟩ v3) :=
  have ch := set4 k v0 v1 v2 v3
  bodyPost_ret (hres _ ch.blk.c4) hd (hn _ (hb.trans (ch.below hB)))
/-- What the call owns stays owned behind a call that only makes memory. -/
theorem ownsKept {W w' : World} {base : Nat} {e : TypeId} {size : Nat} {v : Value} {n : Nat} {xs : List Value} (h : W.ownsRow base e size v n xs) (hS : Below W.heap.size W w') : w'.ownsRow base e size v n xs := by
  obtain ⟨h1, h2⟩ := h
  refine ⟨h1, ?_⟩
  rcases h2 with h2 | ⟨g, cap, cur, hv, hg, hh, r⟩
  · exact .inl h2
  · exact .inr ⟨g, cap, cur, hv, hg, (hS.block g (lt_of_block hh)).trans hh, r⟩
theorem Blk.grown {w w' : World} {b : Nat} {o : Obj} {row : Option Nat} (k : Blk w b o) (hg : w.grownBy w' row) (hne : row ≠ some b) : Blk w' b o :=
  (hg.block b k.lt (fun h => hne h.symm)).trans k
theorem Blk.alloc {w : World} {b : Nat} {o : Obj} (k : Blk w b o) (o' : Obj) : Blk (w.alloc o') b o := (Below.heap_alloc _ _ _ k.lt).trans k
theorem Blk.kept0 {w : World} {b : Nat} {o : Obj} (k : Blk w b o) : True := trivial
/-- One cell of a block is stored; another block's. -/
theorem Blk.set1 {w : World} {b : Nat} {cs cs' : Array Value} {t : TypeId} {m : Nat × Nat} (k : Blk w b (.cells cs t m)) (i : Nat) (u : Value) (hi : i < cs.size) (he : cs.set i u = cs') : Blk (w.setCell ⟨b, i, none⟩ u) b (.cells cs' t m) :=
  he ▸ (chg_set k u hi).at_
theorem Blk.other {w : World} {b : Nat} {o : Obj} (k : Blk w b o) {p : Addr} (hne : b ≠ p.block) (u : Value) : Blk (w.setCell p u) b o := (Below.heap_setCell _ _ _ _ hne).trans k
theorem Blk.drewd {w : World} {b : Nat} {o : Obj} (k : Blk w b o) : Blk w.drew b o := k
/-- The world of a call goes by a new name. -/
theorem callGen {P : Program} {f : FuncId} {args : Array Value} {Q : Ending → World → Prop} {X : World} (h : ∀ W : World, W = X → Calls P f args W Q) : Calls P f args X Q := h X rfl
theorem codeGen {P : Program} {c : Code} {Q : Exit → Act → World → Prop} {a : Act} {X : World} (h : ∀ W : World, W = X → c.wp P Q a W) : c.wp P Q a X := h X rfl
theorem below4 {B : Nat} {w0 w : World} (hb : Below B w0 w) {b : Nat} (hB : B ≤ b) (v0 v1 v2 v3 : Value) : Below B w0 ((((w.setCell ⟨b, 0, none⟩ v0).setCell ⟨b, 1, none⟩ v1).setCell ⟨b, 2, none⟩ v2).setCell ⟨b, 3, none⟩ v3) :=
  (((hb.setCell hB _).setCell hB _).setCell hB _).setCell hB _
end Go.Proofs.YtieacbccadbdbaaGreatDoor


/- A region that draws its order, in which stores stand among operations that give one value each whatever the order: walked once, in the order of the text. -/
namespace Go.Proofs.YtieacbccadbdbaaGreatDoor
open Go.RowKit
set_option linter.unusedVariables false

section
variable {P : Program} {ops : Array Oper} {S : World → Prop}


/-- What a store comes to: it runs to its end here and now. -/
def eYields (P : Program) (ops : Array Oper) (o : Oper) (v : Value) (a : Act) (w w' : World) : Prop :=
  (Region.wanted o (yielded ops a.tmps) = true ∧ ((execOp a.eval o).run P w = .ok (.value v) w' ∨ ((execOp a.eval o).run P w = .ok .skip w' ∧ v = undef))) ∨
  (Region.wanted o (yielded ops a.tmps) = false ∧ v = undef ∧ w' = w)

/-- What an operation comes to that leaves the world alone: one value, whatever the world (as long as it has S). -/
def sYields (P : Program) (ops : Array Oper) (S : World → Prop) (o : Oper) (v : Value) (a : Act) : Prop :=
  (Region.wanted o (yielded ops a.tmps) = true ∧ ∀ w, S w → ((execOp a.eval o).run P w = .ok (.value v) w ∨ ((execOp a.eval o).run P w = .ok .skip w ∧ v = undef))) ∨ (Region.wanted o (yielded ops a.tmps) = false ∧ v = undef)
theorem sYields.same {o : Oper} {v : Value} {a a' : Act} (h : sYields P ops S o v a) (he : execOp a'.eval o = execOp a.eval o) (hw : Region.wanted o (yielded ops a'.tmps) = Region.wanted o (yielded ops a.tmps)) : sYields P ops S o v a' := by
  unfold sYields at *
  rw [he, hw]
  exact h
theorem sYields.wpOp {i : Nat} {o : Oper} {v : Value} {a : Act} {w : World} {K : Act → World → Prop} {Q' : Exit → Act → World → Prop} (hi : ops[i]? = some o) (hy : sYields P ops S o v a) (hS : S w) (hK : K (a.put o.dst v) w) : wpOp P ops Q' i K a w := by
  unfold Go.wpOp
  simp only [hi]
  rcases hy with ⟨hw, hr⟩ | ⟨hw, rfl⟩
  · simp only [hw, if_true]
    refine .inl ?_
    unfold Oper.wp
    rcases hr w hS with hr' | ⟨hr', rfl⟩ <;> rw [hr'] <;> exact hK
  · simp only [hw, Bool.false_eq_true, if_false]
    exact hK


theorem eYields.same {o : Oper} {v : Value} {a a' : Act} {w w' : World} (h : eYields P ops o v a w w') (he : execOp a'.eval o = execOp a.eval o) (hw : Region.wanted o (yielded ops a'.tmps) = Region.wanted o (yielded ops a.tmps)) : eYields P ops o v a' w w' := by
  unfold eYields at *
  rw [he, hw]
  exact h
theorem eYields.wpOp {i : Nat} {o : Oper} {v : Value} {a : Act} {w w' : World} {K : Act → World → Prop} {Q' : Exit → Act → World → Prop} (hi : ops[i]? = some o) (hy : eYields P ops o v a w w') (hK : K (a.put o.dst v) w') : wpOp P ops Q' i K a w := by
  unfold Go.wpOp
  simp only [hi]
  rcases hy with ⟨hw, hr⟩ | ⟨hw, rfl, rfl⟩
  · simp only [hw, if_true]
    refine .inl ?_
    unfold Oper.wp
    rcases hr with hr | ⟨hr, rfl⟩ <;> rw [hr] <;> exact hK
  · simp only [hw, Bool.false_eq_true, if_false]
    exact hK


/-- What is left: the operations that have not run, in the order of the text. -/
structure Left (ops : Array Oper) (listed : Array Bool) (l : List (Nat × Oper)) : Prop where
  at_ : ∀ x ∈ l, ops[x.1]? = some x.2
  un : ∀ x ∈ l, listed.getD x.1 true = false
  all : ∀ i o, ops[i]? = some o → listed.getD i true = false → (i, o) ∈ l
  sorted : l.Pairwise fun x y => x.1 < y.1
  size : listed.size = ops.size





theorem Left.take {listed : Array Bool} {l : List (Nat × Oper)} (h : Left ops listed l) (j : Nat) : Left ops (listed.setIfInBounds j true) (l.filter fun x => x.1 != j) := by
  refine ⟨fun x hx => h.at_ x ((List.mem_filter.1 hx).1), fun x hx => ?_, fun i o hi hun => ?_, h.sorted.filter _, by simpa using h.size⟩
  · have h1 := List.mem_filter.1 hx
    have hne : j ≠ x.1 := fun e => by simp [e] at h1
    rw [getD_set_ne true hne]
    exact h.un x h1.1
  · have hne : j ≠ i := fun e => by
      subst e
      have hlt : j < listed.size := by rw [h.size]; exact (Array.getElem?_eq_some_iff.1 hi).1
      simp [Array.getD, hlt] at hun
    rw [getD_set_ne true hne] at hun
    exact List.mem_filter.2 ⟨h.all i o hi hun, by simp; omega⟩


/-- The operations with their numbers. -/
def numbered : List Oper → Nat → List (Nat × Oper)
  | [], _ => []
  | o :: l, k => (k, o) :: numbered l (k + 1)
theorem numbered_mem : ∀ (l : List Oper) (k i : Nat) (o : Oper), (i, o) ∈ numbered l k ↔ k ≤ i ∧ l[i - k]? = some o
  | [], k, i, o => by simp [numbered]
  | x :: l, k, i, o => by
    simp only [numbered, List.mem_cons, Prod.mk.injEq, numbered_mem l (k + 1) i o]
    by_cases h : i = k
    · subst h
      simp only [Nat.sub_self, List.getElem?_cons_zero, Option.some.injEq, true_and, Nat.le_refl]
      constructor
      · rintro (h | h)
        · exact h.symm
        · omega
      · exact fun h => .inl h.symm
    · by_cases hk : k ≤ i
      · have e : i - k = (i - (k + 1)) + 1 := by omega
        rw [e, List.getElem?_cons_succ]
        constructor
        · rintro (h' | h')
          · exact absurd h'.1 h
          · exact ⟨hk, h'.2⟩
        · exact fun h' => .inr ⟨by omega, h'.2⟩
      · constructor
        · rintro (h' | h')
          · omega
          · omega
        · intro h'; omega
theorem numbered_length : ∀ (l : List Oper) (k : Nat), (numbered l k).length = l.length
  | [], _ => rfl
  | _ :: l, k => by simp [numbered, numbered_length l (k + 1)]



/-- What one operation comes to, at this world alone. -/
def stilK (K : Value → World → Prop) : Result Next → Prop
  | .ok (.value u) w' => K u w'
  | .ok .skip w' => K undef w'
  | _ => False
def Oper.sAt (P : Program) (o : Oper) (a : Act) (w : World) (K : Value → World → Prop) : Prop := stilK K ((execOp a.eval o).run P w)
end
end Go.Proofs.YtieacbccadbdbaaGreatDoor


/- A region that draws its order, in which variables are made (alloc, a slice built) beside operations and calls that keep what was there: walked once; where a new block lies is left open. -/
namespace Go.Proofs.YtieacbccadbdbaaGreatDoor
open Go.RowKit
set_option linter.unusedVariables false

section
variable {P : Program} {ops : Array Oper} {W : World}

/-- An operation that makes a block. -/
def mkB (o : Oper) : Bool := match o.op with
  | .alloc _ => true
  | .buildSlice _ _ _ => true
  | _ => false
/-- What it gives, the block being x. -/
def mkOf (o : Oper) (x : Nat) : Value := match o.op with
  | .buildSlice _ n _ => .slice (some ⟨x, 0, none⟩) n n
  | _ => .pointer (some ⟨x, 0, none⟩)

/-- What an operation comes to that keeps all that was there: one value. -/
def bUpon (P : Program) (w : World) (v : Value) : Result Next → Prop
  | .ok (.value u) w' => u = v ∧ Below w.heap.size w w'
  | .ok .skip w' => v = undef ∧ Below w.heap.size w w'
  | .ok (.enter f args) w' => Calls P f args w' fun e w'' => e = .returned v ∧ Below w.heap.size w w''
  | _ => False
def bYields (P : Program) (ops : Array Oper) (W : World) (o : Oper) (v : Value) (a : Act) : Prop :=
  (Region.wanted o (yielded ops a.tmps) = true ∧ ∀ w, Below W.heap.size W w → bUpon P w v ((execOp a.eval o).run P w)) ∨ (Region.wanted o (yielded ops a.tmps) = false ∧ v = undef)
def nYields (P : Program) (ops : Array Oper) (W : World) (o : Oper) (obj : Obj) (a : Act) : Prop :=
  Region.wanted o (yielded ops a.tmps) = true ∧ ∀ w, Below W.heap.size W w → (execOp a.eval o).run P w = .ok (.value (mkOf o w.heap.size)) (w.alloc obj)

def wpN (P : Program) (ops : Array Oper) (W : World) (Q : Act → World → Prop) : List (Nat × Oper) → List Nat → (World → Prop) → Act → Prop
  | [], _, F, a => ∀ w, Below W.heap.size W w → F w → Q a w
  | (_, o) :: rest, ys, F, a => (mkB o = false ∧ ∃ v, bYields P ops W o v a ∧ wpN P ops W Q rest ys F (a.put o.dst v)) ∨
    (mkB o = true ∧ ∃ obj, nYields P ops W o obj a ∧ ∀ x, W.heap.size ≤ x → x ∉ ys → wpN P ops W Q rest (x :: ys) (fun w => F w ∧ Blk w x obj) (a.put o.dst (mkOf o x)))

theorem wpN_mono {Q : Act → World → Prop} : ∀ (l : List (Nat × Oper)) (ys ys' : List Nat) (F F' : World → Prop) (a : Act), (∀ y ∈ ys, y ∈ ys') → (∀ w, F' w → F w) → wpN P ops W Q l ys F a → wpN P ops W Q l ys' F' a
  | [], ys, ys', F, F', a, hy, hF, h => fun w hb hf => h w hb (hF w hf)
  | (_, o) :: rest, ys, ys', F, F', a, hy, hF, h => by
    rcases h with ⟨h1, v, h2, h3⟩ | ⟨h1, obj, h2, h3⟩
    · exact .inl ⟨h1, v, h2, wpN_mono rest ys ys' F F' _ hy hF h3⟩
    · refine .inr ⟨h1, obj, h2, fun x hx hn => wpN_mono rest (x :: ys) (x :: ys') _ _ _ (fun y hy' => ?_) (fun w hw => ⟨hF w hw.1, hw.2⟩) (h3 x hx (fun hm => hn (hy x hm)))⟩
      rcases List.mem_cons.1 hy' with e | e
      · exact e ▸ List.mem_cons_self
      · exact List.mem_cons_of_mem _ (hy y e)

theorem bYields.same {o : Oper} {v : Value} {a a' : Act} (h : bYields P ops W o v a) (he : execOp a'.eval o = execOp a.eval o) (hw : Region.wanted o (yielded ops a'.tmps) = Region.wanted o (yielded ops a.tmps)) : bYields P ops W o v a' := by
  unfold bYields at *
  rw [he, hw]
  exact h
theorem nYields.same {o : Oper} {obj : Obj} {a a' : Act} (h : nYields P ops W o obj a) (he : execOp a'.eval o = execOp a.eval o) (hw : Region.wanted o (yielded ops a'.tmps) = Region.wanted o (yielded ops a.tmps)) : nYields P ops W o obj a' := by
  unfold nYields at *
  rw [he, hw]
  exact h
theorem nYields.unique {o : Oper} {obj obj' : Obj} {a : Act} (h : nYields P ops W o obj a) (h' : nYields P ops W o obj' a) : obj = obj' := by
  have e := (h.2 W (Below.refl _ _)).symm.trans (h'.2 W (Below.refl _ _))
  simp only [Result.ok.injEq, true_and] at e
  have e2 := heap_alloc_new W obj
  rw [e, heap_alloc_new W obj'] at e2
  exact (Option.some.inj e2).symm
theorem bYields.wpOp {i : Nat} {o : Oper} {v : Value} {a : Act} {w : World} {K : Act → World → Prop} {Q' : Exit → Act → World → Prop} (hi : ops[i]? = some o) (hy : bYields P ops W o v a) (hS : Below W.heap.size W w) (hK : ∀ w', Below w.heap.size w w' → K (a.put o.dst v) w') : wpOp P ops Q' i K a w := by
  unfold Go.wpOp
  simp only [hi]
  rcases hy with ⟨hw, hr⟩ | ⟨hw, rfl⟩
  · simp only [hw, if_true]
    refine .inl ?_
    have h := hr w hS
    unfold Oper.wp
    generalize (execOp a.eval o).run P w = r at h ⊢
    cases r with
    | ok x w' =>
      cases x <;> simp only [bUpon] at h
      case value u => obtain ⟨rfl, h2⟩ := h; exact hK _ h2
      case skip => obtain ⟨rfl, h2⟩ := h; exact hK _ h2
      case enter f args => exact h.mono fun e w'' ⟨he, h2⟩ => by subst he; exact hK _ h2
    | halt x w' => simp only [bUpon] at h
  · simp only [hw, Bool.false_eq_true, if_false]
    exact hK _ (Below.refl _ _)
theorem nYields.wpOp {i : Nat} {o : Oper} {obj : Obj} {a : Act} {w : World} {K : Act → World → Prop} {Q' : Exit → Act → World → Prop} (hi : ops[i]? = some o) (hy : nYields P ops W o obj a) (hS : Below W.heap.size W w) (hK : K (a.put o.dst (mkOf o w.heap.size)) (w.alloc obj)) : wpOp P ops Q' i K a w := by
  unfold Go.wpOp
  simp only [hi, hy.1, if_true]
  refine .inl ?_
  unfold Oper.wp
  rw [hy.2 w hS]
  exact hK

theorem fresh_above : ∀ (ys : List Nat) (n : Nat), ∃ x, n ≤ x ∧ ∀ y ∈ ys, y < x
  | [], n => ⟨n, Nat.le_refl _, fun y hy => by cases hy⟩
  | z :: ys, n => by
    obtain ⟨x, hx, h⟩ := fresh_above ys n
    refine ⟨x + z + 1, by omega, fun y hy => ?_⟩
    rcases List.mem_cons.1 hy with e | e
    · omega
    · have := h y e; omega

/-- y, behind x in the order of the walk, waits for x, or the two touch nothing of one another; behind a maker stand makers alone. -/
def okPair (ops : Array Oper) (x y : Nat × Oper) : Bool :=
  (!mkB x.2 || mkB y.2) && ((y.2.after.any fun e => Region.binds .any e && e.on == x.1) || x.2.apart ops y.2)
def okPairs (ops : Array Oper) : List (Nat × Oper) → Bool
  | [] => true
  | x :: l => (l.all fun y => okPair ops x y && (x.1 != y.1)) && okPairs ops l
/-- Each waits for such alone as stand before it in the order of the walk. -/
def okBack (ops : Array Oper) : List (Nat × Oper) → List Nat → Bool
  | [], _ => true
  | x :: l, seen => (x.2.after.all fun e => !Region.binds .any e || seen.contains e.on) && okBack ops l (x.1 :: seen)

structure LeftN (ops : Array Oper) (n : Nat) (listed : Array Bool) (l : List (Nat × Oper)) : Prop where
  at_ : ∀ x ∈ l, ops[x.1]? = some x.2
  un : ∀ x ∈ l, listed.getD x.1 true = false
  lt : ∀ x ∈ l, x.1 < n
  all : ∀ i o, i < n → ops[i]? = some o → listed.getD i true = false → (i, o) ∈ l
  pairs : l.Pairwise fun x y => okPair ops x y = true ∧ x.1 ≠ y.1
  inv : HeadInv .any ops n listed

theorem LeftN.take {n : Nat} {listed : Array Bool} {l : List (Nat × Oper)} (h : LeftN ops n listed l) {j : Nat} (hj : j ∈ Region.ready .any ops listed) (hjn : j < n) : LeftN ops n (listed.setIfInBounds j true) (l.filter fun x => x.1 != j) := by
  refine ⟨fun x hx => h.at_ x (List.mem_filter.1 hx).1, fun x hx => ?_, fun x hx => h.lt x (List.mem_filter.1 hx).1, fun i o hin hi hun => ?_, h.pairs.filter _, h.inv.set hj hjn⟩
  · have h1 := List.mem_filter.1 hx
    have hne : j ≠ x.1 := fun e => by simp [e] at h1
    rw [getD_set_ne true hne]
    exact h.un x h1.1
  · have hne : j ≠ i := fun e => by
      subst e
      have hlt : j < listed.size := by rw [h.inv.size]; exact (Array.getElem?_eq_some_iff.1 hi).1
      simp [Array.getD, hlt] at hun
    rw [getD_set_ne true hne] at hun
    exact List.mem_filter.2 ⟨h.all i o hin hi hun, by simp; omega⟩

theorem apartN {listed : Array Bool} {i j : Nat} {oi oj : Oper} (hj : ops[j]? = some oj) (hp : okPair ops (i, oi) (j, oj) = true) (hun : listed.getD i true = false) (hr : j ∈ Region.ready .any ops listed) :
    oi.apart ops oj = true ∧ (mkB oi = true → mkB oj = true) := by
  simp only [okPair, Bool.and_eq_true, Bool.or_eq_true, Bool.not_eq_true'] at hp
  refine ⟨?_, fun h => hp.1.elim (fun h1 => by rw [h] at h1; cases h1) (fun h1 => h1)⟩
  rcases hp.2 with h | h
  · obtain ⟨hjun, o, ho, hall⟩ := mem_ready.1 hr
    have : o = oj := Option.some.inj (ho.symm.trans hj)
    subst this
    obtain ⟨e, he, hb⟩ := Array.any_eq_true'.1 h
    simp only [Bool.and_eq_true, beq_iff_eq] at hb
    have h1 := hall e he hb.1
    rw [hb.2, getD_both hun] at h1
    cases h1
  · exact h

theorem filter_front {l : List (Nat × Oper)} {i : Nat} (h : ∀ y ∈ l, i ≠ y.1) : (l.filter fun x => x.1 != i) = l := by
  rw [List.filter_eq_self]
  intro x hx
  have := h x hx
  simp; omega

theorem takeP (hsel : ∀ (j : Nat) (o : Oper) cs b, ops[j]? = some o → o.op ≠ .select cs b) {listed : Array Bool} {Q : Act → World → Prop} {j : Nat} {oj : Oper} (hj : ops[j]? = some oj) (hr : j ∈ Region.ready .any ops listed) (hm : mkB oj = false) :
    ∀ (l : List (Nat × Oper)) (ys : List Nat) (F : World → Prop) (a : Act), (∀ x ∈ l, ops[x.1]? = some x.2) → (∀ x ∈ l, listed.getD x.1 true = false) → (l.Pairwise fun x y => okPair ops x y = true ∧ x.1 ≠ y.1) → (j, oj) ∈ l → wpN P ops W Q l ys F a →
      ∃ v, bYields P ops W oj v a ∧ wpN P ops W Q (l.filter fun x => x.1 != j) ys F (a.put oj.dst v)
  | [], ys, F, a, _, _, _, hmem, _ => by cases hmem
  | (i, oi) :: rest, ys, F, a, hat, hun, hs, hmem, hN => by
    have hi := hat (i, oi) List.mem_cons_self
    have hpr := List.pairwise_cons.1 hs
    by_cases hij : i = j
    · subst hij
      have : oi = oj := Option.some.inj (hi.symm.trans hj)
      subst this
      rcases hN with ⟨_, v, hy, hN⟩ | ⟨h1, _⟩
      · refine ⟨v, hy, ?_⟩
        rw [List.filter_cons_of_neg (by simp), filter_front (fun y hy => (hpr.1 y hy).2)]
        exact hN
      · rw [hm] at h1; cases h1
    · have hm' : (j, oj) ∈ rest := by
        rcases List.mem_cons.1 hmem with h | h
        · cases h; exact absurd rfl hij
        · exact h
      obtain ⟨hap, hmk⟩ := apartN hj (hpr.1 _ hm').1 (hun (i, oi) List.mem_cons_self) hr
      obtain ⟨p1, p2, p3⟩ := Oper.apart_spec hap
      have hsi : ∀ cs b, oi.op ≠ .select cs b := fun cs b => hsel i oi cs b hi
      have hsj : ∀ cs b, oj.op ≠ .select cs b := fun cs b => hsel j oj cs b hj
      rw [List.filter_cons_of_pos (by simpa using hij)]
      rcases hN with ⟨h1, v, hy, hN⟩ | ⟨h1, _⟩
      · obtain ⟨u, hyj, hN'⟩ := takeP hsel hj hr hm rest ys F _ (fun x hx => hat x (List.mem_cons_of_mem _ hx)) (fun x hx => hun x (List.mem_cons_of_mem _ hx)) hpr.2 hm' hN
        refine ⟨u, hyj.same (execOp_put oj hsj a oi.dst v p1).symm (wanted_put oj a oi.dst v p1).symm, .inl ⟨h1, v, hy.same (execOp_put oi hsi a oj.dst u p3) (wanted_put oi a oj.dst u p3), ?_⟩⟩
        rw [← Act.put_comm a v u p2]
        exact hN'
      · have := hmk h1
        rw [hm] at this; cases this

theorem takeM (hsel : ∀ (j : Nat) (o : Oper) cs b, ops[j]? = some o → o.op ≠ .select cs b) {listed : Array Bool} {Q : Act → World → Prop} {j : Nat} {oj : Oper} (hj : ops[j]? = some oj) (hr : j ∈ Region.ready .any ops listed) (hm : mkB oj = true) :
    ∀ (l : List (Nat × Oper)) (ys : List Nat) (F : World → Prop) (a : Act), (∀ x ∈ l, ops[x.1]? = some x.2) → (∀ x ∈ l, listed.getD x.1 true = false) → (l.Pairwise fun x y => okPair ops x y = true ∧ x.1 ≠ y.1) → (j, oj) ∈ l → wpN P ops W Q l ys F a →
      ∃ obj, nYields P ops W oj obj a ∧ ∀ x, W.heap.size ≤ x → x ∉ ys → wpN P ops W Q (l.filter fun x => x.1 != j) (x :: ys) (fun w => F w ∧ Blk w x obj) (a.put oj.dst (mkOf oj x))
  | [], ys, F, a, _, _, _, hmem, _ => by cases hmem
  | (i, oi) :: rest, ys, F, a, hat, hun, hs, hmem, hN => by
    have hi := hat (i, oi) List.mem_cons_self
    have hpr := List.pairwise_cons.1 hs
    by_cases hij : i = j
    · subst hij
      have : oi = oj := Option.some.inj (hi.symm.trans hj)
      subst this
      rcases hN with ⟨h1, _⟩ | ⟨_, obj, hy, hN⟩
      · rw [hm] at h1; cases h1
      · refine ⟨obj, hy, ?_⟩
        rw [List.filter_cons_of_neg (by simp), filter_front (fun y hy => (hpr.1 y hy).2)]
        exact hN
    · have hm' : (j, oj) ∈ rest := by
        rcases List.mem_cons.1 hmem with h | h
        · cases h; exact absurd rfl hij
        · exact h
      obtain ⟨hap, hmk⟩ := apartN hj (hpr.1 _ hm').1 (hun (i, oi) List.mem_cons_self) hr
      obtain ⟨p1, p2, p3⟩ := Oper.apart_spec hap
      have hsi : ∀ cs b, oi.op ≠ .select cs b := fun cs b => hsel i oi cs b hi
      have hsj : ∀ cs b, oj.op ≠ .select cs b := fun cs b => hsel j oj cs b hj
      rw [List.filter_cons_of_pos (by simpa using hij)]
      rcases hN with ⟨h1, v, hy, hN⟩ | ⟨h1, obi, hy, hN⟩
      · obtain ⟨obj, hyj, hN'⟩ := takeM hsel hj hr hm rest ys F _ (fun x hx => hat x (List.mem_cons_of_mem _ hx)) (fun x hx => hun x (List.mem_cons_of_mem _ hx)) hpr.2 hm' hN
        refine ⟨obj, hyj.same (execOp_put oj hsj a oi.dst v p1).symm (wanted_put oj a oi.dst v p1).symm, fun x hx hn => .inl ⟨h1, v, hy.same (execOp_put oi hsi a oj.dst _ p3) (wanted_put oi a oj.dst _ p3), ?_⟩⟩
        rw [← Act.put_comm a v _ p2]
        exact hN' x hx hn
      · have step : ∀ x, W.heap.size ≤ x → x ∉ ys → ∃ obj, nYields P ops W oj obj a ∧ ∀ z, W.heap.size ≤ z → z ∉ x :: ys → wpN P ops W Q (rest.filter fun x => x.1 != j) (z :: x :: ys) (fun w => (F w ∧ Blk w x obi) ∧ Blk w z obj) ((a.put oi.dst (mkOf oi x)).put oj.dst (mkOf oj z)) := fun x hx hn => by
          obtain ⟨obj, hyj, hN'⟩ := takeM hsel hj hr hm rest (x :: ys) _ _ (fun x hx => hat x (List.mem_cons_of_mem _ hx)) (fun x hx => hun x (List.mem_cons_of_mem _ hx)) hpr.2 hm' (hN x hx hn)
          exact ⟨obj, hyj.same (execOp_put oj hsj a oi.dst _ p1).symm (wanted_put oj a oi.dst _ p1).symm, hN'⟩
        obtain ⟨x0, hx0, hf0⟩ := fresh_above ys W.heap.size
        obtain ⟨obj, hyj, _⟩ := step x0 hx0 (fun h => by have := hf0 x0 h; omega)
        refine ⟨obj, hyj, fun z hz hzn => .inr ⟨h1, obi, hy.same (execOp_put oi hsi a oj.dst _ p3) (wanted_put oi a oj.dst _ p3), fun x hx hxn => ?_⟩⟩
        have hxy : x ∉ ys := fun h => hxn (List.mem_cons_of_mem _ h)
        obtain ⟨obj', hyj', hN'⟩ := step x hx hxy
        obtain rfl := hyj.unique hyj'
        have hzx : z ∉ x :: ys := fun h => by
          rcases List.mem_cons.1 h with e | e
          · exact hxn (e ▸ List.mem_cons_self)
          · exact hzn e
        have h5 := hN' z hz hzx
        rw [Act.put_comm a _ _ p2] at h5
        refine wpN_mono _ _ _ _ _ _ (fun y hy => ?_) (fun w hw => ⟨⟨hw.1.1, hw.2⟩, hw.1.2⟩) h5
        simp only [List.mem_cons] at hy ⊢
        rcases hy with h | h | h
        · exact .inr (.inl h)
        · exact .inl h
        · exact .inr (.inr h)

theorem lenFilterN : ∀ (l : List (Nat × Oper)) (i : Nat), (l.Pairwise fun x y => okPair ops x y = true ∧ x.1 ≠ y.1) → (∃ o, (i, o) ∈ l) → (l.filter fun x => x.1 != i).length + 1 = l.length
  | [], _, _, ⟨_, h⟩ => by cases h
  | x :: rest, i, hs, ⟨o, hm⟩ => by
    have hpr := List.pairwise_cons.1 hs
    by_cases e : x.1 = i
    · rw [List.filter_cons_of_neg (by simp [e]), filter_front (fun y hy => e ▸ (hpr.1 y hy).2)]
      rfl
    · rw [List.filter_cons_of_pos (by simpa using e)]
      have hm' : (i, o) ∈ rest := by
        rcases List.mem_cons.1 hm with h | h
        · exact absurd (by rw [← h]) e
        · exact h
      have := lenFilterN rest i hpr.2 ⟨o, hm'⟩
      simp only [List.length_cons]
      omega

/-- The head of what is left may run. -/
def Back (ops : Array Oper) (listed : Array Bool) (l : List (Nat × Oper)) : Prop :=
  ∀ pre x post, l = pre ++ x :: post → ∀ e ∈ x.2.after, Region.binds .any e = true → listed.getD e.on false = true ∨ ∃ y ∈ pre, y.1 = e.on
theorem Back.take {listed : Array Bool} {l : List (Nat × Oper)} (h : Back ops listed l) (j : Nat) (hj : j < listed.size) : Back ops (listed.setIfInBounds j true) (l.filter fun x => x.1 != j) := by
  intro pre x post hl e he hb
  obtain ⟨pre', post', h1, h2, h3⟩ : ∃ pre' post', l = pre' ++ x :: post' ∧ pre'.filter (fun x => x.1 != j) = pre ∧ post'.filter (fun x => x.1 != j) = post := by
    clear h
    induction l generalizing pre with
    | nil => simp at hl
    | cons y l ih =>
      by_cases hy : (y.1 != j) = true
      · rw [List.filter_cons_of_pos (p := fun x : Nat × Oper => x.1 != j) hy] at hl
        cases pre with
        | nil =>
          simp only [List.nil_append, List.cons.injEq] at hl
          exact ⟨[], l, by rw [hl.1]; rfl, rfl, hl.2⟩
        | cons z pre =>
          simp only [List.cons_append, List.cons.injEq] at hl
          obtain ⟨a, b, h1, h2, h3⟩ := ih pre hl.2
          exact ⟨y :: a, b, by rw [h1]; rfl, by rw [List.filter_cons_of_pos (p := fun x : Nat × Oper => x.1 != j) hy, h2, hl.1], h3⟩
      · rw [List.filter_cons_of_neg (p := fun x : Nat × Oper => x.1 != j) hy] at hl
        obtain ⟨a, b, h1, h2, h3⟩ := ih pre hl
        exact ⟨y :: a, b, by rw [h1]; rfl, by rw [List.filter_cons_of_neg (p := fun x : Nat × Oper => x.1 != j) hy, h2], h3⟩
  rcases h pre' x post' h1 e he hb with h4 | ⟨y, hy, hye⟩
  · left
    by_cases hej : j = e.on
    · subst hej; simp [Array.getD, hj]
    · rw [getD_set_ne false hej]; exact h4
  · by_cases hyj : y.1 = j
    · left
      rw [← hye, hyj]
      simp [Array.getD, hj]
    · right
      exact ⟨y, by rw [← h2]; exact List.mem_filter.2 ⟨hy, by simpa using hyj⟩, hye⟩

theorem wpAny_of_N (hsel : ∀ (j : Nat) (o : Oper) cs b, ops[j]? = some o → o.op ≠ .select cs b) {n g : Nat} {Q' : Exit → Act → World → Prop} {Q : Act → World → Prop}
    (hwait : ∀ listed, HeadInv .any ops n listed → ∀ i, i < n → listed.getD i true = false → ∀ t, n ≤ t → t ∉ Region.ready .any ops listed)
    (hend : ∀ listed a w, LeftN ops n listed [] → Q a w → wpAny P .any ops Q' g listed a w) :
    ∀ (f : Nat) (listed : Array Bool) (l : List (Nat × Oper)) (ys : List Nat) (F : World → Prop) (a : Act) (w : World), LeftN ops n listed l → Back ops listed l → l.length = f → Below W.heap.size W w → F w → (∀ w w', F w → Below w.heap.size w w' → F w') → (∀ y ∈ ys, y < w.heap.size) →
      wpN P ops W Q l ys F a → wpAny P .any ops Q' (f + g) listed a w
  | 0, listed, l, ys, F, a, w, hL, hBk, hl, hb, hF, hst, hys, hN => by
    have : l = [] := List.length_eq_zero_iff.1 hl
    subst this
    rw [Nat.zero_add]
    exact hend listed a w hL (hN w hb hF)
  | f + 1, listed, l, ys, F, a, w, hL, hBk, hl, hb, hF, hst, hys, hN => by
    rw [show f + 1 + g = (f + g) + 1 by omega]
    refine ⟨fun h0 => ?_, fun i hi => ?_⟩
    · exfalso
      match l, hl, hL, hBk with
      | (i, o) :: rest, _, hL, hBk =>
        have : i ∈ Region.ready .any ops listed := mem_ready.2 ⟨hL.un (i, o) List.mem_cons_self, o, hL.at_ (i, o) List.mem_cons_self, fun e he hbn => by
          rcases hBk [] (i, o) rest rfl e he hbn with h | ⟨y, hy, _⟩
          · exact h
          · cases hy⟩
        rw [h0] at this
        cases this
    · obtain ⟨hun, o, ho, _⟩ := mem_ready.1 hi
      have hin : i < n := by
        rcases Nat.lt_or_ge i n with h | h
        · exact h
        · match l, hl, hL with
          | (k, ok) :: rest, _, hL => exact absurd hi (hwait listed hL.inv k (hL.lt (k, ok) List.mem_cons_self) (hL.un (k, ok) List.mem_cons_self) i h)
      have hmem := hL.all i o hin ho hun
      have hlen : (l.filter fun x => x.1 != i).length = f := by
        have := lenFilterN l i hL.pairs ⟨o, hmem⟩
        omega
      have hsz : i < listed.size := by rw [hL.inv.size]; exact (Array.getElem?_eq_some_iff.1 ho).1
      cases hm : mkB o with
      | false =>
        obtain ⟨v, hy, hN'⟩ := takeP hsel ho hi hm l ys F a hL.at_ hL.un hL.pairs hmem hN
        exact hy.wpOp ho hb (fun w' hb' => wpAny_of_N hsel hwait hend f _ _ ys F _ w' (hL.take hi hin) (hBk.take i hsz) hlen (hb.trans (hb'.mono hb.size)) (hst w w' hF hb') hst (fun y hy => Nat.lt_of_lt_of_le (hys y hy) hb'.size) hN')
      | true =>
        obtain ⟨obj, hy, hN'⟩ := takeM hsel ho hi hm l ys F a hL.at_ hL.un hL.pairs hmem hN
        have hA : Below w.heap.size w (w.alloc obj) := (Below.refl _ _).alloc (Nat.le_refl _) _
        refine hy.wpOp ho hb (wpAny_of_N hsel hwait hend f _ _ (w.heap.size :: ys) (fun w' => F w' ∧ Blk w' w.heap.size obj) _ _ (hL.take hi hin) (hBk.take i hsz) hlen (hb.trans (hA.mono hb.size)) ⟨hst w _ hF hA, heap_alloc_new _ _⟩ (fun w1 w2 h h' => ⟨hst w1 w2 h.1 h', h.2.kept h'⟩) (fun y hy => ?_) (hN' w.heap.size hb.size (fun h => Nat.lt_irrefl _ (hys _ h))))
        rcases List.mem_cons.1 hy with e | e
        · subst e; simp
        · have := hys y e; simp; omega

/-- The order of the walk: first what makes no block, then what makes one. -/
def makeOrder (l : List Oper) (n : Nat) : List (Nat × Oper) := (numbered (l.take n) 0).filter (fun x => !mkB x.2) ++ (numbered (l.take n) 0).filter (fun x => mkB x.2)
def fullTo (n size : Nat) : Array Bool := ((List.range size).map fun i => decide (i < n)).toArray
/-- The closed look at a region. -/
def makeB (l : List Oper) (n : Nat) : Bool :=
  Region.noSelect l.toArray && okPairs l.toArray (makeOrder l n) && okBack l.toArray (makeOrder l n) [] && (decide (n = l.length) || (decide (n < l.length) && Region.sinkB .any l.toArray n && Region.chainB .any l.toArray n)) && Region.seqB .any l.toArray (l.length - n) n (fullTo n l.length)

theorem okPairs_spec : ∀ l : List (Nat × Oper), okPairs ops l = true → l.Pairwise fun x y => okPair ops x y = true ∧ x.1 ≠ y.1
  | [], _ => List.Pairwise.nil
  | x :: l, h => by
    simp only [okPairs, Bool.and_eq_true] at h
    refine List.pairwise_cons.2 ⟨fun y hy => ?_, okPairs_spec l h.2⟩
    have := List.all_eq_true.1 h.1 y hy
    simp only [Bool.and_eq_true, bne_iff_ne] at this
    exact this
theorem okBack_spec : ∀ (l : List (Nat × Oper)) (seen : List Nat), okBack ops l seen = true → ∀ pre x post, l = pre ++ x :: post → ∀ e ∈ x.2.after, Region.binds .any e = true → e.on ∈ seen ∨ ∃ y ∈ pre, y.1 = e.on
  | [], _, _, pre, x, post, hl, _, _, _ => by simp at hl
  | y :: l, seen, h, pre, x, post, hl, e, he, hb => by
    simp only [okBack, Bool.and_eq_true] at h
    cases pre with
    | nil =>
      simp only [List.nil_append, List.cons.injEq] at hl
      have := Array.all_eq_true'.1 h.1 e (by rw [hl.1]; exact he)
      simp [hb] at this
      exact .inl this
    | cons z pre =>
      simp only [List.cons_append, List.cons.injEq] at hl
      rcases okBack_spec l (y.1 :: seen) h.2 pre x post hl.2 e he hb with h1 | ⟨u, hu, hue⟩
      · rcases List.mem_cons.1 h1 with h2 | h2
        · exact .inr ⟨z, List.mem_cons_self, by rw [← hl.1]; exact h2.symm⟩
        · exact .inl h2
      · exact .inr ⟨u, List.mem_cons_of_mem _ hu, hue⟩

theorem wp_region_make {id : Nat} {Q : Exit → Act → World → Prop} {a : Act} {w : World} {l : List Oper} (n : Nat) (hm : P.follows .mixedOrders = true) (hB : makeB l n = true)
    (h : wpN P l.toArray w (fun a' w' => wpList P l.toArray Q (l.drop n) a' w') (makeOrder l n) [] (fun _ => True) a) : (Code.region id l.toArray true).wp P Q a w := by
  simp only [makeB, Bool.and_eq_true, Bool.or_eq_true, decide_eq_true_eq] at hB
  obtain ⟨⟨⟨⟨hsel, hpr⟩, hbk⟩, hn⟩, hseq⟩ := hB
  have hn' : n ≤ l.length := by rcases hn with hn | hn <;> omega
  have hmem : ∀ x, x ∈ makeOrder l n ↔ x ∈ numbered (l.take n) 0 := fun x => by
    simp only [makeOrder, List.mem_append, List.mem_filter]
    cases mkB x.2 <;> simp
  have hin : ∀ x, x ∈ makeOrder l n → x.1 < n ∧ l[x.1]? = some x.2 := fun x hx => by
    have h1 := (numbered_mem (l.take n) 0 x.1 x.2).1 ((hmem x).1 hx)
    have h2 := h1.2
    simp only [Nat.sub_zero] at h2
    have hlt0 := (List.getElem?_eq_some_iff.1 h2).1
    rw [List.length_take] at hlt0
    have hlt : x.1 < n := by omega
    rw [List.getElem?_take] at h2
    simp [hlt] at h2
    exact ⟨hlt, h2⟩
  have inv0 : HeadInv .any l.toArray n (Array.replicate l.toArray.size false) :=
    ⟨by simp, fun j oj _ hl => (by rw [getD_replicate_false] at hl; cases hl), fun t _ ht => getD_in (by simpa using ht) (getD_replicate_false _ _)⟩
  have hL : LeftN l.toArray n (Array.replicate l.toArray.size false) (makeOrder l n) := by
    refine ⟨fun x hx => by simpa using (hin x hx).2, fun x hx => getD_in ?_ (getD_replicate_false _ _), fun x hx => (hin x hx).1, fun i o hi hio _ => ?_, okPairs_spec _ hpr, inv0⟩
    · have := (List.getElem?_eq_some_iff.1 (hin x hx).2).1
      simpa using this
    · refine (hmem _).2 ((numbered_mem (l.take n) 0 i o).2 ⟨by omega, ?_⟩)
      simp only [Nat.sub_zero]
      rw [List.getElem?_take]
      simpa [hi] using hio
  have hBk : Back l.toArray (Array.replicate l.toArray.size false) (makeOrder l n) := fun pre x post hl e he hb => by
    rcases okBack_spec _ _ hbk pre x post hl e he hb with h1 | h1
    · cases h1
    · exact .inr h1
  have hlen : (makeOrder l n).length = n := by
    have h1 : ∀ (m : List (Nat × Oper)), (m.filter (fun x => !mkB x.2)).length + (m.filter (fun x => mkB x.2)).length = m.length := fun m => by
      induction m with
      | nil => rfl
      | cons x m ih => cases hx : mkB x.2 <;> simp [hx] <;> omega
    rw [makeOrder, List.length_append, h1, numbered_length]
    simp; omega
  have hwait : ∀ listed, HeadInv .any l.toArray n listed → ∀ i, i < n → listed.getD i true = false → ∀ t, n ≤ t → t ∉ Region.ready .any l.toArray listed := by
    intro listed inv i hi hun t ht hr
    rcases hn with hn | hn
    · obtain ⟨_, ot, hot, _⟩ := mem_ready.1 hr
      have htlt : t < l.toArray.size := (Array.getElem?_eq_some_iff.1 hot).1
      simp at htlt
      omega
    · exact tail_waits hn.1.2 hn.2 (by simpa using hn.1.1) inv _ i rfl hi hun t ht hr
  have hdl : (l.drop n).length = l.length - n := by simp
  have hend : ∀ listed a w, LeftN l.toArray n listed [] → wpList P l.toArray Q (l.drop n) a w → wpAny P .any l.toArray Q (l.length - n) listed a w := fun listed a w hL0 hq => by
    have he : listed = fullTo n l.length := by
      apply Array.ext
      · rw [hL0.inv.size]; simp [fullTo]
      · intro i h1 h2
        have hi : i < l.length := by have := hL0.inv.size; simp at this; omega
        have hv : (fullTo n l.length)[i] = decide (i < n) := by simp [fullTo]
        rw [hv]
        by_cases hin : i < n
        · cases hb : listed[i] with
          | true => simp [hin]
          | false =>
            have := hL0.all i l[i] hin (by simp [hi]) (by simp [Array.getD, h1, hb])
            cases this
        · have := hL0.inv.tail i (by omega) (by simpa using hi)
          simp [Array.getD, h1] at this
          simp [this, hin]
    subst he
    have := wpAny_of_seq (md := .any) (P := P) (ops := l.toArray) (Q' := Q) (l.drop n) n (fullTo n l.length) a w (fun j => by simp [List.getElem?_drop]) (by rw [hdl]; exact hseq) hq
    rwa [hdl] at this
  refine wp_region_any hm ?_
  have := wpAny_of_N (W := w) (Q' := Q) (Region.noSelect_spec hsel) hwait hend n _ _ [] _ a w.drew hL hBk hlen (Below.refl _ _).drew trivial (fun _ _ _ _ => trivial) (fun y hy => by cases hy) h
  rw [show n + (l.length - n) = l.toArray.size by simp; omega] at this
  exact this

theorem wpN_nil {Q : Act → World → Prop} {ys : List Nat} {F : World → Prop} {a : Act} (h : ∀ w, Below W.heap.size W w → F w → Q a w) : wpN P ops W Q [] ys F a := h
theorem wpN_on {Q : Act → World → Prop} {ys : List Nat} {F : World → Prop} {a : Act} {i : Nat} {o : Oper} {rest : List (Nat × Oper)} (v : Value) (hmk : mkB o = false) (hw : Region.wanted o (yielded ops a.tmps) = true)
    (h : ∀ w, Below W.heap.size W w → ∀ K : Value → World → Prop, Hid (∀ w', Below w.heap.size w w' → K v w') → Oper.gAt P o a w K) (hr : wpN P ops W Q rest ys F (a.put o.dst v)) : wpN P ops W Q ((i, o) :: rest) ys F a := by
  refine .inl ⟨hmk, v, .inl ⟨hw, fun w hS => ?_⟩, hr⟩
  have h1 := h w hS (fun u w' => u = v ∧ Below w.heap.size w w') (fun w' hS' => ⟨rfl, hS'⟩)
  unfold Oper.gAt at h1
  generalize (execOp a.eval o).run P w = r at h1 ⊢
  cases r with
  | ok x w' =>
    cases x <;> simp only [gUponK] at h1 <;> simp only [bUpon]
    case value u => exact h1
    case skip => exact ⟨h1.1.symm, h1.2⟩
    case enter f args => exact h1.mono fun e w'' ⟨u, he, hu, hS''⟩ => ⟨by rw [he, hu], hS''⟩
  | halt x w' => simp only [gUponK] at h1
theorem wpN_off {Q : Act → World → Prop} {ys : List Nat} {F : World → Prop} {a : Act} {i : Nat} {o : Oper} {rest : List (Nat × Oper)} (hmk : mkB o = false) (hw : Region.wanted o (yielded ops a.tmps) = false) (hr : wpN P ops W Q rest ys F (a.put o.dst undef)) : wpN P ops W Q ((i, o) :: rest) ys F a :=
  .inl ⟨hmk, undef, .inr ⟨hw, rfl⟩, hr⟩
theorem wpN_new {Q : Act → World → Prop} {ys : List Nat} {F : World → Prop} {a : Act} {i : Nat} {o : Oper} {rest : List (Nat × Oper)} (obj : Obj) (hmk : mkB o = true) (hw : Region.wanted o (yielded ops a.tmps) = true)
    (h : ∀ w, Below W.heap.size W w → ∀ K : Value → World → Prop, Hid (K (mkOf o w.heap.size) (w.alloc obj)) → Oper.sAt P o a w K)
    (hr : ∀ x, W.heap.size ≤ x → x ∉ ys → wpN P ops W Q rest (x :: ys) (fun w => F w ∧ Blk w x obj) (a.put o.dst (mkOf o x))) : wpN P ops W Q ((i, o) :: rest) ys F a := by
  refine .inr ⟨hmk, obj, ⟨hw, fun w hS => ?_⟩, hr⟩
  have h1 := h w hS (fun u w' => u = mkOf o w.heap.size ∧ w' = w.alloc obj) ⟨rfl, rfl⟩
  unfold Oper.sAt at h1
  generalize (execOp a.eval o).run P w = r at h1 ⊢
  cases r with
  | ok x w' =>
    cases x <;> simp only [stilK] at h1
    case value u => obtain ⟨rfl, rfl⟩ := h1; rfl
    case skip => exfalso; have := h1.1; unfold mkOf at this; split at this <;> cases this
  | halt x w' => simp only [stilK] at h1
end
end Go.Proofs.YtieacbccadbdbaaGreatDoor


/- A region that draws its order: a head, walked in an order that is given (what makes no block, then what makes one), and a forced tail; head and tail are lists of numbers, in whatever places of the text. -/
namespace Go.Proofs.YtieacbccadbdbaaGreatDoor
open Go.RowKit
set_option linter.unusedVariables false

section
variable {P : Program} {ops : Array Oper} {W : World}

/-- The operations of these numbers. -/
def picked (l : List Oper) : List Nat → List (Nat × Oper)
  | [] => []
  | i :: r => match l[i]? with
    | some o => (i, o) :: picked l r
    | none => picked l r
def opsAt (l : List Oper) : List Nat → List Oper
  | [] => []
  | i :: r => match l[i]? with
    | some o => o :: opsAt l r
    | none => opsAt l r
theorem picked_mem (l : List Oper) : ∀ (h : List Nat) (i : Nat) (o : Oper), (i, o) ∈ picked l h ↔ i ∈ h ∧ l[i]? = some o
  | [], i, o => by simp [picked]
  | j :: h, i, o => by
    have ih := picked_mem l h i o
    simp only [picked]
    split
    · rename_i oj hj
      simp only [List.mem_cons, Prod.mk.injEq, ih]
      constructor
      · rintro (⟨rfl, rfl⟩ | ⟨h1, h2⟩)
        · exact ⟨.inl rfl, hj⟩
        · exact ⟨.inr h1, h2⟩
      · rintro ⟨rfl | h1, h2⟩
        · exact .inl ⟨rfl, (Option.some.inj (hj.symm.trans h2)).symm⟩
        · exact .inr ⟨h1, h2⟩
    · rename_i hj
      rw [ih, List.mem_cons]
      constructor
      · rintro ⟨h1, h2⟩
        exact ⟨.inr h1, h2⟩
      · rintro ⟨rfl | h1, h2⟩
        · rw [hj] at h2; cases h2
        · exact ⟨h1, h2⟩

structure OInv (ops : Array Oper) (tl : List Nat) (listed : Array Bool) : Prop where
  size : listed.size = ops.size
  closed : ∀ j oj, ops[j]? = some oj → listed.getD j false = true → ∀ e ∈ oj.after, Region.binds .any e = true → listed.getD e.on false = true
  tail : ∀ t, t ∈ tl → t < ops.size → listed.getD t true = false
theorem OInv.set {tl : List Nat} {i : Nat} {listed : Array Bool} (inv : OInv ops tl listed) (hi : i ∈ Region.ready .any ops listed) (hin : i ∉ tl) : OInv ops tl (listed.setIfInBounds i true) := by
  obtain ⟨_, oi, hoi, hall⟩ := mem_ready.1 hi
  refine ⟨by simp [inv.size], fun j oj hj hl e he hb => ?_, fun t ht ht' => by rw [getD_set_ne true (show i ≠ t from fun h => hin (by rw [h]; exact ht))]; exact inv.tail t ht ht'⟩
  by_cases hij : i = j
  · subst hij
    have : oj = oi := Option.some.inj (hj.symm.trans hoi)
    subst this
    exact getD_set_true (hall e he hb)
  · rw [getD_set_ne false hij] at hl
    exact getD_set_true (inv.closed j oj hj hl e he hb)

/-- All that is waited for, from above down. -/
def cloDown (ops : Array Oper) : Nat → List Nat → List Nat
  | 0, s => s
  | i + 1, s => if s.any (fun j => Region.waitsFor .any ops j i) then cloDown ops i (i :: s) else cloDown ops i s
theorem cloDown_listed {tl : List Nat} {listed : Array Bool} {t : Nat} (inv : OInv ops tl listed) (hr : t ∈ Region.ready .any ops listed) :
    ∀ (i : Nat) (s : List Nat), (∀ x ∈ s, x = t ∨ listed.getD x false = true) → ∀ x ∈ cloDown ops i s, x = t ∨ listed.getD x false = true
  | 0, s, h => h
  | i + 1, s, h => by
    unfold cloDown
    split
    · rename_i ha
      refine cloDown_listed inv hr i _ (fun x hx => ?_)
      rcases List.mem_cons.1 hx with rfl | hx
      · right
        obtain ⟨j, hj, hw⟩ := List.any_eq_true.1 ha
        obtain ⟨oj, hoj, e, he, hb, hon⟩ := Region.waitsFor_spec hw
        rcases h j hj with rfl | hl
        · obtain ⟨_, ot, hot, hall⟩ := mem_ready.1 hr
          have : oj = ot := Option.some.inj (hoj.symm.trans hot)
          subst this
          exact hon ▸ hall e he hb
        · exact hon ▸ inv.closed j oj hoj hl e he hb
      · exact h x hx
    · exact cloDown_listed inv hr i _ h
/-- Each of the tail waits for another one of the tail, or for all of the head. -/
def waitB (ops : Array Oper) (hd tl : List Nat) : Bool :=
  tl.all fun t => (tl.any fun u => Region.waitsFor .any ops t u) || (hd.all fun i => (cloDown ops ops.size [t]).contains i)
theorem waits {hd tl : List Nat} {listed : Array Bool} (hw : waitB ops hd tl = true) (hdis : ∀ i ∈ hd, i ∉ tl) (hlt : ∀ t ∈ tl, t < ops.size) (inv : OInv ops tl listed) (i : Nat) (hi : i ∈ hd) (hun : listed.getD i true = false) (t : Nat) (ht : t ∈ tl) : t ∉ Region.ready .any ops listed := by
  intro hr
  have h1 := List.all_eq_true.1 hw t ht
  simp only [Bool.or_eq_true] at h1
  rcases h1 with h1 | h1
  · obtain ⟨u, hu, hwf⟩ := List.any_eq_true.1 h1
    obtain ⟨oj, hoj, e, he, hb, hon⟩ := Region.waitsFor_spec hwf
    obtain ⟨_, ot, hot, hall⟩ := mem_ready.1 hr
    have : oj = ot := Option.some.inj (hoj.symm.trans hot)
    subst this
    have h2 := hall e he hb
    rw [hon, getD_both (inv.tail u hu (hlt u hu))] at h2
    cases h2
  · have h2 := List.all_eq_true.1 h1 i hi
    have h3 : i ∈ cloDown ops ops.size [t] := by simpa using h2
    rcases cloDown_listed inv hr ops.size [t] (fun x hx => .inl (by simpa using hx)) i h3 with rfl | h4
    · exact hdis i hi ht
    · rw [getD_both hun] at h4; cases h4

structure LeftO (ops : Array Oper) (tl : List Nat) (listed : Array Bool) (l : List (Nat × Oper)) : Prop where
  at_ : ∀ x ∈ l, ops[x.1]? = some x.2
  un : ∀ x ∈ l, listed.getD x.1 true = false
  lt : ∀ x ∈ l, x.1 ∉ tl
  all : ∀ i o, i ∉ tl → ops[i]? = some o → listed.getD i true = false → (i, o) ∈ l
  pairs : l.Pairwise fun x y => okPair ops x y = true ∧ x.1 ≠ y.1
  inv : OInv ops tl listed

theorem LeftO.take {tl : List Nat} {listed : Array Bool} {l : List (Nat × Oper)} (h : LeftO ops tl listed l) {j : Nat} (hj : j ∈ Region.ready .any ops listed) (hjn : j ∉ tl) : LeftO ops tl (listed.setIfInBounds j true) (l.filter fun x => x.1 != j) := by
  refine ⟨fun x hx => h.at_ x (List.mem_filter.1 hx).1, fun x hx => ?_, fun x hx => h.lt x (List.mem_filter.1 hx).1, fun i o hin hi hun => ?_, h.pairs.filter _, h.inv.set hj hjn⟩
  · have h1 := List.mem_filter.1 hx
    have hne : j ≠ x.1 := fun e => by simp [e] at h1
    rw [getD_set_ne true hne]
    exact h.un x h1.1
  · have hne : j ≠ i := fun e => by
      subst e
      have hlt : j < listed.size := by rw [h.inv.size]; exact (Array.getElem?_eq_some_iff.1 hi).1
      simp [Array.getD, hlt] at hun
    rw [getD_set_ne true hne] at hun
    exact List.mem_filter.2 ⟨h.all i o hin hi hun, by simp; omega⟩

theorem wpAny_of_O (hsel : ∀ (j : Nat) (o : Oper) cs b, ops[j]? = some o → o.op ≠ .select cs b) {tl : List Nat} {g : Nat} {Q' : Exit → Act → World → Prop} {Q : Act → World → Prop}
    {hd : List Nat} (hwait : ∀ listed, OInv ops tl listed → ∀ i o, ops[i]? = some o → i ∉ tl → listed.getD i true = false → i ∈ hd → ∀ t, t ∈ tl → t ∉ Region.ready .any ops listed)
    (hend : ∀ listed a w, LeftO ops tl listed [] → Q a w → wpAny P .any ops Q' g listed a w) :
    ∀ (f : Nat) (listed : Array Bool) (l : List (Nat × Oper)) (ys : List Nat) (F : World → Prop) (a : Act) (w : World), LeftO ops tl listed l → (∀ x ∈ l, x.1 ∈ hd) → Back ops listed l → l.length = f → Below W.heap.size W w → F w → (∀ w w', F w → Below w.heap.size w w' → F w') → (∀ y ∈ ys, y < w.heap.size) →
      wpN P ops W Q l ys F a → wpAny P .any ops Q' (f + g) listed a w
  | 0, listed, l, ys, F, a, w, hL, hLh, hBk, hl, hb, hF, hst, hys, hN => by
    have : l = [] := List.length_eq_zero_iff.1 hl
    subst this
    rw [Nat.zero_add]
    exact hend listed a w hL (hN w hb hF)
  | f + 1, listed, l, ys, F, a, w, hL, hLh, hBk, hl, hb, hF, hst, hys, hN => by
    rw [show f + 1 + g = (f + g) + 1 by omega]
    refine ⟨fun h0 => ?_, fun i hi => ?_⟩
    · exfalso
      match l, hl, hL, hBk with
      | (i, o) :: rest, _, hL, hBk =>
        have : i ∈ Region.ready .any ops listed := mem_ready.2 ⟨hL.un (i, o) List.mem_cons_self, o, hL.at_ (i, o) List.mem_cons_self, fun e he hbn => by
          rcases hBk [] (i, o) rest rfl e he hbn with h | ⟨y, hy, _⟩
          · exact h
          · cases hy⟩
        rw [h0] at this
        cases this
    · obtain ⟨hun, o, ho, _⟩ := mem_ready.1 hi
      have hin : i ∉ tl := fun h => by
        match l, hl, hL, hLh with
        | (k, ok) :: rest, _, hL, hLh => exact absurd hi (hwait listed hL.inv k ok (hL.at_ (k, ok) List.mem_cons_self) (hL.lt (k, ok) List.mem_cons_self) (hL.un (k, ok) List.mem_cons_self) (hLh (k, ok) List.mem_cons_self) i h)
      have hmem := hL.all i o hin ho hun
      have hlen : (l.filter fun x => x.1 != i).length = f := by
        have := lenFilterN l i hL.pairs ⟨o, hmem⟩
        omega
      have hsz : i < listed.size := by rw [hL.inv.size]; exact (Array.getElem?_eq_some_iff.1 ho).1
      cases hm : mkB o with
      | false =>
        obtain ⟨v, hy, hN'⟩ := takeP hsel ho hi hm l ys F a hL.at_ hL.un hL.pairs hmem hN
        exact hy.wpOp ho hb (fun w' hb' => wpAny_of_O hsel hwait hend f _ _ ys F _ w' (hL.take hi hin) (fun x hx => hLh x (List.mem_filter.1 hx).1) (hBk.take i hsz) hlen (hb.trans (hb'.mono hb.size)) (hst w w' hF hb') hst (fun y hy => Nat.lt_of_lt_of_le (hys y hy) hb'.size) hN')
      | true =>
        obtain ⟨obj, hy, hN'⟩ := takeM hsel ho hi hm l ys F a hL.at_ hL.un hL.pairs hmem hN
        have hA : Below w.heap.size w (w.alloc obj) := (Below.refl _ _).alloc (Nat.le_refl _) _
        refine hy.wpOp ho hb (wpAny_of_O hsel hwait hend f _ _ (w.heap.size :: ys) (fun w' => F w' ∧ Blk w' w.heap.size obj) _ _ (hL.take hi hin) (fun x hx => hLh x (List.mem_filter.1 hx).1) (hBk.take i hsz) hlen (hb.trans (hA.mono hb.size)) ⟨hst w _ hF hA, heap_alloc_new _ _⟩ (fun w1 w2 h h' => ⟨hst w1 w2 h.1 h', h.2.kept h'⟩) (fun y hy => ?_) (hN' w.heap.size hb.size (fun h => by have := hys _ h; omega)))
        rcases List.mem_cons.1 hy with e | e
        · subst e; simp
        · have := hys y e; simp; omega

/-- The tail is forced. -/
def seqL (ops : Array Oper) : List Nat → Array Bool → Bool
  | [], listed => (Region.ready .any ops listed).isEmpty
  | t :: ts, listed => decide (Region.ready .any ops listed = [t]) && seqL ops ts (listed.setIfInBounds t true)
theorem wpAny_of_seqL {Q' : Exit → Act → World → Prop} {l : List Oper} : ∀ (ts : List Nat) (listed : Array Bool) (a : Act) (w : World), (∀ t ∈ ts, t < l.length) →
    seqL l.toArray ts listed = true → wpList P l.toArray Q' (opsAt l ts) a w → wpAny P .any l.toArray Q' ts.length listed a w
  | [], _, _, _, _, hB, h => ⟨by simpa [seqL] using hB, h⟩
  | t :: ts, listed, a, w, hlt, hB, h => by
    have ht := hlt t List.mem_cons_self
    have h0 : l[t]? = some l[t] := List.getElem?_eq_getElem ht
    simp only [opsAt, h0] at h
    simp only [seqL, Bool.and_eq_true, decide_eq_true_eq] at hB
    refine ⟨fun h1 => (by rw [hB.1] at h1; cases h1), fun i hi => ?_⟩
    rw [hB.1] at hi
    have hik : i = t := by simpa using hi
    subst hik
    have h00 : l.toArray[i]? = some l[i] := by simp
    have hw : wpOp P l.toArray Q' i (wpList P l.toArray Q' (opsAt l ts)) a w := by unfold wpOp; simp only [h00]; exact h
    exact wpOp_mono (fun a' w' h' => wpAny_of_seqL ts _ a' w' (fun t ht => hlt t (List.mem_cons_of_mem _ ht)) hB.2 h') hw

def fullBut (tl : List Nat) (size : Nat) : Array Bool := ((List.range size).map fun i => !tl.contains i).toArray
/-- What looks at no memory may be run first, one after the other. -/
def marks : List Nat → Array Bool → Array Bool
  | [], listed => listed
  | j :: r, listed => marks r (listed.setIfInBounds j true)
def floatB (ops : Array Oper) : List Nat → Array Bool → Bool
  | [], _ => true
  | j :: r, listed => Region.free .any ops listed j && (Region.ready .any ops listed).contains j && floatB ops r (listed.setIfInBounds j true)
def wpFl (P : Program) (ops : Array Oper) (C : Act → Prop) : List (Nat × Oper) → Act → Prop
  | [], a => C a
  | (_, o) :: rest, a => ∃ v, Yields P ops o v a ∧ wpFl P ops C rest (a.put o.dst v)
theorem marks_size : ∀ (fl : List Nat) (listed : Array Bool), (marks fl listed).size = listed.size
  | [], _ => rfl
  | j :: r, listed => by rw [marks, marks_size r]; simp
theorem marks_getD : ∀ (fl : List Nat) (listed : Array Bool) (i : Nat) (d : Bool), i < listed.size → (marks fl listed).getD i d = (decide (i ∈ fl) || listed.getD i d)
  | [], _, _, _, _ => by simp [marks]
  | j :: r, listed, i, d, hi => by
    rw [marks, marks_getD r _ i d (by simpa using hi)]
    by_cases e : j = i
    · subst e
      simp [Array.getD, hi]
    · rw [getD_set_ne d e]
      have : i ≠ j := fun h => e h.symm
      simp [this]
theorem wpAny_of_float {Q' : Exit → Act → World → Prop} {l : List Oper} (hsel : Region.noSelect l.toArray = true) (hQ : ∀ c a d v w, Q' (.panic c) (a.put d v) w → Q' (.panic c) a w) :
    ∀ (fl : List Nat) (listed : Array Bool) (a : Act) (w : World) (g : Nat) (C : Act → Prop), (∀ j ∈ fl, j < l.length) → floatB l.toArray fl listed = true → wpFl P l.toArray C (picked l fl) a →
      (∀ a', C a' → wpAny P .any l.toArray Q' g (marks fl listed) a' w) → wpAny P .any l.toArray Q' (fl.length + g) listed a w
  | [], listed, a, w, g, C, _, _, h, hc => by rw [List.length_nil, Nat.zero_add]; exact hc a h
  | j :: r, listed, a, w, g, C, hlt, hB, h, hc => by
    have hj := hlt j List.mem_cons_self
    have h0 : l[j]? = some l[j] := List.getElem?_eq_getElem hj
    simp only [picked, h0] at h
    obtain ⟨v, hy, hr⟩ := h
    simp only [floatB, Bool.and_eq_true] at hB
    rw [show (j :: r).length + g = (r.length + g) + 1 by simp; omega]
    exact wpAny_take (by simp [hj]) hsel hB.1.1 hB.1.2 (fun c a w => hQ c a _ _ w) hy (wpAny_of_float hsel hQ r _ _ w g C (fun i hi => hlt i (List.mem_cons_of_mem _ hi)) hB.2 hr hc)

/-- The closed look at a region. -/
def ordB (l : List Oper) (fl hd tl : List Nat) : Bool :=
  Region.noSelect l.toArray && okPairs l.toArray (picked l hd) && okBack l.toArray (picked l hd) fl && waitB l.toArray hd tl && (hd.all fun i => !tl.contains i && !fl.contains i) && (tl.all fun t => decide (t < l.length) && !fl.contains t) && ((List.range l.length).all fun i => fl.contains i || hd.contains i || tl.contains i) && decide (fl.length + ((picked l hd).length + tl.length) = l.length) && seqL l.toArray tl (fullBut tl l.length)
   && floatB l.toArray fl (Array.replicate l.length false) && (fl.all fun j => decide (j < l.length)) && (fl.all fun j => match l[j]? with | some o => o.after.all (fun e => !Region.binds .any e || (fl.contains e.on && decide (e.on < l.length))) | none => true)

theorem wp_region_ord {id : Nat} {Q : Exit → Act → World → Prop} {a : Act} {w : World} {l : List Oper} (fl hd tl : List Nat) (hQ : fl ≠ [] → ∀ c a d v w, Q (.panic c) (a.put d v) w → Q (.panic c) a w) (hm : P.follows .mixedOrders = true) (hB : ordB l fl hd tl = true)
    (h : wpFl P l.toArray (fun a => wpN P l.toArray w (fun a' w' => wpList P l.toArray Q (opsAt l tl) a' w') (picked l hd) [] (fun _ => True) a) (picked l fl) a) : (Code.region id l.toArray true).wp P Q a w := by
  simp only [ordB, Bool.and_eq_true] at hB
  obtain ⟨⟨⟨⟨⟨⟨⟨⟨⟨⟨⟨hsel, hpr⟩, hbk⟩, hwt⟩, hdis0⟩, htl0⟩, hall0⟩, hlen0⟩, hseq⟩, hflB⟩, hfl0⟩, hflc⟩ := hB
  have hdis : ∀ i ∈ hd, i ∉ tl ∧ i ∉ fl := fun i hi => by simpa using List.all_eq_true.1 hdis0 i hi
  have htl : ∀ t ∈ tl, t < l.length ∧ t ∉ fl := fun t ht => by simpa using List.all_eq_true.1 htl0 t ht
  have hall : ∀ i, i < l.length → (i ∈ fl ∨ i ∈ hd) ∨ i ∈ tl := fun i hi => by simpa using List.all_eq_true.1 hall0 i (List.mem_range.2 hi)
  have hlen : fl.length + ((picked l hd).length + tl.length) = l.length := of_decide_eq_true hlen0
  have hfl : ∀ j ∈ fl, j < l.length := fun j hj => of_decide_eq_true (List.all_eq_true.1 hfl0 j hj)
  have hLsz : (marks fl (Array.replicate l.length false)).size = l.toArray.size := by rw [marks_size]; simp
  have hLg : ∀ i d, i < l.length → (marks fl (Array.replicate l.length false)).getD i d = decide (i ∈ fl) := fun i d hi => by
    rw [marks_getD fl _ i d (by simpa using hi)]
    simp [Array.getD, hi]
  have hLout : ∀ i, ¬ i < l.length → (marks fl (Array.replicate l.length false)).getD i false = false := fun i hi => by
    rw [Array.getD, dif_neg (by rw [hLsz]; simpa using hi)]
  have inv0 : OInv l.toArray tl (marks fl (Array.replicate l.length false)) := by
    refine ⟨hLsz, fun j oj hj hl e he hb => ?_, fun t ht htlt => ?_⟩
    · have hj' : l[j]? = some oj := by simpa using hj
      have hjlt := (List.getElem?_eq_some_iff.1 hj').1
      rw [hLg j false hjlt] at hl
      have h1 := List.all_eq_true.1 hflc j (of_decide_eq_true hl)
      rw [hj'] at h1
      have h2 := Array.all_eq_true'.1 h1 e he
      simp [hb] at h2
      rw [hLg e.on false h2.2]
      simpa using h2.1
    · rw [hLg t true (htl t ht).1]
      simpa using (htl t ht).2
  have hL : LeftO l.toArray tl (marks fl (Array.replicate l.length false)) (picked l hd) := by
    refine ⟨fun x hx => by simpa using ((picked_mem l hd x.1 x.2).1 hx).2, fun x hx => ?_, fun x hx => (hdis _ ((picked_mem l hd x.1 x.2).1 hx).1).1, fun i o hi hio hun => ?_, okPairs_spec _ hpr, inv0⟩
    · have h1 := (picked_mem l hd x.1 x.2).1 hx
      rw [hLg x.1 true (List.getElem?_eq_some_iff.1 h1.2).1]
      simpa using (hdis _ h1.1).2
    · have hio' : l[i]? = some o := by simpa using hio
      have hilt := (List.getElem?_eq_some_iff.1 hio').1
      rw [hLg i true hilt] at hun
      refine (picked_mem l hd i o).2 ⟨?_, hio'⟩
      rcases hall i hilt with (h1 | h1) | h1
      · simp [h1] at hun
      · exact h1
      · exact absurd h1 hi
  have hBk : Back l.toArray (marks fl (Array.replicate l.length false)) (picked l hd) := fun pre x post hl e he hb => by
    rcases okBack_spec _ _ hbk pre x post hl e he hb with h1 | h1
    · left
      rw [hLg e.on false (hfl _ h1)]
      simpa using h1
    · exact .inr h1
  have hwait : ∀ listed, OInv l.toArray tl listed → ∀ i o, l.toArray[i]? = some o → i ∉ tl → listed.getD i true = false → i ∈ hd → ∀ t, t ∈ tl → t ∉ Region.ready .any l.toArray listed := by
    intro listed inv i o hio hi hun hih t ht
    exact waits hwt (fun i hi => (hdis i hi).1) (fun t ht => by simpa using (htl t ht).1) inv i hih hun t ht
  have hend : ∀ listed a w, LeftO l.toArray tl listed [] → wpList P l.toArray Q (opsAt l tl) a w → wpAny P .any l.toArray Q tl.length listed a w := fun listed a w hL0 hq => by
    have he : listed = fullBut tl l.length := by
      apply Array.ext
      · rw [hL0.inv.size]; simp [fullBut]
      · intro i h1 h2
        have hi : i < l.length := by have := hL0.inv.size; simp at this; omega
        have hv : (fullBut tl l.length)[i] = !tl.contains i := by simp [fullBut]
        rw [hv]
        by_cases hin : i ∈ tl
        · have := hL0.inv.tail i hin (by simpa using hi)
          simp [Array.getD, h1] at this
          simp [this, hin]
        · cases hb : listed[i] with
          | true => simp [hin]
          | false =>
            have := hL0.all i l[i] hin (by simp [hi]) (by simp [Array.getD, h1, hb])
            cases this
    subst he
    exact wpAny_of_seqL tl _ a w (fun t ht => (htl t ht).1) hseq hq
  refine wp_region_any hm ?_
  have hO : ∀ a', wpN P l.toArray w (fun a' w' => wpList P l.toArray Q (opsAt l tl) a' w') (picked l hd) [] (fun _ => True) a' → wpAny P .any l.toArray Q ((picked l hd).length + tl.length) (marks fl (Array.replicate l.length false)) a' w.drew := fun a' hc =>
    wpAny_of_O (W := w) (Q' := Q) (Region.noSelect_spec hsel) (hd := hd) hwait hend (picked l hd).length _ _ [] _ a' w.drew hL (fun x hx => ((picked_mem l hd x.1 x.2).1 hx).1) hBk rfl (Below.refl _ _).drew trivial (fun _ _ _ _ => trivial) (fun y hy => by cases hy) hc
  have : wpAny P .any l.toArray Q (fl.length + ((picked l hd).length + tl.length)) (Array.replicate l.length false) a w.drew := by
    by_cases hf : fl = []
    · subst hf
      rw [List.length_nil, Nat.zero_add]
      exact hO a h
    · exact wpAny_of_float (Q' := Q) hsel (hQ hf) fl (Array.replicate l.length false) a w.drew ((picked l hd).length + tl.length) _ hfl hflB h hO
  rw [hlen] at this
  simpa using this

theorem wpFl_nil {C : Act → Prop} {a : Act} (h : C a) : wpFl P ops C [] a := h
/-- What one operation comes to that gives a value, at this world alone. -/
def valK (K : Value → World → Prop) : Result Next → Prop
  | .ok (.value u) w' => K u w'
  | _ => False
def Oper.vAt (P : Program) (o : Oper) (a : Act) (w : World) (K : Value → World → Prop) : Prop := valK K ((execOp a.eval o).run P w)
theorem wpFl_on {C : Act → Prop} {a : Act} {i : Nat} {o : Oper} {rest : List (Nat × Oper)} (v : Value) (hw : Region.wanted o (yielded ops a.tmps) = true)
    (h : ∀ w, ∀ K : Value → World → Prop, Hid (K v w) → Oper.vAt P o a w K) (hr : wpFl P ops C rest (a.put o.dst v)) : wpFl P ops C ((i, o) :: rest) a := by
  refine ⟨v, .inl ⟨hw, fun w => ?_⟩, hr⟩
  have h1 := h w (fun u w' => u = v ∧ w' = w) ⟨rfl, rfl⟩
  unfold Oper.vAt at h1
  generalize (execOp a.eval o).run P w = r at h1 ⊢
  cases r with
  | ok x w' =>
    cases x <;> simp only [valK] at h1
    case value u => obtain ⟨rfl, rfl⟩ := h1; rfl
  | halt x w' => simp only [valK] at h1
end
end Go.Proofs.YtieacbccadbdbaaGreatDoor


/- What every law's proof of this seat shares: arguments of any type read as before where nothing that was there has changed. -/
namespace Go.Proofs.YtieacbccadbdbaaGreatDoor
open Go.ChangeShapes Go.WideShapes Go.ChangeAt Go.RowKit
set_option linter.unusedVariables false

theorem ownK : ownKnob Tryz.prog.godebug = none := by kernel_rfl
theorem laidK : laidOutB Tryz.prog = true := by kernel_rfl

theorem belowTrodAll {P : Program} (hl : laidOutB P = true) {H : Type} {enc : TypeId × Value → H} {W W' : World} (bel : Below W.heap.size W W') :
    ∀ (ts : List TypeId) (vs : List Value) (ds : List (DataW H)) (ps : List MemPlace), (ts.all fun t => P.readableRec t && decide (t < P.types.size)) = true →
      DataW.TrodAll enc P W 0 (fun _ => true) true ts vs ds ps → DataW.TrodAll enc P W' 0 (fun b => decide (b < W.heap.size)) true ts vs ds ps
  | [], vs, ds, ps, _, h => by
      obtain ⟨rfl, rfl, rfl⟩ := trodAll_nil h
      exact trodAll_mk0
  | t :: ts, vs, ds, ps, hr, h => by
      obtain ⟨v, vs', d, ds', p, q, rfl, rfl, rfl, h0, r⟩ := trodAll_cons h
      simp only [List.all_cons, Bool.and_eq_true, decide_eq_true_eq] at hr
      have lt0 : ∀ x ∈ p, x.block < W.heap.size := by obtain ⟨m, hm⟩ := h0; exact DataW.trod_lt m _ _ _ hm
      exact trodAll_cons_mk (Below.trod hl hr.1.1 hr.1.2 h0 bel lt0) (belowTrodAll hl bel ts vs' ds' q hr.2 r)

/-- A slice of integers, by its elements: none, or a row of cells in memory that was there. -/
def IsRow (k : IntKind) (w : World) (a : Option Addr) (len : Nat) (zs : List Int) : Prop :=
  zs.length = len ∧ len ≤ 140737488351232 ∧ (∀ n ∈ zs, (Lit.int k n).wf = true) ∧
  (len = 0 ∨ ∃ b off, a = some ⟨b, off, none⟩ ∧ b < w.heap.size ∧ ∀ i, i < len → w.cell? ⟨b, off + i, none⟩ = some (.int k (zs.getD i 0)))

theorem lt_of_cell {w : World} {a : Addr} {v : Value} (h : w.cell? a = some v) : a.block < w.heap.size := by
  rcases Nat.lt_or_ge a.block w.heap.size with h' | h'
  · exact h'
  · simp [World.cell?, Array.getElem?_eq_none h'] at h

theorem openInts {P : Program} {H : Type} {enc : TypeId × Value → H} {W : World} {base : Nat} {ts : List TypeId} {ds : List (DataW H)} {j : Nat} {t e : TypeId} {k : IntKind} {v : Value} {d : DataW H} {p : List MemPlace}
    (hu : P.underlying t = some (.slice e)) (he : P.underlying e = some (.int k)) (hc : P.cellsOf e = 1) (hb : 1 ≤ P.bytesOf e)
    (hsz : (DataW.weightsEach P ts ds).all (· ≤ reachBytes) = true) (ht : ts[j]? = some t) (hd : ds[j]? = some d)
    (hv : Value.okWide P W .any base t v) (h : DataW.Trod enc P W 0 (fun _ => true) true t v d p) :
    ∃ a len cap zs, v = .slice a len cap ∧ IsRow k W a len zs := by
  obtain ⟨a, len, cap, rfl⟩ := okWide_slice hu hv
  refine ⟨a, len, cap, ?_⟩
  obtain ⟨fuel, hf⟩ := h
  rcases open_ints hu he hc hf with ⟨hcs, _⟩ | ⟨x, l, c, zs, hcs, _, hl, hm, hz, hx, hcell, hwz⟩
  · simp [Value.cells] at hcs
    obtain ⟨rfl, rfl, rfl⟩ := hcs
    exact ⟨[], rfl, rfl, by omega, by simp, .inl rfl⟩
  · simp [Value.cells] at hcs
    obtain ⟨rfl, rfl, rfl⟩ := hcs
    simp only [Prod.mk.injEq] at hx
    obtain ⟨rfl, rfl⟩ := hx
    have hz' : zs.length = cap := by simpa using hz
    have hs := sized_slice hsz ht hd hu
    have hlen : (lits k (zs.take len) : List (DataW H)).length = len := by simp [lits]; omega
    have hr : reachBytes = 140737488351232 := rfl
    refine ⟨zs.take len, rfl, by simp; omega, ?_, fun n hn => hwz n (List.mem_of_mem_take hn), ?_⟩
    · rw [hlen, hr] at hs
      have h1 := Nat.le_mul_of_pos_right (len + (lits k (zs.drop len) : List (DataW H)).length) (show 0 < P.bytesOf e by omega)
      omega
    · by_cases h0 : len = 0
      · exact .inl h0
      · obtain ⟨b, off, rfl, hc'⟩ := ints_at hcell (by omega)
        refine .inr ⟨b, off, rfl, lt_of_cell (hc' 0 (by omega)), fun i hi => ?_⟩
        rw [hc' i (by omega)]
        simp [List.getD, hi]

/-- A struct of four integers, by value. -/
theorem openPix {P : Program} {H : Type} {enc : TypeId × Value → H} {W : World} {base : Nat} {t e : TypeId} {k : IntKind} {f0 f1 f2 f3 : Field} {v : Value} {d : DataW H} {p : List MemPlace}
    (hs : P.underlying t = some (.struct #[f0, f1, f2, f3])) (hone : Deep.oneCellFields P #[f0, f1, f2, f3] = true) (hC : P.cellsOf t = 4) (he : f0.type = e ∧ f1.type = e ∧ f2.type = e ∧ f3.type = e) (hi : P.underlying e = some (.int k))
    (hv : Value.okWide P W .any base t v) (h : DataW.Trod enc P W 0 (fun _ => true) true t v d p) :
    ∃ a0 a1 a2 a3, v = .agg #[.int k a0, .int k a1, .int k a2, .int k a3] ∧ (Lit.int k a0).wf = true ∧ (Lit.int k a1).wf = true ∧ (Lit.int k a2).wf = true ∧ (Lit.int k a3).wf = true := by
  obtain ⟨c0, c1, c2, c3, y0, y1, y2, y3, m, rfl, _, _, h0, h1, h2, h3⟩ := Joins.open_agg4 hs hone hC hv h
  rw [he.1] at h0
  rw [he.2.1] at h1
  rw [he.2.2.1] at h2
  rw [he.2.2.2] at h3
  obtain ⟨a0, e0, _, w0⟩ := DataW.trod_int hi h0
  obtain ⟨a1, e1, _, w1⟩ := DataW.trod_int hi h1
  obtain ⟨a2, e2, _, w2⟩ := DataW.trod_int hi h2
  obtain ⟨a3, e3, _, w3⟩ := DataW.trod_int hi h3
  simp only [List.cons.injEq, and_true] at e0 e1 e2 e3
  subst e0 e1 e2 e3
  exact ⟨a0, a1, a2, a3, rfl, w0, w1, w2, w3⟩
end Go.Proofs.YtieacbccadbdbaaGreatDoor


/- Openers: what an argument's reading says of its cells, for structs and slices of any make. -/
namespace Go.Proofs.YtieacbccadbdbaaGreatDoor
open Go.ChangeShapes Go.WideShapes Go.ChangeAt Go.RowKit Go.Deep
set_option linter.unusedVariables false

theorem listOf {α : Type} (d : α) (p : Nat → α → Prop) : ∀ n : Nat, (∀ i, i < n → ∃ a, p i a) → ∃ l : List α, l.length = n ∧ ∀ i, i < n → p i (l.getD i d)
  | 0, _ => ⟨[], rfl, fun i hi => absurd hi (Nat.not_lt_zero i)⟩
  | n + 1, h => by
    obtain ⟨l, hl, hp⟩ := listOf d p n (fun i hi => h i (by omega))
    obtain ⟨a, ha⟩ := h n (by omega)
    refine ⟨l ++ [a], by simp [hl], fun i hi => ?_⟩
    by_cases hin : i < n
    · have : (l ++ [a]).getD i d = l.getD i d := by simp [List.getD, List.getElem?_append_left (hl ▸ hin)]
      rw [this]; exact hp i hin
    · obtain rfl : i = n := by omega
      have : (l ++ [a]).getD i d = a := by simp [List.getD, ← hl]
      rw [this]; exact ha

section
variable {P : Program} {H : Type} {enc : TypeId × Value → H} {W : World} {base : Nat} {spare : Nat → Bool} {held : Bool}

/-- A struct's cells, field by field (fields of one cell each). -/
theorem trodField {t : TypeId} {fs : Array Field} {fuel : Nat} {cs : List Value} {x : DataW H × List MemPlace} (hs : P.underlying t = some (.struct fs)) (hone : oneCellFields P fs = true) (hC : P.cellsOf t = fs.size)
    (h : DataW.trod enc P W base spare held fuel t cs = some x) :
    cs.length = fs.size ∧ ∃ n, ∀ (j : Nat) (f : Field), fs[j]? = some f → ∃ v y, cs[j]? = some v ∧ DataW.trod enc P W base spare held n f.type [v] = some y := by
  obtain ⟨ys, n, _, _, hlen, hyl, hf⟩ := DataW.trod_struct hs h
  rw [hC] at hlen
  refine ⟨hlen, n, fun j f hj => ?_⟩
  obtain ⟨ho, hk⟩ := hone_of hone j f hj
  have hjl : j < fs.size := (Array.getElem?_eq_some_iff.1 hj).1
  have h1 := hf j f hj
  rw [ho, hk] at h1
  have hv : cs[j]? = some (cs[j]'(by omega)) := List.getElem?_eq_getElem (by omega)
  have hone' : (cs.drop j).take 1 = [cs[j]'(by omega)] := by
    rw [List.drop_eq_getElem_cons (by omega)]
    rfl
  rw [hone'] at h1
  exact ⟨_, _, hv, h1.trans (List.getElem?_eq_getElem (by omega))⟩

/-- A struct of integers. -/
theorem trodInts {t : TypeId} {k : IntKind} {fs : Array Field} {fuel : Nat} {cs : List Value} {x : DataW H × List MemPlace} (hs : P.underlying t = some (.struct fs)) (hone : oneCellFields P fs = true) (hC : P.cellsOf t = fs.size)
    (he : ∀ (j : Nat) (f : Field), fs[j]? = some f → P.underlying f.type = some (.int k)) (h : DataW.trod enc P W base spare held fuel t cs = some x) :
    ∃ zs : List Int, cs = zs.map (Value.int k) ∧ zs.length = fs.size ∧ ∀ z ∈ zs, (Lit.int k z).wf = true := by
  obtain ⟨hl, n, hf⟩ := trodField hs hone hC h
  obtain ⟨zs, hzl, hz⟩ := listOf 0 (fun j z => cs[j]? = some (.int k z) ∧ (Lit.int k z).wf = true) fs.size (fun j hj => by
    obtain ⟨v, y, hv, ht⟩ := hf j fs[j] (Array.getElem?_eq_getElem hj)
    obtain ⟨z, hz, _, hw⟩ := DataW.trod_int (he j fs[j] (Array.getElem?_eq_getElem hj)) ht
    simp only [List.cons.injEq, and_true] at hz
    exact ⟨z, by rw [hv, hz], hw⟩)
  refine ⟨zs, ?_, hzl, fun z hz' => ?_⟩
  · apply List.ext_getElem?
    intro i
    by_cases hi : i < fs.size
    · rw [(hz i hi).1, List.getElem?_map, List.getD_eq_getElem?_getD, List.getElem?_eq_getElem (by omega)]
      rfl
    · rw [List.getElem?_eq_none (by omega), List.getElem?_eq_none (by simp; omega)]
  · obtain ⟨i, hi, rfl⟩ := List.getElem_of_mem hz'
    have := (hz i (by omega)).2
    rwa [List.getD_eq_getElem?_getD, List.getElem?_eq_getElem hi] at this

/-- A slice's value, and the cells of its elements. -/
theorem trodRow {t e : TypeId} {fuel sz : Nat} {v : Value} {x : DataW H × List MemPlace} (ht : P.underlying t = some (.slice e)) (hsz : P.cellsOf e = sz) (h : DataW.trod enc P W base spare held fuel t [v] = some x) :
    ∃ a len cap, v = .slice a len cap ∧ len ≤ cap ∧ cap ≤ maxLen ∧ (len = 0 ∨ ∃ (p : Addr) (n : Nat), a = some p ∧ ∀ i, i < len → ∃ cs y, cs.length = sz ∧ (∀ j, j < sz → W.cell? (p.add (i * sz + j)) = cs[j]?) ∧ DataW.trod enc P W base spare held n e cs = some y) := by
  rcases open_slice ht h with ⟨h0, _⟩ | ⟨a, len, cap, m, n, D, Pl, hcs, hb, hl, hm, hmm, hx, hi⟩
  · simp only [List.cons.injEq, and_true] at h0
    exact ⟨none, 0, 0, h0, Nat.le_refl _, by unfold maxLen; omega, .inl rfl⟩
  · simp only [List.cons.injEq, and_true] at hcs
    refine ⟨some a, len, cap, hcs, hl, hm, .inr ⟨a, n, rfl, fun i hil => ?_⟩⟩
    obtain ⟨cs', hc, ht'⟩ := hi i (by rw [hmm]; split <;> omega)
    rw [hsz] at hc
    obtain ⟨_, hcl, hat⟩ := World.cells?_some hc
    refine ⟨cs', _, hcl, fun j hj => ?_, ht'⟩
    rw [← hat j hj, Go.Deep.add_add]

/-- The address of a row with a cell at its head lies in memory plainly. -/
theorem plainAt {a : Addr} {v : Value} (h : W.cell? (a.add 0) = some v) : ∃ b off, a = ⟨b, off, none⟩ ∧ b < W.heap.size := by
  obtain ⟨b, off, spot⟩ := a
  have hspot : spot = none := by simpa [Addr.add] using World.cell?_spot h
  subst hspot
  exact ⟨b, off, rfl, lt_of_cell (a := ⟨b, off, none⟩) (v := v) (by simpa [Addr.add] using h)⟩
end
end Go.Proofs.YtieacbccadbdbaaGreatDoor

