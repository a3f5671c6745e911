/- A region that draws its order: reads first, then one call for which all that follows waits, then operations on slots alone. Walked once: the reads in the order of the text, the call, the rest in the order of the text. -/
import Derived.Test.YtjaidcdkkgnfoaaDoorLKit
namespace Go.Proofs.YtjaidcdkkgnfoaaDoor
open Go.RowKit
set_option linter.unusedVariables false

section
variable {P : Program} {ops : Array Oper} {md : Region.Mode} {S : World → Prop}

/-- As lexHead, with any check behind it. -/
def lexThen (md : Region.Mode) (ops : Array Oper) (chk : Array Bool → Bool) : Nat → Nat → Array Bool → Bool
  | 0, _, listed => chk listed
  | f + 1, k, listed => (Region.ready md ops listed).contains k && Region.free md ops listed k && lexThen md ops chk f (k + 1) (listed.setIfInBounds k true)

theorem wpAnyG_lexT {n : Nat} {chk : Array Bool → Bool} {Lq : Act → Prop} (hsel : Region.noSelect ops = true) (hchk : ∀ listed, chk listed = true → ∀ j ∈ Region.ready md ops listed, n ≤ j)
    (hwait : ∀ listed, HeadInv md ops n listed → ∀ i, i < n → listed.getD i true = false → ∀ t, n ≤ t → t ∉ Region.ready md ops listed) :
    ∀ (l : List Oper) (k : Nat) (listed : Array Bool) (a : Act), (∀ j, j < l.length → l[j]? = ops[k + j]?) → k + l.length = n → HeadInv md ops n listed →
    lexThen md ops chk l.length k listed = true → wpG P ops S Lq l a →
    wpAnyG P md ops S n (fun listed' a' => chk listed' = true ∧ Lq a') l.length listed a
  | [], k, listed, a, _, hk, _, hB, h => ⟨by simpa [lexThen] using hB, h⟩
  | o :: l, k, listed, a, hl, hk, inv, hB, h => by
    have h0 : ops[k]? = some o := by simpa using (hl 0 (by simp)).symm
    simp only [List.length_cons, lexThen, Bool.and_eq_true] at hB
    obtain ⟨⟨hr, hf⟩, hB'⟩ := hB
    have hkn : k < n := by simp only [List.length_cons] at hk; omega
    have hr' : k ∈ Region.ready md ops listed := by simpa using hr
    obtain ⟨v, hy, hK⟩ := h
    exact wpAnyG_first h0 (Region.noSelect_spec hsel) (fun listed' inv' hun => hwait listed' inv' k hkn hun) (fun listed' a' hL => hchk _ hL.1) l.length listed a inv (Region.free_spec h0 hf) hr' hy
      (wpAnyG_lexT hsel hchk hwait l (k + 1) _ _ (fun j hj => by have := hl (j + 1) (by simp; omega); simpa [Nat.add_assoc, Nat.add_comm 1 j] using this) (by simp only [List.length_cons] at hk; omega) (inv.set hr' hkn) hB' hK)

/-- What is listed is closed under what it waits for. -/
def closedB (md : Region.Mode) (ops : Array Oper) (listed : Array Bool) : Bool :=
  decide (listed.size = ops.size) && (List.range ops.size).all fun j => !listed.getD j false || match ops[j]? with
    | none => true
    | some oj => oj.after.all fun e => !Region.binds md e || listed.getD e.on false
theorem closedB_inv {listed : Array Bool} (h : closedB md ops listed = true) : HeadInv md ops ops.size listed := by
  simp only [closedB, Bool.and_eq_true, decide_eq_true_eq] at h
  refine ⟨h.1, fun j oj hj hl e he hb => ?_, fun t ht ht' => absurd ht' (by omega)⟩
  have hjs : j < ops.size := (Array.getElem?_eq_some_iff.1 hj).1
  have := List.all_eq_true.1 h.2 j (List.mem_range.2 hjs)
  simp only [hj, hl, Bool.not_true, Bool.false_or] at this
  have h2 := Array.all_eq_true_iff_forall_mem.1 this e he
  simpa [hb] using h2

/-- Every operation behind n waits for one from n on. -/
def laterB (md : Region.Mode) (ops : Array Oper) (n : Nat) : Bool :=
  (List.range ops.size).all fun t => decide (t ≤ n) || (List.range t).any fun u => decide (n ≤ u) && Region.waitsFor md ops t u
theorem later_waits {n : Nat} {listed : Array Bool} (hs : Region.sinkB md ops n = true) (hc : laterB md ops n = true) (hn : n < ops.size) (inv : HeadInv md ops n listed) :
    ∀ (d i : Nat), n - i = d → i < n → listed.getD i true = false → ∀ t, n ≤ t → t ∉ Region.ready md ops listed := by
  intro d
  induction d using Nat.strongRecOn with
  | _ d ih =>
    intro i hd hi hun t ht hr
    obtain ⟨_, ot, hot, hall⟩ := mem_ready.1 hr
    have htlt : t < ops.size := (Array.getElem?_eq_some_iff.1 hot).1
    by_cases htn : t = n
    · subst htn
      have h1 := List.all_eq_true.1 hs i (List.mem_range.2 hi)
      obtain ⟨j, hj, hj2⟩ := List.any_eq_true.1 h1
      simp only [Bool.and_eq_true, decide_eq_true_eq] at hj2
      obtain ⟨oj, hoj, e, he, hb, hon⟩ := Region.waitsFor_spec hj2.2
      have hjle : j ≤ t := by have := List.mem_range.1 hj; omega
      by_cases hjt : j = t
      · subst hjt
        have : oj = ot := Option.some.inj (hoj.symm.trans hot)
        subst this
        have h2 := hall e he hb
        rw [hon, getD_both hun] at h2
        cases h2
      · cases hl : listed.getD j false with
        | true =>
          have h2 := inv.closed j oj hoj hl e he hb
          rw [hon, getD_both hun] at h2
          cases h2
        | false =>
          have hjs : j < listed.size := by rw [inv.size]; omega
          exact ih (t - j) (by omega) j rfl (by omega) (getD_in hjs hl) t (Nat.le_refl _) hr
    · have h1 := List.all_eq_true.1 hc t (List.mem_range.2 htlt)
      simp only [Bool.or_eq_true, decide_eq_true_eq] at h1
      rcases h1 with h1 | h1
      · omega
      · obtain ⟨u, hu, hu2⟩ := List.any_eq_true.1 h1
        simp only [Bool.and_eq_true, decide_eq_true_eq] at hu2
        obtain ⟨o', ho', e, he, hb, hon⟩ := Region.waitsFor_spec hu2.2
        have : o' = ot := Option.some.inj (ho'.symm.trans hot)
        subst this
        have h2 := hall e he hb
        have hut := List.mem_range.1 hu
        have h3 := inv.tail u hu2.1 (by omega)
        rw [hon, getD_both h3] at h2
        cases h2

def callChk (md : Region.Mode) (ops : Array Oper) (n : Nat) (listed : Array Bool) : Bool :=
  decide (Region.ready md ops listed = [n]) && closedB md ops (listed.setIfInBounds n true) && Region.lexHead md ops 0 (ops.size - (n + 1)) (n + 1) (listed.setIfInBounds n true)
/-- The closed look at such a region: n operations, then the call. -/
def callB (ops : Array Oper) (n : Nat) : Bool :=
  Region.noSelect ops && decide (n < ops.size) && Region.sinkB .any ops n && laterB .any ops n && lexThen .any ops (callChk .any ops n) n 0 (Array.replicate ops.size false)

theorem wp_region_call {id : Nat} {Q : Exit → Act → World → Prop} {a : Act} {w : World} {l : List Oper} (n : Nat) (S : World → Prop) (hm : P.follows .mixedOrders = true) (hB : callB l.toArray n = true) (hS : S w.drew)
    (h : wpG P l.toArray S (fun a' => ∀ w', S w' → wpOp P l.toArray Q n (fun a2 w2 => wpG P l.toArray (fun w3 => w3 = w2) (fun a3 => wpList P l.toArray Q [] a3 w2) (l.drop (n + 1)) a2) a' w') (l.take n) a) : (Code.region id l.toArray true).wp P Q a w := by
  simp only [callB, Bool.and_eq_true, decide_eq_true_eq] at hB
  obtain ⟨⟨⟨⟨hsel, hn⟩, hsink⟩, hlat⟩, hlex⟩ := hB
  have hn' : n < l.length := by simpa using hn
  have htl : (l.take n).length = n := by simp; omega
  have inv0 : HeadInv .any l.toArray n (Array.replicate l.toArray.size false) :=
    ⟨by simp, fun j oj _ hl => (by rw [getD_replicate_false] at hl; cases hl), fun t _ ht => getD_in (by simpa using ht) (getD_replicate_false _ _)⟩
  have hwait : ∀ listed, HeadInv .any l.toArray n listed → ∀ i, i < n → listed.getD i true = false → ∀ t, n ≤ t → t ∉ Region.ready .any l.toArray listed :=
    fun listed inv i hi hun t ht => later_waits hsink hlat hn inv _ i rfl hi hun t ht
  have H := wpAnyG_lexT (md := .any) (S := S) (chk := callChk .any l.toArray n) hsel (fun listed hc j hj => by
    simp only [callChk, Bool.and_eq_true, decide_eq_true_eq] at hc
    rw [hc.1.1] at hj
    have : j = n := by simpa using hj
    omega) hwait (l.take n) 0 _ a (fun j hj => by
    have hj' : j < n := by rw [htl] at hj; exact hj
    simp [hj']) (by simpa using htl) inv0 (by rw [htl]; exact hlex) h
  refine wp_region_any hm ?_
  have key := wpAny_of_G (Q' := Q) (g := l.toArray.size - n) (fun listed a' w' hL hS' => by
    obtain ⟨hc, hK⟩ := hL
    simp only [callChk, Bool.and_eq_true, decide_eq_true_eq] at hc
    obtain ⟨⟨hr, hcl⟩, hlx⟩ := hc
    have hsz : l.toArray.size - n = (l.toArray.size - (n + 1)) + 1 := by omega
    rw [hsz]
    refine ⟨fun h1 => (by rw [h1] at hr; cases hr), fun i hi => ?_⟩
    rw [hr] at hi
    have hin : i = n := by simpa using hi
    subst hin
    refine wpOp_mono (fun a2 w2 h2 => ?_) (hK w' hS')
    have hdl : (l.drop (i + 1)).length = l.toArray.size - (i + 1) := by simp
    have inv2 := closedB_inv hcl
    have H2 := wpAnyG_lex (md := .any) (S := fun w3 => w3 = w2) (g := 0) (n := l.toArray.size) hsel (fun listed inv j hj hun t ht hr => by
      obtain ⟨_, ot, hot, _⟩ := mem_ready.1 hr
      have htlt : t < l.toArray.size := (Array.getElem?_eq_some_iff.1 hot).1
      omega) (l.drop (i + 1)) (i + 1) _ a2 (fun j hj => by simp [List.getElem?_drop]) (by rw [hdl]; omega) inv2 (by rw [hdl]; exact hlx) h2
    have H3 := wpAny_of_G (Q' := Q) (g := 0) (S := fun w3 => w3 = w2) (L := fun listed' a' => Region.seqB .any l.toArray 0 l.toArray.size listed' = true ∧ Q .normal a' w2) (fun listed' a3 w3 hL3 hS3 => by
      obtain rfl := hS3
      exact ⟨by simpa [Region.seqB] using hL3.1, hL3.2⟩) _ _ _ w2 rfl H2
    rw [hdl, Nat.add_zero] at H3
    exact H3) _ _ _ _ hS H
  rw [htl, show n + (l.toArray.size - n) = l.toArray.size by omega] at key
  exact key
/-- The call itself. -/
theorem wpOp_gAt {Q : Exit → Act → World → Prop} {i : Nat} {o : Oper} {a : Act} {w : World} {K : Act → World → Prop} (hi : ops[i]? = some o) (hw : Region.wanted o (yielded ops a.tmps) = true)
    (h : Oper.gAt P o a w (fun v w' => K (a.put o.dst v) w')) : wpOp P ops Q i K a w := by
  unfold Go.wpOp
  simp only [hi, hw, if_true]
  refine .inl ?_
  unfold Oper.wp
  unfold Oper.gAt at h
  generalize (execOp a.eval o).run P w = r at h ⊢
  cases r with
  | ok x w' =>
    cases x <;> simp only [gUponK] at h
    case value u => exact h
    case skip => exact h
    case enter f args => exact h.mono fun e w'' ⟨u, he, h2⟩ => by subst he; exact h2
  | halt x w' => simp only [gUponK] at h
theorem gRet_mk {K : Value → World → Prop} {v : Value} {w : World} (h : K v w) : gRet K (.returned v) w := ⟨v, rfl, h⟩
end
end Go.Proofs.YtjaidcdkkgnfoaaDoor

