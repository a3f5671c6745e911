/- A list of dynamics that the call has made by append. -/
import Derived.Test.YtjaidcdkkgnfoaaLDyn
import Derived.Test.YtjaidcdkkgnfoaaLOpen
import Derived.Test.YtjaidcdkkgnfoaaDynMoreP
import Derived.Test.YtjaidcdkkgnfoaaLKit
import Derived.Maps.AppendAt
import Derived.Deep.AppendLies
import Derived.Laws.OwnMore
import Derived.SizedLaws
namespace Go.Proofs.Ytjaidcdkkgnfoaa
open Go.RowKit
set_option linter.unusedVariables false
open Go.ChangeShapes Go.WideShapes Go.ChangeAt Go.Deep

/-- The cells of the list ds. -/
def Dr (w : World) (ds : Dyns) (xs : List Value) : Prop := xs.length = ds.length * 3 ∧ ∀ i, i < ds.length → xs[i * 3]? = some (.int .i64 (dT ds i)) ∧ xs[i * 3 + 1]? = some (.int .i64 (dS ds i)) ∧ ∃ c, xs[i * 3 + 2]? = some c ∧ Kn w c (dC ds i)
theorem Dr.kept {w w' : World} {ds : Dyns} {xs : List Value} (h : Dr w ds xs) (hb : Below w.heap.size w w') : Dr w' ds xs := ⟨h.1, fun i hi => by
  obtain ⟨h1, h2, c, h3, h4⟩ := h.2 i hi
  exact ⟨h1, h2, c, h3, h4.kept hb⟩⟩
theorem Dr.nil (w : World) : Dr w [] [] := ⟨rfl, fun i hi => absurd hi (Nat.not_lt_zero _)⟩
theorem Dr.snoc {w : World} {ds : Dyns} {xs : List Value} (h : Dr w ds xs) {t s : Int} {c : Value} {ks : Knots} (hk : Kn w c ks) : Dr w (ds ++ [(t, s, ks)]) (xs ++ [.int .i64 t, .int .i64 s, c]) := by
  refine ⟨by simp [h.1]; omega, fun i hi => ?_⟩
  rw [List.length_append, List.length_singleton] at hi
  have hl := h.1
  by_cases hlt : i < ds.length
  · obtain ⟨h1, h2, u, h3, h4⟩ := h.2 i hlt
    have e1 : dT (ds ++ [(t, s, ks)]) i = dT ds i := by unfold dT; rw [getD_snoc, if_pos hlt]
    have e2 : dS (ds ++ [(t, s, ks)]) i = dS ds i := by unfold dS; rw [getD_snoc, if_pos hlt]
    have e3 : dC (ds ++ [(t, s, ks)]) i = dC ds i := by unfold dC; rw [getD_snoc, if_pos hlt]
    rw [e1, e2, e3, List.getElem?_append_left (by omega), List.getElem?_append_left (by omega), List.getElem?_append_left (by omega)]
    exact ⟨h1, h2, u, h3, h4⟩
  · obtain rfl : i = ds.length := by omega
    have e1 : dT (ds ++ [(t, s, ks)]) ds.length = t := by unfold dT; rw [getD_snoc, if_neg (Nat.lt_irrefl _), if_pos rfl]
    have e2 : dS (ds ++ [(t, s, ks)]) ds.length = s := by unfold dS; rw [getD_snoc, if_neg (Nat.lt_irrefl _), if_pos rfl]
    have e3 : dC (ds ++ [(t, s, ks)]) ds.length = ks := by unfold dC; rw [getD_snoc, if_neg (Nat.lt_irrefl _), if_pos rfl]
    rw [e1, e2, e3, List.getElem?_append_right (by omega), List.getElem?_append_right (by omega), List.getElem?_append_right (by omega), hl, Nat.sub_self, Nat.add_sub_cancel_left, Nat.add_sub_cancel_left]
    exact ⟨rfl, rfl, c, rfl, hk⟩
theorem kn_one {w : World} {c : Value} {ks : Knots} (h : Kn w c ks) : c.oneCell' = true := by
  obtain ⟨a, cap, rfl, _⟩ := h
  rfl
/-- The cells of a list that is read. -/
theorem dn_cells {w : World} {a : Option Addr} {n cap : Nat} {ds : Dyns} (h : Dn w (.slice a n cap) ds) : ∃ xs, Dr w ds xs ∧ (∀ u ∈ xs, u.oneCell' = true) ∧ ∀ ad, a = some ad → ∀ j u, xs[j]? = some u → w.cell? (ad.add j) = some u := by
  obtain ⟨a', cap', e, hl, hr⟩ := h
  injection e with e1 e2 e3
  subst e1 e2 e3
  rcases hr with h0 | ⟨b, off, rfl, hlt, hc⟩
  · obtain rfl : ds = [] := List.eq_nil_of_length_eq_zero h0
    exact ⟨[], Dr.nil w, by simp, fun ad _ j u hj => by simp at hj⟩
  · let f : Nat → Value := fun j => (w.cell? ⟨b, off + j, none⟩).getD (.slice none 0 0)
    have hf : ∀ j, j < ds.length * 3 → ((List.range (ds.length * 3)).map f)[j]? = some (f j) := fun j hj => by
      rw [List.getElem?_map, List.getElem?_range hj]; rfl
    have f0 : ∀ i, i < ds.length → f (i * 3) = .int .i64 (dT ds i) := fun i hi => by show (w.cell? ⟨b, off + i * 3, none⟩).getD _ = _; rw [(hc i hi).1]; rfl
    have f1 : ∀ i, i < ds.length → f (i * 3 + 1) = .int .i64 (dS ds i) := fun i hi => by show (w.cell? ⟨b, off + (i * 3 + 1), none⟩).getD _ = _; rw [← Nat.add_assoc, (hc i hi).2.1]; rfl
    have f2 : ∀ i, i < ds.length → ∃ c, w.cell? ⟨b, off + i * 3 + 2, none⟩ = some c ∧ f (i * 3 + 2) = c ∧ Kn w c (dC ds i) := fun i hi => by
      obtain ⟨c, h1, h2⟩ := (hc i hi).2.2
      refine ⟨c, h1, ?_, h2⟩
      show (w.cell? ⟨b, off + (i * 3 + 2), none⟩).getD _ = _
      rw [← Nat.add_assoc, h1]; rfl
    have hcase : ∀ j, j < ds.length * 3 → ∃ i, i < ds.length ∧ (j = i * 3 ∨ j = i * 3 + 1 ∨ j = i * 3 + 2) := fun j hj => ⟨j / 3, by omega, by omega⟩
    refine ⟨(List.range (ds.length * 3)).map f, ⟨by simp, fun i hi => ?_⟩, fun u hu => ?_, ?_⟩
    · obtain ⟨c, _, h2, h3⟩ := f2 i hi
      rw [hf _ (by omega), hf _ (by omega), hf _ (by omega), f0 i hi, f1 i hi, h2]
      exact ⟨rfl, rfl, c, rfl, h3⟩
    · obtain ⟨j, hj, rfl⟩ := List.mem_map.1 hu
      obtain ⟨i, hi, rfl | rfl | rfl⟩ := hcase j (by simpa using hj)
      · rw [f0 i hi]; rfl
      · rw [f1 i hi]; rfl
      · obtain ⟨c, _, h2, h3⟩ := f2 i hi
        rw [h2]; exact kn_one h3
    · rintro ad e j u hj
      simp only [Option.some.injEq] at e
      subst e
      have hj' : j < ds.length * 3 := by
        obtain ⟨h1, _⟩ := List.getElem?_eq_some_iff.1 hj
        simpa using h1
      rw [hf j hj'] at hj
      simp only [Option.some.injEq] at hj
      subst hj
      rw [Go.WideShapes.add_plain]
      obtain ⟨i, hi, rfl | rfl | rfl⟩ := hcase j hj'
      · rw [f0 i hi]; exact (hc i hi).1
      · rw [f1 i hi, ← Nat.add_assoc]; exact (hc i hi).2.1
      · obtain ⟨c, h1, h2, _⟩ := f2 i hi
        rw [h2, ← Nat.add_assoc]; exact h1
/-- A list that is owned reads as it should. -/
theorem own_dn {w : World} {base : Nat} {e : TypeId} {v : Value} {ds : Dyns} {xs : List Value} (own : w.ownsRow base e 3 v ds.length xs) (hr : Dr w ds xs) : Dn w v ds := by
  rcases own.2 with ⟨rfl, h0⟩ | ⟨g, cap, cur, rfl, hb, hg, hn, hm, hs, ht⟩
  · exact ⟨none, 0, by rw [h0], by omega, .inl h0⟩
  · unfold maxLen at hm
    refine ⟨_, cap, rfl, by omega, .inr ⟨g, 0, rfl, lt_of_block hg, fun i hi => ?_⟩⟩
    have hc : ∀ j u, xs[j]? = some u → w.cell? ⟨g, j, none⟩ = some u := fun j u hj => by
      rw [cell_of_row w g j cur e (0, 0) hg]
      rw [← ht] at hj
      obtain ⟨h1, h2⟩ := List.getElem?_eq_some_iff.1 hj
      rw [List.length_take] at h1
      rw [← Array.getElem?_toList, ← hj, List.getElem?_take, if_pos (by omega)]
    obtain ⟨h1, h2, c, h3, h4⟩ := hr.2 i hi
    rw [Nat.zero_add]
    exact ⟨hc _ _ h1, hc _ _ h2, c, hc _ _ h3, h4⟩
/-- append at a step of a region that draws its order, whatever is appended. -/
theorem step_append_any {P : Program} (w : World) {ops : Array Oper} {o : Oper} {a : Act} {K : Act → World → Prop} {Q : Exit → Act → World → Prop} {E : Prop} (hgd : o.guard = none) (s x : Operand) (t : TypeId)
    (ho : o.op = .call { callee := .builtin .append, args := #[s, x], argTypes := #[t, t] })
    (base : Nat) (e : TypeId) (i : TypeInfo) (z : Value) (size bytes : Nat) (ht : P.underlying t = some (.slice e)) (hi : P.info? e = some i) (hz : i.zero = some z)
    (hsize : i.size = size) (hby : i.bytes = bytes) (hzs : z.cells.size = size) (hsz : 0 < size)
    (v : Value) (n : Nat) (xs : List Value) (hs : a.eval s = v) (hown : w.ownsRow base e size v n xs)
    (ao : Option Addr) (m c : Nat) (news : List Value) (hx : a.eval x = .slice ao m c) (hl : news.length = m * size) (hno : ao = none → m = 0 ∧ c = 0) (hnews : ∀ ad, ao = some ad → ∀ j u, news[j]? = some u → w.cell? (ad.add j) = some u) (h1 : ∀ u ∈ news, u.oneCell' = true)
    (h63 : n + m ≤ maxLen) (hbytes : (n + m) * bytes ≤ 140737488355328) (hbase : base ≤ w.heap.size)
    (h : ∀ v' w', w'.ownsRow base e size v' (n + m) (xs ++ news) → w.grownBy w' v.ownBlock → (v'.ownBlock = v.ownBlock ∨ v'.ownBlock = some w.heap.size) → K (a.put o.dst v') w') :
    if Region.wanted o (yielded ops a.tmps) = true then Oper.wp P o a w K Q else E := by
  have hw : Region.wanted o (yielded ops a.tmps) = true := by simp [Region.wanted, hgd]
  rw [if_pos hw]
  cases ao with
  | some ad =>
    obtain ⟨v', w', hr, h2, h3, _, h5⟩ := run_append_own_at (P := P) w base t o.type e i z size bytes ht hi hz hsize hby hzs hsz v n xs hown ad m c news hl (hnews ad rfl) h1 h63 hbytes hbase
    unfold Oper.wp execOp
    simp only [ho, resolve, invoke, builtin, Sem.run_bind, Sem.run_pure, Result.andThen_ok, List.map_toArray, List.map_cons, List.map_nil, hs, hx, hr]
    exact h v' w' h2 h3 h5
  | none =>
    obtain ⟨rfl, rfl⟩ := hno rfl
    obtain rfl : news = [] := List.eq_nil_of_length_eq_zero (by simpa using hl)
    have hrun := run_append_owned_none (P := P) (w := w) base t o.type e i size ht hi v n xs hown
    unfold Oper.wp execOp
    simp only [ho, resolve, invoke, builtin, Sem.run_bind, Sem.run_pure, Result.andThen_ok, List.map_toArray, List.map_cons, List.map_nil, hs, hx, hrun]
    exact h v w (by simpa using hown) (World.grownBy.refl _ _) (.inl rfl)

section
variable {H : Type} {enc : TypeId × Value → H} {W : World} {base : Nat}
/-- A list of dynamics as an argument, its size bounded. -/
theorem openDynsZ {v : Value} {d : DataW H} {p : List MemPlace} {ts : List TypeId} {dd : List (DataW H)} {j : Nat} (hsz : (DataW.weightsEach Try.prog ts dd).all (· ≤ reachBytes) = true) (ht : ts[j]? = some 22) (hd : dd[j]? = some d)
    (hv : Value.okWide Try.prog W .any base 22 v) (h : DataW.Trod enc Try.prog W 0 (fun _ => true) true 22 v d p) :
    ∃ a cap ds, v = .slice a (List.length ds) cap ∧ (a = none → ds.length = 0 ∧ cap = 0) ∧ Dn W (.slice a ds.length cap) ds ∧ ds.length * 40 ≤ 140737488351232 := by
  obtain ⟨a, len, cap, rfl⟩ := okWide_slice Try.underlying22 hv
  obtain ⟨fuel, hf⟩ := h
  obtain ⟨ds, hD⟩ := trodDyns hf
  have hD' := hD
  obtain ⟨a', cap', e, _, _⟩ := hD'
  injection e with e1 e2 e3
  subst e1 e3
  rcases open_slice Try.underlying22 hf with ⟨h0, _⟩ | ⟨a2, len2, cap2, m, n, D, Pl, hcs, hb, hl, hm, hmm, hx, hi⟩
  · injection h0 with h0 _
    injection h0 with e4 e5 e6
    subst e4 e5 e6
    exact ⟨none, 0, ds, by rw [← e2], fun _ => ⟨e2.symm, rfl⟩, by rw [← e2]; exact hD, by omega⟩
  · injection hcs with hcs _
    injection hcs with e4 e5 e6
    subst e4 e5 e6
    simp only [Prod.mk.injEq] at hx
    obtain ⟨rfl, _⟩ := hx
    have := sized_slice hsz ht hd Try.underlying22
    rw [show Try.prog.bytesOf 25 = 40 by kernel_rfl] at this
    simp only [List.length_map, List.length_range, reachBytes] at this
    have h2 : len * 40 ≤ 140737488351232 := Nat.le_trans (Nat.mul_le_mul_right _ (by omega)) this
    exact ⟨some a2, cap, ds, by rw [← e2], (fun h => by cases h), by rw [← e2]; exact hD, by omega⟩
end
end Go.Proofs.Ytjaidcdkkgnfoaa

