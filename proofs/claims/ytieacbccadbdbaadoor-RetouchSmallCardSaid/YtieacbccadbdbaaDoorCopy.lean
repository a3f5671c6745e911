/- copy of a whole slice of elements of several cells each into a row of the call's own. -/
import Derived.Test.YtieacbccadbdbaaDoorLRow
import Derived.Test.YtieacbccadbdbaaDoorLRow
import Derived.Test.YtieacbccadbdbaaDoorLRow
import Derived.Laws.CopyOwn
namespace Go.Proofs.YtieacbccadbdbaaDoor
open Go.RowKit
set_option linter.unusedVariables false

theorem run_copy_rows (P : Program) (w : World) (dT sT ty elem : TypeId) (s g o dLen dCap : Nat) (a : Addr) (sLen sCap : Nat) (cur : Array Value) (t : TypeId) (cs : List Value)
    (hu : P.underlying dT = some (.slice elem)) (hs : (P.info? elem).map (·.size) = some s)
    (hg : w.heap[g]? = some (.cells cur t (0, 0))) (hn : cs.length = Nat.min sLen dLen * s)
    (hsrc : ∀ j v, cs[j]? = some v → w.cell? (a.add j) = some v) (hfit : o + cs.length ≤ cur.size) (h1 : ∀ v ∈ cs, v.oneCell' = true) :
    (Builtin.copy_ #[dT, sT] ty #[.slice (some ⟨g, o, none⟩) dLen dCap, .slice (some a) sLen sCap]).run P w =
      .ok (goInt (Nat.min sLen dLen)) (w.setRow g (cur.toList.take o ++ cs ++ cur.toList.drop (o + cs.length)).toArray) := by
  have hl := run_loadCells_list (P := P) w a cs hsrc
  have hst := run_storeCells_at P g o t cs 0 cur w hg (by simpa using hfit) h1
  cases hq : P.info? elem with
  | none => simp [hq] at hs
  | some i =>
    have hi : i.size = s := by simpa [hq] using hs
    simp [Builtin.copy_, run_underlying hu, Builtin.lenOf, Builtin.firstCells, sizeOf, typeInfo, hq, hi, ← hn, hl, hst]
theorem run_copy_zero (P : Program) (w : World) (dT sT ty elem : TypeId) (s : Nat) (dp sp : Option Addr) (dLen dCap sLen sCap : Nat)
    (hu : P.underlying dT = some (.slice elem)) (hs : (P.info? elem).map (·.size) = some s) (hn : Nat.min sLen dLen = 0) :
    (Builtin.copy_ #[dT, sT] ty #[.slice dp dLen dCap, .slice sp sLen sCap]).run P w = .ok (goInt 0) w := by
  cases hq : P.info? elem with
  | none => simp [hq] at hs
  | some i =>
    cases dp <;> cases sp <;> simp [Builtin.copy_, run_underlying hu, Builtin.lenOf, Builtin.firstCells, sizeOf, typeInfo, hq, hn, loadCells, storeCells] <;> rfl

theorem wpList_copy_all {P : Program} {w : World} {ops : Array Oper} {rest : List Oper} {o : Oper} {a : Act} {Q : Exit → Act → World → Prop} (hgd : o.guard = none) (d s : Operand) (dT sT : TypeId)
    (ho : o.op = .call { callee := .builtin .copy, args := #[d, s], argTypes := #[dT, sT] }) (elem : TypeId) (sz : Nat) (hu : P.underlying dT = some (.slice elem)) (hsz : (P.info? elem).map (·.size) = some sz)
    (g n dCap sCap : Nat) (sp : Option Addr) (hd : a.eval d = .slice (some ⟨g, 0, none⟩) n dCap) (hs : a.eval s = .slice sp n sCap)
    (cur : Array Value) (t : TypeId) (hg : w.heap[g]? = some (.cells cur t (0, 0))) (cs : List Value) (hn : cs.length = n * sz) (hc : cur.size = cs.length)
    (hsrc : 0 < n → ∃ ad, sp = some ad ∧ ∀ j v, cs[j]? = some v → w.cell? (ad.add j) = some v) (h1 : ∀ v ∈ cs, v.oneCell' = true) (B : Nat) (w0 : World) (hb : Below B w0 w) (hBg : B ≤ g)
    (h : ∀ w', Hid (w'.heap[g]? = some (.cells cs.toArray t (0, 0))) → (∀ k, k ≠ g → w'.heap[k]? = w.heap[k]?) → Below B w0 w' → wpList P ops Q rest (a.put o.dst (goInt n)) w') : wpList P ops Q (o :: rest) a w := by
  refine wpList_plain hgd fun K hK => ?_
  have hm : Nat.min n n = n := Nat.min_self n
  by_cases h0 : n = 0
  · subst h0
    have hrun := run_copy_zero P w dT sT o.type elem sz (some ⟨g, 0, none⟩) sp 0 dCap 0 sCap hu hsz hm
    have hcs : cs = [] := List.eq_nil_of_length_eq_zero (by rw [hn]; omega)
    have hcu : cur = cs.toArray := by
      rw [hcs] at hc ⊢
      exact Array.eq_empty_of_size_eq_zero hc
    unfold Oper.wp
    simp [execOp, ho, resolve, invoke, builtin, hd, hs, hrun, Result.andThen]
    exact hK _ _ (h w (show _ = _ by rw [← hcu]; exact hg) (fun _ _ => rfl) hb)
  · obtain ⟨ad, rfl, hsr⟩ := hsrc (by omega)
    have hrun := run_copy_rows P w dT sT o.type elem sz g 0 n dCap ad n sCap cur t cs hu hsz hg (by rw [hm]; exact hn) hsr (by omega) h1
    rw [hm] at hrun
    have hrow := setRow_heap w g cur (cur.toList.take 0 ++ cs ++ cur.toList.drop (0 + cs.length)).toArray t _ hg
    have hdr : cur.toList.take 0 ++ cs ++ cur.toList.drop (0 + cs.length) = cs := by
      rw [List.take_zero, Nat.zero_add, List.drop_eq_nil_of_le (by simp; omega)]
      simp
    rw [hdr] at hrun hrow
    unfold Oper.wp
    simp [execOp, ho, resolve, invoke, builtin, hd, hs, hrun, Result.andThen]
    exact hK _ _ (h _ hrow (fun k hk => setRow_other w g k _ hk) (below_setRow hb hBg _))

/-- The cells of the pixels of a slice, one by one. -/
theorem Pn.src {w : World} {a : Option Addr} {n cap : Nat} {ps : List Px} (h : Pn w (.slice a n cap) ps) (hn : 0 < n) : ∃ ad, a = some ad ∧ ∀ j v, (pcF (pxAt ps) n)[j]? = some v → w.cell? (ad.add j) = some v := by
  obtain ⟨a', cap', hv, hl, hr⟩ := h
  simp only [Value.slice.injEq] at hv
  obtain ⟨rfl, rfl, rfl⟩ := hv
  rcases hr with h0 | ⟨b, off, ha, hlt, hc⟩
  · omega
  · refine ⟨_, ha, fun j v hj => ?_⟩
    have hjl : j < ps.length * 4 := by
      rw [← pcF_len (pxAt ps) ps.length]
      exact (List.getElem?_eq_some_iff.1 hj).1
    have hq : j = j / 4 * 4 + j % 4 := by omega
    rw [hq, pcF_at _ _ _ _ (by omega) (by omega)] at hj
    obtain ⟨c0, c1, c2, c3⟩ := hc (j / 4) (by omega)
    rw [Go.WideShapes.add_plain]
    have h4 : j % 4 = 0 ∨ j % 4 = 1 ∨ j % 4 = 2 ∨ j % 4 = 3 := by omega
    rcases h4 with h4 | h4 | h4 | h4
    all_goals
      rw [h4] at hj
      simp only [px4, List.getElem?_cons_zero, List.getElem?_cons_succ, Option.some.injEq] at hj
      subst hj
    · rw [show off + j = off + j / 4 * 4 by omega]; exact c0
    · rw [show off + j = off + j / 4 * 4 + 1 by omega]; exact c1
    · rw [show off + j = off + j / 4 * 4 + 2 by omega]; exact c2
    · rw [show off + j = off + j / 4 * 4 + 3 by omega]; exact c3
theorem pcF_one (r : Nat → Px) (n : Nat) : ∀ v ∈ pcF r n, v.oneCell' = true := by
  intro v hv
  simp only [pcF, List.mem_flatMap, px4, List.mem_cons, List.not_mem_nil, or_false] at hv
  obtain ⟨i, _, hv⟩ := hv
  rcases hv with rfl | rfl | rfl | rfl <;> rfl
/-- A row of pixels, known by its cells. -/
theorem row_of_cells {w : World} {g n : Nat} {r : Nat → Px} {t : TypeId} (h : w.heap[g]? = some (.cells (pcF r n).toArray t (0, 0))) : Row w g n r := by
  refine ⟨_, t, h, by simp [pcF_len], fun i hi => ?_⟩
  have e : ∀ j, j < 4 → (pcF r n).toArray[i * 4 + j]? = (px4 (r i))[j]? := fun j hj => by
    rw [List.getElem?_toArray]
    exact pcF_at r n i j hi hj
  exact ⟨e 0 (by omega), e 1 (by omega), e 2 (by omega), e 3 (by omega)⟩
theorem rowI_of_cells {w : World} {g n : Nat} {r : Nat → Int} {t : TypeId} (h : w.heap[g]? = some (.cells (icF r n).toArray t (0, 0))) : RowI w g n r := by
  refine ⟨_, t, h, by simp [icF], fun i hi => ?_⟩
  rw [List.getElem?_toArray]
  exact icF_at r n i hi
theorem icF_one (r : Nat → Int) (n : Nat) : ∀ v ∈ icF r n, v.oneCell' = true := by
  intro v hv
  simp only [icF, List.mem_map] at hv
  obtain ⟨i, _, rfl⟩ := hv
  rfl
theorem icF_len (r : Nat → Int) (n : Nat) : (icF r n).length = n := by simp [icF]
theorem RowI.src {w : World} {g n : Nat} {f : Nat → Int} (h : RowI w g n f) : ∀ j v, (icF f n)[j]? = some v → w.cell? ((⟨g, 0, none⟩ : Addr).add j) = some v := by
  intro j v hj
  have hjl : j < n := by
    rw [← icF_len f n]
    exact (List.getElem?_eq_some_iff.1 hj).1
  rw [icF_at _ _ _ hjl] at hj
  injection hj with hj
  subst hj
  rw [Go.WideShapes.add_plain]
  simpa using (h.c j hjl).1
end Go.Proofs.YtieacbccadbdbaaDoor

