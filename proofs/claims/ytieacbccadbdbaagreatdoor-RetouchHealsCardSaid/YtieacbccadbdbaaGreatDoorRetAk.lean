/- law29: same, gray, full; rows of pixels by their cells. -/
import Derived.Test.YtieacbccadbdbaaGreatDoorRetC
import Derived.Test.YtieacbccadbdbaaGreatDoorLRetB
import Derived.Test.YtieacbccadbdbaaGreatDoorRetEx
import Derived.Deep.Cut
namespace Go.Proofs.YtieacbccadbdbaaGreatDoor
open Go.RowKit
set_option linter.unusedVariables false
attribute [local go_sem] Oper.gAt gUponK Oper.sAt stilK

set_option maxHeartbeats 4000000 in
theorem same29_true (W H : Int) (v v' : Value) (ps : List Px) (w : World) (h : Pn w v ps) (h' : Pn w v' ps) :
    Calls Tryz.prog 9 #[.agg #[.int .i64 W, .int .i64 H, v], .agg #[.int .i64 W, .int .i64 H, v']] w fun e w' => e = .returned (.bool true) ∧ Below w.heap.size w w' := by
  obtain ⟨a, cap, rfl⟩ := h.slice
  obtain ⟨a', cap', rfl⟩ := h'.slice
  have HP := Lib.hid h
  have HP' := Lib.hid h'
  have hlen := h.len.2
  clear h h'
  generalize ps.length = n at *
  go_enter Tryz.func9, Tryz.ntmps9
  go_upto_region 1 with (fail)
  refine name2 (fun W1 k1 k2 hb => ?_)
  have c1 := k1.c3
  have c2 := k2.c3
  go_wp2_with fail
  clear c1 c2
  go_loopw [30] (fun i wr => ∃ k : Nat, k ≤ n ∧ i = .int .i64 k ∧ Blk wr w.heap.size (.cells #[.int .i64 W, .int .i64 H, .slice a n cap] 24 (0, 0)) ∧ Blk wr (w.heap.size + 1) (.cells #[.int .i64 W, .int .i64 H, .slice a' n cap'] 24 (0, 0)) ∧ Below w.heap.size w wr) (fun i _ => n - (intOf i).toNat)
  case atStart => exact ⟨0, Nat.zero_le _, rfl, k1, k2, hb⟩
  case round =>
    clear hb k1 k2
    obtain ⟨k, hk, rfl, k1, k2, hb⟩ := hrel
    have c1 := k1.c3
    have c2 := k2.c3
    by_cases hlt : k < n
    · obtain ⟨b1, off1, rfl, hbl1, hcell1⟩ := HP.out.at k hlt
      obtain ⟨b2, off2, rfl, hbl2, hcell2⟩ := HP'.out.at k hlt
      generalize pxAt ps k = p at *
      obtain ⟨p0, p1, p2, p3⟩ := p
      simp only at hcell1 hcell2
      have HC1 := Lib.hid hcell1
      have HC2 := Lib.hid hcell2
      clear hcell1 hcell2
      go_wp2_with fail
      clear c1 c2
      have i1 : (0 : Int) ≤ (k : Int) := by omega
      have i2 : (k : Int) < (n : Int) := by omega
      refine wp_region_grow 11 (fun w' => Below (World.heap wr).size wr w') (by kernel_rfl) (by kernel_rfl) (Below.refl _ _).drew ?_
      simp only [List.take_succ_cons, List.take_zero, List.drop_succ_cons, List.drop_zero]
      repeat (first | (apply wpG_on; rfl; (intro w' hS K hK; have hc0 := (k1.kept hS).c3; have hc1 := (k2.kept hS).c3; have hr0 := HC1.out _ (hb.trans (hS.mono hb.size)); have hr1 := HC2.out _ (hb.trans (hS.mono hb.size)); go_simp; (first | exact hK.out _ hS)); simp only [Act.put, List.setIfInBounds_toArray, List.set_cons_succ, List.set_cons_zero]) | (apply wpG_off; rfl; simp only [Act.put, List.setIfInBounds_toArray, List.set_cons_succ, List.set_cons_zero]))
      apply wpG_nil
      intro W6 hS
      replace k1 := k1.kept hS
      replace k2 := k2.kept hS
      replace hb := hb.trans (hS.mono hb.size)
      clear hS
      go_wp2_with fail
      go_roundw
      case rel => exact ⟨k + 1, by omega, by go_num, k1, k2, hb⟩
      case measure => simp [intOf]; omega
    · obtain rfl : k = n := by omega
      go_wp2_with fail
      go_ret
      exact ⟨rfl, hb⟩

set_option maxHeartbeats 2000000 in
theorem gray_any (c : Int) (w : World) :
    Calls Tryz.prog 29 #[.int .i64 c] w fun e w' => e = .returned (pv c c c 65535) ∧ Below w.heap.size w w' := by
  go_enter Tryz.func29, Tryz.ntmps29
  go_upto_region 1 with (fail)
  refine name1 (fun W k1 hb => ?_)
  have c1 := k1.c4
  go_wp2_with fail
  exact end4 hb k1 (Nat.le_refl _) (fun w3 c3 => by simp [results, Tryz.results29, go_sem, c3]) rfl (fun w3 hb3 => ⟨rfl, hb3⟩)

abbrev exV29 : Value := .agg #[.int .i64 160, .int .i64 65535, .int .i64 65535, .int .i64 65535, .int .i64 65535, .int .i64 100, .int .i64 0, .int .i64 0, .int .i64 0, .int .i64 0, .int .i64 0, .int .i64 0, .int .i64 0, .int .i64 0, .slice none 0 0, .bool false]
theorem sm29 {w : World} {b : Nat} {t : TypeId} (k : Blk w b (.cells #[.int .i64 8, .int .i64 8, .int .i64 65535, .int .i64 0, .int .i64 0] t (0, 0))) : Sm w (.slice (some ⟨b, 0, none⟩) 1 1) rexL :=
  ⟨_, 1, rfl, by simp [rexL], .inr ⟨b, 0, rfl, k.lt, fun i hi => by
    match i, hi with
    | 0, _ => exact ⟨cell_blk k rfl, cell_blk k rfl, cell_blk k rfl, cell_blk k rfl, cell_blk k rfl⟩
    | i + 1, hi => exact absurd hi (by simp [rexL])⟩⟩
set_option maxHeartbeats 4000000 in
set_option maxRecDepth 100000 in
theorem full_any (w : World) :
    Calls Tryz.prog 30 #[] w fun e w' => ∃ b, e = .returned (.tuple #[exV29, .slice (some ⟨b, 0, none⟩) 1 1]) ∧ Sm w' (.slice (some ⟨b, 0, none⟩) 1 1) rexL ∧ Below w.heap.size w w' := by
  go_enter Tryz.func30, Tryz.ntmps30
  go_upto_region 1 with (fail)
  refine name1 (fun W k1 hb => ?_)
  have l1 := k1.lt
  go_wp2_with (refine wpList_store_blk rfl _ _ _ rfl w.heap.size #[.int .i64 160, .int .i64 65535, .int .i64 65535, .int .i64 65535, .int .i64 65535, .int .i64 100, .int .i64 0, .int .i64 0, .int .i64 0, .int .i64 0, .int .i64 0, .int .i64 0, .int .i64 0, .int .i64 0, .slice none 0 0, .bool false] rfl rfl (k1.alloc _) infoBr rfl (by simp [Value.oneCell']) (fun W2 k2 hk hb2 => ?_))
  have c2 := k2.c16
  have ks := hk _ _ (by omega) (heap_alloc_new W _)
  refine bodyPost_ret (v := .tuple #[exV29, .slice (some ⟨W.heap.size, 0, none⟩) 1 1]) (by simp [results, Tryz.results30, go_sem, c2]) rfl ⟨_, rfl, sm29 ks, (hb.trans ((Below.refl _ _).alloc hb.size _)).trans hb2⟩

theorem pn29 {w : World} {b : Nat} {t : TypeId} {p0 p1 p2 p3 q0 q1 q2 q3 : Int} (k : Blk w b (.cells #[.int .i64 p0, .int .i64 p1, .int .i64 p2, .int .i64 p3, .int .i64 q0, .int .i64 q1, .int .i64 q2, .int .i64 q3] t (0, 0))) : Pn w (.slice (some ⟨b, 0, none⟩) 2 2) [(p0, p1, p2, p3), (q0, q1, q2, q3)] :=
  ⟨_, 2, rfl, by simp, .inr ⟨b, 0, rfl, k.lt, fun i hi => by
    match i, hi with
    | 0, _ => exact ⟨cell_blk k rfl, cell_blk k rfl, cell_blk k rfl, cell_blk k rfl⟩
    | 1, _ => exact ⟨cell_blk k rfl, cell_blk k rfl, cell_blk k rfl, cell_blk k rfl⟩
    | i + 2, hi => exact absurd hi (by simp)⟩⟩
theorem nn29 {w : World} {b : Nat} {t : TypeId} {x y : Int} (k : Blk w b (.cells #[.int .i64 x, .int .i64 y] t (0, 0))) : Nn w (.slice (some ⟨b, 0, none⟩) 2 2) [x, y] :=
  ⟨_, 2, rfl, by simp, .inr ⟨b, 0, rfl, k.lt, fun i hi => by
    match i, hi with
    | 0, _ => exact cell_blk k rfl
    | 1, _ => exact cell_blk k rfl
    | i + 2, hi => exact absurd hi (by simp)⟩⟩
theorem nnNil (w : World) : Nn w (.slice none 0 0) [] := ⟨none, 0, rfl, by simp, .inl rfl⟩
theorem dnNil (w : World) : Dn w (.slice none 0 0) [] := ⟨none, 0, rfl, by simp, .inl rfl⟩
theorem pcF_cell (r : Nat → Px) (n j : Nat) (hj : j < n * 4) : (pcF r n)[j]? = some (.int .i64 (cmp (j % 4) (r (j / 4)))) := by
  have hq : j = j / 4 * 4 + j % 4 := by omega
  have h4 : j % 4 = 0 ∨ j % 4 = 1 ∨ j % 4 = 2 ∨ j % 4 = 3 := by omega
  have h := pcF_at r n (j / 4) (j % 4) (by omega) (by omega)
  rw [← hq] at h
  rw [h]
  rcases h4 with h4 | h4 | h4 | h4 <;> rw [h4] <;> rfl
/-- A row of pixels that append has made, cell by cell. -/
theorem rowI_own4 {w : World} {base g n cap : Nat} {e : TypeId} {r : Nat → Px} (h : w.ownsRow base e 4 (.slice (some ⟨g, 0, none⟩) n cap) n (pcF r n)) : RowI w g (n * 4) (fun j => cmp (j % 4) (r (j / 4))) ∧ base ≤ g := by
  obtain ⟨_, ⟨h1, _⟩ | ⟨g', cap', cur, hv, hb, hg, hn, _, hs, ht⟩⟩ := h
  · cases h1
  · simp only [Value.slice.injEq, Option.some.injEq, Addr.mk.injEq, and_true, true_and] at hv
    obtain ⟨rfl, rfl⟩ := hv
    refine ⟨⟨cur, e, hg, by omega, fun i hi => ?_⟩, hb⟩
    have h2 : (cur.toList.take (n * 4))[i]? = (pcF r n)[i]? := by rw [ht]
    rw [List.getElem?_take, if_pos (by omega), Array.getElem?_toList, pcF_cell r n i hi] at h2
    exact h2
theorem pn_rowI {w : World} {g n cap : Nat} {r : Nat → Px} {ps : List Px} (h : RowI w g (n * 4) (fun j => cmp (j % 4) (r (j / 4)))) (hl : ps.length = n) (hn : n ≤ 9223372036854775807) (hp : ∀ i, i < n → pxAt ps i = r i) : Pn w (.slice (some ⟨g, 0, none⟩) n cap) ps := by
  subst hl
  refine ⟨_, cap, rfl, hn, .inr ⟨g, 0, rfl, h.lt, fun i hi => ?_⟩⟩
  have c : ∀ c, c < 4 → w.cell? ⟨g, 0 + i * 4 + c, none⟩ = some (.int .i64 (cmp c (pxAt ps i))) := fun c hc => by
    rw [hp i hi, show 0 + i * 4 + c = i * 4 + c by omega, (h.c (i * 4 + c) (by omega)).1, show (i * 4 + c) % 4 = c by omega, show (i * 4 + c) / 4 = i by omega]
  exact ⟨c 0 (by omega), c 1 (by omega), c 2 (by omega), c 3 (by omega)⟩
theorem rowI_set4 {w : World} {g N k : Nat} {r : Nat → Px} (h : RowI w g N (fun j => cmp (j % 4) (r (j / 4)))) (hk : k * 4 + 3 < N) (p : Px) :
    RowI ((((w.setCell ⟨g, k * 4, none⟩ (.int .i64 p.1)).setCell ⟨g, k * 4 + 1, none⟩ (.int .i64 p.2.1)).setCell ⟨g, k * 4 + 2, none⟩ (.int .i64 p.2.2.1)).setCell ⟨g, k * 4 + 3, none⟩ (.int .i64 p.2.2.2)) g N (fun j => cmp (j % 4) (if j / 4 = k then p else r (j / 4))) := by
  refine ((((h.set (k * 4) (by omega) p.1).set (k * 4 + 1) (by omega) p.2.1).set (k * 4 + 2) (by omega) p.2.2.1).set (k * 4 + 3) (by omega) p.2.2.2).congr fun j hj => ?_
  by_cases c : j / 4 = k
  · rw [if_pos c]
    have h4 : j = k * 4 ∨ j = k * 4 + 1 ∨ j = k * 4 + 2 ∨ j = k * 4 + 3 := by omega
    rcases h4 with h4 | h4 | h4 | h4
    · rw [if_neg (by omega), if_neg (by omega), if_neg (by omega), if_pos h4, show j % 4 = 0 by omega]; rfl
    · rw [if_neg (by omega), if_neg (by omega), if_pos h4, show j % 4 = 1 by omega]; rfl
    · rw [if_neg (by omega), if_pos h4, show j % 4 = 2 by omega]; rfl
    · rw [if_pos h4, show j % 4 = 3 by omega]; rfl
  · rw [if_neg c, if_neg (by omega), if_neg (by omega), if_neg (by omega), if_neg (by omega)]
/-- One pixel of such a row is stored: what else stays. -/
theorem midRow {P : Program} {c : Code} {Q : Exit → Act → World → Prop} {a : Act} {B : Nat} {w0 w : World} {g N k : Nat} {r : Nat → Px} {v0 v1 v2 v3 : Int} (hb : Below B w0 w) (row : RowI w g N (fun j => cmp (j % 4) (r (j / 4)))) (hk : k * 4 + 3 < N) (hB : B ≤ g)
    (hn : ∀ w2 : World, RowI w2 g N (fun j => cmp (j % 4) (if j / 4 = k then (v0, v1, v2, v3) else r (j / 4))) → (∀ i o, i ≠ g → Blk w i o → Blk w2 i o) → Below B w0 w2 → c.wp P Q a w2) :
    c.wp P Q a ((((w.setCell ⟨g, k * 4, none⟩ (.int .i64 v0)).setCell ⟨g, k * 4 + 1, none⟩ (.int .i64 v1)).setCell ⟨g, k * 4 + 2, none⟩ (.int .i64 v2)).setCell ⟨g, k * 4 + 3, none⟩ (.int .i64 v3)) :=
  hn _ (rowI_set4 row hk (v0, v1, v2, v3)) (fun i o hi hk => hk.other4 hi _ _ _ _ _ _ _ _) (below4g hb hB _ _ _ _ _ _ _ _)
/-- A slice of pixels stays where another block alone is stored. -/
theorem pn_via {w w' : World} {a : Option Addr} {n cap x : Nat} {ps : List Px} (h : Pn w (.slice a n cap) ps) (hx : ∀ b o y, a = some ⟨b, o, y⟩ → b ≠ x) (kk : ∀ i o, i ≠ x → Blk w i o → Blk w' i o) : Pn w' (.slice a n cap) ps := by
  obtain ⟨a', cap', hv, hl, hr⟩ := h
  refine ⟨a', cap', hv, hl, ?_⟩
  simp only [Value.slice.injEq] at hv
  rcases hr with h0 | ⟨b, off, ha, hlt, hc⟩
  · exact .inl h0
  · right
    have hb : Blk w b (w.heap[b]) := Array.getElem?_eq_getElem hlt
    have hb' := kk _ _ (hx b off none (by rw [hv.1, ha])) hb
    refine ⟨b, off, ha, hb'.lt, fun i hi => ?_⟩
    have e : ∀ o, w'.cell? ⟨b, o, none⟩ = w.cell? ⟨b, o, none⟩ := fun o => by
      unfold World.cell?
      rw [show w'.heap[b]? = w.heap[b]? from Eq.trans hb' (Eq.symm hb)]
    rw [e, e, e, e]
    exact hc i hi
/-- A slice of pixels does not lie in a block of three cells: it stays when that is stored. -/
theorem pn_stay {w w' : World} {a : Option Addr} {n cap x : Nat} {ps : List Px} {u0 u1 u2 : Value} {t : TypeId} {m : Nat × Nat} (h : Pn w (.slice a n cap) ps) (hn : 0 < n) (k : Blk w x (.cells #[u0, u1, u2] t m)) (kk : ∀ i o, i ≠ x → Blk w i o → Blk w' i o) : Pn w' (.slice a n cap) ps := by
  refine pn_via h (fun b o y ha hb => ?_) kk
  obtain ⟨a', cap', hv, hl, hr⟩ := h
  simp only [Value.slice.injEq] at hv
  rcases hr with h0 | ⟨b', off, ha', hlt, hc⟩
  · omega
  · rw [← hv.1, ha] at ha'
    simp only [Option.some.injEq, Addr.mk.injEq] at ha'
    have c3 := (hc 0 (by omega)).2.2.2
    rw [← ha'.1, hb] at c3
    unfold World.cell? at c3
    rw [show w.heap[x]? = some (.cells #[u0, u1, u2] t m) from k] at c3
    simp at c3
theorem own_some {w : World} {base n : Nat} {e : TypeId} {size : Nat} {v : Value} {xs : List Value} (h : w.ownsRow base e size v n xs) (hn : 0 < n) : ∃ g cap, v = .slice (some ⟨g, 0, none⟩) n cap := by
  obtain ⟨_, h2⟩ := h
  rcases h2 with ⟨rfl, h0⟩ | ⟨g, cap, cur, rfl, _⟩
  · omega
  · exact ⟨g, cap, rfl⟩
end Go.Proofs.YtieacbccadbdbaaGreatDoor

