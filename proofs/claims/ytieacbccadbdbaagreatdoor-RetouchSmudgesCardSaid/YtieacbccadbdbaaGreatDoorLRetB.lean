/- Several texts in one: RetA, Copy, RetB, RetBR, RetW, RetQ. -/
import Derived.Test.YtieacbccadbdbaaGreatDoorLRetP
import Derived.Test.YtieacbccadbdbaaGreatDoorLRow
import Derived.Laws.CopyOwn
import Derived.Test.YtieacbccadbdbaaGreatDoorLMask
import Derived.Test.YtieacbccadbdbaaGreatDoorLNum
import Derived.Test.YtieacbccadbdbaaGreatDoorLDyn
import Derived.Deep.Cut
import Derived.Test.YtieacbccadbdbaaGreatDoorLCovR

/- Two pixels mixed, a pixel premultiplied and made straight, by the program and by the reference. -/
namespace Go.Proofs.YtieacbccadbdbaaGreatDoor
open Go.RowKit
set_option linter.unusedVariables false

theorem mixx_any (p q : Px) (t : Int) (w : World) : Calls Tryz.prog 35 #[pvx p, pvx q, .int .i64 t] w fun e w' => e = .returned (pvx (mxP p q t)) ∧ Below w.heap.size w w' := by
  by_cases h : mxA p.2.2.2 q.2.2.2 t = 0
  · have e : mxP p q t = (0, 0, 0, 0) := if_pos h
    rw [e]; exact mix_zero _ _ _ _ _ _ _ _ _ w h
  · have e : mxP p q t = _ := if_neg h
    rw [e]; exact mix_pos _ _ _ _ _ _ _ _ _ w h
theorem refMixx_any (p q : Px) (t : Int) (w : World) : Calls Tryz.prog 38 #[pvx p, pvx q, .int .i64 t] w fun e w' => e = .returned (pvx (mxP p q t)) ∧ Below w.heap.size w w' := by
  by_cases h : mxA p.2.2.2 q.2.2.2 t = 0
  · have e : mxP p q t = (0, 0, 0, 0) := if_pos h
    rw [e]; exact refMix_zero _ _ _ _ _ _ _ _ _ w h
  · have e : mxP p q t = _ := if_neg h
    rw [e]; exact refMix_pos _ _ _ _ _ _ _ _ _ w h

theorem straightx_any (p : Px) (w : World) : Calls Tryz.prog 92 #[pvx p] w fun e w' => e = .returned (pvx (stP p)) ∧ Below w.heap.size w w' := by
  have := cl_bd p.2.2.2
  by_cases h : cl p.2.2.2 = 0
  · have e : stP p = (0, 0, 0, 0) := if_pos h
    rw [e]; exact straight_zero _ _ _ _ w h
  · have e : stP p = _ := if_neg h
    rw [e]; exact straight_pos _ _ _ _ w (by omega)
theorem refStraightx_any (p : Px) (w : World) : Calls Tryz.prog 57 #[pvx p] w fun e w' => e = .returned (pvx (stP p)) ∧ Below w.heap.size w w' := by
  have := cl_bd p.2.2.2
  by_cases h : cl p.2.2.2 = 0
  · have e : stP p = (0, 0, 0, 0) := if_pos h
    rw [e]; exact refStraight_zero _ _ _ _ w h
  · have e : stP p = _ := if_neg h
    rw [e]; exact refStraight_pos _ _ _ _ w (by omega)
theorem prex_any (p : Px) (w : World) : Calls Tryz.prog 90 #[pvx p] w fun e w' => e = .returned (pvx (prP p)) ∧ Below w.heap.size w w' := pre_any _ _ _ _ w
theorem refPrex_any (p : Px) (w : World) : Calls Tryz.prog 95 #[pvx p] w fun e w' => e = .returned (pvx (prP p)) ∧ Below w.heap.size w w' := refPre_any _ _ _ _ w
end Go.Proofs.YtieacbccadbdbaaGreatDoor


/- copy of a whole slice of elements of several cells each into a row of the call's own. -/
namespace Go.Proofs.YtieacbccadbdbaaGreatDoor
open Go.RowKit
set_option linter.unusedVariables false

theorem run_copy_rows (P : Program) (w : World) (dT sT ty elem : TypeId) (s g o dLen dCap : Nat) (a : Addr) (sLen sCap : Nat) (cur : Array Value) (t : TypeId) (cs : List Value)
    (hu : P.underlying dT = some (.slice elem)) (hs : (P.info? elem).map (·.size) = some s)
    (hg : w.heap[g]? = some (.cells cur t (0, 0))) (hn : cs.length = Nat.min sLen dLen * s)
    (hsrc : ∀ j v, cs[j]? = some v → w.cell? (a.add j) = some v) (hfit : o + cs.length ≤ cur.size) (h1 : ∀ v ∈ cs, v.oneCell' = true) :
    (Builtin.copy_ #[dT, sT] ty #[.slice (some ⟨g, o, none⟩) dLen dCap, .slice (some a) sLen sCap]).run P w =
      .ok (goInt (Nat.min sLen dLen)) (w.setRow g (cur.toList.take o ++ cs ++ cur.toList.drop (o + cs.length)).toArray) := by
  have hl := run_loadCells_list (P := P) w a cs hsrc
  have hst := run_storeCells_at P g o t cs 0 cur w hg (by simpa using hfit) h1
  cases hq : P.info? elem with
  | none => simp [hq] at hs
  | some i =>
    have hi : i.size = s := by simpa [hq] using hs
    simp [Builtin.copy_, run_underlying hu, Builtin.lenOf, Builtin.firstCells, sizeOf, typeInfo, hq, hi, ← hn, hl, hst]
theorem run_copy_zero (P : Program) (w : World) (dT sT ty elem : TypeId) (s : Nat) (dp sp : Option Addr) (dLen dCap sLen sCap : Nat)
    (hu : P.underlying dT = some (.slice elem)) (hs : (P.info? elem).map (·.size) = some s) (hn : Nat.min sLen dLen = 0) :
    (Builtin.copy_ #[dT, sT] ty #[.slice dp dLen dCap, .slice sp sLen sCap]).run P w = .ok (goInt 0) w := by
  cases hq : P.info? elem with
  | none => simp [hq] at hs
  | some i =>
    cases dp <;> cases sp <;> simp [Builtin.copy_, run_underlying hu, Builtin.lenOf, Builtin.firstCells, sizeOf, typeInfo, hq, hn, loadCells, storeCells] <;> rfl

theorem wpList_copy_all {P : Program} {w : World} {ops : Array Oper} {rest : List Oper} {o : Oper} {a : Act} {Q : Exit → Act → World → Prop} (hgd : o.guard = none) (d s : Operand) (dT sT : TypeId)
    (ho : o.op = .call { callee := .builtin .copy, args := #[d, s], argTypes := #[dT, sT] }) (elem : TypeId) (sz : Nat) (hu : P.underlying dT = some (.slice elem)) (hsz : (P.info? elem).map (·.size) = some sz)
    (g n dCap sCap : Nat) (sp : Option Addr) (hd : a.eval d = .slice (some ⟨g, 0, none⟩) n dCap) (hs : a.eval s = .slice sp n sCap)
    (cur : Array Value) (t : TypeId) (hg : w.heap[g]? = some (.cells cur t (0, 0))) (cs : List Value) (hn : cs.length = n * sz) (hc : cur.size = cs.length)
    (hsrc : 0 < n → ∃ ad, sp = some ad ∧ ∀ j v, cs[j]? = some v → w.cell? (ad.add j) = some v) (h1 : ∀ v ∈ cs, v.oneCell' = true) (B : Nat) (w0 : World) (hb : Below B w0 w) (hBg : B ≤ g)
    (h : ∀ w', Hid (w'.heap[g]? = some (.cells cs.toArray t (0, 0))) → (∀ k, k ≠ g → w'.heap[k]? = w.heap[k]?) → Below B w0 w' → wpList P ops Q rest (a.put o.dst (goInt n)) w') : wpList P ops Q (o :: rest) a w := by
  refine wpList_plain hgd fun K hK => ?_
  have hm : Nat.min n n = n := Nat.min_self n
  by_cases h0 : n = 0
  · subst h0
    have hrun := run_copy_zero P w dT sT o.type elem sz (some ⟨g, 0, none⟩) sp 0 dCap 0 sCap hu hsz hm
    have hcs : cs = [] := List.eq_nil_of_length_eq_zero (by rw [hn]; omega)
    have hcu : cur = cs.toArray := by
      rw [hcs] at hc ⊢
      exact Array.eq_empty_of_size_eq_zero hc
    unfold Oper.wp
    simp [execOp, ho, resolve, invoke, builtin, hd, hs, hrun, Result.andThen]
    exact hK _ _ (h w (show _ = _ by rw [← hcu]; exact hg) (fun _ _ => rfl) hb)
  · obtain ⟨ad, rfl, hsr⟩ := hsrc (by omega)
    have hrun := run_copy_rows P w dT sT o.type elem sz g 0 n dCap ad n sCap cur t cs hu hsz hg (by rw [hm]; exact hn) hsr (by omega) h1
    rw [hm] at hrun
    have hrow := setRow_heap w g cur (cur.toList.take 0 ++ cs ++ cur.toList.drop (0 + cs.length)).toArray t _ hg
    have hdr : cur.toList.take 0 ++ cs ++ cur.toList.drop (0 + cs.length) = cs := by
      rw [List.take_zero, Nat.zero_add, List.drop_eq_nil_of_le (by simp; omega)]
      simp
    rw [hdr] at hrun hrow
    unfold Oper.wp
    simp [execOp, ho, resolve, invoke, builtin, hd, hs, hrun, Result.andThen]
    exact hK _ _ (h _ hrow (fun k hk => setRow_other w g k _ hk) (below_setRow hb hBg _))

/-- The cells of the pixels of a slice, one by one. -/
theorem Pn.src {w : World} {a : Option Addr} {n cap : Nat} {ps : List Px} (h : Pn w (.slice a n cap) ps) (hn : 0 < n) : ∃ ad, a = some ad ∧ ∀ j v, (pcF (pxAt ps) n)[j]? = some v → w.cell? (ad.add j) = some v := by
  obtain ⟨a', cap', hv, hl, hr⟩ := h
  simp only [Value.slice.injEq] at hv
  obtain ⟨rfl, rfl, rfl⟩ := hv
  rcases hr with h0 | ⟨b, off, ha, hlt, hc⟩
  · omega
  · refine ⟨_, ha, fun j v hj => ?_⟩
    have hjl : j < ps.length * 4 := by
      rw [← pcF_len (pxAt ps) ps.length]
      exact (List.getElem?_eq_some_iff.1 hj).1
    have hq : j = j / 4 * 4 + j % 4 := by omega
    rw [hq, pcF_at _ _ _ _ (by omega) (by omega)] at hj
    obtain ⟨c0, c1, c2, c3⟩ := hc (j / 4) (by omega)
    rw [Go.WideShapes.add_plain]
    have h4 : j % 4 = 0 ∨ j % 4 = 1 ∨ j % 4 = 2 ∨ j % 4 = 3 := by omega
    rcases h4 with h4 | h4 | h4 | h4
    all_goals
      rw [h4] at hj
      simp only [px4, List.getElem?_cons_zero, List.getElem?_cons_succ, Option.some.injEq] at hj
      subst hj
    · rw [show off + j = off + j / 4 * 4 by omega]; exact c0
    · rw [show off + j = off + j / 4 * 4 + 1 by omega]; exact c1
    · rw [show off + j = off + j / 4 * 4 + 2 by omega]; exact c2
    · rw [show off + j = off + j / 4 * 4 + 3 by omega]; exact c3
theorem pcF_one (r : Nat → Px) (n : Nat) : ∀ v ∈ pcF r n, v.oneCell' = true := by
  intro v hv
  simp only [pcF, List.mem_flatMap, px4, List.mem_cons, List.not_mem_nil, or_false] at hv
  obtain ⟨i, _, hv⟩ := hv
  rcases hv with rfl | rfl | rfl | rfl <;> rfl
/-- A row of pixels, known by its cells. -/
theorem row_of_cells {w : World} {g n : Nat} {r : Nat → Px} {t : TypeId} (h : w.heap[g]? = some (.cells (pcF r n).toArray t (0, 0))) : Row w g n r := by
  refine ⟨_, t, h, by simp [pcF_len], fun i hi => ?_⟩
  have e : ∀ j, j < 4 → (pcF r n).toArray[i * 4 + j]? = (px4 (r i))[j]? := fun j hj => by
    rw [List.getElem?_toArray]
    exact pcF_at r n i j hi hj
  exact ⟨e 0 (by omega), e 1 (by omega), e 2 (by omega), e 3 (by omega)⟩
theorem rowI_of_cells {w : World} {g n : Nat} {r : Nat → Int} {t : TypeId} (h : w.heap[g]? = some (.cells (icF r n).toArray t (0, 0))) : RowI w g n r := by
  refine ⟨_, t, h, by simp [icF], fun i hi => ?_⟩
  rw [List.getElem?_toArray]
  exact icF_at r n i hi
theorem icF_one (r : Nat → Int) (n : Nat) : ∀ v ∈ icF r n, v.oneCell' = true := by
  intro v hv
  simp only [icF, List.mem_map] at hv
  obtain ⟨i, _, rfl⟩ := hv
  rfl
theorem icF_len (r : Nat → Int) (n : Nat) : (icF r n).length = n := by simp [icF]
theorem RowI.src {w : World} {g n : Nat} {f : Nat → Int} (h : RowI w g n f) : ∀ j v, (icF f n)[j]? = some v → w.cell? ((⟨g, 0, none⟩ : Addr).add j) = some v := by
  intro j v hj
  have hjl : j < n := by
    rw [← icF_len f n]
    exact (List.getElem?_eq_some_iff.1 hj).1
  rw [icF_at _ _ _ hjl] at hj
  injection hj with hj
  subst hj
  rw [Go.WideShapes.add_plain]
  simpa using (h.c j hjl).1
end Go.Proofs.YtieacbccadbdbaaGreatDoor


/- selected, at, fits, duplicate, under (printed by genretb.py). -/
namespace Go.Proofs.YtieacbccadbdbaaGreatDoor
open Go.RowKit
set_option linter.unusedVariables false
attribute [local go_sem] Oper.gAt gUponK Oper.sAt stilK

set_option maxHeartbeats 2000000 in
theorem selected_any (sw sh : Int) (mv : Value) (zs : List Int) (k : Nat) (w : World) (hM : Nn w mv zs) (hk : sw ≠ 0 → k < zs.length) :
    Calls Tryz.prog 18 #[.agg #[.int .i64 sw, .int .i64 sh, mv], .int .i64 k] w fun e w' => e = .returned (.int .i64 (selK sw zs k)) ∧ Below w.heap.size w w' := by
  obtain ⟨am, cm, rfl, hl⟩ := hM.slice
  by_cases h0 : sw = 0
  · subst h0
    rw [show selK 0 zs k = 65535 from if_pos rfl]
    clear hM hk
    go_enter Tryz.func18, Tryz.ntmps18
    go_upto_region 1 with (fail)
    refine name1 (fun W k1 hb => ?_)
    have c1 := k1.c3
    go_wp2_with fail
    go_ret
    exact ⟨rfl, hb⟩
  · have hkl := hk h0
    rw [show selK sw zs k = zs.getD k 0 from if_neg h0]
    obtain ⟨b, off, rfl, hz⟩ := nnAtB hM k hkl
    have HZ := Lib.hid hz
    have b0 : (sw == 0) = false := by simpa using h0
    clear hz hM hk h0
    generalize zs.getD k 0 = z at *
    generalize zs.length = n at *
    have i1 : (0 : Int) ≤ (k : Int) := by omega
    have i2 : (k : Int) < (n : Int) := by omega
    go_enter Tryz.func18, Tryz.ntmps18
    go_upto_region 1 with (fail)
    refine name1 (fun W k1 hb => ?_)
    have c1 := k1.c3
    have hz := HZ.out _ hb
    go_wp2_with fail
    go_ret
    exact ⟨rfl, hb⟩

set_option maxHeartbeats 4000000 in
theorem retAt_any (W H : Nat) (iv : Value) (ps : List Px) (x y : Int) (w : World) (hI : Pn w iv ps) (hl : ps.length = W * H) (hW : W ≤ 256) (hH : H ≤ 256) :
    Calls Tryz.prog 19 #[.agg #[.int .i64 W, .int .i64 H, iv], .int .i64 x, .int .i64 y] w fun e w' => e = .returned (pvx (atP W H ps x y)) ∧ Below w.heap.size w w' := by
  obtain ⟨ai, ci, rfl⟩ := hI.slice
  have c : x < 0 ∨ (¬ x < 0 ∧ (W : Int) ≤ x) ∨ (¬ x < 0 ∧ ¬ (W : Int) ≤ x ∧ y < 0) ∨ (¬ x < 0 ∧ ¬ (W : Int) ≤ x ∧ ¬ y < 0 ∧ (H : Int) ≤ y) ∨ (0 ≤ x ∧ x < W ∧ 0 ≤ y ∧ y < H) := by omega
  rcases c with c1 | ⟨c1, c2⟩ | ⟨c1, c2, c3⟩ | ⟨c1, c2, c3, c4⟩ | ⟨c1, c2, c3, c4⟩
  case inr.inr.inr.inr =>
    rw [atP_in c1 c2 c3 c4]
    obtain ⟨j1, j2⟩ := atP_idx c1 c2 c3 c4
    have hm : (H : Int) * (W : Int) = (ps.length : Int) := by rw [hl, Int.natCast_mul, Int.mul_comm]
    have hWH : W * H ≤ 256 * 256 := Nat.mul_le_mul hW hH
    have hyw : 0 ≤ y * (W : Int) := Int.mul_nonneg c3 (by omega)
    obtain ⟨idx, hidx⟩ : ∃ idx : Nat, y * (W : Int) + x = idx := ⟨(y * (W : Int) + x).toNat, by omega⟩
    rw [hidx, show ((idx : Nat) : Int).toNat = idx from rfl]
    have hlt : idx < ps.length := by omega
    have hn : ps.length ≤ 65536 := by omega
    obtain ⟨b, off, rfl, hbl, hcell⟩ := hI.at idx hlt
    have HC := Lib.hid hcell
    obtain ⟨yw, hyw2⟩ : ∃ yw, y * (W : Int) = yw := ⟨_, rfl⟩
    rw [hyw2] at hidx hyw
    have e1 : IntKind.i64.wrap (y * (W : Int)) = yw := by rw [hyw2]; exact IntWalk.i64_in _ (by omega)
    have e2 : IntKind.i64.wrap (yw + x) = (idx : Int) := by rw [hidx]; exact IntWalk.i64_in _ (by omega)
    clear hI hcell hidx hl hm hWH j1 j2 hyw2
    generalize pxAt ps idx = p at *
    obtain ⟨p0, p1, p2, p3⟩ := p
    replace HC : Hid (∀ w', Below w.heap.size w w' → w'.cell? ⟨b, off + idx * 4, none⟩ = some (.int .i64 p0) ∧ w'.cell? ⟨b, off + idx * 4 + 1, none⟩ = some (.int .i64 p1) ∧ w'.cell? ⟨b, off + idx * 4 + 2, none⟩ = some (.int .i64 p2) ∧ w'.cell? ⟨b, off + idx * 4 + 3, none⟩ = some (.int .i64 p3)) := HC
    generalize ps.length = n at *
    have i1 : (0 : Int) ≤ (idx : Int) := by omega
    have i2 : (idx : Int) < (n : Int) := by omega
    have i3 : ¬ x < 0 := by omega
    have i4 : ¬ (W : Int) ≤ x := by omega
    have i5 : ¬ y < 0 := by omega
    have i6 : ¬ (H : Int) ≤ y := by omega
    go_enter Tryz.func19, Tryz.ntmps19
    go_upto_region 1 with (fail)
    refine name2 (fun W1 k1 k2 hb => ?_)
    have q1 := k1.c3
    have q2 := k2.c4
    have hc := HC.out _ hb
    go_wp2_with fail
    exact end4 hb k2 (by omega) (fun w3 c3 => by simp [results, Tryz.results19, go_sem, c3]) rfl (fun w3 hb3 => ⟨rfl, hb3⟩)
  all_goals
    rw [atP_out (by omega)]
    clear hI hl
    go_enter Tryz.func19, Tryz.ntmps19
    go_upto_region 1 with (fail)
    refine name2 (fun W1 k1 k2 hb => ?_)
    have q1 := k1.c3
    have q2 := k2.c4
    go_wp2_with fail
    exact end4 hb k2 (by omega) (fun w3 c3 => by simp [results, Tryz.results19, go_sem, c3]) rfl (fun w3 hb3 => ⟨rfl, hb3⟩)

theorem dOk_xy {d : Dab} (h : dOk d = true) : (-16777216 ≤ d.x ∧ d.x ≤ 16777216) ∧ (-16777216 ≤ d.y ∧ d.y ≤ 16777216) := by
  have h := of_decide_eq_true h
  have a := co_bd d.x
  have b := co_bd d.y
  omega

set_option maxHeartbeats 4000000 in
theorem under_any (W H : Nat) (iv : Value) (ps : List Px) (d : Dab) (w : World) (hI : Pn w iv ps) (hl : ps.length = W * H) (hW : W ≤ 256) (hH : H ≤ 256) (hd : dOk d = true) :
    Calls Tryz.prog 31 #[.agg #[.int .i64 W, .int .i64 H, iv], dbv d] w fun e w' => e = .returned (pvx (undP W H (pxAt ps) d)) ∧ Below w.heap.size w w' := by
  obtain ⟨hx, hy⟩ := dOk_xy hd
  have AP := Lib.hid (fun w h => retAt_any W H iv ps (d.x / 16) (d.y / 16) w h hl hW hH)
  rw [show atP W H ps (d.x / 16) (d.y / 16) = undP W H (pxAt ps) d from rfl] at AP
  have FX := Lib.hid (fun w => floor_any d.x 16 w (by omega) (by omega) (by omega) (by omega))
  have FY := Lib.hid (fun w => floor_any d.y 16 w (by omega) (by omega) (by omega) (by omega))
  have HI := Lib.hid hI
  obtain ⟨ai, ci, rfl⟩ := hI.slice
  generalize undP W H (pxAt ps) d = p at *
  obtain ⟨p0, p1, p2, p3⟩ := p
  replace AP : Hid (∀ w, Pn w (.slice ai ps.length ci) ps → Calls Tryz.prog 19 #[.agg #[.int .i64 W, .int .i64 H, .slice ai ps.length ci], .int .i64 (d.x / 16), .int .i64 (d.y / 16)] w fun e w' => e = .returned (pv p0 p1 p2 p3) ∧ Below w.heap.size w w') := AP
  clear hI hl hx hy hd
  generalize ps.length = n at *
  go_enter Tryz.func31, Tryz.ntmps31
  go_upto_region 1 with (fail)
  refine name3 (fun W1 k1 k2 k3 hb => ?_)
  refine wp_region_grow 8 (fun w' => Below (World.heap W1).size W1 w') (by kernel_rfl) (by kernel_rfl) (Below.refl _ _).drew ?_
  simp only [List.take_succ_cons, List.take_zero, List.drop_succ_cons, List.drop_zero]
  repeat (first | (apply wpG_on; rfl; (intro w' hS K hK; have hc0 := (k1.kept hS).c3; have hc1 := (k2.kept hS).c5; have hc2 := (k3.kept hS).c4; go_simp; (first | exact hK.out _ hS | (go_at_call 73; (with_reducible refine (FX.out _).mono ?_); rintro e w'' ⟨rfl, rfl⟩; exact ⟨_, rfl, hK.out _ hS⟩) | (go_at_call 73; (with_reducible refine (FY.out _).mono ?_); rintro e w'' ⟨rfl, rfl⟩; exact ⟨_, rfl, hK.out _ hS⟩) | (go_at_call 19; (with_reducible refine (AP.out _ (HI.out.kept (hb.trans (hS.mono hb.size)))).mono ?_); rintro e w'' ⟨rfl, hbb⟩; exact ⟨_, rfl, hK.out _ (hS.trans (hbb.mono hS.size))⟩))); simp only [Act.put, List.setIfInBounds_toArray, List.set_cons_succ, List.set_cons_zero]) | (apply wpG_off; rfl; simp only [Act.put, List.setIfInBounds_toArray, List.set_cons_succ, List.set_cons_zero]))
  apply wpG_nil
  intro W2 hS
  replace k1 := k1.kept hS
  replace k2 := k2.kept hS
  replace k3 := k3.kept hS
  replace hb := hb.trans (hS.mono hb.size)
  clear hS
  have c3 := k3.c4
  go_wp2_with fail
  exact end4 hb k3 (by omega) (fun w3 c3 => by simp [results, Tryz.results31, go_sem, c3]) rfl (fun w3 hb3 => ⟨rfl, hb3⟩)

def fitB (mw mh iw ih : Int) : Bool := decide (mw = 0 ∨ (mw = iw ∧ mh = ih))
set_option maxHeartbeats 2000000 in
theorem fits_any (mw mh iw ih : Int) (mv iv : Value) (w : World) :
    Calls Tryz.prog 44 #[.agg #[.int .i64 mw, .int .i64 mh, mv], .agg #[.int .i64 iw, .int .i64 ih, iv]] w fun e w' => e = .returned (.bool (fitB mw mh iw ih)) ∧ Below w.heap.size w w' := by
  by_cases h0 : mw = 0
  · have HE : Hid (fitB mw mh iw ih = true) := decide_eq_true (.inl h0)
    have b0 : (mw == 0) = true := by simpa using h0
    go_enter Tryz.func44, Tryz.ntmps44
    go_upto_region 1 with (fail)
    refine name2 (fun W1 k1 k2 hb => ?_)
    have q1 := k1.c3
    have q2 := k2.c3
    go_wp2_with fail
    go_ret
    exact ⟨ret_bool (by rw [HE.out]), hb⟩
  · have b0 : (mw == 0) = false := by simpa using h0
    by_cases h1 : mw = iw
    · have b1 : (mw == iw) = true := by simpa using h1
      have HB0 := Lib.hid b0
      have H01 := Lib.hid h1
      clear h1
      by_cases h2 : mh = ih
      · have HE : Hid (fitB mw mh iw ih = true) := decide_eq_true (.inr ⟨H01.out, h2⟩)
        have b2 : (mh == ih) = true := by simpa using h2
        go_enter Tryz.func44, Tryz.ntmps44
        go_upto_region 1 with (fail)
        refine name2 (fun W1 k1 k2 hb => ?_)
        have q1 := k1.c3
        have q2 := k2.c3
        go_wp2_with fail
        go_ret
        exact ⟨ret_bool (by rw [HE.out]), hb⟩
      · have HE : Hid (fitB mw mh iw ih = false) := decide_eq_false (by have := H01.out; omega)
        have b2 : (mh == ih) = false := by simpa using h2
        go_enter Tryz.func44, Tryz.ntmps44
        go_upto_region 1 with (fail)
        refine name2 (fun W1 k1 k2 hb => ?_)
        have q1 := k1.c3
        have q2 := k2.c3
        go_wp2_with fail
        go_ret
        exact ⟨ret_bool (by rw [HE.out]), hb⟩
    · have HE : Hid (fitB mw mh iw ih = false) := decide_eq_false (by omega)
      have b1 : (mw == iw) = false := by simpa using h1
      go_enter Tryz.func44, Tryz.ntmps44
      go_upto_region 1 with (fail)
      refine name2 (fun W1 k1 k2 hb => ?_)
      have q1 := k1.c3
      have q2 := k2.c3
      go_wp2_with fail
      go_ret
      exact ⟨ret_bool (by rw [HE.out]), hb⟩

theorem infoPx4 : (Tryz.prog.info? 26).map (·.size) = some 4 := by kernel_rfl
set_option maxHeartbeats 4000000 in
set_option maxRecDepth 100000 in
theorem duplicate_any (iw ih : Int) (iv : Value) (ps : List Px) (w : World) (hI : Pn w iv ps) (hn : ps.length ≤ 65536) :
    Calls Tryz.prog 16 #[.agg #[.int .i64 iw, .int .i64 ih, iv]] w fun e w' => ∃ g, e = .returned (.agg #[.int .i64 iw, .int .i64 ih, .slice (some ⟨g, 0, none⟩) ps.length ps.length]) ∧ w.heap.size ≤ g ∧ Row w' g ps.length (pxAt ps) ∧ Below w.heap.size w w' := by
  obtain ⟨ai, ci, rfl⟩ := hI.slice
  have SRC := Lib.hid (fun w (h : Pn w (.slice ai ps.length ci) ps) hn => h.src hn)
  have HI := Lib.hid hI
  clear hI
  generalize ps.length = n at *
  generalize pxAt ps = f at *
  have mk := fun w => makePix n hn w
  go_enter Tryz.func16, Tryz.ntmps16
  go_upto_region 1 with (fail)
  refine name2 (fun W1 k1 k2 hb => ?_)
  have c1 := k1.c3
  go_upto_region 2 with (fail)
  refine name1 (fun W2 kr hS => ?_)
  have hg : w.heap.size ≤ W1.heap.size := by have := k1.lt; omega
  have hgn : w.heap.size + 1 < W1.heap.size := k2.lt
  replace k1 := k1.kept hS
  replace k2 := k2.kept hS
  replace hb := hb.trans (hS.mono hb.size)
  clear hS mk c1
  generalize W1.heap.size = g at *
  have c1 := k1.c3
  have HK := Lib.hid kr
  have HW := Lib.hid (HI.out.kept hb)
  clear kr
  go_wp2_with (refine wpList_copy_all (o := ⟨some 11, _, _, _, _, _⟩) rfl _ _ 22 22 rfl 26 4 Tryz.underlying22 infoPx4 g n n ci ai rfl rfl _ _ HK.out (pcF f n) (pcF_len _ _) ?cs ?src (pcF_one _ _) w.heap.size w hb (by omega) ?_)
  case cs => rw [size_madeCells, pcF_len]
  case src => exact fun h => SRC.out _ HW.out h
  intro W3 hr hother hb3
  have row := row_of_cells hr.out
  replace k1 : Blk W3 _ _ := (hother _ (by omega)).trans k1
  replace k2 : Blk W3 _ _ := (hother _ (by omega)).trans k2
  clear hr hother hb c1
  have c1 := k1.c3
  have c2 := k2.c3
  go_wp2_with fail
  exact bodyPost_ret (v := .agg #[.int .i64 iw, .int .i64 ih, .slice (some ⟨g, 0, none⟩) n n]) (by simp [results, Tryz.results16, go_sem, c2]) rfl ⟨g, rfl, hg, ((row.other (by simp; omega) _).other (by simp; omega) _).other (by simp; omega) _, ((hb3.setCell (by simp) _).setCell (by simp) _).setCell (by simp) _⟩
end Go.Proofs.YtieacbccadbdbaaGreatDoor


/- chosen, Pick, under (printed by genretb.py). -/
namespace Go.Proofs.YtieacbccadbdbaaGreatDoor
open Go.RowKit
set_option linter.unusedVariables false
attribute [local go_sem] Oper.gAt gUponK Oper.sAt stilK

set_option maxHeartbeats 2000000 in
theorem chosen_any (sw sh : Int) (mv : Value) (zs : List Int) (k : Nat) (w : World) (hM : Nn w mv zs) (hk : sw ≠ 0 → k < zs.length) :
    Calls Tryz.prog 25 #[.agg #[.int .i64 sw, .int .i64 sh, mv], .int .i64 k] w fun e w' => e = .returned (.int .i64 (selK sw zs k)) ∧ Below w.heap.size w w' := by
  obtain ⟨am, cm, rfl, hl⟩ := hM.slice
  by_cases h0 : sw = 0
  · subst h0
    rw [show selK 0 zs k = 65535 from if_pos rfl]
    clear hM hk
    go_enter Tryz.func25, Tryz.ntmps25
    go_upto_region 1 with (fail)
    refine name1 (fun W k1 hb => ?_)
    have c1 := k1.c3
    go_wp2_with fail
    go_ret
    exact ⟨rfl, hb⟩
  · have hkl := hk h0
    rw [show selK sw zs k = zs.getD k 0 from if_neg h0]
    obtain ⟨b, off, rfl, hz⟩ := nnAtB hM k hkl
    have HZ := Lib.hid hz
    have b0 : (sw == 0) = false := by simpa using h0
    clear hz hM hk h0
    generalize zs.getD k 0 = z at *
    generalize zs.length = n at *
    have i1 : (0 : Int) ≤ (k : Int) := by omega
    have i2 : (k : Int) < (n : Int) := by omega
    go_enter Tryz.func25, Tryz.ntmps25
    go_upto_region 1 with (fail)
    refine name1 (fun W k1 hb => ?_)
    have c1 := k1.c3
    have hz := HZ.out _ hb
    go_wp2_with fail
    go_ret
    exact ⟨rfl, hb⟩

set_option maxHeartbeats 4000000 in
theorem pick_any (W H : Nat) (iv : Value) (ps : List Px) (x y : Int) (w : World) (hI : Pn w iv ps) (hl : ps.length = W * H) (hW : W ≤ 256) (hH : H ≤ 256) :
    Calls Tryz.prog 26 #[.agg #[.int .i64 W, .int .i64 H, iv], .int .i64 x, .int .i64 y] w fun e w' => e = .returned (pvx (atP W H ps x y)) ∧ Below w.heap.size w w' := by
  obtain ⟨ai, ci, rfl⟩ := hI.slice
  have c : x < 0 ∨ (¬ x < 0 ∧ (W : Int) ≤ x) ∨ (¬ x < 0 ∧ ¬ (W : Int) ≤ x ∧ y < 0) ∨ (¬ x < 0 ∧ ¬ (W : Int) ≤ x ∧ ¬ y < 0 ∧ (H : Int) ≤ y) ∨ (0 ≤ x ∧ x < W ∧ 0 ≤ y ∧ y < H) := by omega
  rcases c with c1 | ⟨c1, c2⟩ | ⟨c1, c2, c3⟩ | ⟨c1, c2, c3, c4⟩ | ⟨c1, c2, c3, c4⟩
  case inr.inr.inr.inr =>
    rw [atP_in c1 c2 c3 c4]
    obtain ⟨j1, j2⟩ := atP_idx c1 c2 c3 c4
    have hm : (H : Int) * (W : Int) = (ps.length : Int) := by rw [hl, Int.natCast_mul, Int.mul_comm]
    have hWH : W * H ≤ 256 * 256 := Nat.mul_le_mul hW hH
    have hyw : 0 ≤ y * (W : Int) := Int.mul_nonneg c3 (by omega)
    obtain ⟨idx, hidx⟩ : ∃ idx : Nat, y * (W : Int) + x = idx := ⟨(y * (W : Int) + x).toNat, by omega⟩
    rw [hidx, show ((idx : Nat) : Int).toNat = idx from rfl]
    have hlt : idx < ps.length := by omega
    have hn : ps.length ≤ 65536 := by omega
    obtain ⟨b, off, rfl, hbl, hcell⟩ := hI.at idx hlt
    have HC := Lib.hid hcell
    obtain ⟨yw, hyw2⟩ : ∃ yw, y * (W : Int) = yw := ⟨_, rfl⟩
    rw [hyw2] at hidx hyw
    have e1 : IntKind.i64.wrap (y * (W : Int)) = yw := by rw [hyw2]; exact IntWalk.i64_in _ (by omega)
    have e2 : IntKind.i64.wrap (yw + x) = (idx : Int) := by rw [hidx]; exact IntWalk.i64_in _ (by omega)
    clear hI hcell hidx hl hm hWH j1 j2 hyw2
    generalize pxAt ps idx = p at *
    obtain ⟨p0, p1, p2, p3⟩ := p
    replace HC : Hid (∀ w', Below w.heap.size w w' → w'.cell? ⟨b, off + idx * 4, none⟩ = some (.int .i64 p0) ∧ w'.cell? ⟨b, off + idx * 4 + 1, none⟩ = some (.int .i64 p1) ∧ w'.cell? ⟨b, off + idx * 4 + 2, none⟩ = some (.int .i64 p2) ∧ w'.cell? ⟨b, off + idx * 4 + 3, none⟩ = some (.int .i64 p3)) := HC
    generalize ps.length = n at *
    have i1 : (0 : Int) ≤ (idx : Int) := by omega
    have i2 : (idx : Int) < (n : Int) := by omega
    have i3 : ¬ x < 0 := by omega
    have i4 : ¬ (W : Int) ≤ x := by omega
    have i5 : ¬ y < 0 := by omega
    have i6 : ¬ (H : Int) ≤ y := by omega
    go_enter Tryz.func26, Tryz.ntmps26
    go_upto_region 1 with (fail)
    refine name2 (fun W1 k1 k2 hb => ?_)
    have q1 := k1.c3
    have q2 := k2.c4
    have hc := HC.out _ hb
    go_wp2_with fail
    exact end4 hb k2 (by omega) (fun w3 c3 => by simp [results, Tryz.results26, go_sem, c3]) rfl (fun w3 hb3 => ⟨rfl, hb3⟩)
  all_goals
    rw [atP_out (by omega)]
    clear hI hl
    go_enter Tryz.func26, Tryz.ntmps26
    go_upto_region 1 with (fail)
    refine name2 (fun W1 k1 k2 hb => ?_)
    have q1 := k1.c3
    have q2 := k2.c4
    go_wp2_with fail
    exact end4 hb k2 (by omega) (fun w3 c3 => by simp [results, Tryz.results26, go_sem, c3]) rfl (fun w3 hb3 => ⟨rfl, hb3⟩)

set_option maxHeartbeats 4000000 in
theorem refUnder_any (W H : Nat) (iv : Value) (ps : List Px) (d : Dab) (w : World) (hI : Pn w iv ps) (hl : ps.length = W * H) (hW : W ≤ 256) (hH : H ≤ 256) (hd : dOk d = true) :
    Calls Tryz.prog 36 #[.agg #[.int .i64 W, .int .i64 H, iv], dbv d] w fun e w' => e = .returned (pvx (undP W H (pxAt ps) d)) ∧ Below w.heap.size w w' := by
  obtain ⟨hx, hy⟩ := dOk_xy hd
  have AP := Lib.hid (fun w h => pick_any W H iv ps (d.x / 16) (d.y / 16) w h hl hW hH)
  rw [show atP W H ps (d.x / 16) (d.y / 16) = undP W H (pxAt ps) d from rfl] at AP
  have FX := Lib.hid (fun w => refFloor_any d.x 16 w (by omega) (by omega) (by omega) (by omega))
  have FY := Lib.hid (fun w => refFloor_any d.y 16 w (by omega) (by omega) (by omega) (by omega))
  have HI := Lib.hid hI
  obtain ⟨ai, ci, rfl⟩ := hI.slice
  generalize undP W H (pxAt ps) d = p at *
  obtain ⟨p0, p1, p2, p3⟩ := p
  replace AP : Hid (∀ w, Pn w (.slice ai ps.length ci) ps → Calls Tryz.prog 26 #[.agg #[.int .i64 W, .int .i64 H, .slice ai ps.length ci], .int .i64 (d.x / 16), .int .i64 (d.y / 16)] w fun e w' => e = .returned (pv p0 p1 p2 p3) ∧ Below w.heap.size w w') := AP
  clear hI hl hx hy hd
  generalize ps.length = n at *
  go_enter Tryz.func36, Tryz.ntmps36
  go_upto_region 1 with (fail)
  refine name3 (fun W1 k1 k2 k3 hb => ?_)
  refine wp_region_grow 8 (fun w' => Below (World.heap W1).size W1 w') (by kernel_rfl) (by kernel_rfl) (Below.refl _ _).drew ?_
  simp only [List.take_succ_cons, List.take_zero, List.drop_succ_cons, List.drop_zero]
  repeat (first | (apply wpG_on; rfl; (intro w' hS K hK; have hc0 := (k1.kept hS).c3; have hc1 := (k2.kept hS).c5; have hc2 := (k3.kept hS).c4; go_simp; (first | exact hK.out _ hS | (go_at_call 80; (with_reducible refine (FX.out _).mono ?_); rintro e w'' ⟨rfl, nn, rfl⟩; exact ⟨_, rfl, hK.out _ (belowN hS nn)⟩) | (go_at_call 80; (with_reducible refine (FY.out _).mono ?_); rintro e w'' ⟨rfl, nn, rfl⟩; exact ⟨_, rfl, hK.out _ (belowN hS nn)⟩) | (go_at_call 26; (with_reducible refine (AP.out _ (HI.out.kept (hb.trans (hS.mono hb.size)))).mono ?_); rintro e w'' ⟨rfl, hbb⟩; exact ⟨_, rfl, hK.out _ (hS.trans (hbb.mono hS.size))⟩))); simp only [Act.put, List.setIfInBounds_toArray, List.set_cons_succ, List.set_cons_zero]) | (apply wpG_off; rfl; simp only [Act.put, List.setIfInBounds_toArray, List.set_cons_succ, List.set_cons_zero]))
  apply wpG_nil
  intro W2 hS
  replace k1 := k1.kept hS
  replace k2 := k2.kept hS
  replace k3 := k3.kept hS
  replace hb := hb.trans (hS.mono hb.size)
  clear hS
  have c3 := k3.c4
  go_wp2_with fail
  exact end4 hb k3 (by omega) (fun w3 c3 => by simp [results, Tryz.results36, go_sem, c3]) rfl (fun w3 hb3 => ⟨rfl, hb3⟩)
end Go.Proofs.YtieacbccadbdbaaGreatDoor


/- rect.Within of a rectangle with pixels, in an image. -/
namespace Go.Proofs.YtieacbccadbdbaaGreatDoor
open Go.RowKit
set_option linter.unusedVariables false
attribute [local go_sem] Oper.gAt gUponK Oper.sAt stilK

/-- A rectangle lies in an image. -/
def witB (ax ay aw ah W H : Int) : Bool := decide (0 ≤ ax ∧ ax + aw ≤ W ∧ 0 ≤ ay ∧ ay + ah ≤ H)
set_option maxHeartbeats 8000000 in
theorem withinRect_any (ax ay aw ah W H : Int) (w : World) (ha : rEmp (ax, ay, aw, ah) = false) (hW : 0 ≤ W ∧ W ≤ 256) (hH : 0 ≤ H ∧ H ≤ 256) (hWH : W = 0 ↔ H = 0) :
    Calls Tryz.prog 43 #[.agg #[.int .i64 ax, .int .i64 ay, .int .i64 aw, .int .i64 ah], .agg #[.int .i64 0, .int .i64 0, .int .i64 W, .int .i64 H]] w fun e w' => e = .returned (.bool (witB ax ay aw ah W H)) ∧ Below w.heap.size w w' := by
  obtain ⟨g1, g2⟩ := rEmp_false ha
  simp only at g1 g2
  have EA : Hid (∀ w, Calls Tryz.prog 42 #[.agg #[.int .i64 ax, .int .i64 ay, .int .i64 aw, .int .i64 ah]] w fun e w' => e = .returned (.bool false) ∧ Below w.heap.size w w') := fun w => by rw [← ha]; exact remp_any ax ay aw ah w
  have EB := Lib.hid (fun w => remp_any 0 0 W H w)
  have hb0 : rEmp (0, 0, W, H) = decide (W = 0) := by
    unfold rEmp
    rw [show rOk (0, 0, W, H) = true from (rOk_iff _).2 (by simp only; omega)]
    simp only [Bool.not_true, Bool.false_or]
    by_cases h : W = 0
    · rw [decide_eq_true h, h]; rfl
    · rw [decide_eq_false h]
      simp only [Bool.or_eq_false_iff, beq_eq_false_iff_ne]
      omega
  rw [hb0] at EB
  clear ha hb0
  by_cases h : W = 0
  · have HE : Hid (witB ax ay aw ah W H = false) := decide_eq_false (by omega)
    rw [decide_eq_true h] at EB
    clear h hWH
    go_enter Tryz.func43, Tryz.ntmps43
    go_upto_region 1 with (fail)
    refine name2 (fun W1 k1 k2 hb => ?_)
    have c1 := k1.c4
    go_wp2_with fail
    clear c1
    refine (EA.out _).mono ?_
    rintro e W2 ⟨rfl, hS⟩
    replace k1 := k1.kept hS
    replace k2 := k2.kept hS
    replace hb := hb.trans (hS.mono hb.size)
    clear hS
    have c2 := k2.c4
    go_wp2_with fail
    clear c2
    refine (EB.out _).mono ?_
    rintro e W3 ⟨rfl, hS⟩
    replace hb := hb.trans (hS.mono hb.size)
    go_wp2_with fail
    go_ret
    exact ⟨ret_bool (by rw [HE.out]), hb⟩
  · rw [decide_eq_false h] at EB
    clear h hWH
    have aX : IntKind.i64.wrap (ax + aw) = ax + aw := IntWalk.i64_in _ (by omega)
    have aY : IntKind.i64.wrap (ay + ah) = ay + ah := IntWalk.i64_in _ (by omega)
    have bX : IntKind.i64.wrap (0 + W) = W := by rw [Int.zero_add]; exact IntWalk.i64_in _ (by omega)
    have bY : IntKind.i64.wrap (0 + H) = H := by rw [Int.zero_add]; exact IntWalk.i64_in _ (by omega)
    have bX2 : IntKind.i64.wrap W = W := IntWalk.i64_in _ (by omega)
    have bY2 : IntKind.i64.wrap H = H := IntWalk.i64_in _ (by omega)
    have c : ¬ 0 ≤ ax ∨ (0 ≤ ax ∧ ¬ ax + aw ≤ W) ∨ (0 ≤ ax ∧ ax + aw ≤ W ∧ ¬ 0 ≤ ay) ∨ (0 ≤ ax ∧ ax + aw ≤ W ∧ 0 ≤ ay ∧ ¬ ay + ah ≤ H) ∨ (0 ≤ ax ∧ ax + aw ≤ W ∧ 0 ≤ ay ∧ ay + ah ≤ H) := by omega
    rcases c with d1 | ⟨d1, d2⟩ | ⟨d1, d2, d3⟩ | ⟨d1, d2, d3, d4⟩ | ⟨d1, d2, d3, d4⟩
    all_goals
      first
      | (have HE : Hid (witB ax ay aw ah W H = true) := decide_eq_true (by omega))
      | (have HE : Hid (witB ax ay aw ah W H = false) := decide_eq_false (by omega))
    all_goals
      go_enter Tryz.func43, Tryz.ntmps43
      go_upto_region 1 with (fail)
      refine name2 (fun W1 k1 k2 hb => ?_)
      have c1 := k1.c4
      go_wp2_with fail
      clear c1
      refine (EA.out _).mono ?_
      rintro e W2 ⟨rfl, hS⟩
      replace k1 := k1.kept hS
      replace k2 := k2.kept hS
      replace hb := hb.trans (hS.mono hb.size)
      clear hS
      have c2 := k2.c4
      go_wp2_with fail
      clear c2
      refine (EB.out _).mono ?_
      rintro e W3 ⟨rfl, hS⟩
      replace k1 := k1.kept hS
      replace k2 := k2.kept hS
      replace hb := hb.trans (hS.mono hb.size)
      clear hS
      have c1 := k1.c4
      have c2 := k2.c4
      go_wp2_with fail
      go_ret
      exact ⟨ret_bool (by first | (rw [HE.out]; done) | (rw [HE.out]; simp; omega)), hb⟩
end Go.Proofs.YtieacbccadbdbaaGreatDoor


/- Rows of quadruples, cell by cell: made, and written in order. -/
namespace Go.Proofs.YtieacbccadbdbaaGreatDoor
open Go.RowKit
set_option linter.unusedVariables false

theorem infoQ : (Tryz.prog.info? 78).map (fun i => (i.zero, i.size, i.bytes)) = some (some (pv 0 0 0 0), 4, 32) := by kernel_rfl
theorem infoQ4 : (Tryz.prog.info? 78).map (·.size) = some 4 := by kernel_rfl
def zQ (n : Nat) : Obj := .cells (madeCells (pv 0 0 0 0).cells (n * 4)) 78
theorem makeQ (n : Nat) (hn : n ≤ 65536) (w : World) : (Instr.makeSlice 75 (.int .i64 n) (.int .i64 n)).run Tryz.prog w = .ok (.slice (some ⟨w.heap.size, 0, none⟩) n n) (w.alloc (zQ n)) := by
  obtain ⟨i, hi, hz, hs, hb⟩ := info_parts infoQ
  have := run_makeSlice (P := Tryz.prog) w 75 78 i (pv 0 0 0 0) Tryz.underlying75 hi hz .i64 .i64 n n (by omega) (by omega) (by rw [hs]; simp; omega) (by rw [hb]; omega) (by omega)
  rw [hs] at this
  simpa [zQ] using this
theorem rowQ_zero {w : World} {g n : Nat} (h : Blk w g (zQ n)) : RowI w g (n * 4) (fun _ => 0) := by
  refine ⟨_, _, h, by rw [size_madeCells]; omega, fun i hi => ?_⟩
  have h4 : (pv 0 0 0 0).cells = #[.int .i64 0, .int .i64 0, .int .i64 0, .int .i64 0] := rfl
  simp only [madeCells, h4]
  rw [Array.getElem?_map, Array.getElem?_range, if_pos hi]
  have hm : i % 4 = 0 ∨ i % 4 = 1 ∨ i % 4 = 2 ∨ i % 4 = 3 := by omega
  rcases hm with hm | hm | hm | hm <;> simp [hm]
/-- The first k cells are written, the others are as they were. -/
theorem RowI.step {w : World} {g n : Nat} {r p : Nat → Int} {k : Nat} (h : RowI w g n (fun i => if i < k then r i else p i)) (hk : k < n) :
    RowI (w.setCell ⟨g, k, none⟩ (.int .i64 (r k))) g n (fun i => if i < k + 1 then r i else p i) := by
  refine (h.set k hk (r k)).congr fun i hi => ?_
  by_cases e : i = k
  · subst e; simp
  · by_cases e2 : i < k
    · rw [if_neg e, if_pos e2, if_pos (by omega)]
    · rw [if_neg e, if_neg e2, if_neg (by omega)]
theorem RowI.jump {w : World} {g n : Nat} {r p : Nat → Int} {k k' : Nat} (h : RowI w g n (fun i => if i < k then r i else p i)) (hk : k ≤ k') (he : ∀ i, k ≤ i → i < k' → i < n → r i = p i) : RowI w g n (fun i => if i < k' then r i else p i) := by
  refine h.congr fun i hi => ?_
  by_cases e : i < k
  · rw [if_pos e, if_pos (by omega)]
  · by_cases e2 : i < k'
    · rw [if_neg e, if_pos e2, he i (by omega) e2 hi]
    · rw [if_neg e, if_neg e2]
theorem Row.jump {w : World} {g n : Nat} {r p : Nat → Px} {k k' : Nat} (h : Row w g n (fun i => if i < k then r i else p i)) (hk : k ≤ k') (he : ∀ i, k ≤ i → i < k' → i < n → r i = p i) : Row w g n (fun i => if i < k' then r i else p i) := by
  refine h.congr fun i hi => ?_
  by_cases e : i < k
  · rw [if_pos e, if_pos (by omega)]
  · by_cases e2 : i < k'
    · rw [if_neg e, if_pos e2, he i (by omega) e2 hi]
    · rw [if_neg e, if_neg e2]
theorem RowI.other4 {w : World} {b n : Nat} {f : Nat → Int} (k : RowI w b n f) {g : Nat} (hne : b ≠ g) (o0 o1 o2 o3 : Nat) (v0 v1 v2 v3 : Value) : RowI ((((w.setCell ⟨g, o0, none⟩ v0).setCell ⟨g, o1, none⟩ v1).setCell ⟨g, o2, none⟩ v2).setCell ⟨g, o3, none⟩ v3) b n f :=
  (((k.other (p := ⟨g, o0, none⟩) hne _).other (p := ⟨g, o1, none⟩) hne _).other (p := ⟨g, o2, none⟩) hne _).other (p := ⟨g, o3, none⟩) hne _
/-- A block of four integers, by number. -/
theorem rowI_blk4 {w : World} {b : Nat} {f : Nat → Int} {t : TypeId} (k : Blk w b (.cells #[.int .i64 (f 0), .int .i64 (f 1), .int .i64 (f 2), .int .i64 (f 3)] t (0, 0))) : RowI w b 4 f :=
  ⟨_, t, k, by simp, fun i hi => by
    match i, hi with
    | 0, _ => rfl
    | 1, _ => rfl
    | 2, _ => rfl
    | 3, _ => rfl
    | i + 4, hi => exact absurd hi (by omega)⟩
/-- A slice that lies in new memory. -/
def Fresh (B : Nat) (q : Value) : Prop := ∀ b o x n c, q = .slice (some ⟨b, o, x⟩) n c → B ≤ b
theorem fresh_nil (B : Nat) : Fresh B (.slice none 0 0) := fun b o x n c h => by cases h
theorem fresh_at {B g n c : Nat} (h : B ≤ g) : Fresh B (.slice (some ⟨g, 0, none⟩) n c) := fun b o x n' c' e => by
  injection e with e
  injection e with e
  injection e with e
  omega
end Go.Proofs.YtieacbccadbdbaaGreatDoor

