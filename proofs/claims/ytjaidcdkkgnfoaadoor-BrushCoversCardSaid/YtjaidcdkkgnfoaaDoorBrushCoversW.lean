/- BrushCovers: the coverage of a stroke is at most the opacity, and at least that of the first dab, for every brush, list of samples and size. The package's table of sines is as its text lays it. -/
import Derived.Test.YtjaidcdkkgnfoaaDoorCoversP
import Derived.Test.YtjaidcdkkgnfoaaDoorBrFew
import Derived.Test.YtjaidcdkkgnfoaaDoorBrSame
import Derived.Test.YtjaidcdkkgnfoaaDoorBrStroke
import Derived.Test.YtjaidcdkkgnfoaaDoorDabCovR
import Derived.Test.YtjaidcdkkgnfoaaDoorMaskCR
import Derived.Test.YtjaidcdkkgnfoaaDoorBrEx
import Derived.Test.YtjaidcdkkgnfoaaDoorBrOpen
import Derived.Test.YtjaidcdkkgnfoaaDoorCallReg
import Derived.Deep.RegionHeld3
import Derived.Deep.Cut
import Derived.Deep.CutBlock
import Derived.Deep.DeepCutAuto
namespace Go.Proofs.YtjaidcdkkgnfoaaDoor.brushCovers
open Go.ChangeShapes Go.WideShapes Go.ChangeAt Go.RowKit
set_option linter.unusedVariables false
attribute [local go_sem] Oper.gAt gUponK Oper.sAt stilK

theorem sm_take1 {w : World} {a : Option Addr} {cap : Nat} {ls : List Smp} (h : Sm w (.slice a ls.length cap) ls) (hm : 1 ≤ ls.length) : Sm w (.slice a 1 cap) (ls.take 1) := by
  have hc := Qn.caps h
  have e : (ls.take 1).length = 1 := by simp; omega
  unfold Sm
  rw [e]
  exact (Qn.take h hm (by omega)).congr fun i hi => by rw [smAt_take ls 1 i hi]
theorem nnAt0S {w : World} {g n cap : Nat} {zs : List Int} (h : Nn w (.slice (some ⟨g, 0, none⟩) n cap) zs) (i : Nat) (hi : i < n) : ∀ w' : World, Below w.heap.size w w' → w'.cell? ⟨g, i, none⟩ = some (.int .i64 (zs.getD i 0)) := by
  obtain ⟨b, off, e, hc⟩ := nnAtS h i hi
  injection e with e
  injection e with e1 e2
  subst e1 e2
  intro w' hb
  simpa using hc w' hb
theorem andTransC {W a b : World} {p : Prop} (h : Below W.heap.size W a ∧ p) (hb : Below a.heap.size a b) : Below W.heap.size W b := h.1.trans (hb.mono h.1.size)
theorem andAllocC {W a : World} {p : Prop} {o : Obj} (h : Below W.heap.size W a ∧ p) : Below W.heap.size W (a.alloc o) := h.1.alloc h.1.size _
theorem andReallocC {W a : World} {p : Prop} {o o' : Obj} (h : Below W.heap.size W (a.alloc o) ∧ p) (hs : W.heap.size ≤ a.heap.size) : Below W.heap.size W (a.alloc o') :=
  ⟨h.1.os, h.1.tape, h.1.output, by have := h.1.size; simpa using this, fun k hk => by rw [Below.heap_alloc _ _ _ (by omega), ← h.1.block k hk, Below.heap_alloc _ _ _ (by omega)]⟩
/-- A struct stored whole into a block, at a step of a region that draws its order. -/
theorem step_store_blk {P : Program} {ops : Array Oper} {o : Oper} {a : Act} {w : World} {K : Act → World → Prop} {Q : Exit → Act → World → Prop} {E : Prop} (hgd : o.guard = none) (ty : TypeId) (x y : Operand) (ho : o.op = .store ty x y)
    (g : Nat) (cells : Array Value) (hx : a.eval x = .pointer (some ⟨g, 0, none⟩)) (hy : a.eval y = .agg cells)
    {t : TypeId} {old : Array Value} (k : Blk w g (.cells old t (0, 0))) (hi : (P.info? ty).map (·.size) = some cells.size)
    (hold : old.size = cells.size) (h1 : cells.all (·.oneCell') = true)
    (h : ∀ w2 : World, Blk w2 g (.cells cells t (0, 0)) → (∀ i o, i ≠ g → Blk w i o → Blk w2 i o) → Below g w w2 → K (a.put o.dst undef) w2) :
    if Region.wanted o (yielded ops a.tmps) = true then Oper.wp P o a w K Q else E := by
  have hw : Region.wanted o (yielded ops a.tmps) = true := by simp [Region.wanted, hgd]
  rw [if_pos hw]
  exact wp_store_row ty x y ho g cells hx hy t old k hi hold h1 (h _ k.setRow (fun i o hi hk => (setRow_other w g i cells hi).trans hk) (below_row w g cells))

set_option maxRecDepth 20000 in
set_option maxHeartbeats 8000000 in
theorem covers_bad (B : Bru) (u lv : Value) (ls : List Smp) (W H Wm Hm E : Int) (zs : List Int) (w : World) (hs : Sines w) (hD : Dn w u B.ds) (hL : Sm w lv ls) (ho : StrkOut B ls W H Wm Hm E zs) (hE : E ≠ 0) :
    Calls Tryd.prog 4 #[.agg #[.int .i64 B.sz, .int .i64 B.hd, .int .i64 B.rn, .int .i64 B.fl, .int .i64 B.op, .int .i64 B.sp, .int .i64 B.an, .int .i64 B.sc, .int .i64 B.md, .int .i64 B.r, .int .i64 B.g, .int .i64 B.b, .int .i64 B.a, .int .i64 B.sd, u, .bool B.er, lv, .int .i64 W, .int .i64 H]] w fun e w' => e = .returned (.bool true) ∧ Below w.heap.size w w' := by
  have HD := Lib.hid hD
  have HL := Lib.hid hL
  have HSn := Lib.hid hs
  obtain ⟨a, cap, rfl⟩ := Qn.slice hL
  obtain ⟨au, capu, rfl, _, _⟩ := hD
  have FW := Lib.hid (fun w h h' => few_any B (.slice au B.ds.length capu) (.slice a ls.length cap) ls W H w h h')
  have S1 := Lib.hid (fun w hs h h' => stroke_any B (.slice au B.ds.length capu) (.slice a ls.length cap) ls W H Wm Hm E zs w hs h h' ho)
  have EX := Lib.hid example_any
  have be : (E != 0) = true := by simpa using hE
  clear hL hs ho hE
  generalize ls.length = nl at *
  generalize B.ds.length = nd at *
  go_enter Tryd.func4, Tryd.ntmps4
  go_upto_region 1 with (fail)
  refine name1 (fun W0 k0 hb => ?_)
  have c0 := k0.c19
  go_wp2_with fail
  clear c0
  refine (FW.out _ (HD.out.kept hb) (HL.out.kept hb)).mono ?_
  rintro e W1 ⟨bf, rfl, hS⟩
  replace k0 := k0.kept hS
  replace hb := hb.trans (hS.mono hb.size)
  clear hS FW
  cases bf
  · go_wp2_with fail
    go_ret
    exact ⟨rfl, hb⟩
  · have c0 := k0.c19
    go_wp2_with fail
    clear c0
    refine (S1.out _ (HSn.out.kept hb) (HD.out.kept hb) (HL.out.kept hb)).mono ?_
    rintro e W2 ⟨q, rfl, hq, hS⟩
    replace hb := hb.trans (hS.mono hb.size)
    obtain ⟨aq, cq, rfl, _⟩ := hq.slice
    clear hS hq S1 k0
    go_upto_region 4 with (refine wpList_store_blk rfl _ _ _ rfl W2.heap.size #[.int .i64 Wm, .int .i64 Hm, .slice aq zs.length cq] rfl rfl (heap_alloc_new W2 _) infoMask2 rfl (by simp [Value.oneCell']) (fun W3 k4 hkx hbx => ?_))
    replace hb : Below w.heap.size w W3 := hb.trans ((((Below.refl _ _).alloc (Nat.le_refl _) _).trans hbx).mono hb.size)
    clear hkx hbx k4
    go_wp2_with fail
    refine (EX.out _).mono ?_
    rintro e W7 ⟨rfl, hS⟩
    replace hb := hb.trans (hS.mono hb.size)
    go_wp2_with fail
    go_ret
    exact ⟨rfl, hb⟩

set_option maxRecDepth 20000 in
set_option maxHeartbeats 16000000 in
theorem covers_good (B : Bru) (u lv : Value) (ls : List Smp) (W H : Nat) (w : World) (hs : Sines w) (hD : Dn w u B.ds) (hL : Sm w lv ls) (hE : (dabs B ls).2 = 0) (hW : 1 ≤ W ∧ W ≤ 256) (hH : 1 ≤ H ∧ H ≤ 256) :
    Calls Tryd.prog 4 #[.agg #[.int .i64 B.sz, .int .i64 B.hd, .int .i64 B.rn, .int .i64 B.fl, .int .i64 B.op, .int .i64 B.sp, .int .i64 B.an, .int .i64 B.sc, .int .i64 B.md, .int .i64 B.r, .int .i64 B.g, .int .i64 B.b, .int .i64 B.a, .int .i64 B.sd, u, .bool B.er, lv, .int .i64 W, .int .i64 H]] w fun e w' => e = .returned (.bool true) ∧ Below w.heap.size w w' := by
  have HD := Lib.hid hD
  have HL := Lib.hid hL
  have HSn := Lib.hid hs
  obtain ⟨hE1, hd1, hl1⟩ := dabs_one hE
  obtain ⟨a, cap, rfl⟩ := Qn.slice hL
  have hcap := Qn.caps hL
  obtain ⟨bl, off, rfl, _, _⟩ := Qn.all hL (by omega)
  obtain ⟨au, capu, rfl, _, _⟩ := hD
  have FW := Lib.hid (fun w h h' => few_any B (.slice au B.ds.length capu) (.slice (some ⟨bl, off, none⟩) ls.length cap) ls W H w h h')
  have S1 := Lib.hid (fun w hs h h' => stroke_good B (.slice au B.ds.length capu) (.slice (some ⟨bl, off, none⟩) ls.length cap) ls W H w hs h h' hE hW hH)
  have S2 := Lib.hid (fun w hs h h' => stroke_own B (.slice au B.ds.length capu) (.slice (some ⟨bl, off, none⟩) 1 cap) (ls.take 1) W H w hs h h' hE1 hW hH)
  have D2 := Lib.hid (fun w h h' => dabs_any B (.slice au B.ds.length capu) (.slice (some ⟨bl, off, none⟩) 1 cap) (ls.take 1) w h h')
  rw [hd1] at S2 D2
  rw [hE1] at D2
  have TK := Lib.hid (fun w h => sm_take1 (w := w) (a := some ⟨bl, off, none⟩) (cap := cap) (ls := ls) h hl1)
  have EX := Lib.hid example_any
  have M1 := Lib.hid (fun v w h => refMaskCheck_any W H v (couts B (dabs B ls).1 W H) w h)
  have M2 := Lib.hid (fun v w h => refMaskCheck_any W H v (couts B [dab0 B ls] W H) w h)
  rw [couts_mchk _ _ _ _ hW hH] at M1 M2
  have AT : Hid (∀ k, k < W * H → (couts B [dab0 B ls] W H).getD k 0 = dv (cl (dcov B (dab0 B ls) ((k % W : Nat) : Int) ((k / W : Nat) : Int)) * cl B.op) 65535 ∧ (couts B (dabs B ls).1 W H).getD k 0 ≤ B.op ∧
    dv (cl (dcov B (dab0 B ls) ((k % W : Nat) : Int) ((k / W : Nat) : Int)) * cl B.op) 65535 ≤ (couts B (dabs B ls).1 W H).getD k 0) := fun k hk => by
    rw [couts_at _ _ _ _ _ hk, couts_at _ _ _ _ _ hk]
    exact covers_at hE W k
  have CV := Lib.hid (fun x y w h => refCover_any B (dab0 B ls) x y (.slice au B.ds.length capu) w h)
  have l1 := couts_len B (dabs B ls).1 W H
  have l2 := couts_len B [dab0 B ls] W H
  obtain ⟨n0, hn0⟩ : ∃ n0, W * H = n0 := ⟨_, rfl⟩
  have hWH : W * H ≤ 65536 := Nat.mul_le_mul hW.2 hH.2
  rw [hn0] at l1 l2 AT hWH
  have HL1 := Lib.hid l1
  have HL2 := Lib.hid l2
  clear hL hs hE hE1 hd1 hn0 l1 l2
  generalize couts B (dabs B ls).1 W H = zs at *
  generalize couts B [dab0 B ls] W H = z1 at *
  generalize dab0 B ls = d0 at *
  generalize hnl : ls.length = nl at *
  have HNL := Lib.hid hnl
  clear hnl
  generalize hnd : B.ds.length = nd at *
  have HND := Lib.hid hnd
  clear hnd
  go_enter Tryd.func4, Tryd.ntmps4
  go_upto_region 1 with (fail)
  refine name1 (fun W0 k0 hb => ?_)
  have c0 := k0.c19
  go_wp2_with fail
  clear c0
  refine (FW.out _ (HD.out.kept hb) (HL.out.kept hb)).mono ?_
  rintro e W1 ⟨bf, rfl, hS⟩
  replace k0 := k0.kept hS
  replace hb := hb.trans (hS.mono hb.size)
  clear hS FW
  cases bf
  · go_wp2_with fail
    go_ret
    exact ⟨rfl, hb⟩
  · have c0 := k0.c19
    go_wp2_with fail
    clear c0
    refine (S1.out _ (HSn.out.kept hb) (HD.out.kept hb) (HL.out.kept hb)).mono ?_
    rintro e W2 ⟨q, rfl, hq, hS⟩
    replace k0 := k0.kept hS
    replace hb := hb.trans (hS.mono hb.size)
    obtain ⟨aq, cq, rfl, _⟩ := hq.slice
    rw [HL1.out] at hq ⊢
    have HQ0 := Lib.hid hq
    clear hS hq S1
    go_upto_region 4 with (refine wpList_store_blk rfl _ _ _ rfl W2.heap.size #[.int .i64 W, .int .i64 H, .slice aq n0 cq] rfl rfl (heap_alloc_new W2 _) infoMask2 rfl (by simp [Value.oneCell']) (fun W3 k3 hkx hbx => ?_))
    have HQ := Lib.hid (HQ0.out.kept (((Below.refl _ _).alloc (Nat.le_refl _) _).trans hbx))
    replace k0 := hkx _ _ (by have := k0.lt; omega) (k0.alloc _)
    replace hb : Below w.heap.size w W3 := hb.trans ((((Below.refl _ _).alloc (Nat.le_refl _) _).trans hbx).mono hb.size)
    clear hkx hbx HQ0
    generalize W2.heap.size = b3 at *
    have i1 : (1 : Int) ≤ (nl : Int) := by omega
    have i2 : (1 : Int) ≤ (cap : Int) := by omega
    have i3 : 1 ≤ nl := by omega
    have i4 : 1 ≤ cap := by omega
    go_upto_region 6 with (fail)
    go_cut [5, 6] (fun s5 s6 wx => ∃ (x5 gr cr : Nat), s5 = .pointer (some ⟨x5, 0, none⟩) ∧ s6 = .int .i64 0 ∧ Blk wx x5 (.cells #[.int .i64 W, .int .i64 H, .slice (some ⟨gr, 0, none⟩) n0 cr] 33 (0, 0)) ∧ Nn wx (.slice (some ⟨gr, 0, none⟩) n0 cr) z1 ∧ Below W3.heap.size W3 wx)
    case first =>
      as_aux_lemma =>
        have HK := Lib.hid (fun (w' : World) (h : Below W3.heap.size W3 w') => (⟨h, (k0.kept h).c19⟩ : Below W3.heap.size W3 w' ∧ _))
        have SC : Hid (∀ a : World, Below W3.heap.size W3 a → Calls Tryd.prog 6 #[brv B (.slice au nd capu), .slice (some ⟨bl, off, none⟩) 1 cap, .int .i64 W, .int .i64 H] a fun e w' => ∃ (gr cr : Nat), e = .returned (.tuple #[.agg #[.int .i64 W, .int .i64 H, .slice (some ⟨gr, 0, none⟩) n0 cr], .int .i64 0]) ∧ a.heap.size ≤ gr ∧ Nn w' (.slice (some ⟨gr, 0, none⟩) n0 cr) z1 ∧ Below a.heap.size a w') := fun a h => by
          refine (S2.out a (HSn.out.kept (hb.trans (h.mono hb.size))) (HD.out.kept (hb.trans (h.mono hb.size))) (TK.out _ (HL.out.kept (hb.trans (h.mono hb.size))))).mono ?_
          rintro e w' ⟨gr, n, cr, rfl, hgr, hq, hS⟩
          obtain rfl : n = n0 := (nn_len hq).trans HL2.out
          exact ⟨gr, cr, rfl, hgr, hq, hS⟩
        clear S2 k3 HQ M1 M2 D2 TK EX CV
        have c0 := k0.c19
        clear k0
        go_region_held3 (fun w' => Below W3.heap.size W3 w' ∧ w'.cell? ⟨w.heap.size, 0, none⟩ = some (.int .i64 B.sz) ∧ w'.cell? ⟨w.heap.size, 1, none⟩ = some (.int .i64 B.hd) ∧ w'.cell? ⟨w.heap.size, 2, none⟩ = some (.int .i64 B.rn) ∧ w'.cell? ⟨w.heap.size, 3, none⟩ = some (.int .i64 B.fl) ∧ w'.cell? ⟨w.heap.size, 4, none⟩ = some (.int .i64 B.op) ∧ w'.cell? ⟨w.heap.size, 5, none⟩ = some (.int .i64 B.sp) ∧ w'.cell? ⟨w.heap.size, 6, none⟩ = some (.int .i64 B.an) ∧ w'.cell? ⟨w.heap.size, 7, none⟩ = some (.int .i64 B.sc) ∧ w'.cell? ⟨w.heap.size, 8, none⟩ = some (.int .i64 B.md) ∧ w'.cell? ⟨w.heap.size, 9, none⟩ = some (.int .i64 B.r) ∧ w'.cell? ⟨w.heap.size, 10, none⟩ = some (.int .i64 B.g) ∧ w'.cell? ⟨w.heap.size, 11, none⟩ = some (.int .i64 B.b) ∧ w'.cell? ⟨w.heap.size, 12, none⟩ = some (.int .i64 B.a) ∧ w'.cell? ⟨w.heap.size, 13, none⟩ = some (.int .i64 B.sd) ∧ w'.cell? ⟨w.heap.size, 14, none⟩ = some (.slice au nd capu) ∧ w'.cell? ⟨w.heap.size, 15, none⟩ = some (.bool B.er) ∧ w'.cell? ⟨w.heap.size, 16, none⟩ = some (.slice (some ⟨bl, off, none⟩) nl cap) ∧ w'.cell? ⟨w.heap.size, 17, none⟩ = some (.int .i64 W) ∧ w'.cell? ⟨w.heap.size, 18, none⟩ = some (.int .i64 H) ∧ ∀ o, w'.frozen? ⟨w.heap.size, o, none⟩ = false)
          ((refine HK.out _ ?_; first | exact Below.refl _ _ | exact (Below.refl _ _).drew | exact (Below.refl _ _).alloc (Nat.le_refl _) _ | exact ((Below.refl _ _).alloc (Nat.le_refl _) _).drew | ((with_reducible apply andTransC (hb := hbb)); assumption) | ((with_reducible apply andAllocC); assumption) | ((with_reducible apply andReallocC); assumption; (have := hbb.size; simp at this; omega)) | (repeat' (first | (with_reducible exact Below.refl _ _) | (apply And.left; assumption) | (with_reducible exact Nat.le_refl _) | (with_reducible apply Below.setCell) | (with_reducible apply Below.drew) | (with_reducible apply Below.alloc) | (simp; done) | (simp; omega)))))
          (first
            | (go_at_call 6; (with_reducible refine (SC.out _ ?_).mono ?_); (first | exact Below.refl _ _ | exact (Below.refl _ _).drew | ((with_reducible apply And.left); assumption)); rintro e w' ⟨gr, cr, rfl, hgr, hnn, hbb⟩; (try have hzk := Blk.kept (W := World.alloc W3 (.cells #[.int .i64 0, .int .i64 0, .slice none 0 0] 33)) (heap_alloc_new W3 (.cells #[.int .i64 0, .int .i64 0, .slice none 0 0] 33)) hbb); (try have hzk := Blk.kept (W := World.alloc W3.drew (.cells #[.int .i64 0, .int .i64 0, .slice none 0 0] 33)) (heap_alloc_new W3.drew (.cells #[.int .i64 0, .int .i64 0, .slice none 0 0] 33)) hbb); (try have hzk := Blk.kept (W := (World.alloc W3 (.cells #[.int .i64 0, .int .i64 0, .slice none 0 0] 33)).drew) (heap_alloc_new W3 (.cells #[.int .i64 0, .int .i64 0, .slice none 0 0] 33)) hbb); (try have hzz := Blk.c3 hzk))
            | fail "HERE")
        all_goals
          go_wp2_with fail
          go_meet
          first
          | exact ⟨_, gr, cr, rfl, rfl, heap_alloc_new _ _, hnn.kept ((Below.refl _ _).alloc (Nat.le_refl _) _), by (apply And.left; assumption)⟩
          | (have hne : ∀ b o x, some (⟨gr, 0, none⟩ : Addr) = some ⟨b, o, x⟩ → b ≠ W3.heap.size := fun b o x h => by
               injection h with h
               injection h with h
               have := hgr
               simp at this
               omega
             exact ⟨_, gr, cr, rfl, rfl, ((hzk.set1 0 _ (by simp) rfl).set1 1 _ (by simp) rfl).set1 2 _ (by simp) rfl, nn_kept_set (nn_kept_set (nn_kept_set hnn hne _) hne _) hne _, by (apply And.left; assumption)⟩)
    case rest =>
      as_aux_lemma =>
        obtain ⟨x5, gr, cr, rfl, rfl, k5, hq5, hS⟩ := hcut
        replace k0 := k0.kept hS
        replace k3 := k3.kept hS
        have HQ1 := Lib.hid (HQ.out.kept hS)
        replace hb := hb.trans (hS.mono hb.size)
        have HR1 := Lib.hid hq5
        clear hS hq5 HQ S2
        go_upto_region 7 with (fail)
        refine wp_region_call 5 (fun w' => Below (World.heap wc).size wc w') (by kernel_rfl) (by kernel_rfl) (Below.refl _ _).drew ?_
        simp only [List.take_succ_cons, List.take_zero, List.drop_succ_cons, List.drop_zero]
        repeat (first | (apply wpG_on; rfl; (intro w' hS K hK; have hc0 := (k0.kept hS).c19; have hc1 := (k3.kept hS).lt; have hc2 := (k5.kept hS).lt; go_simp; exact hK.out _ hS); simp only [Act.put, List.setIfInBounds_toArray, List.set_cons_succ, List.set_cons_zero]) | (apply wpG_off; rfl; simp only [Act.put, List.setIfInBounds_toArray, List.set_cons_succ, List.set_cons_zero]))
        apply wpG_nil
        intro W4 hS
        replace k0 := k0.kept hS
        replace k3 := k3.kept hS
        replace k5 := k5.kept hS
        replace hb := hb.trans (hS.mono hb.size)
        have hSr := hS
        clear hS
        refine wpOp_gAt rfl rfl ?_
        go_simp
        go_at_call 10
        refine (D2.out _ (HD.out.kept hb) (TK.out _ (HL.out.kept hb))).mono ?_
        rintro e W5 ⟨q2, rfl, h2, hS⟩
        refine gRet_mk ?_
        try simp only [Act.put, List.setIfInBounds_toArray, List.set_cons_succ, List.set_cons_zero]
        repeat (first | (apply wpG_on; rfl; (intro w' hS K hK; subst hS; go_simp; exact hK.out _ rfl); simp only [Act.put, List.setIfInBounds_toArray, List.set_cons_succ, List.set_cons_zero]) | (apply wpG_off; rfl; simp only [Act.put, List.setIfInBounds_toArray, List.set_cons_succ, List.set_cons_zero]))
        apply wpG_nil
        replace k0 := k0.kept hS
        replace k3 := k3.kept hS
        replace k5 := k5.kept hS
        replace hb := hb.trans (hS.mono hb.size)
        have HQ2 := Lib.hid (HQ1.out.kept (hSr.trans (hS.mono hSr.size)))
        have HR2 := Lib.hid (HR1.out.kept (hSr.trans (hS.mono hSr.size)))
        clear hS hSr HQ1 HR1 D2 TK i1 i2 i3 i4
        obtain ⟨a2, p2, rfl⟩ := Qn.slice h2
        obtain ⟨b2, off2, rfl, _, hd0⟩ := Qn.all h2 (by simp)
        have HC0 : Hid (∀ w', Below W5.heap.size W5 w' → w'.cell? ⟨b2, off2, none⟩ = some (.int .i64 d0.x) ∧ w'.cell? ⟨b2, off2 + 1, none⟩ = some (.int .i64 d0.y) ∧ w'.cell? ⟨b2, off2 + 2, none⟩ = some (.int .i64 d0.sz) ∧ w'.cell? ⟨b2, off2 + 3, none⟩ = some (.int .i64 d0.fl) ∧ w'.cell? ⟨b2, off2 + 4, none⟩ = some (.int .i64 d0.an)) := fun w' h => by
          have := hd0 0 (by simp) w' h
          simpa [At5, d5, dbAt] using this
        clear h2 hd0
        simp only [List.length_cons, List.length_nil]
        have c3 := k3.c3
        have c5 := k5.c3
        have c0 := k0.c19
        go_wp2_with fail
        clear c3 c5 c0
        refine (M1.out _ _ HQ2.out).mono ?_
        rintro e W6 ⟨rfl, hS6⟩
        replace k0 := k0.kept hS6
        replace k3 := k3.kept hS6
        replace k5 := k5.kept hS6
        replace hb := hb.trans (hS6.mono hb.size)
        have HR3 := Lib.hid (HR2.out.kept hS6)
        have c3 := k3.c3
        have c5 := k5.c3
        have c0 := k0.c19
        go_wp2_with fail
        clear c3 c5 c0
        refine (M2.out _ _ HR3.out).mono ?_
        rintro e W7 ⟨rfl, hS7⟩
        replace k0 := k0.kept hS7
        replace k3 := k3.kept hS7
        replace k5 := k5.kept hS7
        have h7 := hb.trans (hS7.mono hb.size)
        have hS57 := hS6.trans (hS7.mono hS6.size)
        have HQ7 := Lib.hid (HQ2.out.kept hS57)
        have HR7 := Lib.hid (HR3.out.kept hS7)
        have HC7 := Lib.hid (fun w' (h : Below W7.heap.size W7 w') => HC0.out w' (hS57.trans (h.mono hS57.size)))
        clear hS6 hS7 hS57 HQ2 HR2 HR3 HC0 hb M1 M2
        as_aux_lemma =>
          have hb := Below.refl W7.heap.size W7
          have c3 := k3.c3
          have c5 := k5.c3
          have c0 := k0.c19
          go_wp2_with fail
          clear c3 c5 c0
          obtain ⟨wo, hwo⟩ : ∃ wo, wo = W7 := ⟨_, rfl⟩
          go_loopw [9] (fun i wr => ∃ k : Nat, k ≤ n0 ∧ i = .int .i64 k ∧ Blk wr w.heap.size (.cells #[.int .i64 B.sz, .int .i64 B.hd, .int .i64 B.rn, .int .i64 B.fl, .int .i64 B.op, .int .i64 B.sp, .int .i64 B.an, .int .i64 B.sc, .int .i64 B.md, .int .i64 B.r, .int .i64 B.g, .int .i64 B.b, .int .i64 B.a, .int .i64 B.sd, .slice au nd capu, .bool B.er, .slice (some ⟨bl, off, none⟩) nl cap, .int .i64 W, .int .i64 H] 29 (0, 0)) ∧ Blk wr b3 (.cells #[.int .i64 W, .int .i64 H, .slice aq n0 cq] 33 (0, 0)) ∧ Blk wr x5 (.cells #[.int .i64 W, .int .i64 H, .slice (some ⟨gr, 0, none⟩) n0 cr] 33 (0, 0)) ∧ Below W7.heap.size W7 wr) (fun i _ => n0 - (intOf i).toNat)
          case atStart => exact ⟨0, Nat.zero_le _, rfl, k0, k3, k5, hb⟩
          case round =>
            clear k0 k3 k5 hb hwo
            obtain ⟨k, hk, rfl, k0, k3, k5, hb⟩ := hrel
            have c3 := k3.c3
            by_cases hlt : k < n0
            · obtain ⟨bm, om, rfl, hm⟩ := nnAtS HQ7.out k hlt
              have ho := nnAt0S HR7.out k hlt
              obtain ⟨y1, y2, y3⟩ := AT.out k hlt
              rw [y1] at ho
              have C1 := Lib.hid (fun w h => CV.out ((k % W : Nat) : Int) ((k / W : Nat) : Int) w h)
              have t1 : ((k : Nat) : Int).tmod (W : Int) = ((k % W : Nat) : Int) := Int.tmod_eq_emod_of_nonneg (by omega)
              have t2 : ((k : Nat) : Int).tdiv (W : Int) = ((k / W : Nat) : Int) := Int.tdiv_eq_ediv_of_nonneg (by omega)
              have r1 : k % W < W := Nat.mod_lt _ (by omega)
              have r2 : k / W ≤ k := Nat.div_le_self _ _
              have MU := Lib.hid (fun w => refMul_any (dcov B d0 ((k % W : Nat) : Int) ((k / W : Nat) : Int)) B.op w)
              generalize dcov B d0 ((k % W : Nat) : Int) ((k / W : Nat) : Int) = T at *
              generalize dv (cl T * cl B.op) 65535 = c at *
              generalize zs.getD k 0 = mv at *
              generalize k % W = rm at *
              generalize k / W = qd at *
              have HMC := Lib.hid hm
              have HOC := Lib.hid ho
              clear hm ho y1
              have wz : ((W : Int) == 0) = false := by simp; omega
              have wn : ¬ W = 0 := by omega
              have e5 : IntKind.i64.wrap (qd : Int) = (qd : Int) := IntWalk.i64_in _ (by omega)
              have e6 : IntKind.i64.wrap (rm : Int) = (rm : Int) := IntWalk.i64_in _ (by omega)
              have i1 : (0 : Int) ≤ (k : Int) := by omega
              have i2 : (k : Int) < (n0 : Int) := by omega
              go_upto_region 13 with (fail)
              clear c3
              refine wp_region_grow 19 (fun w' => Below (World.heap wr).size wr w') (by kernel_rfl) (by kernel_rfl) (Below.refl _ _).drew ?_
              simp only [List.take_succ_cons, List.take_zero, List.drop_succ_cons, List.drop_zero]
              repeat (first | (apply wpG_on; rfl; (intro w' hS K hK; have hc0 := (k0.kept hS).c19; have hc1 := (k3.kept hS).c3; have hc2 := (k5.kept hS).c3; have hr0 := HC7.out _ (hb.trans (hS.mono hb.size)); go_simp; (first | exact hK.out _ hS | (go_at_call 13; (with_reducible refine (C1.out _ (HD.out.kept (h7.trans ((hb.trans (hS.mono hb.size)).mono h7.size)))).mono ?_); rintro e w'' ⟨rfl, hbb⟩; exact ⟨_, rfl, hK.out _ (hS.trans (hbb.mono hS.size))⟩) | (go_at_call 12; (with_reducible refine (MU.out _).mono ?_); rintro e w'' ⟨rfl, nn, rfl⟩; exact ⟨_, rfl, hK.out _ (belowN hS nn)⟩))); simp only [Act.put, List.setIfInBounds_toArray, List.set_cons_succ, List.set_cons_zero]) | (apply wpG_off; rfl; simp only [Act.put, List.setIfInBounds_toArray, List.set_cons_succ, List.set_cons_zero]))
              apply wpG_nil
              intro W9 hS
              replace k0 := k0.kept hS
              replace k3 := k3.kept hS
              replace k5 := k5.kept hS
              replace hb := hb.trans (hS.mono hb.size)
              clear hS
              clear e5 e6 t1 t2 wz wn
              have u1 : ¬ B.op < mv := by omega
              have u2 : ¬ mv < c := by omega
              have u3 : decide (B.op < mv) = false := decide_eq_false u1
              have u4 : decide (mv < c) = false := decide_eq_false u2
              go_upto_region 14 with (fail)
              refine wp_region_grow 27 (fun w' => Below (World.heap W9).size W9 w') (by kernel_rfl) (by kernel_rfl) (Below.refl _ _).drew ?_
              simp only [List.take_succ_cons, List.take_zero, List.drop_succ_cons, List.drop_zero]
              repeat (first | (apply wpG_on; rfl; (intro w' hS K hK; have hc0 := (k0.kept hS).c19; have hc1 := (k3.kept hS).c3; have hc2 := (k5.kept hS).c3; have hr0 := HMC.out _ (hb.trans (hS.mono hb.size)); have hr1 := HOC.out _ (hb.trans (hS.mono hb.size)); go_simp; (first | exact hK.out _ hS)); simp only [Act.put, List.setIfInBounds_toArray, List.set_cons_succ, List.set_cons_zero]) | (apply wpG_off; rfl; simp only [Act.put, List.setIfInBounds_toArray, List.set_cons_succ, List.set_cons_zero]))
              apply wpG_nil
              intro W10 hS
              replace k0 := k0.kept hS
              replace k3 := k3.kept hS
              replace k5 := k5.kept hS
              replace hb := hb.trans (hS.mono hb.size)
              clear hS
              go_wp2_with fail
              go_roundw
              case rel => exact ⟨k + 1, by omega, by go_num, k0, k3, k5, hb⟩
              case measure => simp only [intOf]; omega
            · obtain rfl : k = n0 := by omega
              go_wp2_with fail
              refine (EX.out _).mono ?_
              rintro e W8 ⟨rfl, hS⟩
              replace hb := h7.trans ((hb.trans (hS.mono hb.size)).mono h7.size)
              go_wp2_with fail
              go_ret
              exact ⟨rfl, hb⟩

theorem walk (B : Bru) (u lv : Value) (ls : List Smp) (W H : Int) (w : World) (hs : Sines w) (hD : Dn w u B.ds) (hL : Sm w lv ls) :
    Calls Tryd.prog 4 #[.agg #[.int .i64 B.sz, .int .i64 B.hd, .int .i64 B.rn, .int .i64 B.fl, .int .i64 B.op, .int .i64 B.sp, .int .i64 B.an, .int .i64 B.sc, .int .i64 B.md, .int .i64 B.r, .int .i64 B.g, .int .i64 B.b, .int .i64 B.a, .int .i64 B.sd, u, .bool B.er, lv, .int .i64 W, .int .i64 H]] w fun e w' => e = .returned (.bool true) ∧ Below w.heap.size w w' := by
  obtain ⟨Wm, Hm, E, zs, ho⟩ := strk_out B ls W H
  by_cases hE : E = 0
  · rcases ho with ⟨h, _, _, e, _⟩ | ⟨_, _, _, _, e, _⟩ | ⟨h, ⟨h1, h2, h3, h4⟩, _, _, _, _⟩
    · exact absurd (e.symm.trans hE) h
    · rw [e] at hE
      cases hE
    · obtain ⟨Wn, rfl⟩ : ∃ n : Nat, W = n := ⟨W.toNat, by omega⟩
      obtain ⟨Hn, rfl⟩ : ∃ n : Nat, H = n := ⟨H.toNat, by omega⟩
      exact covers_good B u lv ls Wn Hn w hs hD hL h (by omega) (by omega)
  · exact covers_bad B u lv ls W H Wm Hm E zs w hs hD hL ho hE
end Go.Proofs.YtjaidcdkkgnfoaaDoor.brushCovers

