/- The two appends of DynamicsMore: the region walked in both its orders. -/
import Derived.Test.YtjaidcdkkgnfoaaDynMore0
import Derived.Test.YtjaidcdkkgnfoaaDynAwake
import Derived.Deep.RegionHeld3
import Derived.Deep.Cut
import Derived.Deep.CutBlock
import Derived.Deep.DeepCutAuto
namespace Go.Proofs.Ytjaidcdkkgnfoaa
open Go.RowKit
set_option linter.unusedVariables false
attribute [local go_sem] Oper.gAt gUponK Oper.sAt stilK

theorem infoDynZ : (Try.prog.info? 25).map (fun i => (i.zero, i.size, i.bytes)) = some (some (.agg #[.int .i64 0, .int .i64 0, .slice none 0 0]), 3, 40) := by kernel_rfl
theorem andGrown0 {W a b : World} {p : Prop} (h : Below W.heap.size W a ∧ p) (hg : a.grownBy b none) : Below W.heap.size W b := h.1.grown hg h.1.size (fun k hk => by cases hk)
theorem andGrown1 {W a b : World} {p : Prop} {e : TypeId} {size n : Nat} {v : Value} {xs : List Value} (h : Below W.heap.size W a ∧ p) (own : a.ownsRow W.heap.size e size v n xs) (hg : a.grownBy b v.ownBlock) : Below W.heap.size W b := h.1.grown hg h.1.size (fun k hk => (own.lt k hk).1)
theorem news_one {w : World} {B : Nat} {cs : Array Value} {t : TypeId} {fr : Nat × Nat} (hb : w.heap[B]? = some (.cells cs t fr)) : ∀ ad, some (⟨B, 0, none⟩ : Addr) = some ad → ∀ j u, cs.toList[j]? = some u → w.cell? (ad.add j) = some u := fun ad e => by
  injection e with e
  subst e
  exact World.news_of_block hb
theorem some_no {ad : Addr} {m c : Nat} : some ad = none → m = 0 ∧ c = 0 := fun h => by cases h
theorem allocLe {W a w1 : World} {r : Option Nat} {o : Obj} (h : a.grownBy w1 r) (e : W.heap.size ≤ a.heap.size) : W.heap.size ≤ (w1.alloc o).heap.size := by
  have := h.size
  simp
  omega
theorem blkGrown {a w1 : World} {o : Obj} (hg : (a.alloc o).drew.grownBy w1 none) : w1.heap[a.heap.size]? = some o := (hg.block _ (by show _ < (a.alloc o).heap.size; simp) (by simp)).trans (heap_alloc_new a o)
theorem growLe {a w1 : World} {r : Option Nat} {o : Obj} (h : (a.alloc o).drew.grownBy w1 r) : a.heap.size ≤ w1.heap.size := by
  have h1 := h.size
  have h2 : (a.alloc o).drew.heap.size = a.heap.size + 1 := by show (a.alloc o).heap.size = _; simp
  omega
theorem own_slice3 {w : World} {base e n : Nat} {v : Value} {xs : List Value} (own : w.ownsRow base e 3 v n xs) : ∃ a c, v = .slice a n c := by
  rcases own.2 with ⟨rfl, rfl⟩ | ⟨g, cap, cur, rfl, _⟩
  · exact ⟨none, 0, rfl⟩
  · exact ⟨_, cap, rfl⟩

/-- The row's block, and the last element's third cell in it. -/
theorem own_last {w : World} {base g c n : Nat} {e : TypeId} {xs : List Value} {a b v : Value} (hx : xs.length = n * 3) (own : w.ownsRow base e 3 (.slice (some ⟨g, 0, none⟩) (n + 1) c) (n + 1) (xs ++ [a, b, v])) :
    ∃ cur : Array Value, Blk w g (.cells cur e (0, 0)) ∧ n * 3 + 2 < cur.size ∧ w.cell? ⟨g, n * 3 + 2, none⟩ = some v ∧ ∀ o, w.frozen? ⟨g, o, none⟩ = false := by
  rcases own.2 with ⟨h, _⟩ | ⟨g', cap, cur, h, hb, hg, hn, hm, hs, ht⟩
  · cases h
  · injection h with h1 _ h3
    injection h1 with h1
    injection h1 with h1
    subst h1 h3
    refine ⟨cur, hg, by omega, ?_, fun _ => free_blk hg⟩
    rw [cell_of_row w g _ cur e (0, 0) hg]
    have h2 : (cur.toList.take ((n + 1) * 3))[n * 3 + 2]? = some v := by
      rw [ht, List.getElem?_append_right (by omega), hx, Nat.add_sub_cancel_left]
      rfl
    rw [List.getElem?_take, if_pos (by omega), Array.getElem?_toList] at h2
    exact h2

/-- The last element's third cell written anew. -/
theorem own_put {w : World} {base g c n : Nat} {e : TypeId} {xs : List Value} {a b v : Value} (hx : xs.length = n * 3) (own : w.ownsRow base e 3 (.slice (some ⟨g, 0, none⟩) (n + 1) c) (n + 1) (xs ++ [a, b, v])) (S : Value) :
    ∃ cur : Array Value, Blk w g (.cells cur e (0, 0)) ∧ n * 3 + 2 < cur.size ∧ base ≤ g ∧ ∀ w1 : World, Blk w1 g (.cells (cur.setIfInBounds (n * 3 + 2) S) e (0, 0)) → w1.ownsRow base e 3 (.slice (some ⟨g, 0, none⟩) (n + 1) c) (n + 1) (xs ++ [a, b, S]) := by
  rcases own.2 with ⟨h, _⟩ | ⟨g', cap, cur, h, hb, hg, hn, hm, hs, ht⟩
  · cases h
  · injection h with h1 _ h3
    injection h1 with h1
    injection h1 with h1
    subst h1 h3
    refine ⟨cur, hg, by omega, hb, fun w1 k => ⟨by simp [hx]; omega, .inr ⟨g, c, _, rfl, hb, k, hn, hm, by simpa using hs, ?_⟩⟩⟩
    rw [Array.toList_setIfInBounds, List.take_set, ht, List.set_append_right _ _ (by omega), hx, Nat.add_sub_cancel_left]
    rfl

set_option maxHeartbeats 4000000 in
theorem more_go (aa : Option Addr) (cap : Nat) (ds : Dyns) (dt dk : Int) (dv : Value) (ks : Knots) (a2 a4 a5 : Int) (x y p t m : Int) (w : World) (ha : aa = none → ds.length = 0 ∧ cap = 0) (hd : Dn w (.slice aa ds.length cap) ds) (hz : ds.length * 40 ≤ 140737488351232) (hk : Kn w dv ks) :
    Calls Try.prog 3 #[.slice aa ds.length cap, .agg #[.int .i64 dt, .int .i64 dk, dv], .int .i64 a2, sv x y p t m, .int .i64 a4, .int .i64 a5] w fun e w' => e = .returned (.bool true) ∧ Below w.heap.size w w' := by
  have HD := Lib.hid hd
  have HK0 := Lib.hid hk
  have h1d : ∀ u ∈ [Value.int .i64 dt, .int .i64 dk, dv], u.oneCell' = true := by
    intro u hu
    simp only [List.mem_cons, List.not_mem_nil, or_false] at hu
    rcases hu with rfl | rfl | rfl
    · rfl
    · rfl
    · exact kn_one hk
  have H1D := Lib.hid h1d
  obtain ⟨ak, ck, rfl, _⟩ := hk
  clear h1d
  generalize hn : ds.length = n at *
  have HN := Lib.hid hn
  clear hn hd
  go_enter Try.func3, Try.ntmps3
  go_upto_region 1 with (fail)
  refine name2 (fun W k1 k2 hb => ?_)
  have hlW := k2.lt
  obtain ⟨xs, hr, h1x, hc⟩ := dn_cells (HD.out.kept hb)
  have HR := Lib.hid hr
  have H1X := Lib.hid h1x
  have hxl : xs.length = n * 3 := by rw [hr.1, HN.out]
  have HXC : Hid (∀ w' : World, Below W.heap.size W w' → ∀ ad, aa = some ad → ∀ j u, xs[j]? = some u → w'.cell? (ad.add j) = some u) := fun w' h ad e j u hj => by
    have h1 := hc ad e j u hj
    rw [h.cell (World.block_lt_of_cell? W _ h1)]
    exact h1
  have HA := Lib.hid ha
  clear hr h1x hc ha
  obtain ⟨i0, hi, hz0, hz1, hz2⟩ := info_parts infoDynZ
  have HU := Try.underlying22
  have HM : n + 1 ≤ maxLen := by unfold maxLen; omega
  have HM0 : 0 + n ≤ maxLen := by unfold maxLen; omega
  have HM1 : 0 + n + 1 ≤ maxLen := by unfold maxLen; omega
  have HB0 : (0 + n) * 40 ≤ 140737488355328 := by omega
  have HB1 : (0 + n + 1) * 40 ≤ 140737488355328 := by omega
  have c0 := k1.c3
  generalize hnk : ks.length = nk at *
  have HNK := Lib.hid hnk
  clear hnk
  go_cut [13] (fun s13 wx => wx.ownsRow W.heap.size 25 3 s13 (n + 1) (xs ++ [.int .i64 dt, .int .i64 dk, .slice ak nk ck]) ∧ Below W.heap.size W wx)
  case first =>
    have HK : Hid (∀ w' : World, Below W.heap.size W w' → Below W.heap.size W w' ∧ w'.cell? ⟨w.heap.size, 0, none⟩ = some (.int .i64 dt) ∧ w'.cell? ⟨w.heap.size, 1, none⟩ = some (.int .i64 dk) ∧ w'.cell? ⟨w.heap.size, 2, none⟩ = some (.slice ak nk ck)) := fun w' h => ⟨h, (k1.kept h).c3.1, (k1.kept h).c3.2.1, (k1.kept h).c3.2.2.1⟩
    clear c0
    go_region_held3 (fun w' => Below W.heap.size W w' ∧ w'.cell? ⟨w.heap.size, 0, none⟩ = some (.int .i64 dt) ∧ w'.cell? ⟨w.heap.size, 1, none⟩ = some (.int .i64 dk) ∧ w'.cell? ⟨w.heap.size, 2, none⟩ = some (.slice ak nk ck))
      ((refine HK.out _ ?_; first | exact Below.refl _ _ | exact (Below.refl _ _).drew | exact ((Below.refl _ _).alloc (Nat.le_refl _) _).drew | exact (Below.refl _ _).alloc (Nat.le_refl _) _ | (apply andGrown1 (hg := grow2) (own := own1); assumption) | (apply andGrown1 (hg := grow2) (own := own1.alloc _); assumption) | (apply andGrown0 (hg := grow1); assumption) | (apply andAlloc; assumption)))
      (first
        | (refine step_append_any _ (by rfl) _ _ _ (by rfl) W.heap.size 25 i0 _ 3 40 HU hi hz0 hz1 hz2 rfl (by omega) v1 (0 + n) ([] ++ xs) (by rfl) (own1.alloc _) (some ⟨w1.heap.size, 0, none⟩) 1 1 [.int .i64 dt, .int .i64 dk, .slice ak nk ck] (by rfl) rfl some_no (news_one (heap_alloc_new w1 _)) H1D.out HM1 HB1 (allocLe grow1 (Nat.le_refl _)) ?_; intro v2 w2 own2 grow2 _)
        | (refine step_append_any _ (by rfl) _ _ _ (by rfl) W.heap.size 25 i0 _ 3 40 HU hi hz0 hz1 hz2 rfl (by omega) v1 (0 + n) ([] ++ xs) (by rfl) own1 (some ⟨W.heap.size, 0, none⟩) 1 1 [.int .i64 dt, .int .i64 dk, .slice ak nk ck] (by rfl) rfl some_no (news_one (blkGrown grow1)) H1D.out HM1 HB1 (growLe grow1) ?_; intro v2 w2 own2 grow2 _)
        | (refine step_append_any _ (by rfl) _ _ _ (by rfl) W.heap.size 25 i0 _ 3 40 HU hi hz0 hz1 hz2 rfl (by omega) (.slice none 0 0) 0 [] (by rfl) (World.ownsRow_nil _ _ _ _) aa n cap xs (by rfl) hxl HA.out (HXC.out _ (Below.refl _ _).drew) H1X.out HM0 HB0 (Nat.le_refl _) ?_; intro v1 w1 own1 grow1 _)
        | (refine step_append_any _ (by rfl) _ _ _ (by rfl) W.heap.size 25 i0 _ 3 40 HU hi hz0 hz1 hz2 rfl (by omega) (.slice none 0 0) 0 [] (by rfl) (World.ownsRow_nil _ _ _ _) aa n cap xs (by rfl) hxl HA.out (HXC.out _ ((Below.refl _ _).alloc (Nat.le_refl _) _).drew) H1X.out HM0 HB0 (Nat.le_of_lt (by simp)) ?_; intro v1 w1 own1 grow1 _)
        | fail "HERE")
    all_goals
      go_wp2_with fail
      go_meet
      rw [Nat.zero_add, List.nil_append] at own2
      exact ⟨own2, by apply And.left; assumption⟩
  case rest =>
    obtain ⟨own, hB⟩ := hcut
    obtain ⟨ag, cg, rfl⟩ := own_slice3 own
    replace k1 := k1.kept hB
    replace k2 := k2.kept hB
    replace hb := hb.trans (hB.mono hb.size)
    have HD2 : Hid (Dn wc (.slice ag (n + 1) cg) (ds ++ [(dt, dk, ks)])) := by
      show Dn _ _ _
      have hr2 := (HR.out.kept hB).snoc (t := dt) (s := dk) ((HK0.out.kept hb))
      exact own_dn (base := W.heap.size) (e := 25) (by rw [List.length_append, List.length_singleton, HN.out]; exact own) hr2
    have OW := Lib.hid own
    have HXL := Lib.hid hxl
    have HBC := Lib.hid hB
    clear own hB HXC H1X hxl HA HM HM0 HM1 HB0 HB1 hi hz0 hz1 hz2 HU c0
    go_wp2_with fail
    refine (awake_any _).mono ?_
    rintro e W2 ⟨rfl, hS⟩
    replace k1 := k1.kept hS
    replace k2 := k2.kept hS
    replace hb := hb.trans (hS.mono hb.size)
    go_wp2_with fail
    refine (dynCheck_any _ (ds ++ [(dt, dk, ks)]) _ (HD2.out.kept hS)).mono ?_
    rintro e W3 ⟨rfl, hS3⟩
    replace k1 := k1.kept hS3
    replace k2 := k2.kept hS3
    replace hb := hb.trans (hS3.mono hb.size)
    replace hc := hS.trans (hS3.mono hS.size)
    clear hS hS3
    by_cases h0 : dchk (ds ++ [(dt, dk, ks)]) = 0
    · have H0 := Lib.hid h0
      rw [h0]
      clear h0
      go_upto_region 4 with (fail)
      refine wp_region_grow 14 (fun w' => Below (World.heap W3).size W3 w') (by kernel_rfl) (by kernel_rfl) (Below.refl _ _).drew ?_
      simp only [List.take_succ_cons, List.take_zero, List.drop_succ_cons, List.drop_zero]
      repeat (first | (apply wpG_on; rfl; (intro w' hS K hK; have hc0 := (k1.kept hS).c3; have hc1 := (k2.kept hS).c5; go_simp; (first | exact hK.out _ hS | (go_at_call 6; (with_reducible refine (dynValue_any _ ds _ _ _ _ _ _ _ _ _ _ (HD.out.kept (hb.trans (hS.mono hb.size)))).mono ?_); rintro e w'' ⟨rfl, hbb⟩; exact ⟨_, rfl, hK.out _ (hS.trans (hbb.mono hS.size))⟩) | (go_at_call 6; (with_reducible refine (dynValue_any _ (ds ++ [(dt, dk, ks)]) _ _ _ _ _ _ _ _ _ _ (HD2.out.kept (hc.trans (hS.mono hc.size)))).mono ?_); rintro e w'' ⟨rfl, hbb⟩; exact ⟨_, rfl, hK.out _ (hS.trans (hbb.mono hS.size))⟩))); simp only [Act.put, List.setIfInBounds_toArray, List.set_cons_succ, List.set_cons_zero]) | (apply wpG_off; rfl; simp only [Act.put, List.setIfInBounds_toArray, List.set_cons_succ, List.set_cons_zero]))
      apply wpG_nil
      intro W4 hS
      replace k1 := k1.kept hS
      replace k2 := k2.kept hS
      replace hb := hb.trans (hS.mono hb.size)
      replace hc := hc.trans (hS.mono hc.size)
      clear hS
      by_cases ht : dt = a2
      · have g1 : (dt != a2) = false := by simpa using ht
        have HT := Lib.hid ht
        have HV : Hid (dvalue (ds ++ [(dt, dk, ks)]) a2 (fun k => src k p t 0 a4 a5) = dv (cl (dvalue ds a2 (fun k => src k p t 0 a4 a5)) * cl (kat ks (src dk p t 0 a4 a5))) 65535) := by
          show _ = _
          rw [dvalue_snoc _ _ _ _ H0.out]
          exact if_pos ht
        have HW : Hid (dvalue (ds ++ [(dt, dk, unitK)]) a2 (fun k => src k p t 0 a4 a5) = dvalue ds a2 (fun k => src k p t 0 a4 a5)) := dvalue_unit ds (dt, dk, ks) _ _ H0.out
        rw [HV.out]
        clear ht
        have hsb := src_bd dk p t 0 a4 a5
        have f1 : -9223372036854775808 ≤ src dk p t 0 a4 a5 := by omega
        have f2 : src dk p t 0 a4 a5 ≤ 9223372036854775807 := by omega
        generalize dvalue ds a2 (fun k => src k p t 0 a4 a5) = q at *
        have c0 := k1.c3
        go_upto_region 7 with (fail)
        clear c0
        refine wp_region_grow 13 (fun w' => Below (World.heap W4).size W4 w') (by kernel_rfl) (by kernel_rfl) (Below.refl _ _).drew ?_
        simp only [List.take_succ_cons, List.take_zero, List.drop_succ_cons, List.drop_zero]
        repeat (first | (apply wpG_on; rfl; (intro w' hS K hK; have hc0 := (k1.kept hS).c3; have hc1 := (k2.kept hS).c5; go_simp; (first | exact hK.out _ hS | (go_at_call 9; (with_reducible refine (source_any _ _ _ _ _ _ _ _ _ _).mono ?_); rintro e w'' ⟨rfl, hbb⟩; exact ⟨_, rfl, hK.out _ (hS.trans (hbb.mono hS.size))⟩) | (go_at_call 8; (with_reducible refine (curveAt_any _ ks _ _ (HK0.out.kept (hb.trans (hS.mono hb.size))) f1 f2).mono ?_); rintro e w'' ⟨rfl, hbb⟩; exact ⟨_, rfl, hK.out _ (hS.trans (hbb.mono hS.size))⟩) | (go_at_call 7; (with_reducible refine (mul_any _ _ _).mono ?_); rintro e w'' ⟨rfl, rfl⟩; exact ⟨_, rfl, hK.out _ hS⟩))); simp only [Act.put, List.setIfInBounds_toArray, List.set_cons_succ, List.set_cons_zero]) | (apply wpG_off; rfl; simp only [Act.put, List.setIfInBounds_toArray, List.set_cons_succ, List.set_cons_zero]))
        apply wpG_nil
        intro W5 hS
        replace k1 := k1.kept hS
        replace k2 := k2.kept hS
        replace hb := hb.trans (hS.mono hb.size)
        replace hc := hc.trans (hS.mono hc.size)
        clear hS
        have own := ownsKept OW.out hc
        obtain ⟨g, cg', e0, hg1, hg2⟩ := own.form (by omega)
        injection e0 with e1 _ e3
        subst e1 e3
        have hw : IntKind.i64.wrap (((n + 1 : Nat) : Int) - 1) = (n : Int) := by rw [show (((n + 1 : Nat) : Int) - 1) = (n : Int) by omega]; exact IntWalk.i64_in _ (by omega)
        have hi0 : (0 : Int) ≤ (n : Int) := by omega
        have hi1 : (n : Int) < ((n + 1 : Nat) : Int) := by omega
        have hi2 : n < n + 1 := by omega
        have hi3 : ((n : Int)).toNat = n := by omega
        have hxl2 : xs.length = n * 3 := HXL.out
        obtain ⟨cur, kg, hcs, cg3, cgf⟩ := own_last hxl2 own
        obtain ⟨cur2, kg2, hcs2, hbg, hput⟩ := own_put hxl2 own (.slice (some ⟨W5.heap.size, 0, none⟩) 2 2)
        have HPUT := Lib.hid hput
        clear hput
        go_upto_region 10 with (fail)
        clear cg3 cgf kg hcs
        refine codeGen (fun w1 hw1 => ?_)
        have BW5 := HBC.out.trans (hc.mono HBC.out.size)
        have hsz5 := BW5.size
        have kw1 : Blk w1 g (.cells (cur2.setIfInBounds (n * 3 + 2) (.slice (some ⟨W5.heap.size, 0, none⟩) 2 2)) 25 (0, 0)) := by
          rw [hw1]
          exact (kg2.set1 (n * 3 + 2) _ hcs2 (by simp [Array.setIfInBounds, hcs2])).alloc _
        have kn1 : Kn w1 (.slice (some ⟨W5.heap.size, 0, none⟩) 2 2) unitK := by
          refine kn_blk2 (t := 36) ?_
          rw [hw1]
          show _ = _
          have := heap_alloc_new (W5.setCell ⟨g, n * 3 + 2, none⟩ (.slice (some ⟨W5.heap.size, 0, none⟩) 2 2)) (.cells #[.int .i64 0, .int .i64 65535, .int .i64 1, .int .i64 65535] 36)
          simpa using this
        have bw1 : Below W.heap.size W w1 := by
          rw [hw1]
          exact (BW5.setCell hbg _).alloc (by simp; omega) _
        replace hb : Below w.heap.size w w1 := by
          rw [hw1]
          exact (hb.setCell (by simp; omega) _).alloc (by simp; omega) _
        have kk : ∀ (b : Nat) (o : Obj), b ≠ g → Blk W5 b o → Blk w1 b o := fun b o hne k => by
          rw [hw1]
          exact (k.other hne _).alloc _
        replace k1 := kk _ _ (by omega) k1
        replace k2 := kk _ _ (by omega) k2
        clear kk
        clear hw1
        have hd1 : Dn w1 (.slice (some ⟨g, 0, none⟩) (n + 1) cg) (ds ++ [(dt, dk, unitK)]) := by
          have hr2 := (HR.out.kept bw1).snoc (t := dt) (s := dk) kn1
          exact own_dn (base := W.heap.size) (e := 25) (by rw [List.length_append, List.length_singleton, HN.out]; exact HPUT.out _ kw1) hr2
        have HD3 := Lib.hid hd1
        clear hd1 kw1 kn1 bw1 BW5 HPUT own
        have c0 := k2.c5
        go_wp2_with fail
        refine (dynValue_any _ (ds ++ [(dt, dk, unitK)]) _ _ _ _ _ _ _ _ _ _ HD3.out).mono ?_
        rintro e W6 ⟨rfl, hS⟩
        replace hb := hb.trans (hS.mono hb.size)
        rw [HW.out]
        go_wp2_with fail
        go_ret
        exact ⟨ret_bool (by simp), hb⟩
      · have g1 : (dt != a2) = true := by simpa using ht
        have HV : Hid (dvalue (ds ++ [(dt, dk, ks)]) a2 (fun k => src k p t 0 a4 a5) = dvalue ds a2 (fun k => src k p t 0 a4 a5)) := by
          show _ = _
          rw [dvalue_snoc _ _ _ _ H0.out]
          exact if_neg ht
        rw [HV.out]
        clear ht
        generalize dvalue ds a2 (fun k => src k p t 0 a4 a5) = q at *
        have c0 := k1.c3
        go_wp2_with fail
        go_ret
        exact ⟨ret_bool (by simp), hb⟩
    · have g0 : (dchk (ds ++ [(dt, dk, ks)]) != 0) = true := by simpa using h0
      clear h0
      go_wp2_with fail
      refine (awake_any _).mono ?_
      rintro e W4 ⟨rfl, hS⟩
      replace hb := hb.trans (hS.mono hb.size)
      go_wp2_with fail
      go_ret
      exact ⟨rfl, hb⟩
end Go.Proofs.Ytjaidcdkkgnfoaa

