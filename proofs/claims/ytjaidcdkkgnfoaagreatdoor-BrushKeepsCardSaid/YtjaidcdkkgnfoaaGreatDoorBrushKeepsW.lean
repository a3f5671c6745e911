/- BrushKeeps: pixels outside of the box of the dabs, and outside of the selection, stay, for every image, brush, list of samples and selection. The package's table of sines is as its text lays it. -/
import Derived.Test.YtjaidcdkkgnfoaaGreatDoorKeepsP
import Derived.Test.YtjaidcdkkgnfoaaGreatDoorHasR
import Derived.Test.YtjaidcdkkgnfoaaGreatDoorBrBox
import Derived.Test.YtjaidcdkkgnfoaaGreatDoorBrFew
import Derived.Test.YtjaidcdkkgnfoaaGreatDoorLMask
import Derived.Test.YtjaidcdkkgnfoaaGreatDoorPaint
import Derived.Test.YtjaidcdkkgnfoaaGreatDoorBrEx
import Derived.Test.YtjaidcdkkgnfoaaGreatDoorBrOpen
namespace Go.Proofs.YtjaidcdkkgnfoaaGreatDoor.brushKeeps
open Go.ChangeShapes Go.WideShapes Go.ChangeAt Go.RowKit
set_option linter.unusedVariables false
attribute [local go_sem] Oper.gAt gUponK Oper.sAt stilK

set_option maxRecDepth 20000 in
set_option maxHeartbeats 8000000 in
theorem keeps_bad (iw ih : Int) (iv : Value) (ps : List Px) (B : Bru) (u lv : Value) (ls : List Smp) (mw mh : Int) (mv : Value) (zs : List Int) (Wm Hm E : Int) (qs : List Px) (w : World) (hs : Sines w) (hI : Pn w iv ps) (hD : Dn w u B.ds) (hL : Sm w lv ls) (hM : Nn w mv zs) (ho : PaintOut iw ih ps B ls mw mh zs Wm Hm E qs) (hE : E ≠ 0) :
    Calls Tryz.prog 5 #[.agg #[.int .i64 iw, .int .i64 ih, iv, .int .i64 B.sz, .int .i64 B.hd, .int .i64 B.rn, .int .i64 B.fl, .int .i64 B.op, .int .i64 B.sp, .int .i64 B.an, .int .i64 B.sc, .int .i64 B.md, .int .i64 B.r, .int .i64 B.g, .int .i64 B.b, .int .i64 B.a, .int .i64 B.sd, u, .bool B.er, lv, .int .i64 mw, .int .i64 mh, mv]] w fun e w' => e = .returned (.bool true) ∧ Below w.heap.size w w' := by
  have HI := Lib.hid hI
  have HD := Lib.hid hD
  have HL := Lib.hid hL
  have HM := Lib.hid hM
  have HSn := Lib.hid hs
  obtain ⟨ai, ci, rfl⟩ := hI.slice
  obtain ⟨a, cap, rfl⟩ := Qn.slice hL
  obtain ⟨au, capu, rfl, _, _⟩ := hD
  obtain ⟨am, cm, rfl, _⟩ := hM.slice
  have FW := Lib.hid (fun w h h' => few_any B (.slice au B.ds.length capu) (.slice a ls.length cap) ls iw ih w h h')
  have DB := Lib.hid (fun w h h' => dabs_any B (.slice au B.ds.length capu) (.slice a ls.length cap) ls w h h')
  have EX := Lib.hid example_any
  have S1 := Lib.hid (fun w hs h1 h2 h3 h4 => paint_any iw ih (.slice ai ps.length ci) ps B (.slice au B.ds.length capu) (.slice a ls.length cap) ls mw mh (.slice am zs.length cm) zs Wm Hm E qs w hs h1 h2 h3 h4 ho)
  have be : (E != 0) = true := by simpa using hE
  clear hI hL hM hs ho hE
  generalize (dabs B ls).1 = ds at *
  generalize (dabs B ls).2 = E2 at *
  generalize ps.length = n at *
  generalize zs.length = nz at *
  generalize ls.length = nl at *
  generalize B.ds.length = nd at *
  go_enter Tryz.func5, Tryz.ntmps5
  go_upto_region 1 with (fail)
  refine name1 (fun W0 k0 hb => ?_)
  have c0 := k0.c23
  go_wp2_with fail
  clear c0
  refine (FW.out _ (HD.out.kept hb) (HL.out.kept hb)).mono ?_
  rintro e W1 ⟨bf, rfl, hS⟩
  replace k0 := k0.kept hS
  replace hb := hb.trans (hS.mono hb.size)
  clear hS FW
  cases bf
  · go_wp2_with fail
    go_ret
    exact ⟨rfl, hb⟩
  · have c0 := k0.c23
    go_wp2_with fail
    clear c0
    refine (S1.out _ (HSn.out.kept hb) (HI.out.kept hb) (HD.out.kept hb) (HL.out.kept hb) (HM.out.kept hb)).mono ?_
    rintro e W2 ⟨q, rfl, hq, hS⟩
    replace k0 := k0.kept hS
    replace hb := hb.trans (hS.mono hb.size)
    obtain ⟨aq, cq, rfl⟩ := hq.slice
    have HQ0 := Lib.hid hq
    clear hS hq S1
    go_upto_region 4 with (refine wpList_store_blk rfl _ _ _ rfl W2.heap.size #[.int .i64 Wm, .int .i64 Hm, .slice aq qs.length cq] rfl rfl (heap_alloc_new W2 _) infoImg rfl (by simp [Value.oneCell']) (fun W3 k3 hkx hbx => ?_))
    have HQ1 := Lib.hid (HQ0.out.kept (((Below.refl _ _).alloc (Nat.le_refl _) _).trans hbx))
    replace k0 := hkx _ _ (by have := k0.lt; omega) (k0.alloc _)
    replace hb : Below w.heap.size w W3 := hb.trans ((((Below.refl _ _).alloc (Nat.le_refl _) _).trans hbx).mono hb.size)
    clear hkx hbx HQ0
    generalize W2.heap.size = b3 at *
    have c0 := k0.c23
    go_wp2_with fail
    clear c0
    refine (DB.out _ (HD.out.kept hb) (HL.out.kept hb)).mono ?_
    rintro e W4 ⟨q1, rfl, h1, hS⟩
    replace k0 := k0.kept hS
    replace k3 := k3.kept hS
    have HQ2 := Lib.hid (HQ1.out.kept hS)
    replace hb := hb.trans (hS.mono hb.size)
    have H1 := Lib.hid h1
    obtain ⟨a1, p1, rfl⟩ := Qn.slice h1
    clear hS h1 DB HQ1
    go_wp2_with fail
    refine (EX.out _).mono ?_
    rintro e W8 ⟨rfl, hS⟩
    replace hb := hb.trans (hS.mono hb.size)
    go_wp2_with fail
    go_ret
    exact ⟨rfl, hb⟩

set_option maxRecDepth 20000 in
set_option maxHeartbeats 16000000 in
theorem keeps_no (W H : Nat) (iv : Value) (ps : List Px) (B : Bru) (u lv : Value) (ls : List Smp) (mh : Int) (mv : Value) (zs : List Int) (w : World) (hs : Sines w) (hI : Pn w iv ps) (hD : Dn w u B.ds) (hL : Sm w lv ls) (hM : Nn w mv zs) (h1 : ichk W H ps = 0) (h2 : mchk 0 mh zs = 0) (h3 : (dabs B ls).2 = 0) :
    Calls Tryz.prog 5 #[.agg #[.int .i64 W, .int .i64 H, iv, .int .i64 B.sz, .int .i64 B.hd, .int .i64 B.rn, .int .i64 B.fl, .int .i64 B.op, .int .i64 B.sp, .int .i64 B.an, .int .i64 B.sc, .int .i64 B.md, .int .i64 B.r, .int .i64 B.g, .int .i64 B.b, .int .i64 B.a, .int .i64 B.sd, u, .bool B.er, lv, .int .i64 0, .int .i64 mh, mv]] w fun e w' => e = .returned (.bool true) ∧ Below w.heap.size w w' := by
  obtain ⟨hn, _, hW, _, hH, hnl⟩ := ichk_len h1
  have hwh := (ichk_px h1).1
  have ho : PaintOut W H ps B ls 0 mh zs W H 0 (pouts B (dabs B ls).1 W 0 zs ps) := .inr (.inr (.inr (.inr ⟨h1, h2, h3, by omega, rfl, rfl, rfl, rfl⟩)))
  have KA : Hid (∀ k, k < ps.length → ((0 : Int) ≠ 0 ∧ zs.getD k 0 = 0) ∨ hasB (bbox (dabs B ls).1).1 (bbox (dabs B ls).1).2.1 (bbox (dabs B ls).1).2.2.1 (bbox (dabs B ls).1).2.2.2 ((k % W : Nat) : Int) ((k / W : Nat) : Int) = false → pxAt (pouts B (dabs B ls).1 W 0 zs ps) k = pxAt ps k) := fun k hk h => by
    have hW0 : 0 < W := by
      by_cases h0 : W = 0
      · subst h0
        omega
      · omega
    have r1 : k % W < W := Nat.mod_lt _ hW0
    have r2 : k / W ≤ k := Nat.div_le_self _ _
    rw [pouts_at _ _ _ _ _ _ _ hk]
    refine keeps_at B _ W _ zs ps k (by omega) (by omega) ?_
    rcases h with h | h
    · exact .inl h
    · right
      unfold hasB at h
      have := of_decide_eq_false h
      unfold hasR
      exact this
  have HI := Lib.hid hI
  have HD := Lib.hid hD
  have HL := Lib.hid hL
  have HM := Lib.hid hM
  have HSn := Lib.hid hs
  obtain ⟨ai, ci, rfl⟩ := hI.slice
  obtain ⟨a, cap, rfl⟩ := Qn.slice hL
  obtain ⟨au, capu, rfl, _, _⟩ := hD
  obtain ⟨am, cm, rfl, _⟩ := hM.slice
  have FW := Lib.hid (fun w h h' => few_any B (.slice au B.ds.length capu) (.slice a ls.length cap) ls W H w h h')
  have DB := Lib.hid (fun w h h' => dabs_any B (.slice au B.ds.length capu) (.slice a ls.length cap) ls w h h')
  have EX := Lib.hid example_any
  have S1 := Lib.hid (fun w hs h1 h2 h3 h4 => paint_any W H (.slice ai ps.length ci) ps B (.slice au B.ds.length capu) (.slice a ls.length cap) ls 0 mh (.slice am zs.length cm) zs W H 0 _ w hs h1 h2 h3 h4 ho)
  rw [h3] at DB
  have OL := Lib.hid (pouts_len B (dabs B ls).1 W 0 zs ps)
  have hnW : ps.length = 0 ∨ (1 ≤ W ∧ 0 < ps.length) := by
    by_cases h0 : W = 0
    · subst h0
      omega
    · have hH1 : 1 ≤ H := by omega
      have e1 := Nat.mul_le_mul (show 1 ≤ W by omega) hH1
      have e2 := Int.natCast_mul W H
      omega
  have BX := Lib.hid (fun v w h => brBox_any v (dabs B ls).1 w h)
  have hbo := bbox_ok (dabs B ls).1
  clear hI hL hM hs ho h1 h2 h3 hnl hwh
  generalize pouts B (dabs B ls).1 W 0 zs ps = qs at *
  generalize (dabs B ls).1 = ds at *
  generalize bbox ds = r at *
  obtain ⟨r0', r1', r2', r3'⟩ := r
  replace BX : Hid (∀ v w, Bm w v ds → Calls Tryz.prog 13 #[v] w fun e w' => e = .returned (.agg #[.int .i64 r0', .int .i64 r1', .int .i64 r2', .int .i64 r3']) ∧ Below w.heap.size w w') := BX
  have HS := Lib.hid (fun px py w => refHas_any r0' r1' r2' r3' px py w hbo)
  simp only at KA
  clear hbo
  generalize ps.length = n at *
  generalize zs.length = nz at *
  generalize ls.length = nl at *
  generalize B.ds.length = nd at *
  go_enter Tryz.func5, Tryz.ntmps5
  go_upto_region 1 with (fail)
  refine name1 (fun W0 k0 hb => ?_)
  have c0 := k0.c23
  go_wp2_with fail
  clear c0
  refine (FW.out _ (HD.out.kept hb) (HL.out.kept hb)).mono ?_
  rintro e W1 ⟨bf, rfl, hS⟩
  replace k0 := k0.kept hS
  replace hb := hb.trans (hS.mono hb.size)
  clear hS FW
  cases bf
  · go_wp2_with fail
    go_ret
    exact ⟨rfl, hb⟩
  · have c0 := k0.c23
    go_wp2_with fail
    clear c0
    refine (S1.out _ (HSn.out.kept hb) (HI.out.kept hb) (HD.out.kept hb) (HL.out.kept hb) (HM.out.kept hb)).mono ?_
    rintro e W2 ⟨q, rfl, hq, hS⟩
    replace k0 := k0.kept hS
    replace hb := hb.trans (hS.mono hb.size)
    obtain ⟨aq, cq, rfl⟩ := hq.slice
    rw [OL.out] at hq ⊢
    have HQ0 := Lib.hid hq
    clear hS hq S1
    go_upto_region 4 with (refine wpList_store_blk rfl _ _ _ rfl W2.heap.size #[.int .i64 W, .int .i64 H, .slice aq n cq] rfl rfl (heap_alloc_new W2 _) infoImg rfl (by simp [Value.oneCell']) (fun W3 k3 hkx hbx => ?_))
    have HQ1 := Lib.hid (HQ0.out.kept (((Below.refl _ _).alloc (Nat.le_refl _) _).trans hbx))
    replace k0 := hkx _ _ (by have := k0.lt; omega) (k0.alloc _)
    replace hb : Below w.heap.size w W3 := hb.trans ((((Below.refl _ _).alloc (Nat.le_refl _) _).trans hbx).mono hb.size)
    clear hkx hbx HQ0
    generalize W2.heap.size = b3 at *
    have c0 := k0.c23
    go_wp2_with fail
    clear c0
    refine (DB.out _ (HD.out.kept hb) (HL.out.kept hb)).mono ?_
    rintro e W4 ⟨q1, rfl, h1, hS⟩
    replace k0 := k0.kept hS
    replace k3 := k3.kept hS
    have HQ2 := Lib.hid (HQ1.out.kept hS)
    replace hb := hb.trans (hS.mono hb.size)
    have H1 := Lib.hid h1
    obtain ⟨a1, p1, rfl⟩ := Qn.slice h1
    clear hS h1 DB HQ1
    rcases hnW with rfl | ⟨hW1, hn00⟩
    · have c0 := k0.c23
      have c3 := k3.c3
      go_wp2_with fail
      clear c0 c3
      refine (BX.out _ _ H1.out).mono ?_
      rintro e W5 ⟨rfl, hS⟩
      replace k0 := k0.kept hS
      replace k3 := k3.kept hS
      replace hb := hb.trans (hS.mono hb.size)
      clear hS
      go_upto_region 10 with (fail)
      refine name1 (fun W6 k7 hS => ?_)
      replace k0 := k0.kept hS
      replace k3 := k3.kept hS
      replace hb := hb.trans (hS.mono hb.size)
      clear hS
      have c3 := k3.c3
      go_wp2_with fail
      clear c3
      go_loopw [8] (fun i wr => i = .int .i64 0 ∧ Blk wr b3 (.cells #[.int .i64 W, .int .i64 H, .slice aq 0 cq] 24 (0, 0)) ∧ Below w.heap.size w wr) (fun i _ => 0)
      case atStart => exact ⟨rfl, k3, hb⟩
      case round =>
        clear k0 k3 k7 hb
        obtain ⟨rfl, k3, hb⟩ := hrel
        have c3 := k3.c3
        go_wp2_with fail
        refine (EX.out _).mono ?_
        rintro e W8 ⟨rfl, hS⟩
        replace hb := hb.trans (hS.mono hb.size)
        go_wp2_with fail
        go_ret
        exact ⟨rfl, hb⟩
    · have hw0 : ¬ (W : Int) < 1 := by omega
      have hw1 : decide ((W : Int) < 1) = false := decide_eq_false hw0
      have hn1 : decide ((0 : Int) < (n : Int)) = true := decide_eq_true (by omega)
      have c0 := k0.c23
      have c3 := k3.c3
      go_wp2_with fail
      clear c0 c3
      refine (BX.out _ _ H1.out).mono ?_
      rintro e W5 ⟨rfl, hS⟩
      replace k0 := k0.kept hS
      replace k3 := k3.kept hS
      have HQ3 := Lib.hid (HQ2.out.kept hS)
      replace hb := hb.trans (hS.mono hb.size)
      clear hS HQ2
      go_upto_region 10 with (fail)
      refine name1 (fun W6 k7 hS => ?_)
      replace k0 := k0.kept hS
      replace k3 := k3.kept hS
      have HQ := Lib.hid (HQ3.out.kept hS)
      have h6 := hb.trans (hS.mono hb.size)
      clear hS HQ3 hb BX H1
      generalize W5.heap.size = x7 at *
      have hb := Below.refl W6.heap.size W6
      have c3 := k3.c3
      go_wp2_with fail
      clear c3
      obtain ⟨wo, hwo⟩ : ∃ wo, wo = W6 := ⟨_, rfl⟩
      go_loopw [8] (fun i wr => ∃ k : Nat, k ≤ n ∧ i = .int .i64 k ∧ Blk wr w.heap.size (.cells #[.int .i64 W, .int .i64 H, .slice ai n ci, .int .i64 B.sz, .int .i64 B.hd, .int .i64 B.rn, .int .i64 B.fl, .int .i64 B.op, .int .i64 B.sp, .int .i64 B.an, .int .i64 B.sc, .int .i64 B.md, .int .i64 B.r, .int .i64 B.g, .int .i64 B.b, .int .i64 B.a, .int .i64 B.sd, .slice au nd capu, .bool B.er, .slice a nl cap, .int .i64 0, .int .i64 mh, .slice am nz cm] 35 (0, 0)) ∧ Blk wr b3 (.cells #[.int .i64 W, .int .i64 H, .slice aq n cq] 24 (0, 0)) ∧ Blk wr x7 (.cells #[.int .i64 r0', .int .i64 r1', .int .i64 r2', .int .i64 r3'] 48 (0, 0)) ∧ Below W6.heap.size W6 wr) (fun i _ => n - (intOf i).toNat)
      case atStart => exact ⟨0, Nat.zero_le _, rfl, k0, k3, k7, hb⟩
      case round =>
        clear k0 k3 k7 hb hwo
        obtain ⟨k, hk, rfl, k0, k3, k7, hb⟩ := hrel
        have c3 := k3.c3
        by_cases hlt : k < n
        · obtain ⟨b1, off1, rfl, hbl1, hcell1⟩ := HI.out.at k hlt
          obtain ⟨b2, off2, rfl, hbl2, hcell2⟩ := HQ.out.at k hlt
          have KA1 := Lib.hid (KA.out k hlt)
          have HS1 := Lib.hid (fun w => HS.out ((k % W : Nat) : Int) ((k / W : Nat) : Int) w)
          have t1 : ((k : Nat) : Int).tmod (W : Int) = ((k % W : Nat) : Int) := Int.tmod_eq_emod_of_nonneg (by omega)
          have t2 : ((k : Nat) : Int).tdiv (W : Int) = ((k / W : Nat) : Int) := Int.tdiv_eq_ediv_of_nonneg (by omega)
          have r1 : k % W < W := Nat.mod_lt _ (by omega)
          have r2 : k / W ≤ k := Nat.div_le_self _ _
          generalize hasB r0' r1' r2' r3' ((k % W : Nat) : Int) ((k / W : Nat) : Int) = hx at *
          generalize pxAt qs k = q at *
          generalize pxAt ps k = p at *
          generalize k % W = rm at *
          generalize k / W = qd at *
          have HC1 := Lib.hid hcell1
          have HC2 := Lib.hid hcell2
          clear hcell1 hcell2
          have wz : ((W : Int) == 0) = false := by simp; omega
          have wn : ¬ W = 0 := by omega
          have e5 : IntKind.i64.wrap (qd : Int) = (qd : Int) := IntWalk.i64_in _ (by omega)
          have e6 : IntKind.i64.wrap (rm : Int) = (rm : Int) := IntWalk.i64_in _ (by omega)
          have i1 : (0 : Int) ≤ (k : Int) := by omega
          have i2 : (k : Int) < (n : Int) := by omega
          go_upto_region 13 with (fail)
          clear c3
          cases hx
          · obtain rfl := KA1.out (.inr rfl)
            obtain ⟨p0, p1, p2, p3⟩ := q
            have HC1' := Lib.hid HC1.out
            have HC2' := Lib.hid HC2.out
            simp only at HC1' HC2'
            refine wp_region_grow 30 (fun w' => Below (World.heap wr).size wr w') (by kernel_rfl) (by kernel_rfl) (Below.refl _ _).drew ?_
            simp only [List.take_succ_cons, List.take_zero, List.drop_succ_cons, List.drop_zero]
            repeat (first | (apply wpG_on; rfl; (intro w' hS K hK; have hc0 := (k0.kept hS).c23; have hc1 := (k3.kept hS).c3; have hc2 := (k7.kept hS).c4; go_simp; (first | exact hK.out _ hS | (go_at_call 14; (with_reducible refine (HS1.out _).mono ?_); rintro e w'' ⟨rfl, hbb⟩; exact ⟨_, rfl, hK.out _ (hS.trans (hbb.mono hS.size))⟩))); simp only [Act.put, List.setIfInBounds_toArray, List.set_cons_succ, List.set_cons_zero]) | (apply wpG_off; rfl; simp only [Act.put, List.setIfInBounds_toArray, List.set_cons_succ, List.set_cons_zero]))
            apply wpG_nil
            intro W9 hS
            replace k0 := k0.kept hS
            replace k3 := k3.kept hS
            replace k7 := k7.kept hS
            replace hb := hb.trans (hS.mono hb.size)
            clear hS
            go_upto_region 14 with (fail)
            refine wp_region_grow 15 (fun w' => Below (World.heap W9).size W9 w') (by kernel_rfl) (by kernel_rfl) (Below.refl _ _).drew ?_
            simp only [List.take_succ_cons, List.take_zero, List.drop_succ_cons, List.drop_zero]
            repeat (first | (apply wpG_on; rfl; (intro w' hS K hK; have hc0 := (k0.kept hS).c23; have hc1 := (k3.kept hS).c3; have hc2 := (k7.kept hS).c4; have hr0 := HC1'.out _ (h6.trans ((hb.trans (hS.mono hb.size)).mono h6.size)); have hr1 := HC2'.out _ (hb.trans (hS.mono hb.size)); go_simp; (first | exact hK.out _ hS)); simp only [Act.put, List.setIfInBounds_toArray, List.set_cons_succ, List.set_cons_zero]) | (apply wpG_off; rfl; simp only [Act.put, List.setIfInBounds_toArray, List.set_cons_succ, List.set_cons_zero]))
            apply wpG_nil
            intro W10 hS
            replace k0 := k0.kept hS
            replace k3 := k3.kept hS
            replace k7 := k7.kept hS
            replace hb := hb.trans (hS.mono hb.size)
            clear hS
            go_wp2_with fail
            go_roundw
            case rel => exact ⟨k + 1, by omega, by go_num, k0, k3, k7, hb⟩
            case measure => simp only [intOf]; omega
          · obtain ⟨p0, p1, p2, p3⟩ := p
            obtain ⟨q0, q1, q2, q3⟩ := q
            have HC1' := Lib.hid HC1.out
            have HC2' := Lib.hid HC2.out
            simp only at HC1' HC2'
            refine wp_region_grow 30 (fun w' => Below (World.heap wr).size wr w') (by kernel_rfl) (by kernel_rfl) (Below.refl _ _).drew ?_
            simp only [List.take_succ_cons, List.take_zero, List.drop_succ_cons, List.drop_zero]
            repeat (first | (apply wpG_on; rfl; (intro w' hS K hK; have hc0 := (k0.kept hS).c23; have hc1 := (k3.kept hS).c3; have hc2 := (k7.kept hS).c4; go_simp; (first | exact hK.out _ hS | (go_at_call 14; (with_reducible refine (HS1.out _).mono ?_); rintro e w'' ⟨rfl, hbb⟩; exact ⟨_, rfl, hK.out _ (hS.trans (hbb.mono hS.size))⟩))); simp only [Act.put, List.setIfInBounds_toArray, List.set_cons_succ, List.set_cons_zero]) | (apply wpG_off; rfl; simp only [Act.put, List.setIfInBounds_toArray, List.set_cons_succ, List.set_cons_zero]))
            apply wpG_nil
            intro W9 hS
            replace k0 := k0.kept hS
            replace k3 := k3.kept hS
            replace k7 := k7.kept hS
            replace hb := hb.trans (hS.mono hb.size)
            clear hS
            go_upto_region 14 with (fail)
            refine wp_region_grow 15 (fun w' => Below (World.heap W9).size W9 w') (by kernel_rfl) (by kernel_rfl) (Below.refl _ _).drew ?_
            simp only [List.take_succ_cons, List.take_zero, List.drop_succ_cons, List.drop_zero]
            repeat (first | (apply wpG_on; rfl; (intro w' hS K hK; have hc0 := (k0.kept hS).c23; have hc1 := (k3.kept hS).c3; have hc2 := (k7.kept hS).c4; have hr0 := HC1'.out _ (h6.trans ((hb.trans (hS.mono hb.size)).mono h6.size)); have hr1 := HC2'.out _ (hb.trans (hS.mono hb.size)); go_simp; (first | exact hK.out _ hS)); simp only [Act.put, List.setIfInBounds_toArray, List.set_cons_succ, List.set_cons_zero]) | (apply wpG_off; rfl; simp only [Act.put, List.setIfInBounds_toArray, List.set_cons_succ, List.set_cons_zero]))
            apply wpG_nil
            intro W10 hS
            replace k0 := k0.kept hS
            replace k3 := k3.kept hS
            replace k7 := k7.kept hS
            replace hb := hb.trans (hS.mono hb.size)
            clear hS
            go_wp2_with fail
            go_roundw
            case rel => exact ⟨k + 1, by omega, by go_num, k0, k3, k7, hb⟩
            case measure => simp only [intOf]; omega
        · obtain rfl : k = n := by omega
          go_wp2_with fail
          refine (EX.out _).mono ?_
          rintro e W8 ⟨rfl, hS⟩
          replace hb := h6.trans ((hb.trans (hS.mono hb.size)).mono h6.size)
          go_wp2_with fail
          go_ret
          exact ⟨rfl, hb⟩

set_option maxRecDepth 20000 in
set_option maxHeartbeats 16000000 in
theorem keeps_sel (W H : Nat) (iv : Value) (ps : List Px) (B : Bru) (u lv : Value) (ls : List Smp) (mv : Value) (zs : List Int) (w : World) (hs : Sines w) (hI : Pn w iv ps) (hD : Dn w u B.ds) (hL : Sm w lv ls) (hM : Nn w mv zs) (h1 : ichk W H ps = 0) (h2 : mchk W H zs = 0) (h3 : (dabs B ls).2 = 0) (hW1 : 1 ≤ W) :
    Calls Tryz.prog 5 #[.agg #[.int .i64 W, .int .i64 H, iv, .int .i64 B.sz, .int .i64 B.hd, .int .i64 B.rn, .int .i64 B.fl, .int .i64 B.op, .int .i64 B.sp, .int .i64 B.an, .int .i64 B.sc, .int .i64 B.md, .int .i64 B.r, .int .i64 B.g, .int .i64 B.b, .int .i64 B.a, .int .i64 B.sd, u, .bool B.er, lv, .int .i64 W, .int .i64 H, mv]] w fun e w' => e = .returned (.bool true) ∧ Below w.heap.size w w' := by
  obtain ⟨hn, _, hW, _, hH, hnl⟩ := ichk_len h1
  have hwh := (ichk_px h1).1
  have ho : PaintOut W H ps B ls W H zs W H 0 (pouts B (dabs B ls).1 W W zs ps) := .inr (.inr (.inr (.inr ⟨h1, h2, h3, by omega, rfl, rfl, rfl, rfl⟩)))
  obtain ⟨_, _, _, _, _, _, hzl⟩ := mchk_len h2
  have hzn : zs.length = ps.length := by omega
  have KA : Hid (∀ k, k < ps.length → ((W : Int) ≠ 0 ∧ zs.getD k 0 = 0) ∨ hasB (bbox (dabs B ls).1).1 (bbox (dabs B ls).1).2.1 (bbox (dabs B ls).1).2.2.1 (bbox (dabs B ls).1).2.2.2 ((k % W : Nat) : Int) ((k / W : Nat) : Int) = false → pxAt (pouts B (dabs B ls).1 W W zs ps) k = pxAt ps k) := fun k hk h => by
    have hW0 : 0 < W := by
      by_cases h0 : W = 0
      · subst h0
        omega
      · omega
    have r1 : k % W < W := Nat.mod_lt _ hW0
    have r2 : k / W ≤ k := Nat.div_le_self _ _
    rw [pouts_at _ _ _ _ _ _ _ hk]
    refine keeps_at B _ W _ zs ps k (by omega) (by omega) ?_
    rcases h with h | h
    · exact .inl h
    · right
      unfold hasB at h
      have := of_decide_eq_false h
      unfold hasR
      exact this
  have HI := Lib.hid hI
  have HD := Lib.hid hD
  have HL := Lib.hid hL
  have HM := Lib.hid hM
  have HSn := Lib.hid hs
  obtain ⟨ai, ci, rfl⟩ := hI.slice
  obtain ⟨a, cap, rfl⟩ := Qn.slice hL
  obtain ⟨au, capu, rfl, _, _⟩ := hD
  obtain ⟨am, cm, rfl, _⟩ := hM.slice
  have FW := Lib.hid (fun w h h' => few_any B (.slice au B.ds.length capu) (.slice a ls.length cap) ls W H w h h')
  have DB := Lib.hid (fun w h h' => dabs_any B (.slice au B.ds.length capu) (.slice a ls.length cap) ls w h h')
  have EX := Lib.hid example_any
  have S1 := Lib.hid (fun w hs h1 h2 h3 h4 => paint_any W H (.slice ai ps.length ci) ps B (.slice au B.ds.length capu) (.slice a ls.length cap) ls W H (.slice am zs.length cm) zs W H 0 _ w hs h1 h2 h3 h4 ho)
  rw [h3] at DB
  have OL := Lib.hid (pouts_len B (dabs B ls).1 W W zs ps)
  have hnW : ps.length = 0 ∨ (1 ≤ W ∧ 0 < ps.length) := by
    by_cases h0 : W = 0
    · subst h0
      omega
    · have hH1 : 1 ≤ H := by omega
      have e1 := Nat.mul_le_mul (show 1 ≤ W by omega) hH1
      have e2 := Int.natCast_mul W H
      omega
  have BX := Lib.hid (fun v w h => brBox_any v (dabs B ls).1 w h)
  have hbo := bbox_ok (dabs B ls).1
  clear hI hL hM hs ho h1 h2 h3 hnl hwh hzl
  generalize pouts B (dabs B ls).1 W W zs ps = qs at *
  generalize (dabs B ls).1 = ds at *
  generalize bbox ds = r at *
  obtain ⟨r0', r1', r2', r3'⟩ := r
  replace BX : Hid (∀ v w, Bm w v ds → Calls Tryz.prog 13 #[v] w fun e w' => e = .returned (.agg #[.int .i64 r0', .int .i64 r1', .int .i64 r2', .int .i64 r3']) ∧ Below w.heap.size w w') := BX
  have HS := Lib.hid (fun px py w => refHas_any r0' r1' r2' r3' px py w hbo)
  simp only at KA
  clear hbo
  generalize zs.length = nz at *
  subst hzn
  generalize ps.length = n at *
  generalize ls.length = nl at *
  generalize B.ds.length = nd at *
  have bW : decide ((0 : Int) < (W : Int)) = true := decide_eq_true (by omega)
  go_enter Tryz.func5, Tryz.ntmps5
  go_upto_region 1 with (fail)
  refine name1 (fun W0 k0 hb => ?_)
  have c0 := k0.c23
  go_wp2_with fail
  clear c0
  refine (FW.out _ (HD.out.kept hb) (HL.out.kept hb)).mono ?_
  rintro e W1 ⟨bf, rfl, hS⟩
  replace k0 := k0.kept hS
  replace hb := hb.trans (hS.mono hb.size)
  clear hS FW
  cases bf
  · go_wp2_with fail
    go_ret
    exact ⟨rfl, hb⟩
  · have c0 := k0.c23
    go_wp2_with fail
    clear c0
    refine (S1.out _ (HSn.out.kept hb) (HI.out.kept hb) (HD.out.kept hb) (HL.out.kept hb) (HM.out.kept hb)).mono ?_
    rintro e W2 ⟨q, rfl, hq, hS⟩
    replace k0 := k0.kept hS
    replace hb := hb.trans (hS.mono hb.size)
    obtain ⟨aq, cq, rfl⟩ := hq.slice
    rw [OL.out] at hq ⊢
    have HQ0 := Lib.hid hq
    clear hS hq S1
    go_upto_region 4 with (refine wpList_store_blk rfl _ _ _ rfl W2.heap.size #[.int .i64 W, .int .i64 H, .slice aq n cq] rfl rfl (heap_alloc_new W2 _) infoImg rfl (by simp [Value.oneCell']) (fun W3 k3 hkx hbx => ?_))
    have HQ1 := Lib.hid (HQ0.out.kept (((Below.refl _ _).alloc (Nat.le_refl _) _).trans hbx))
    replace k0 := hkx _ _ (by have := k0.lt; omega) (k0.alloc _)
    replace hb : Below w.heap.size w W3 := hb.trans ((((Below.refl _ _).alloc (Nat.le_refl _) _).trans hbx).mono hb.size)
    clear hkx hbx HQ0
    generalize W2.heap.size = b3 at *
    have c0 := k0.c23
    go_wp2_with fail
    clear c0
    refine (DB.out _ (HD.out.kept hb) (HL.out.kept hb)).mono ?_
    rintro e W4 ⟨q1, rfl, h1, hS⟩
    replace k0 := k0.kept hS
    replace k3 := k3.kept hS
    have HQ2 := Lib.hid (HQ1.out.kept hS)
    replace hb := hb.trans (hS.mono hb.size)
    have H1 := Lib.hid h1
    obtain ⟨a1, p1, rfl⟩ := Qn.slice h1
    clear hS h1 DB HQ1
    rcases hnW with rfl | ⟨hW1, hn00⟩
    · have c0 := k0.c23
      have c3 := k3.c3
      go_wp2_with fail
      clear c0 c3
      refine (BX.out _ _ H1.out).mono ?_
      rintro e W5 ⟨rfl, hS⟩
      replace k0 := k0.kept hS
      replace k3 := k3.kept hS
      replace hb := hb.trans (hS.mono hb.size)
      clear hS
      go_upto_region 10 with (fail)
      refine name1 (fun W6 k7 hS => ?_)
      replace k0 := k0.kept hS
      replace k3 := k3.kept hS
      replace hb := hb.trans (hS.mono hb.size)
      clear hS
      have c3 := k3.c3
      go_wp2_with fail
      clear c3
      go_loopw [8] (fun i wr => i = .int .i64 0 ∧ Blk wr b3 (.cells #[.int .i64 W, .int .i64 H, .slice aq 0 cq] 24 (0, 0)) ∧ Below w.heap.size w wr) (fun i _ => 0)
      case atStart => exact ⟨rfl, k3, hb⟩
      case round =>
        clear k0 k3 k7 hb
        obtain ⟨rfl, k3, hb⟩ := hrel
        have c3 := k3.c3
        go_wp2_with fail
        refine (EX.out _).mono ?_
        rintro e W8 ⟨rfl, hS⟩
        replace hb := hb.trans (hS.mono hb.size)
        go_wp2_with fail
        go_ret
        exact ⟨rfl, hb⟩
    · have hw0 : ¬ (W : Int) < 1 := by omega
      have hw1 : decide ((W : Int) < 1) = false := decide_eq_false hw0
      have hn1 : decide ((0 : Int) < (n : Int)) = true := decide_eq_true (by omega)
      have c0 := k0.c23
      have c3 := k3.c3
      go_wp2_with fail
      clear c0 c3
      refine (BX.out _ _ H1.out).mono ?_
      rintro e W5 ⟨rfl, hS⟩
      replace k0 := k0.kept hS
      replace k3 := k3.kept hS
      have HQ3 := Lib.hid (HQ2.out.kept hS)
      replace hb := hb.trans (hS.mono hb.size)
      clear hS HQ2
      go_upto_region 10 with (fail)
      refine name1 (fun W6 k7 hS => ?_)
      replace k0 := k0.kept hS
      replace k3 := k3.kept hS
      have HQ := Lib.hid (HQ3.out.kept hS)
      have h6 := hb.trans (hS.mono hb.size)
      clear hS HQ3 hb BX H1
      generalize W5.heap.size = x7 at *
      have hb := Below.refl W6.heap.size W6
      have c3 := k3.c3
      go_wp2_with fail
      clear c3
      obtain ⟨wo, hwo⟩ : ∃ wo, wo = W6 := ⟨_, rfl⟩
      go_loopw [8] (fun i wr => ∃ k : Nat, k ≤ n ∧ i = .int .i64 k ∧ Blk wr w.heap.size (.cells #[.int .i64 W, .int .i64 H, .slice ai n ci, .int .i64 B.sz, .int .i64 B.hd, .int .i64 B.rn, .int .i64 B.fl, .int .i64 B.op, .int .i64 B.sp, .int .i64 B.an, .int .i64 B.sc, .int .i64 B.md, .int .i64 B.r, .int .i64 B.g, .int .i64 B.b, .int .i64 B.a, .int .i64 B.sd, .slice au nd capu, .bool B.er, .slice a nl cap, .int .i64 W, .int .i64 H, .slice am n cm] 35 (0, 0)) ∧ Blk wr b3 (.cells #[.int .i64 W, .int .i64 H, .slice aq n cq] 24 (0, 0)) ∧ Blk wr x7 (.cells #[.int .i64 r0', .int .i64 r1', .int .i64 r2', .int .i64 r3'] 48 (0, 0)) ∧ Below W6.heap.size W6 wr) (fun i _ => n - (intOf i).toNat)
      case atStart => exact ⟨0, Nat.zero_le _, rfl, k0, k3, k7, hb⟩
      case round =>
        clear k0 k3 k7 hb hwo
        obtain ⟨k, hk, rfl, k0, k3, k7, hb⟩ := hrel
        have c3 := k3.c3
        by_cases hlt : k < n
        · obtain ⟨b1, off1, rfl, hbl1, hcell1⟩ := HI.out.at k hlt
          obtain ⟨b2, off2, rfl, hbl2, hcell2⟩ := HQ.out.at k hlt
          obtain ⟨bz, oz, rfl, hz⟩ := nnAtS HM.out k hlt
          have HZ := Lib.hid hz
          clear hz
          have KA1 := Lib.hid (KA.out k hlt)
          have HS1 := Lib.hid (fun w => HS.out ((k % W : Nat) : Int) ((k / W : Nat) : Int) w)
          have t1 : ((k : Nat) : Int).tmod (W : Int) = ((k % W : Nat) : Int) := Int.tmod_eq_emod_of_nonneg (by omega)
          have t2 : ((k : Nat) : Int).tdiv (W : Int) = ((k / W : Nat) : Int) := Int.tdiv_eq_ediv_of_nonneg (by omega)
          have r1 : k % W < W := Nat.mod_lt _ (by omega)
          have r2 : k / W ≤ k := Nat.div_le_self _ _
          generalize hasB r0' r1' r2' r3' ((k % W : Nat) : Int) ((k / W : Nat) : Int) = hx at *
          generalize pxAt qs k = q at *
          generalize pxAt ps k = p at *
          generalize zs.getD k 0 = z at *
          generalize k % W = rm at *
          generalize k / W = qd at *
          have HC1 := Lib.hid hcell1
          have HC2 := Lib.hid hcell2
          clear hcell1 hcell2
          have wz : ((W : Int) == 0) = false := by simp; omega
          have wn : ¬ W = 0 := by omega
          have e5 : IntKind.i64.wrap (qd : Int) = (qd : Int) := IntWalk.i64_in _ (by omega)
          have e6 : IntKind.i64.wrap (rm : Int) = (rm : Int) := IntWalk.i64_in _ (by omega)
          have i1 : (0 : Int) ≤ (k : Int) := by omega
          have i2 : (k : Int) < (n : Int) := by omega
          go_upto_region 13 with (fail)
          clear c3
          by_cases hz0 : z = 0
          · subst hz0
            obtain rfl := KA1.out (.inl ⟨by omega, rfl⟩)
            obtain ⟨p0, p1, p2, p3⟩ := q
            have HC1' := Lib.hid HC1.out
            have HC2' := Lib.hid HC2.out
            simp only at HC1' HC2'
            refine wp_region_grow 30 (fun w' => Below (World.heap wr).size wr w') (by kernel_rfl) (by kernel_rfl) (Below.refl _ _).drew ?_
            simp only [List.take_succ_cons, List.take_zero, List.drop_succ_cons, List.drop_zero]
            repeat (first | (apply wpG_on; rfl; (intro w' hS K hK; have hc0 := (k0.kept hS).c23; have hc1 := (k3.kept hS).c3; have hc2 := (k7.kept hS).c4; have hr0 := HZ.out _ (h6.trans ((hb.trans (hS.mono hb.size)).mono h6.size)); go_simp; (first | exact hK.out _ hS | (go_at_call 14; (with_reducible refine (HS1.out _).mono ?_); rintro e w'' ⟨rfl, hbb⟩; exact ⟨_, rfl, hK.out _ (hS.trans (hbb.mono hS.size))⟩))); simp only [Act.put, List.setIfInBounds_toArray, List.set_cons_succ, List.set_cons_zero]) | (apply wpG_off; rfl; simp only [Act.put, List.setIfInBounds_toArray, List.set_cons_succ, List.set_cons_zero]))
            apply wpG_nil
            intro W9 hS
            replace k0 := k0.kept hS
            replace k3 := k3.kept hS
            replace k7 := k7.kept hS
            replace hb := hb.trans (hS.mono hb.size)
            clear hS
            go_upto_region 14 with (fail)
            refine wp_region_grow 15 (fun w' => Below (World.heap W9).size W9 w') (by kernel_rfl) (by kernel_rfl) (Below.refl _ _).drew ?_
            simp only [List.take_succ_cons, List.take_zero, List.drop_succ_cons, List.drop_zero]
            repeat (first | (apply wpG_on; rfl; (intro w' hS K hK; have hc0 := (k0.kept hS).c23; have hc1 := (k3.kept hS).c3; have hc2 := (k7.kept hS).c4; have hr0 := HC1'.out _ (h6.trans ((hb.trans (hS.mono hb.size)).mono h6.size)); have hr1 := HC2'.out _ (hb.trans (hS.mono hb.size)); go_simp; (first | exact hK.out _ hS)); simp only [Act.put, List.setIfInBounds_toArray, List.set_cons_succ, List.set_cons_zero]) | (apply wpG_off; rfl; simp only [Act.put, List.setIfInBounds_toArray, List.set_cons_succ, List.set_cons_zero]))
            apply wpG_nil
            intro W10 hS
            replace k0 := k0.kept hS
            replace k3 := k3.kept hS
            replace k7 := k7.kept hS
            replace hb := hb.trans (hS.mono hb.size)
            clear hS
            go_wp2_with fail
            go_roundw
            case rel => exact ⟨k + 1, by omega, by go_num, k0, k3, k7, hb⟩
            case measure => simp only [intOf]; omega
          · have bz0 : (z == 0) = false := by simpa using hz0
            cases hx
            · obtain rfl := KA1.out (.inr rfl)
              obtain ⟨p0, p1, p2, p3⟩ := q
              have HC1' := Lib.hid HC1.out
              have HC2' := Lib.hid HC2.out
              simp only at HC1' HC2'
              refine wp_region_grow 30 (fun w' => Below (World.heap wr).size wr w') (by kernel_rfl) (by kernel_rfl) (Below.refl _ _).drew ?_
              simp only [List.take_succ_cons, List.take_zero, List.drop_succ_cons, List.drop_zero]
              repeat (first | (apply wpG_on; rfl; (intro w' hS K hK; have hc0 := (k0.kept hS).c23; have hc1 := (k3.kept hS).c3; have hc2 := (k7.kept hS).c4; have hr0 := HZ.out _ (h6.trans ((hb.trans (hS.mono hb.size)).mono h6.size)); go_simp; (first | exact hK.out _ hS | (go_at_call 14; (with_reducible refine (HS1.out _).mono ?_); rintro e w'' ⟨rfl, hbb⟩; exact ⟨_, rfl, hK.out _ (hS.trans (hbb.mono hS.size))⟩))); simp only [Act.put, List.setIfInBounds_toArray, List.set_cons_succ, List.set_cons_zero]) | (apply wpG_off; rfl; simp only [Act.put, List.setIfInBounds_toArray, List.set_cons_succ, List.set_cons_zero]))
              apply wpG_nil
              intro W9 hS
              replace k0 := k0.kept hS
              replace k3 := k3.kept hS
              replace k7 := k7.kept hS
              replace hb := hb.trans (hS.mono hb.size)
              clear hS
              go_upto_region 14 with (fail)
              refine wp_region_grow 15 (fun w' => Below (World.heap W9).size W9 w') (by kernel_rfl) (by kernel_rfl) (Below.refl _ _).drew ?_
              simp only [List.take_succ_cons, List.take_zero, List.drop_succ_cons, List.drop_zero]
              repeat (first | (apply wpG_on; rfl; (intro w' hS K hK; have hc0 := (k0.kept hS).c23; have hc1 := (k3.kept hS).c3; have hc2 := (k7.kept hS).c4; have hr0 := HC1'.out _ (h6.trans ((hb.trans (hS.mono hb.size)).mono h6.size)); have hr1 := HC2'.out _ (hb.trans (hS.mono hb.size)); go_simp; (first | exact hK.out _ hS)); simp only [Act.put, List.setIfInBounds_toArray, List.set_cons_succ, List.set_cons_zero]) | (apply wpG_off; rfl; simp only [Act.put, List.setIfInBounds_toArray, List.set_cons_succ, List.set_cons_zero]))
              apply wpG_nil
              intro W10 hS
              replace k0 := k0.kept hS
              replace k3 := k3.kept hS
              replace k7 := k7.kept hS
              replace hb := hb.trans (hS.mono hb.size)
              clear hS
              go_wp2_with fail
              go_roundw
              case rel => exact ⟨k + 1, by omega, by go_num, k0, k3, k7, hb⟩
              case measure => simp only [intOf]; omega
            · obtain ⟨p0, p1, p2, p3⟩ := p
              obtain ⟨q0, q1, q2, q3⟩ := q
              have HC1' := Lib.hid HC1.out
              have HC2' := Lib.hid HC2.out
              simp only at HC1' HC2'
              refine wp_region_grow 30 (fun w' => Below (World.heap wr).size wr w') (by kernel_rfl) (by kernel_rfl) (Below.refl _ _).drew ?_
              simp only [List.take_succ_cons, List.take_zero, List.drop_succ_cons, List.drop_zero]
              repeat (first | (apply wpG_on; rfl; (intro w' hS K hK; have hc0 := (k0.kept hS).c23; have hc1 := (k3.kept hS).c3; have hc2 := (k7.kept hS).c4; have hr0 := HZ.out _ (h6.trans ((hb.trans (hS.mono hb.size)).mono h6.size)); go_simp; (first | exact hK.out _ hS | (go_at_call 14; (with_reducible refine (HS1.out _).mono ?_); rintro e w'' ⟨rfl, hbb⟩; exact ⟨_, rfl, hK.out _ (hS.trans (hbb.mono hS.size))⟩))); simp only [Act.put, List.setIfInBounds_toArray, List.set_cons_succ, List.set_cons_zero]) | (apply wpG_off; rfl; simp only [Act.put, List.setIfInBounds_toArray, List.set_cons_succ, List.set_cons_zero]))
              apply wpG_nil
              intro W9 hS
              replace k0 := k0.kept hS
              replace k3 := k3.kept hS
              replace k7 := k7.kept hS
              replace hb := hb.trans (hS.mono hb.size)
              clear hS
              go_upto_region 14 with (fail)
              refine wp_region_grow 15 (fun w' => Below (World.heap W9).size W9 w') (by kernel_rfl) (by kernel_rfl) (Below.refl _ _).drew ?_
              simp only [List.take_succ_cons, List.take_zero, List.drop_succ_cons, List.drop_zero]
              repeat (first | (apply wpG_on; rfl; (intro w' hS K hK; have hc0 := (k0.kept hS).c23; have hc1 := (k3.kept hS).c3; have hc2 := (k7.kept hS).c4; have hr0 := HC1'.out _ (h6.trans ((hb.trans (hS.mono hb.size)).mono h6.size)); have hr1 := HC2'.out _ (hb.trans (hS.mono hb.size)); go_simp; (first | exact hK.out _ hS)); simp only [Act.put, List.setIfInBounds_toArray, List.set_cons_succ, List.set_cons_zero]) | (apply wpG_off; rfl; simp only [Act.put, List.setIfInBounds_toArray, List.set_cons_succ, List.set_cons_zero]))
              apply wpG_nil
              intro W10 hS
              replace k0 := k0.kept hS
              replace k3 := k3.kept hS
              replace k7 := k7.kept hS
              replace hb := hb.trans (hS.mono hb.size)
              clear hS
              go_wp2_with fail
              go_roundw
              case rel => exact ⟨k + 1, by omega, by go_num, k0, k3, k7, hb⟩
              case measure => simp only [intOf]; omega
        · obtain rfl : k = n := by omega
          go_wp2_with fail
          refine (EX.out _).mono ?_
          rintro e W8 ⟨rfl, hS⟩
          replace hb := h6.trans ((hb.trans (hS.mono hb.size)).mono h6.size)
          go_wp2_with fail
          go_ret
          exact ⟨rfl, hb⟩

theorem walk (iw ih : Int) (iv : Value) (ps : List Px) (B : Bru) (u lv : Value) (ls : List Smp) (mw mh : Int) (mv : Value) (zs : List Int) (w : World) (hs : Sines w) (hI : Pn w iv ps) (hD : Dn w u B.ds) (hL : Sm w lv ls) (hM : Nn w mv zs) :
    Calls Tryz.prog 5 #[.agg #[.int .i64 iw, .int .i64 ih, iv, .int .i64 B.sz, .int .i64 B.hd, .int .i64 B.rn, .int .i64 B.fl, .int .i64 B.op, .int .i64 B.sp, .int .i64 B.an, .int .i64 B.sc, .int .i64 B.md, .int .i64 B.r, .int .i64 B.g, .int .i64 B.b, .int .i64 B.a, .int .i64 B.sd, u, .bool B.er, lv, .int .i64 mw, .int .i64 mh, mv]] w fun e w' => e = .returned (.bool true) ∧ Below w.heap.size w w' := by
  obtain ⟨Wm, Hm, E, qs, ho⟩ := paint_out iw ih ps B ls mw mh zs
  by_cases hE : E = 0
  · rcases ho with ⟨h1, _, _, e, _⟩ | ⟨_, h2, _, _, e, _⟩ | ⟨_, _, h3, _, _, e, _⟩ | ⟨_, _, _, _, _, _, e, _⟩ | ⟨h1, h2, h3, h4, rfl, rfl, _, _⟩
    · exact absurd (e.symm.trans hE) h1
    · exact absurd (e.symm.trans hE) h2
    · exact absurd (e.symm.trans hE) h3
    · rw [e] at hE
      cases hE
    · obtain ⟨_, a1, _, a3, _, a5⟩ := ichk_len h1
      obtain ⟨W, rfl⟩ : ∃ n : Nat, Wm = n := ⟨Wm.toNat, by omega⟩
      obtain ⟨H, rfl⟩ : ∃ n : Nat, Hm = n := ⟨Hm.toNat, by omega⟩
      by_cases h5 : mw = 0
      · subst h5
        exact keeps_no W H iv ps B u lv ls mh mv zs w hs hI hD hL hM h1 h2 h3
      · obtain rfl : mw = W := by omega
        obtain rfl : mh = H := by omega
        exact keeps_sel W H iv ps B u lv ls mv zs w hs hI hD hL hM h1 h2 h3 (by omega)
  · exact keeps_bad iw ih iv ps B u lv ls mw mh mv zs Wm Hm E qs w hs hI hD hL hM ho hE
end Go.Proofs.YtjaidcdkkgnfoaaGreatDoor.brushKeeps

