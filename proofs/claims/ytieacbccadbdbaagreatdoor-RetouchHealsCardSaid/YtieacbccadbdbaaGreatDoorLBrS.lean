/- Several texts in one: BrCov, BrStroke. -/
import Derived.Test.YtieacbccadbdbaaGreatDoorLCovR
import Derived.Test.YtieacbccadbdbaaGreatDoorLBru
import Derived.Test.YtieacbccadbdbaaGreatDoorDabTip
import Derived.Test.YtieacbccadbdbaaGreatDoorDabTipBad
import Derived.Test.YtieacbccadbdbaaGreatDoorLDab
import Derived.Test.YtieacbccadbdbaaGreatDoorLDyn
import Derived.Deep.Cut
import Derived.Test.YtieacbccadbdbaaGreatDoorBrDabs

/- The coverage of the dabs of a stroke, by the program. -/
namespace Go.Proofs.YtieacbccadbdbaaGreatDoor
open Go.RowKit
set_option linter.unusedVariables false
attribute [local go_sem] Oper.gAt gUponK Oper.sAt stilK

theorem infoMask2 : (Tryz.prog.info? 35).map (·.size) = some 3 := by kernel_rfl
theorem dbAt_mem {ds : List Dab} {k : Nat} (h : k < ds.length) : dbAt ds k ∈ ds := by
  unfold dbAt
  rw [List.getD_eq_getElem?_getD, List.getElem?_eq_getElem h]
  exact List.getElem_mem h
theorem nn_len {w : World} {a : Option Addr} {n cap : Nat} {zs : List Int} (h : Nn w (.slice a n cap) zs) : n = zs.length := by
  obtain ⟨a', cap', hv, _⟩ := h
  injection hv
theorem nn_kept_set {w : World} {a : Option Addr} {n cap : Nat} {zs : List Int} (h : Nn w (.slice a n cap) zs) {p : Addr} (hne : ∀ b o x, a = some ⟨b, o, x⟩ → b ≠ p.block) (u : Value) : Nn (w.setCell p u) (.slice a n cap) zs := by
  obtain ⟨a', cap', hv, hl, hr⟩ := h
  refine ⟨a', cap', hv, hl, ?_⟩
  simp only [Value.slice.injEq] at hv
  obtain ⟨rfl, rfl, rfl⟩ := hv
  rcases hr with h0 | ⟨b, off, ha, hlt, hc⟩
  · exact .inl h0
  · refine .inr ⟨b, off, ha, by simpa using hlt, fun i hi => ?_⟩
    rw [World.cell?_setCell_other (h := fun h => hne b off none ha (by rw [h]))]
    exact hc i hi

/-- Tip upon the part of a dab's box that lies in an image. -/
theorem tip_cov (B : Bru) (d : Dab) (X Y TW TH : Nat) (zs : List Int) (u : Value) (w : World) (hs : Sines w) (h : Dn w u B.ds) (h0 : bchk B = 0) (hd : dOk d = true)
    (hc : (zs = [] ∧ TipBad B d X Y TW TH 0) ∨ (rValid X Y TW TH = true ∧ (0 < TW ∧ TW ≤ 256) ∧ (0 < TH ∧ TH ≤ 256) ∧ zs = tipOut B d X Y TW TH)) :
    Calls Tryz.prog 34 #[brv B u, dbv d, .agg #[.int .i64 X, .int .i64 Y, .int .i64 TW, .int .i64 TH]] w fun e w' => ∃ (Wm Hm : Int) (aq : Option Addr) (n c : Nat), e = .returned (.tuple #[.agg #[.int .i64 Wm, .int .i64 Hm, .slice aq n c], .int .i64 0]) ∧ (∀ b o x, aq = some ⟨b, o, x⟩ → w.heap.size ≤ b) ∧ Nn w' (.slice aq n c) zs ∧ Below w.heap.size w w' := by
  rcases hc with ⟨rfl, hb⟩ | ⟨hv, hW, hH, rfl⟩
  · refine (tip_bad B d X Y TW TH 0 u w h hb).mono ?_
    rintro e w' ⟨rfl, hb⟩
    exact ⟨0, 0, none, 0, 0, rfl, fun _ _ _ h => (by cases h), ⟨none, 0, rfl, by simp, .inl rfl⟩, hb⟩
  · refine (tip_own B d X Y TW TH u w hs h h0 hd hv hW hH).mono ?_
    rintro e w' ⟨g, n, c, rfl, hg, hq, hb⟩
    refine ⟨_, _, _, n, c, rfl, fun b o x h => ?_, hq, hb⟩
    injection h with h
    injection h with h
    omega

set_option maxRecDepth 20000 in
set_option maxHeartbeats 16000000 in
theorem coverage_any (B : Bru) (ds : List Dab) (W H : Nat) (u v : Value) (w : World) (hs : Sines w) (hD : Dn w u B.ds) (hM : Bm w v ds) (h0 : bchk B = 0) (hds : dsOk B ds) (hn : ds.length ≤ 1024) (hW : W ≤ 256) (hH : H ≤ 256) :
    Calls Tryz.prog 60 #[brv B u, v, .int .i64 W, .int .i64 H] w fun e w' => ∃ (g n c : Nat), e = .returned (.tuple #[.slice (some ⟨g, 0, none⟩) n c, .int .i64 0]) ∧ w.heap.size < g ∧ g < w'.heap.size ∧ Nn w' (.slice (some ⟨g, 0, none⟩) n c) (couts B ds W H) ∧ Below w.heap.size w w' := by
  have HD := Lib.hid hD
  have HSn := Lib.hid hs
  have HM := Lib.hid hM
  obtain ⟨a, cap, rfl⟩ := Qn.slice hM
  obtain ⟨au, capu, rfl, _, _⟩ := hD
  have RN := Lib.hid (fun k hk => cov_round B ds W H k hk h0 (hds _ (dbAt_mem hk)) hW hH)
  have TC := Lib.hid (fun d X Y TW TH zs w hs h hd hc => tip_cov B d X Y TW TH zs (.slice au B.ds.length capu) w hs h h0 hd hc)
  have DK := Lib.hid (fun k hk => hds (dbAt ds k) (dbAt_mem (k := k) hk))
  have CZ := Lib.hid (fun i => ckat_zero B ds W i)
  have OL := Lib.hid (couts_len B ds W H)
  have OA : Hid (∀ i, i < W * H → (couts B ds W H).getD i 0 = dv (cl (ckat B ds W ds.length i) * cl B.op) 65535) := fun i hi => by
    rw [couts_at B ds W H i hi, ckat_all]
    rfl
  clear hM hs h0 hds
  have hWH : W * H ≤ 65536 := Nat.mul_le_mul hW hH
  obtain ⟨n0, hn0⟩ : ∃ n0, W * H = n0 := ⟨_, rfl⟩
  have hmul : (W : Int) * (H : Int) = (n0 : Int) := by rw [← hn0]; exact (Int.natCast_mul W H).symm
  rw [hn0] at hWH OL OA
  have mk := fun w => makeInt n0 hWH w
  have hwr : IntKind.i64.wrap ((W : Int) * (H : Int)) = (n0 : Int) := by rw [hmul]; exact IntWalk.i64_in _ (by omega)
  rw [hn0] at RN
  clear hmul hn0
  generalize couts B ds W H = out at *
  generalize ckat B ds W = ck at *
  generalize hnd : B.ds.length = nd at *
  clear hnd
  generalize hmm : ds.length = md at *
  have HMM := Lib.hid hmm
  clear hmm
  go_enter Tryz.func60, Tryz.ntmps60
  go_upto_region 1 with (fail)
  refine name1 (fun W1 kb hb => ?_)
  have kb1 := kb.lt
  go_upto_region 2 with (fail)
  refine name1 (fun W2 kr hS => ?_)
  replace kb := kb.kept hS
  replace hb := hb.trans (hS.mono hb.size)
  have row := (rowI_zero kr).congr (f' := ck 0) (fun i _ => (CZ.out i).symm)
  clear kr mk hwr
  obtain ⟨g, hg⟩ : ∃ g, g = W1.heap.size := ⟨_, rfl⟩
  rw [← hg] at row ⊢
  have g0 : w.heap.size < g := by omega
  clear hg hS kb1
  go_wp2_with fail
  go_loopw [26] (fun i wr => ∃ k : Nat, k ≤ md ∧ i = .int .i64 k ∧ RowI wr g n0 (ck k) ∧ Blk wr w.heap.size (.cells #[.int .i64 B.sz, .int .i64 B.hd, .int .i64 B.rn, .int .i64 B.fl, .int .i64 B.op, .int .i64 B.sp, .int .i64 B.an, .int .i64 B.sc, .int .i64 B.md, .int .i64 B.r, .int .i64 B.g, .int .i64 B.b, .int .i64 B.a, .int .i64 B.sd, .slice au nd capu, .bool B.er] 29 (0, 0)) ∧ Below w.heap.size w wr) (fun i _ => md - (intOf i).toNat)
  case atStart => exact ⟨0, Nat.zero_le _, rfl, row, kb, hb⟩
  case round =>
    clear row kb hb
    obtain ⟨k, hk, rfl, row, kb, hb⟩ := hrel
    by_cases hlt : k < md
    · obtain ⟨X, Y, TW, TH, zs, F, hr, hc, hzl, hzp, hzq, hF0, hF1, hF2, hFb⟩ := RN.out k hlt
      have hd := DK.out k hlt
      obtain ⟨bl, off, rfl, hbl, hcell⟩ := Qn.at HM.out k (by rw [HMM.out]; exact hlt)
      have hc5 := hcell wr hb
      unfold At5 d5 at hc5
      simp only at hc5
      have BX := Lib.hid (fun w => dabBox_any (dbAt ds k) w)
      have T1 := Lib.hid (fun w hs h => TC.out (dbAt ds k) X Y TW TH zs w hs h hd hc)
      clear hcell hc hd
      generalize dbAt ds k = d at *
      generalize dbox d = b at *
      obtain ⟨b0, b1, b2, b3⟩ := b
      replace BX : Hid (∀ w, Calls Tryz.prog 33 #[dbv d] w fun e w' => e = .returned (.agg #[.int .i64 b0, .int .i64 b1, .int .i64 b2, .int .i64 b3]) ∧ Below w.heap.size w w') := BX
      have RM := Lib.hid (fun w => rmeet_any b0 b1 b2 b3 0 0 W H w)
      rw [hr] at RM
      replace RM : Hid (∀ w, Calls Tryz.prog 32 #[.agg #[.int .i64 b0, .int .i64 b1, .int .i64 b2, .int .i64 b3], .agg #[.int .i64 0, .int .i64 0, .int .i64 W, .int .i64 H]] w fun e w' => e = .returned (.agg #[.int .i64 X, .int .i64 Y, .int .i64 TW, .int .i64 TH]) ∧ Below w.heap.size w w') := RM
      have HF0 := Lib.hid hF0
      have HF1 := Lib.hid hF1
      have HF2 := Lib.hid hF2
      have HFB := Lib.hid hFb
      have HZP := Lib.hid hzp
      have HZQ := Lib.hid hzq
      clear hr hF0 hF1 hF2 hFb hzp hzq
      have i1 : (0 : Int) ≤ (k : Int) := by omega
      have i2 : (k : Int) < (md : Int) := by omega
      go_upto_region 5 with (fail)
      refine name1 (fun W3 kd hS => ?_)
      replace kb := kb.kept hS
      replace row := row.kept hS
      replace hb := hb.trans (hS.mono hb.size)
      clear hS hc5
      have c5 := kd.c5
      go_wp2_with fail
      refine (BX.out _).mono ?_
      rintro e W4 ⟨rfl, hS⟩
      replace kb := kb.kept hS
      replace kd := kd.kept hS
      replace row := row.kept hS
      replace hb := hb.trans (hS.mono hb.size)
      clear hS c5
      go_wp2_with fail
      refine (RM.out _).mono ?_
      rintro e W5 ⟨rfl, hS⟩
      replace kb := kb.kept hS
      replace kd := kd.kept hS
      replace row := row.kept hS
      replace hb := hb.trans (hS.mono hb.size)
      clear hS
      have row5 := row.lt
      have kb5 := kb.lt
      go_upto_region 6 with (fail)
      refine name1 (fun W6 kr hS => ?_)
      replace kb := kb.kept hS
      replace kd := kd.kept hS
      replace row := row.kept hS
      replace hb := hb.trans (hS.mono hb.size)
      have row6 := row.lt
      have kb6 := kb.lt
      clear hS
      have cb := kb.c16
      have c5 := kd.c5
      have c4 := kr.c4
      go_wp2_with fail
      clear cb c5 c4
      refine (T1.out _ (HSn.out.kept hb) (HD.out.kept hb)).mono ?_
      rintro e W7 ⟨Wm, Hm, aq, nq, cq, rfl, hqb, hq, hS⟩
      replace kb := kb.kept hS
      replace kr := kr.kept hS
      replace row := row.kept hS
      replace hb := hb.trans (hS.mono hb.size)
      have hqb2 : ∀ b o x, aq = some ⟨b, o, x⟩ → b ≠ g ∧ b ≠ w.heap.size := fun b o x h => by
        have := hqb b o x h
        omega
      obtain rfl := nn_len hq
      have HQB := Lib.hid hqb2
      clear hS hqb hqb2 row6 kb6
      go_upto_region 7 with (refine wpList_store_blk rfl _ _ _ rfl W7.heap.size #[.int .i64 Wm, .int .i64 Hm, .slice aq zs.length cq] rfl rfl (heap_alloc_new W7 _) infoMask2 rfl (by simp [Value.oneCell']) (fun W8 km hkx hbx => ?_))
      have hS : Below W7.heap.size W7 W8 := ((Below.refl _ _).alloc (Nat.le_refl _) _).trans hbx
      replace hq := hq.kept hS
      replace kb := kb.kept hS
      replace kr := kr.kept hS
      replace row := row.kept hS
      replace hb := hb.trans (hS.mono hb.size)
      clear hS hkx hbx kd
      generalize hzM : zs.length = M at *
      clear hzM
      have cm := km.c3
      go_wp2_with fail
      clear cm km
      replace row := row.congr (f' := F 0) (fun i _ => (HF0.out i).symm)
      generalize W5.heap.size = xr at *
      generalize W7.heap.size = xm at *
      have HB0 := Lib.hid hb
      go_loopw [49] (fun i wr => ∃ m : Nat, m ≤ M ∧ i = .int .i64 m ∧ RowI wr g n0 (F m) ∧ Nn wr (.slice aq M cq) zs ∧ Blk wr xr (.cells #[.int .i64 X, .int .i64 Y, .int .i64 TW, .int .i64 TH] 45 (0, 0)) ∧ Blk wr w.heap.size (.cells #[.int .i64 B.sz, .int .i64 B.hd, .int .i64 B.rn, .int .i64 B.fl, .int .i64 B.op, .int .i64 B.sp, .int .i64 B.an, .int .i64 B.sc, .int .i64 B.md, .int .i64 B.r, .int .i64 B.g, .int .i64 B.b, .int .i64 B.a, .int .i64 B.sd, .slice au nd capu, .bool B.er] 29 (0, 0)) ∧ Below w.heap.size w wr) (fun i _ => M - (intOf i).toNat)
      case atStart => exact ⟨0, Nat.zero_le _, rfl, row, hq, kr, kb, hb⟩
      case round =>
        clear row hq kr kb hb HB0
        obtain ⟨m, hm, rfl, row, hq, kr, kb, hb⟩ := hrel
        by_cases hml : m < M
        · obtain ⟨bq, oq, rfl, hz⟩ := hq.at m hml
          obtain ⟨hne1, hne2⟩ := HQB.out bq oq none rfl
          obtain ⟨hidx, hFs⟩ := HF2.out m hml
          obtain ⟨q1, q2, q3, q4⟩ := HZP.out (by omega)
          have q5 := HZQ.out m hml
          have q6 : m % TW < TW := Nat.mod_lt _ q1
          obtain ⟨idx, hix⟩ : ∃ idx, nIdx X Y TW W m = idx := ⟨_, rfl⟩
          rw [hix] at hidx hFs
          have t1 : ((m : Nat) : Int).tmod (TW : Int) = ((m % TW : Nat) : Int) := Int.tmod_eq_emod_of_nonneg (by omega)
          have t2 : ((m : Nat) : Int).tdiv (TW : Int) = ((m / TW : Nat) : Int) := Int.tdiv_eq_ediv_of_nonneg (by omega)
          unfold nIdx at hix
          generalize m / TW = qd at *
          generalize m % TW = rm at *
          obtain ⟨yq, hyq⟩ : ∃ yq, Y + qd = yq := ⟨_, rfl⟩
          rw [hyq] at hix
          obtain ⟨yw, hyw⟩ : ∃ yw, yq * W = yw := ⟨_, rfl⟩
          rw [hyw] at hix
          obtain ⟨yx, hyx⟩ : ∃ yx, yw + X = yx := ⟨_, rfl⟩
          have wz : ((TW : Int) == 0) = false := by simp; omega
          have wn : ¬ TW = 0 := by omega
          have e1 : IntKind.i64.wrap ((Y : Int) + (qd : Int)) = (yq : Int) := by rw [← hyq, ← Int.natCast_add]; exact IntWalk.i64_in _ (by omega)
          have e2 : IntKind.i64.wrap ((yq : Int) * (W : Int)) = (yw : Int) := by rw [← hyw, ← Int.natCast_mul]; exact IntWalk.i64_in _ (by omega)
          have e3 : IntKind.i64.wrap ((yw : Int) + (X : Int)) = (yx : Int) := by rw [← hyx, ← Int.natCast_add]; exact IntWalk.i64_in _ (by omega)
          have e4 : IntKind.i64.wrap ((yx : Int) + (rm : Int)) = (idx : Int) := by rw [show (yx : Int) + (rm : Int) = (idx : Int) by omega]; exact IntWalk.i64_in _ (by omega)
          have e5 : IntKind.i64.wrap (qd : Int) = (qd : Int) := IntWalk.i64_in _ (by omega)
          have e6 : IntKind.i64.wrap (rm : Int) = (rm : Int) := IntWalk.i64_in _ (by omega)
          clear hix hyq hyw hyx
          have RC := Lib.hid (fun w (h : RowI w g n0 (F m)) => h.c idx hidx)
          have RS : Hid (∀ w (h : RowI w g n0 (F m)), RowI (w.setCell ⟨g, idx, none⟩ (.int .i64 (cst (F m idx) (zs.getD m 0)))) g n0 (F (m + 1))) := fun w h => (h.set idx hidx _).congr (fun i _ => by
            rw [hFs i]
            by_cases hi : i = idx
            · rw [if_pos hi, if_pos hi, hi]
            · rw [if_neg hi, if_neg hi])
          have hfb := HFB.out m idx
          have MU := Lib.hid (fun w => mul_any (65535 - F m idx) (zs.getD m 0) w)
          have hcs : Hid (cst (F m idx) (zs.getD m 0) = F m idx + dv (cl (65535 - F m idx) * cl (zs.getD m 0)) 65535) := rfl
          have hub := mulU_bd' (65535 - F m idx) (zs.getD m 0)
          clear hFs
          generalize dv (cl (65535 - F m idx) * cl (zs.getD m 0)) 65535 = mv at *
          have hcs2 := hcs.out
          generalize cst (F m idx) (zs.getD m 0) = nv at *
          generalize zs.getD m 0 = z at *
          generalize F m idx = fc at *
          have f1 : IntKind.i64.wrap (65535 - fc) = 65535 - fc := IntWalk.i64_in _ (by omega)
          have f2 : IntKind.i64.wrap (fc + mv) = nv := by rw [hcs2]; exact IntWalk.i64_in _ (by omega)
          have i1 : (0 : Int) ≤ (m : Int) := by omega
          have i2 : (m : Int) < (M : Int) := by omega
          have j1 : (0 : Int) ≤ (idx : Int) := by omega
          have j2 : (idx : Int) < (n0 : Int) := by omega
          go_upto_region 12 with (fail)
          clear hz
          refine wp_region_grow 18 (fun w' => Below (World.heap wr).size wr w') (by kernel_rfl) (by kernel_rfl) (Below.refl _ _).drew ?_
          simp only [List.take_succ_cons, List.take_zero, List.drop_succ_cons, List.drop_zero]
          repeat (first | (apply wpG_on; rfl; (intro w' hS K hK; have hc0 := (kr.kept hS).c4; have hc1 := (row.kept hS).lt; have hc2 := (hq.kept hS).slice; have hc3 := (kb.kept hS).lt; go_simp; (first | exact hK.out _ hS)); simp only [Act.put, List.setIfInBounds_toArray, List.set_cons_succ, List.set_cons_zero]) | (apply wpG_off; rfl; simp only [Act.put, List.setIfInBounds_toArray, List.set_cons_succ, List.set_cons_zero]))
          apply wpG_nil
          intro W9 hS
          replace kr := kr.kept hS
          replace row := row.kept hS
          replace hq := hq.kept hS
          replace kb := kb.kept hS
          replace hb := hb.trans (hS.mono hb.size)
          clear hS
          clear e1 e2 e3 e4 e5 e6 t1 t2 wz wn
          go_upto_region 13 with (fail)
          refine wp_region_grow 12 (fun w' => Below (World.heap W9).size W9 w') (by kernel_rfl) (by kernel_rfl) (Below.refl _ _).drew ?_
          simp only [List.take_succ_cons, List.take_zero, List.drop_succ_cons, List.drop_zero]
          repeat (first | (apply wpG_on; rfl; (intro w' hS K hK; have hc0 := (kr.kept hS).c4; have hc1 := (row.kept hS).lt; have hc2 := (hq.kept hS).slice; have hc3 := (kb.kept hS).lt; have hr0 := RC.out _ (row.kept hS); go_simp; (first | exact hK.out _ hS | (go_at_call 17; (with_reducible refine (MU.out _).mono ?_); rintro e w'' ⟨rfl, rfl⟩; exact ⟨_, rfl, hK.out _ hS⟩))); simp only [Act.put, List.setIfInBounds_toArray, List.set_cons_succ, List.set_cons_zero]) | (apply wpG_off; rfl; simp only [Act.put, List.setIfInBounds_toArray, List.set_cons_succ, List.set_cons_zero]))
          apply wpG_nil
          intro W10 hS
          replace kr := kr.kept hS
          replace row := row.kept hS
          replace hq := hq.kept hS
          replace kb := kb.kept hS
          replace hb := hb.trans (hS.mono hb.size)
          clear hS
          have cr := RC.out _ row
          go_wp2_with fail
          go_roundw
          case rel => exact ⟨m + 1, by omega, by go_num, (by rw [← hcs2]; exact RS.out _ row), nn_kept_set hq (fun b o x h => (HQB.out b o x h).1) _, kr.other (by simp; omega) _, kb.other (by simp; omega) _, hb.setCell (by simp; omega) _⟩
          case measure => simp only [intOf]; omega
        · obtain rfl : m = M := by omega
          go_wp2_with fail
          go_roundw
          case rel => exact ⟨k + 1, by omega, by go_num, row.congr (fun i hi => HF1.out i hi), kb, hb⟩
          case measure => simp only [intOf]; omega
    · obtain rfl : k = md := by omega
      go_wp2_with fail
      replace row := row.congr (f' := fun i => if i < 0 then dv (cl (ck k i) * cl B.op) 65535 else ck k i) (fun i _ => (if_neg (Nat.not_lt_zero _)).symm)
      go_loopw [88] (fun i wr => ∃ j : Nat, j ≤ n0 ∧ i = .int .i64 j ∧ RowI wr g n0 (fun i => if i < j then dv (cl (ck k i) * cl B.op) 65535 else ck k i) ∧ Blk wr w.heap.size (.cells #[.int .i64 B.sz, .int .i64 B.hd, .int .i64 B.rn, .int .i64 B.fl, .int .i64 B.op, .int .i64 B.sp, .int .i64 B.an, .int .i64 B.sc, .int .i64 B.md, .int .i64 B.r, .int .i64 B.g, .int .i64 B.b, .int .i64 B.a, .int .i64 B.sd, .slice au nd capu, .bool B.er] 29 (0, 0)) ∧ Below w.heap.size w wr) (fun i _ => n0 - (intOf i).toNat)
      case atStart => exact ⟨0, Nat.zero_le _, rfl, row, kb, hb⟩
      case round =>
        clear row kb hb
        obtain ⟨j, hj, rfl, row, kb, hb⟩ := hrel
        by_cases hjl : j < n0
        · have RC := Lib.hid (fun w (h : RowI w g n0 (fun i => if i < j then dv (cl (ck k i) * cl B.op) 65535 else ck k i)) => h.c j hjl)
          simp only [Nat.lt_irrefl, if_false] at RC
          have RS : Hid (∀ w (h : RowI w g n0 (fun i => if i < j then dv (cl (ck k i) * cl B.op) 65535 else ck k i)), RowI (w.setCell ⟨g, j, none⟩ (.int .i64 (dv (cl (ck k j) * cl B.op) 65535))) g n0 (fun i => if i < j + 1 then dv (cl (ck k i) * cl B.op) 65535 else ck k i)) := fun w h => (h.set j hjl _).congr (fun i _ => by
            by_cases hi : i = j
            · rw [if_pos hi, if_pos (by omega), hi]
            · rw [if_neg hi]
              by_cases hi2 : i < j
              · rw [if_pos hi2, if_pos (by omega)]
              · rw [if_neg hi2, if_neg (by omega)])
          have MU := Lib.hid (fun w => mul_any (ck k j) B.op w)
          generalize dv (cl (ck k j) * cl B.op) 65535 = mv at *
          generalize ck k j = fc at *
          have i1 : (0 : Int) ≤ (j : Int) := by omega
          have i2 : (j : Int) < (n0 : Int) := by omega
          go_upto_region 19 with (fail)
          refine wp_region_grow 9 (fun w' => Below (World.heap wr).size wr w') (by kernel_rfl) (by kernel_rfl) (Below.refl _ _).drew ?_
          simp only [List.take_succ_cons, List.take_zero, List.drop_succ_cons, List.drop_zero]
          repeat (first | (apply wpG_on; rfl; (intro w' hS K hK; have hc0 := (row.kept hS).lt; have hc1 := (kb.kept hS).c16; have hr0 := RC.out _ (row.kept hS); go_simp; (first | exact hK.out _ hS | (go_at_call 17; (with_reducible refine (MU.out _).mono ?_); rintro e w'' ⟨rfl, rfl⟩; exact ⟨_, rfl, hK.out _ hS⟩))); simp only [Act.put, List.setIfInBounds_toArray, List.set_cons_succ, List.set_cons_zero]) | (apply wpG_off; rfl; simp only [Act.put, List.setIfInBounds_toArray, List.set_cons_succ, List.set_cons_zero]))
          apply wpG_nil
          intro W10 hS
          replace row := row.kept hS
          replace kb := kb.kept hS
          replace hb := hb.trans (hS.mono hb.size)
          clear hS
          have cr := RC.out _ row
          go_wp2_with fail
          go_roundw
          case rel => exact ⟨j + 1, by omega, by go_num, RS.out _ row, kb.other (by simp; omega) _, hb.setCell (by simp; omega) _⟩
          case measure => simp only [intOf]; omega
        · obtain rfl : j = n0 := by omega
          go_wp2_with fail
          go_ret2
          exact ⟨g, j, j, rfl, g0, row.lt, row.nn OL.out (by omega) (fun i hi => by rw [OA.out i hi, if_pos hi]), hb⟩
end Go.Proofs.YtieacbccadbdbaaGreatDoor


/- The coverage of a stroke, by the program. -/
namespace Go.Proofs.YtieacbccadbdbaaGreatDoor
open Go.RowKit
set_option linter.unusedVariables false
attribute [local go_sem] Oper.gAt gUponK Oper.sAt stilK



set_option maxHeartbeats 4000000 in
theorem stroke_own (B : Bru) (u v : Value) (ls : List Smp) (W H : Nat) (w : World) (hs : Sines w) (hD : Dn w u B.ds) (hL : Sm w v ls) (hE : (dabs B ls).2 = 0) (hW : 1 ≤ W ∧ W ≤ 256) (hH : 1 ≤ H ∧ H ≤ 256) :
    Calls Tryz.prog 15 #[brv B u, v, .int .i64 W, .int .i64 H] w fun e w' => ∃ (g n c : Nat), e = .returned (.tuple #[.agg #[.int .i64 W, .int .i64 H, .slice (some ⟨g, 0, none⟩) n c], .int .i64 0]) ∧ w.heap.size ≤ g ∧ Nn w' (.slice (some ⟨g, 0, none⟩) n c) (couts B (dabs B ls).1 W H) ∧ Below w.heap.size w w' := by
  have HD := Lib.hid hD
  have HL := Lib.hid hL
  have HSn := Lib.hid hs
  obtain ⟨h0, _, hok, l1, l2, _⟩ := dabs_ok hE
  obtain ⟨a, cap, rfl⟩ := Qn.slice hL
  obtain ⟨au, capu, rfl, _, _⟩ := hD
  have DB := Lib.hid (fun w h h' => dabs_any B (.slice au B.ds.length capu) (.slice a ls.length cap) ls w h h')
  rw [hE] at DB
  have CO := Lib.hid (fun v w hs h h' => coverage_any B (dabs B ls).1 W H (.slice au B.ds.length capu) v w hs h h' h0 hok l2 hW.2 hH.2)
  have IW := Lib.hid (fun w => brWithin_any W 1 256 w)
  have IH := Lib.hid (fun w => brWithin_any H 1 256 w)
  rw [show inB (W : Int) 1 256 = true from decide_eq_true (by omega)] at IW
  rw [show inB (H : Int) 1 256 = true from decide_eq_true (by omega)] at IH
  clear hL hE hs h0 hok l1 l2
  generalize couts B (dabs B ls).1 W H = out at *
  generalize (dabs B ls).1 = ds at *
  generalize ls.length = nl at *
  generalize B.ds.length = nd at *
  go_enter Tryz.func15, Tryz.ntmps15
  go_upto_region 1 with (fail)
  refine name2 (fun W0 kb km hb => ?_)
  have c0 := kb.c16
  go_wp2_with fail
  clear c0
  refine (DB.out _ (HD.out.kept hb) (HL.out.kept hb)).mono ?_
  rintro e W1 ⟨q1, rfl, h1, hS⟩
  replace kb := kb.kept hS
  replace km := km.kept hS
  replace hb := hb.trans (hS.mono hb.size)
  clear hS
  have H1 := Lib.hid h1
  obtain ⟨a1, p1, rfl⟩ := Qn.slice h1
  clear h1
  generalize hmd : ds.length = md at *
  clear hmd
  go_wp2_with fail
  refine (IW.out _).mono ?_
  rintro e w' ⟨rfl, rfl⟩
  go_wp2_with fail
  refine (IH.out _).mono ?_
  rintro e w' ⟨rfl, rfl⟩
  have c0 := kb.c16
  go_wp2_with fail
  clear c0
  refine (CO.out _ _ (HSn.out.kept hb) (HD.out.kept hb) H1.out).mono ?_
  rintro e W2 ⟨g, n, c, rfl, hg, _, hq, hS⟩
  have lm := km.lt
  replace km := km.kept hS
  replace hb := hb.trans (hS.mono hb.size)
  clear hS
  have c3 := km.c3
  go_wp2_with fail
  have hne : ∀ b o x, some (⟨g, 0, none⟩ : Addr) = some ⟨b, o, x⟩ → b ≠ w.heap.size + 1 := fun b o x h => by
    injection h with h
    injection h with h
    omega
  refine bodyPost_ret (v := .tuple #[.agg #[.int .i64 W, .int .i64 H, .slice (some ⟨g, 0, none⟩) n c], .int .i64 0]) (by simp [results, Tryz.results15, go_sem, c3]) rfl ⟨g, n, c, rfl, by omega, nn_kept_set (nn_kept_set (nn_kept_set hq hne _) hne _) hne _, ((hb.setCell (by simp) _).setCell (by simp) _).setCell (by simp) _⟩


end Go.Proofs.YtieacbccadbdbaaGreatDoor

