/- BrushErases: an erasing brush leaves colors and takes alpha away, for every image, brush, list of samples and selection. The package's table of sines is as its text lays it. -/
import Derived.Test.YtjaidcdkkgnfoaaGreatDoorErasesP
import Derived.Test.YtjaidcdkkgnfoaaGreatDoorBrFew
import Derived.Test.YtjaidcdkkgnfoaaGreatDoorLMask
import Derived.Test.YtjaidcdkkgnfoaaGreatDoorPaint
import Derived.Test.YtjaidcdkkgnfoaaGreatDoorLMask
import Derived.Test.YtjaidcdkkgnfoaaGreatDoorBrEx
import Derived.Test.YtjaidcdkkgnfoaaGreatDoorBrOpen
namespace Go.Proofs.YtjaidcdkkgnfoaaGreatDoor.brushErases
open Go.ChangeShapes Go.WideShapes Go.ChangeAt Go.RowKit
set_option linter.unusedVariables false
attribute [local go_sem] Oper.gAt gUponK Oper.sAt stilK

set_option maxRecDepth 20000 in
set_option maxHeartbeats 8000000 in
theorem erases_go (iw ih : Int) (iv : Value) (ps : List Px) (B : Bru) (her : B.er = true) (er0 : Bool) (u lv : Value) (ls : List Smp) (mw mh : Int) (mv : Value) (zs : List Int) (w : World) (hs : Sines w) (hI : Pn w iv ps) (hD : Dn w u B.ds) (hL : Sm w lv ls) (hM : Nn w mv zs) :
    Calls Tryz.prog 4 #[.agg #[.int .i64 iw, .int .i64 ih, iv, .int .i64 B.sz, .int .i64 B.hd, .int .i64 B.rn, .int .i64 B.fl, .int .i64 B.op, .int .i64 B.sp, .int .i64 B.an, .int .i64 B.sc, .int .i64 B.md, .int .i64 B.r, .int .i64 B.g, .int .i64 B.b, .int .i64 B.a, .int .i64 B.sd, u, .bool er0, lv, .int .i64 mw, .int .i64 mh, mv]] w fun e w' => e = .returned (.bool true) ∧ Below w.heap.size w w' := by
  have HI := Lib.hid hI
  have HD := Lib.hid hD
  have HL := Lib.hid hL
  have HM := Lib.hid hM
  have HSn := Lib.hid hs
  obtain ⟨Wm, Hm, E, qs, ho⟩ := paint_out iw ih ps B ls mw mh zs
  obtain ⟨ai, ci, rfl⟩ := hI.slice
  obtain ⟨a, cap, rfl⟩ := Qn.slice hL
  obtain ⟨au, capu, rfl, _, _⟩ := hD
  obtain ⟨am, cm, rfl, _⟩ := hM.slice
  have FW : Hid (∀ w, Dn w (.slice au B.ds.length capu) B.ds → Sm w (.slice a ls.length cap) ls → Calls Tryz.prog 6 #[.agg #[.int .i64 B.sz, .int .i64 B.hd, .int .i64 B.rn, .int .i64 B.fl, .int .i64 B.op, .int .i64 B.sp, .int .i64 B.an, .int .i64 B.sc, .int .i64 B.md, .int .i64 B.r, .int .i64 B.g, .int .i64 B.b, .int .i64 B.a, .int .i64 B.sd, .slice au B.ds.length capu, .bool er0], .slice a ls.length cap, .int .i64 iw, .int .i64 ih] w fun e w' => ∃ b, e = .returned (.bool b) ∧ Below w.heap.size w w') := fun w h h' => few_any { B with er := er0 } (.slice au B.ds.length capu) (.slice a ls.length cap) ls iw ih w h h'
  have S1 : Hid (∀ w, Sines w → Pn w (.slice ai ps.length ci) ps → Dn w (.slice au B.ds.length capu) B.ds → Sm w (.slice a ls.length cap) ls → Nn w (.slice am zs.length cm) zs → Calls Tryz.prog 7 #[.agg #[.int .i64 iw, .int .i64 ih, .slice ai ps.length ci], .agg #[.int .i64 B.sz, .int .i64 B.hd, .int .i64 B.rn, .int .i64 B.fl, .int .i64 B.op, .int .i64 B.sp, .int .i64 B.an, .int .i64 B.sc, .int .i64 B.md, .int .i64 B.r, .int .i64 B.g, .int .i64 B.b, .int .i64 B.a, .int .i64 B.sd, .slice au B.ds.length capu, .bool true], .slice a ls.length cap, .agg #[.int .i64 mw, .int .i64 mh, .slice am zs.length cm]] w fun e w' => ∃ q, e = .returned (.tuple #[.agg #[.int .i64 Wm, .int .i64 Hm, q], .int .i64 E]) ∧ Pn w' q qs ∧ Below w.heap.size w w') := fun w hs h1 h2 h3 h4 => by
    rw [← her]
    exact paint_any iw ih (.slice ai ps.length ci) ps B (.slice au B.ds.length capu) (.slice a ls.length cap) ls mw mh (.slice am zs.length cm) zs Wm Hm E qs w hs h1 h2 h3 h4 ho
  have RC := Lib.hid (fun w h => refRasterCheck_any iw ih (.slice ai ps.length ci) ps w h)
  have EX := Lib.hid example_any
  have FACT : Hid (E = 0 → ichk iw ih ps = 0 → qs.length = ps.length ∧ ps.length ≤ 65536 ∧ ∀ k, k < ps.length → (pxAt qs k).2.2.2 ≤ (pxAt ps k).2.2.2 ∧ (pxAt qs k = ((pxAt ps k).1, (pxAt ps k).2.1, (pxAt ps k).2.2.1, (pxAt qs k).2.2.2) ∨ pxAt qs k = (0, 0, 0, 0))) := fun hE hi => by
    rcases ho with ⟨h1, _⟩ | ⟨_, h2, _, _, e, _⟩ | ⟨_, _, h3, _, _, e, _⟩ | ⟨_, _, _, _, _, _, e, _⟩ | ⟨_, _, _, _, rfl, rfl, _, rfl⟩
    · exact absurd hi h1
    · exact absurd (e.symm.trans hE) h2
    · exact absurd (e.symm.trans hE) h3
    · rw [e] at hE
      cases hE
    · refine ⟨pouts_len _ _ _ _ _ _, (ichk_len hi).1, fun k hk => ?_⟩
      rw [pouts_at _ _ _ _ _ _ _ hk]
      exact erase_at her ((ichk_px hi).2 k hk) _
  clear hI hL hM hs ho her
  generalize hni : ps.length = n at *
  have HNI := Lib.hid hni
  clear hni
  generalize zs.length = nz at *
  generalize ls.length = nl at *
  generalize B.ds.length = nd at *
  generalize hic : ichk iw ih ps = IC at *
  clear hic
  go_enter Tryz.func4, Tryz.ntmps4
  go_upto_region 1 with (fail)
  refine name1 (fun W0 k0 hb => ?_)
  have c0 := k0.c23
  go_wp2_with fail
  clear c0
  refine (FW.out _ (HD.out.kept hb) (HL.out.kept hb)).mono ?_
  rintro e W1 ⟨bf, rfl, hS⟩
  replace k0 := k0.kept hS
  replace hb := hb.trans (hS.mono hb.size)
  clear hS FW
  cases bf
  · go_wp2_with fail
    go_ret
    exact ⟨rfl, hb⟩
  · have c0 := k0.c23
    go_wp2_with fail
    clear c0
    refine (RC.out _ (HI.out.kept hb)).mono ?_
    rintro e W2 ⟨rfl, hS⟩
    replace k0 := k0.kept hS
    replace hb := hb.trans (hS.mono hb.size)
    clear hS RC
    by_cases hi0 : IC = 0
    · subst hi0
      have c0 := k0.c23
      go_upto_region 4 with (fail)
      clear c0
      refine codeGen (fun W3 hW3 => ?_)
      have k0' : Blk W3 w.heap.size (.cells #[.int .i64 iw, .int .i64 ih, .slice ai n ci, .int .i64 B.sz, .int .i64 B.hd, .int .i64 B.rn, .int .i64 B.fl, .int .i64 B.op, .int .i64 B.sp, .int .i64 B.an, .int .i64 B.sc, .int .i64 B.md, .int .i64 B.r, .int .i64 B.g, .int .i64 B.b, .int .i64 B.a, .int .i64 B.sd, .slice au nd capu, .bool true, .slice a nl cap, .int .i64 mw, .int .i64 mh, .slice am nz cm] 35 (0, 0)) := by
        rw [hW3]
        exact k0.set1 18 _ (by simp) rfl
      have hb' : Below w.heap.size w W3 := by
        rw [hW3]
        exact hb.setCell (by simp) _
      clear hW3 k0 hb
      have k0 := k0'
      have hb := hb'
      clear k0' hb'
      have c0 := k0.c23
      go_wp2_with fail
      clear c0
      refine (S1.out _ (HSn.out.kept hb) (HI.out.kept hb) (HD.out.kept hb) (HL.out.kept hb) (HM.out.kept hb)).mono ?_
      rintro e W4 ⟨q, rfl, hq, hS⟩
      replace k0 := k0.kept hS
      replace hb := hb.trans (hS.mono hb.size)
      obtain ⟨aq, cq, rfl⟩ := hq.slice
      have HQ0 := Lib.hid hq
      clear hS hq S1
      go_upto_region 5 with (refine wpList_store_blk rfl _ _ _ rfl W4.heap.size #[.int .i64 Wm, .int .i64 Hm, .slice aq qs.length cq] rfl rfl (heap_alloc_new W4 _) infoImg rfl (by simp [Value.oneCell']) (fun W5 k3 hkx hbx => ?_))
      have HQ := Lib.hid (HQ0.out.kept (((Below.refl _ _).alloc (Nat.le_refl _) _).trans hbx))
      replace k0 := hkx _ _ (by have := k0.lt; omega) (k0.alloc _)
      have h5 : Below w.heap.size w W5 := hb.trans ((((Below.refl _ _).alloc (Nat.le_refl _) _).trans hbx).mono hb.size)
      clear hkx hbx HQ0 hb
      generalize W4.heap.size = b3 at *
      by_cases hE : E = 0
      · subst hE
        obtain ⟨hl, hn65, hpx⟩ := FACT.out (by first | rfl | trivial) (by first | rfl | trivial)
        have HPX := Lib.hid hpx
        generalize qs.length = m at *
        subst hl
        clear hpx FACT
        have c0 := k0.c23
        have c3 := k3.c3
        go_wp2_with fail
        clear c0 c3
        have hb := Below.refl W5.heap.size W5
        obtain ⟨wo, hwo⟩ : ∃ wo, wo = W5 := ⟨_, rfl⟩
        have l0 := k0.lt
        have l3 := k3.lt
        go_loopw [5] (fun i wr => ∃ k : Nat, k ≤ m ∧ i = .int .i64 k ∧ Blk wr w.heap.size (.cells #[.int .i64 iw, .int .i64 ih, .slice ai m ci, .int .i64 B.sz, .int .i64 B.hd, .int .i64 B.rn, .int .i64 B.fl, .int .i64 B.op, .int .i64 B.sp, .int .i64 B.an, .int .i64 B.sc, .int .i64 B.md, .int .i64 B.r, .int .i64 B.g, .int .i64 B.b, .int .i64 B.a, .int .i64 B.sd, .slice au nd capu, .bool true, .slice a nl cap, .int .i64 mw, .int .i64 mh, .slice am nz cm] 35 (0, 0)) ∧ Blk wr b3 (.cells #[.int .i64 Wm, .int .i64 Hm, .slice aq m cq] 24 (0, 0)) ∧ Below W5.heap.size W5 wr) (fun i _ => m - (intOf i).toNat)
        case atStart => exact ⟨0, Nat.zero_le _, rfl, k0, k3, hb⟩
        case round =>
          clear k0 k3 hb hwo
          obtain ⟨k, hk, rfl, k0, k3, hb⟩ := hrel
          have c3 := k3.c3
          by_cases hlt : k < m
          · obtain ⟨b1, off1, rfl, hbl1, hcell1⟩ := HI.out.at k hlt
            obtain ⟨b2, off2, rfl, hbl2, hcell2⟩ := HQ.out.at k hlt
            obtain ⟨f1, f2⟩ := HPX.out k hlt
            generalize pxAt ps k = p at *
            generalize pxAt qs k = q at *
            obtain ⟨p0, p1, p2, p3⟩ := p
            obtain ⟨q0, q1, q2, q3⟩ := q
            simp only [Prod.mk.injEq] at hcell1 hcell2 f1 f2
            have hc := hcell1 wr (h5.trans (hb.mono h5.size))
            have HC1 := Lib.hid hcell1
            have HC2 := Lib.hid hcell2
            clear hcell1 hcell2
            have c0 := k0.c23
            have i1 : (0 : Int) ≤ (k : Int) := by omega
            have i2 : (k : Int) < (m : Int) := by omega
            go_upto_region 13 with (fail)
            clear hc c0 c3
            have lwr := hb.size
            refine name1 (fun W6 kp hS => ?_)
            replace k0 := k0.kept hS
            replace k3 := k3.kept hS
            replace hb := hb.trans (hS.mono hb.size)
            clear hS
            generalize wr.heap.size = xp at *
            have c3 := k3.c3
            have cp := kp.c4
            have hc2 := HC2.out _ hb
            go_upto_region 14 with (fail)
            clear c3 cp hc2
            refine codeGen (fun W7 hW7 => ?_)
            have kp' : Blk W7 xp (.cells #[.int .i64 p0, .int .i64 p1, .int .i64 p2, .int .i64 q3] 26 (0, 0)) := by
              rw [hW7]
              exact kp.set1 3 _ (by simp) rfl
            have kk : ∀ (b : Nat) (o : Obj), b ≠ xp → Blk W6 b o → Blk W7 b o := fun b o hne k => by
              rw [hW7]
              exact k.other hne _
            replace k0 := kk _ _ (by omega) k0
            replace k3 := kk _ _ (by omega) k3
            have hb' : Below W5.heap.size W5 W7 := by
              rw [hW7]
              exact hb.setCell (by simp; omega) _
            clear hW7 kk kp hb
            have kp := kp'
            have hb := hb'
            clear kp' hb'
            have u1 : ¬ p3 < q3 := by omega
            have u2 : decide (p3 < q3) = false := decide_eq_false u1
            rcases f2 with ⟨rfl, rfl, rfl, _⟩ | ⟨rfl, rfl, rfl, rfl⟩
            · skip
              refine wp_region_grow 28 (fun w' => Below (World.heap W7).size W7 w') (by kernel_rfl) (by kernel_rfl) (Below.refl _ _).drew ?_
              simp only [List.take_succ_cons, List.take_zero, List.drop_succ_cons, List.drop_zero]
              repeat (first | (apply wpG_on; rfl; (intro w' hS K hK; have hc0 := (k0.kept hS).c23; have hc1 := (k3.kept hS).c3; have hc2 := (kp.kept hS).c4; have hr0 := HC1.out _ (h5.trans ((hb.trans (hS.mono hb.size)).mono h5.size)); have hr1 := HC2.out _ (hb.trans (hS.mono hb.size)); go_simp; (first | exact hK.out _ hS)); simp only [Act.put, List.setIfInBounds_toArray, List.set_cons_succ, List.set_cons_zero]) | (apply wpG_off; rfl; simp only [Act.put, List.setIfInBounds_toArray, List.set_cons_succ, List.set_cons_zero]))
              apply wpG_nil
              intro W8 hS
              replace k0 := k0.kept hS
              replace k3 := k3.kept hS
              replace kp := kp.kept hS
              replace hb := hb.trans (hS.mono hb.size)
              clear hS
              go_wp2_with fail
              go_roundw
              case rel => exact ⟨k + 1, by omega, by go_num, k0, k3, hb⟩
              case measure => simp only [intOf]; omega
            · by_cases z0 : p0 = 0
              · subst z0
                by_cases z1 : p1 = 0
                · subst z1
                  by_cases z2 : p2 = 0
                  · subst z2
                    refine wp_region_grow 28 (fun w' => Below (World.heap W7).size W7 w') (by kernel_rfl) (by kernel_rfl) (Below.refl _ _).drew ?_
                    simp only [List.take_succ_cons, List.take_zero, List.drop_succ_cons, List.drop_zero]
                    repeat (first | (apply wpG_on; rfl; (intro w' hS K hK; have hc0 := (k0.kept hS).c23; have hc1 := (k3.kept hS).c3; have hc2 := (kp.kept hS).c4; have hr0 := HC1.out _ (h5.trans ((hb.trans (hS.mono hb.size)).mono h5.size)); have hr1 := HC2.out _ (hb.trans (hS.mono hb.size)); go_simp; (first | exact hK.out _ hS)); simp only [Act.put, List.setIfInBounds_toArray, List.set_cons_succ, List.set_cons_zero]) | (apply wpG_off; rfl; simp only [Act.put, List.setIfInBounds_toArray, List.set_cons_succ, List.set_cons_zero]))
                    apply wpG_nil
                    intro W8 hS
                    replace k0 := k0.kept hS
                    replace k3 := k3.kept hS
                    replace kp := kp.kept hS
                    replace hb := hb.trans (hS.mono hb.size)
                    clear hS
                    go_wp2_with fail
                    go_roundw
                    case rel => exact ⟨k + 1, by omega, by go_num, k0, k3, hb⟩
                    case measure => simp only [intOf]; omega
                  · have y2 : ¬ (0 : Int) = p2 := fun h => z2 h.symm
                    refine wp_region_grow 28 (fun w' => Below (World.heap W7).size W7 w') (by kernel_rfl) (by kernel_rfl) (Below.refl _ _).drew ?_
                    simp only [List.take_succ_cons, List.take_zero, List.drop_succ_cons, List.drop_zero]
                    repeat (first | (apply wpG_on; rfl; (intro w' hS K hK; have hc0 := (k0.kept hS).c23; have hc1 := (k3.kept hS).c3; have hc2 := (kp.kept hS).c4; have hr0 := HC1.out _ (h5.trans ((hb.trans (hS.mono hb.size)).mono h5.size)); have hr1 := HC2.out _ (hb.trans (hS.mono hb.size)); go_simp; (first | exact hK.out _ hS)); simp only [Act.put, List.setIfInBounds_toArray, List.set_cons_succ, List.set_cons_zero]) | (apply wpG_off; rfl; simp only [Act.put, List.setIfInBounds_toArray, List.set_cons_succ, List.set_cons_zero]))
                    apply wpG_nil
                    intro W8 hS
                    replace k0 := k0.kept hS
                    replace k3 := k3.kept hS
                    replace kp := kp.kept hS
                    replace hb := hb.trans (hS.mono hb.size)
                    clear hS
                    go_wp2_with fail
                    go_roundw
                    case rel => exact ⟨k + 1, by omega, by go_num, k0, k3, hb⟩
                    case measure => simp only [intOf]; omega
                · have y1 : ¬ (0 : Int) = p1 := fun h => z1 h.symm
                  refine wp_region_grow 28 (fun w' => Below (World.heap W7).size W7 w') (by kernel_rfl) (by kernel_rfl) (Below.refl _ _).drew ?_
                  simp only [List.take_succ_cons, List.take_zero, List.drop_succ_cons, List.drop_zero]
                  repeat (first | (apply wpG_on; rfl; (intro w' hS K hK; have hc0 := (k0.kept hS).c23; have hc1 := (k3.kept hS).c3; have hc2 := (kp.kept hS).c4; have hr0 := HC1.out _ (h5.trans ((hb.trans (hS.mono hb.size)).mono h5.size)); have hr1 := HC2.out _ (hb.trans (hS.mono hb.size)); go_simp; (first | exact hK.out _ hS)); simp only [Act.put, List.setIfInBounds_toArray, List.set_cons_succ, List.set_cons_zero]) | (apply wpG_off; rfl; simp only [Act.put, List.setIfInBounds_toArray, List.set_cons_succ, List.set_cons_zero]))
                  apply wpG_nil
                  intro W8 hS
                  replace k0 := k0.kept hS
                  replace k3 := k3.kept hS
                  replace kp := kp.kept hS
                  replace hb := hb.trans (hS.mono hb.size)
                  clear hS
                  go_wp2_with fail
                  go_roundw
                  case rel => exact ⟨k + 1, by omega, by go_num, k0, k3, hb⟩
                  case measure => simp only [intOf]; omega
              · have y0 : ¬ (0 : Int) = p0 := fun h => z0 h.symm
                refine wp_region_grow 28 (fun w' => Below (World.heap W7).size W7 w') (by kernel_rfl) (by kernel_rfl) (Below.refl _ _).drew ?_
                simp only [List.take_succ_cons, List.take_zero, List.drop_succ_cons, List.drop_zero]
                repeat (first | (apply wpG_on; rfl; (intro w' hS K hK; have hc0 := (k0.kept hS).c23; have hc1 := (k3.kept hS).c3; have hc2 := (kp.kept hS).c4; have hr0 := HC1.out _ (h5.trans ((hb.trans (hS.mono hb.size)).mono h5.size)); have hr1 := HC2.out _ (hb.trans (hS.mono hb.size)); go_simp; (first | exact hK.out _ hS)); simp only [Act.put, List.setIfInBounds_toArray, List.set_cons_succ, List.set_cons_zero]) | (apply wpG_off; rfl; simp only [Act.put, List.setIfInBounds_toArray, List.set_cons_succ, List.set_cons_zero]))
                apply wpG_nil
                intro W8 hS
                replace k0 := k0.kept hS
                replace k3 := k3.kept hS
                replace kp := kp.kept hS
                replace hb := hb.trans (hS.mono hb.size)
                clear hS
                go_wp2_with fail
                go_roundw
                case rel => exact ⟨k + 1, by omega, by go_num, k0, k3, hb⟩
                case measure => simp only [intOf]; omega
          · obtain rfl : k = m := by omega
            go_wp2_with fail
            refine (EX.out _).mono ?_
            rintro e W8 ⟨rfl, hS⟩
            replace hb := h5.trans ((hb.trans (hS.mono hb.size)).mono h5.size)
            go_wp2_with fail
            go_ret
            exact ⟨rfl, hb⟩
      · have be : (E != 0) = true := by simpa using hE
        go_wp2_with fail
        refine (EX.out _).mono ?_
        rintro e W8 ⟨rfl, hS⟩
        replace hb := h5.trans (hS.mono h5.size)
        go_wp2_with fail
        go_ret
        exact ⟨rfl, hb⟩
    · have bi : (IC != 0) = true := by simpa using hi0
      go_wp2_with fail
      go_ret
      exact ⟨rfl, hb⟩

theorem walk (iw ih : Int) (iv : Value) (ps : List Px) (B : Bru) (u lv : Value) (ls : List Smp) (mw mh : Int) (mv : Value) (zs : List Int) (w : World) (hs : Sines w) (hI : Pn w iv ps) (hD : Dn w u B.ds) (hL : Sm w lv ls) (hM : Nn w mv zs) :
    Calls Tryz.prog 4 #[.agg #[.int .i64 iw, .int .i64 ih, iv, .int .i64 B.sz, .int .i64 B.hd, .int .i64 B.rn, .int .i64 B.fl, .int .i64 B.op, .int .i64 B.sp, .int .i64 B.an, .int .i64 B.sc, .int .i64 B.md, .int .i64 B.r, .int .i64 B.g, .int .i64 B.b, .int .i64 B.a, .int .i64 B.sd, u, .bool B.er, lv, .int .i64 mw, .int .i64 mh, mv]] w fun e w' => e = .returned (.bool true) ∧ Below w.heap.size w w' :=
  erases_go iw ih iv ps { B with er := true } rfl B.er u lv ls mw mh mv zs w hs hI hD hL hM
end Go.Proofs.YtjaidcdkkgnfoaaGreatDoor.brushErases

