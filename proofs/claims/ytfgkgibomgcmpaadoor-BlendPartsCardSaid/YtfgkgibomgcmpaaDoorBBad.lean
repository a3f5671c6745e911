/- The errors of blend.Image and of its reference (printed by genbbad.py). -/
import Derived.Test.YtfgkgibomgcmpaaDoorImg
import Derived.Test.YtfgkgibomgcmpaaDoorBlendName
namespace Go.Proofs.YtfgkgibomgcmpaaDoor
open Go.RowKit
set_option linter.unusedVariables false
attribute [local go_sem] Oper.gAt gUponK Oper.sAt stilK

def imgErr (m o bW bH : Int) (bs : List Px) (sW sH : Int) (ss : List Px) : Int :=
  if ¬ (0 ≤ m ∧ m ≤ 17) then 8 else if o < 0 ∨ 65535 < o then 2 else if ichk bW bH bs ≠ 0 then ichk bW bH bs else if ichk sW sH ss ≠ 0 then ichk sW sH ss else if bW ≠ sW ∨ bH ≠ sH then 15 else 0
def img0 : Value := .agg #[.int .i64 0, .int .i64 0, .slice none 0 0]
theorem imgErr_zero {m o bW bH : Int} {bs : List Px} {sW sH : Int} {ss : List Px} (h : imgErr m o bW bH bs sW sH ss = 0) :
    (0 ≤ m ∧ m ≤ 17) ∧ (0 ≤ o ∧ o ≤ 65535) ∧ ichk bW bH bs = 0 ∧ ichk sW sH ss = 0 ∧ bW = sW ∧ bH = sH := by
  unfold imgErr at h
  split at h
  · cases h
  · rename_i a1
    split at h
    · cases h
    · rename_i a2
      split at h
      · rename_i a3; exact absurd h a3
      · rename_i a3
        split at h
        · rename_i a4; exact absurd h a4
        · rename_i a4
          split at h
          · cases h
          · omega

set_option maxHeartbeats 4000000 in
theorem image_bad (m o bW bH sW sH : Int) (vb vs : Value) (bs ss : List Px) (w : World) (hb0 : Pn w vb bs) (hs0 : Pn w vs ss) (he : imgErr m o bW bH bs sW sH ss ≠ 0) :
    Calls Tryd.prog 19 #[.int .i64 m, .int .i64 o, .agg #[.int .i64 bW, .int .i64 bH, vb], .agg #[.int .i64 sW, .int .i64 sH, vs]] w fun e w' => e = .returned (.tuple #[img0, .int .i64 (imgErr m o bW bH bs sW sH ss)]) ∧ Below w.heap.size w w' := by
  have HB := Lib.hid hb0
  have HS := Lib.hid hs0
  obtain ⟨a, cap, rfl⟩ := hb0.slice
  obtain ⟨a', cap', rfl⟩ := hs0.slice
  have HR : Hid (imgErr m o bW bH bs sW sH ss = if ¬ (0 ≤ m ∧ m ≤ 17) then 8 else if o < 0 ∨ 65535 < o then 2 else if ichk bW bH bs ≠ 0 then ichk bW bH bs else if ichk sW sH ss ≠ 0 then ichk sW sH ss else if bW ≠ sW ∨ bH ≠ sH then 15 else 0) := rfl
  clear hb0 hs0
  have HNE := Lib.hid he
  clear he
  generalize imgErr m o bW bH bs sW sH ss = R at *
  generalize bs.length = n at *
  generalize ss.length = n' at *
  by_cases c1 : 0 ≤ m ∧ m ≤ 17
  · have hv : decide (0 ≤ m ∧ m ≤ 17) = true := decide_eq_true c1
    by_cases c2 : o < 0 ∨ 65535 < o
    · have HE : Hid (R = 2) := by show _ = _; rw [HR.out, if_neg (by simpa using c1), if_pos c2]
      clear c1 HR HNE
      rcases c2 with c2 | c2
      · go_enter Tryd.func19, Tryd.ntmps19
        go_upto_region 1 with (fail)
        refine name3 (fun W1 k1 k2 k3 hb => ?_)
        go_wp2_with fail
        refine (bValid_any _ _).mono ?_
        rintro e w' ⟨rfl, rfl⟩
        rw [hv]
        have c3 := k3.c3
        go_wp2_with fail
        refine bodyPost_ret (v := .tuple #[img0, .int .i64 2]) (by simp [img0, results, Tryd.results19, go_sem, c3]) rfl ⟨by rw [HE.out], ((hb.setCell (by simp; omega) _).setCell (by simp; omega) _).setCell (by simp; omega) _⟩
      · go_enter Tryd.func19, Tryd.ntmps19
        go_upto_region 1 with (fail)
        refine name3 (fun W1 k1 k2 k3 hb => ?_)
        go_wp2_with fail
        refine (bValid_any _ _).mono ?_
        rintro e w' ⟨rfl, rfl⟩
        rw [hv]
        have c3 := k3.c3
        go_wp2_with fail
        refine bodyPost_ret (v := .tuple #[img0, .int .i64 2]) (by simp [img0, results, Tryd.results19, go_sem, c3]) rfl ⟨by rw [HE.out], ((hb.setCell (by simp; omega) _).setCell (by simp; omega) _).setCell (by simp; omega) _⟩
    · by_cases c3 : ichk bW bH bs = 0
      · by_cases c4 : ichk sW sH ss = 0
        · have c5 : bW ≠ sW ∨ bH ≠ sH := by
            apply Decidable.byContradiction
            intro hc
            apply HNE.out
            rw [HR.out, if_neg (by simpa using c1), if_neg c2, if_neg (by simpa using c3), if_neg (by simpa using c4), if_neg hc]
          have HE : Hid (R = 15) := by show _ = _; rw [HR.out, if_neg (by simpa using c1), if_neg c2, if_neg (by simpa using c3), if_neg (by simpa using c4), if_pos c5]
          have H3 := Lib.hid c3
          have H4 := Lib.hid c4
          have q1 : ¬ o < 0 := by omega
          have q2 : ¬ 65535 < o := by omega
          clear c1 c2 c3 c4 HR HNE
          by_cases c6 : bW = sW
          · subst c6
            have c7 : (bH != sH) = true := by simpa using c5
            clear c5
            go_enter Tryd.func19, Tryd.ntmps19
            go_upto_region 1 with (fail)
            refine name3 (fun W1 k1 k2 k3 hb => ?_)
            go_wp2_with fail
            refine (bValid_any _ _).mono ?_
            rintro e w' ⟨rfl, rfl⟩
            rw [hv]
            have d1 := k1.c3
            have d2 := k2.c3
            go_wp2_with fail
            clear d1 d2
            refine (check_any _ _ _ _ _ (HB.out.kept hb)).mono ?_
            rintro e W2 ⟨rfl, hS⟩
            replace k1 := k1.kept hS
            replace k2 := k2.kept hS
            replace k3 := k3.kept hS
            replace hb := hb.trans (hS.mono hb.size)
            clear hS
            rw [H3.out]
            have d1 := k1.c3
            have d2 := k2.c3
            go_wp2_with fail
            clear d1 d2
            refine (check_any _ _ _ _ _ (HS.out.kept hb)).mono ?_
            rintro e W3 ⟨rfl, hS⟩
            replace k1 := k1.kept hS
            replace k2 := k2.kept hS
            replace k3 := k3.kept hS
            replace hb := hb.trans (hS.mono hb.size)
            clear hS
            rw [H4.out]
            have d1 := k1.c3
            have d2 := k2.c3
            have d3 := k3.c3
            go_wp2_with fail
            refine bodyPost_ret (v := .tuple #[img0, .int .i64 15]) (by simp [img0, results, Tryd.results19, go_sem, d3]) rfl ⟨by rw [HE.out], ((hb.setCell (by simp; omega) _).setCell (by simp; omega) _).setCell (by simp; omega) _⟩
          · have c7 : (bW != sW) = true := by simpa using c6
            clear c5 c6
            go_enter Tryd.func19, Tryd.ntmps19
            go_upto_region 1 with (fail)
            refine name3 (fun W1 k1 k2 k3 hb => ?_)
            go_wp2_with fail
            refine (bValid_any _ _).mono ?_
            rintro e w' ⟨rfl, rfl⟩
            rw [hv]
            have d1 := k1.c3
            have d2 := k2.c3
            go_wp2_with fail
            clear d1 d2
            refine (check_any _ _ _ _ _ (HB.out.kept hb)).mono ?_
            rintro e W2 ⟨rfl, hS⟩
            replace k1 := k1.kept hS
            replace k2 := k2.kept hS
            replace k3 := k3.kept hS
            replace hb := hb.trans (hS.mono hb.size)
            clear hS
            rw [H3.out]
            have d1 := k1.c3
            have d2 := k2.c3
            go_wp2_with fail
            clear d1 d2
            refine (check_any _ _ _ _ _ (HS.out.kept hb)).mono ?_
            rintro e W3 ⟨rfl, hS⟩
            replace k1 := k1.kept hS
            replace k2 := k2.kept hS
            replace k3 := k3.kept hS
            replace hb := hb.trans (hS.mono hb.size)
            clear hS
            rw [H4.out]
            have d1 := k1.c3
            have d2 := k2.c3
            have d3 := k3.c3
            go_wp2_with fail
            refine bodyPost_ret (v := .tuple #[img0, .int .i64 15]) (by simp [img0, results, Tryd.results19, go_sem, d3]) rfl ⟨by rw [HE.out], ((hb.setCell (by simp; omega) _).setCell (by simp; omega) _).setCell (by simp; omega) _⟩
        · have HE : Hid (R = ichk sW sH ss) := by show _ = _; rw [HR.out, if_neg (by simpa using c1), if_neg c2, if_neg (by simpa using c3), if_pos c4]
          have H3 := Lib.hid c3
          have q1 : ¬ o < 0 := by omega
          have q2 : ¬ 65535 < o := by omega
          clear c1 c2 c3 HR HNE
          generalize hE : ichk sW sH ss = E at *
          have c8 : (E != 0) = true := by simpa using c4
          have HEE := Lib.hid hE
          clear hE c4
          go_enter Tryd.func19, Tryd.ntmps19
          go_upto_region 1 with (fail)
          refine name3 (fun W1 k1 k2 k3 hb => ?_)
          go_wp2_with fail
          refine (bValid_any _ _).mono ?_
          rintro e w' ⟨rfl, rfl⟩
          rw [hv]
          have d1 := k1.c3
          have d2 := k2.c3
          go_wp2_with fail
          clear d1 d2
          refine (check_any _ _ _ _ _ (HB.out.kept hb)).mono ?_
          rintro e W2 ⟨rfl, hS⟩
          replace k1 := k1.kept hS
          replace k2 := k2.kept hS
          replace k3 := k3.kept hS
          replace hb := hb.trans (hS.mono hb.size)
          clear hS
          rw [H3.out]
          have d1 := k1.c3
          have d2 := k2.c3
          go_wp2_with fail
          clear d1 d2
          refine (check_any _ _ _ _ _ (HS.out.kept hb)).mono ?_
          rintro e W3 ⟨rfl, hS⟩
          replace k1 := k1.kept hS
          replace k2 := k2.kept hS
          replace k3 := k3.kept hS
          replace hb := hb.trans (hS.mono hb.size)
          clear hS
          rw [HEE.out]
          have d3 := k3.c3
          go_wp2_with fail
          refine bodyPost_ret (v := .tuple #[img0, .int .i64 E]) (by simp [img0, results, Tryd.results19, go_sem, d3]) rfl ⟨by rw [HE.out], ((hb.setCell (by simp; omega) _).setCell (by simp; omega) _).setCell (by simp; omega) _⟩
      · have HE : Hid (R = ichk bW bH bs) := by show _ = _; rw [HR.out, if_neg (by simpa using c1), if_neg c2, if_pos c3]
        have q1 : ¬ o < 0 := by omega
        have q2 : ¬ 65535 < o := by omega
        clear c1 c2 HR HNE
        generalize hE : ichk bW bH bs = E at *
        have c8 : (E != 0) = true := by simpa using c3
        have HEE := Lib.hid hE
        clear hE c3
        go_enter Tryd.func19, Tryd.ntmps19
        go_upto_region 1 with (fail)
        refine name3 (fun W1 k1 k2 k3 hb => ?_)
        go_wp2_with fail
        refine (bValid_any _ _).mono ?_
        rintro e w' ⟨rfl, rfl⟩
        rw [hv]
        have d1 := k1.c3
        have d2 := k2.c3
        go_wp2_with fail
        clear d1 d2
        refine (check_any _ _ _ _ _ (HB.out.kept hb)).mono ?_
        rintro e W2 ⟨rfl, hS⟩
        replace k1 := k1.kept hS
        replace k2 := k2.kept hS
        replace k3 := k3.kept hS
        replace hb := hb.trans (hS.mono hb.size)
        clear hS
        rw [HEE.out]
        have d3 := k3.c3
        go_wp2_with fail
        refine bodyPost_ret (v := .tuple #[img0, .int .i64 E]) (by simp [img0, results, Tryd.results19, go_sem, d3]) rfl ⟨by rw [HE.out], ((hb.setCell (by simp; omega) _).setCell (by simp; omega) _).setCell (by simp; omega) _⟩
  · have hv : decide (0 ≤ m ∧ m ≤ 17) = false := decide_eq_false c1
    have HE : Hid (R = 8) := by show _ = _; rw [HR.out, if_pos c1]
    clear c1 HR HNE
    go_enter Tryd.func19, Tryd.ntmps19
    go_upto_region 1 with (fail)
    refine name3 (fun W1 k1 k2 k3 hb => ?_)
    go_wp2_with fail
    refine (bValid_any _ _).mono ?_
    rintro e w' ⟨rfl, rfl⟩
    rw [hv]
    have c3 := k3.c3
    go_wp2_with fail
    refine bodyPost_ret (v := .tuple #[img0, .int .i64 8]) (by simp [img0, results, Tryd.results19, go_sem, c3]) rfl ⟨by rw [HE.out], ((hb.setCell (by simp; omega) _).setCell (by simp; omega) _).setCell (by simp; omega) _⟩

set_option maxHeartbeats 4000000 in
theorem refImage_bad (m o bW bH sW sH : Int) (vb vs : Value) (bs ss : List Px) (w : World) (hb0 : Pn w vb bs) (hs0 : Pn w vs ss) (he : imgErr m o bW bH bs sW sH ss ≠ 0) :
    Calls Tryd.prog 20 #[.int .i64 m, .int .i64 o, .agg #[.int .i64 bW, .int .i64 bH, vb], .agg #[.int .i64 sW, .int .i64 sH, vs]] w fun e w' => e = .returned (.tuple #[img0, .int .i64 (imgErr m o bW bH bs sW sH ss)]) ∧ Below w.heap.size w w' := by
  have HB := Lib.hid hb0
  have HS := Lib.hid hs0
  obtain ⟨a, cap, rfl⟩ := hb0.slice
  obtain ⟨a', cap', rfl⟩ := hs0.slice
  have HR : Hid (imgErr m o bW bH bs sW sH ss = if ¬ (0 ≤ m ∧ m ≤ 17) then 8 else if o < 0 ∨ 65535 < o then 2 else if ichk bW bH bs ≠ 0 then ichk bW bH bs else if ichk sW sH ss ≠ 0 then ichk sW sH ss else if bW ≠ sW ∨ bH ≠ sH then 15 else 0) := rfl
  clear hb0 hs0
  have HNE := Lib.hid he
  clear he
  generalize imgErr m o bW bH bs sW sH ss = R at *
  generalize bs.length = n at *
  generalize ss.length = n' at *
  by_cases c1 : 0 ≤ m ∧ m ≤ 17
  · have hv : decide (0 ≤ m ∧ m ≤ 17) = true := decide_eq_true c1
    by_cases c2 : o < 0 ∨ 65535 < o
    · have HE : Hid (R = 2) := by show _ = _; rw [HR.out, if_neg (by simpa using c1), if_pos c2]
      clear c1 HR HNE
      rcases c2 with c2 | c2
      · go_enter Tryd.func20, Tryd.ntmps20
        go_upto_region 1 with (fail)
        refine name3 (fun W1 k1 k2 k3 hb => ?_)
        go_wp2_with fail
        refine (refBValid_any _ _).mono ?_
        rintro e w' ⟨rfl, rfl⟩
        rw [hv]
        have c3 := k3.c3
        go_wp2_with fail
        refine bodyPost_ret (v := .tuple #[img0, .int .i64 2]) (by simp [img0, results, Tryd.results20, go_sem, c3]) rfl ⟨by rw [HE.out], ((hb.setCell (by simp; omega) _).setCell (by simp; omega) _).setCell (by simp; omega) _⟩
      · go_enter Tryd.func20, Tryd.ntmps20
        go_upto_region 1 with (fail)
        refine name3 (fun W1 k1 k2 k3 hb => ?_)
        go_wp2_with fail
        refine (refBValid_any _ _).mono ?_
        rintro e w' ⟨rfl, rfl⟩
        rw [hv]
        have c3 := k3.c3
        go_wp2_with fail
        refine bodyPost_ret (v := .tuple #[img0, .int .i64 2]) (by simp [img0, results, Tryd.results20, go_sem, c3]) rfl ⟨by rw [HE.out], ((hb.setCell (by simp; omega) _).setCell (by simp; omega) _).setCell (by simp; omega) _⟩
    · by_cases c3 : ichk bW bH bs = 0
      · by_cases c4 : ichk sW sH ss = 0
        · have c5 : bW ≠ sW ∨ bH ≠ sH := by
            apply Decidable.byContradiction
            intro hc
            apply HNE.out
            rw [HR.out, if_neg (by simpa using c1), if_neg c2, if_neg (by simpa using c3), if_neg (by simpa using c4), if_neg hc]
          have HE : Hid (R = 15) := by show _ = _; rw [HR.out, if_neg (by simpa using c1), if_neg c2, if_neg (by simpa using c3), if_neg (by simpa using c4), if_pos c5]
          have H3 := Lib.hid c3
          have H4 := Lib.hid c4
          have q1 : ¬ o < 0 := by omega
          have q2 : ¬ 65535 < o := by omega
          clear c1 c2 c3 c4 HR HNE
          by_cases c6 : bW = sW
          · subst c6
            have c7 : (bH != sH) = true := by simpa using c5
            clear c5
            go_enter Tryd.func20, Tryd.ntmps20
            go_upto_region 1 with (fail)
            refine name3 (fun W1 k1 k2 k3 hb => ?_)
            go_wp2_with fail
            refine (refBValid_any _ _).mono ?_
            rintro e w' ⟨rfl, rfl⟩
            rw [hv]
            have d1 := k1.c3
            have d2 := k2.c3
            go_wp2_with fail
            clear d1 d2
            refine (valued_any _ _ _ _ _ (HB.out.kept hb)).mono ?_
            rintro e W2 ⟨rfl, hS⟩
            replace k1 := k1.kept hS
            replace k2 := k2.kept hS
            replace k3 := k3.kept hS
            replace hb := hb.trans (hS.mono hb.size)
            clear hS
            rw [H3.out]
            have d1 := k1.c3
            have d2 := k2.c3
            go_wp2_with fail
            clear d1 d2
            refine (valued_any _ _ _ _ _ (HS.out.kept hb)).mono ?_
            rintro e W3 ⟨rfl, hS⟩
            replace k1 := k1.kept hS
            replace k2 := k2.kept hS
            replace k3 := k3.kept hS
            replace hb := hb.trans (hS.mono hb.size)
            clear hS
            rw [H4.out]
            have d1 := k1.c3
            have d2 := k2.c3
            have d3 := k3.c3
            go_wp2_with fail
            refine bodyPost_ret (v := .tuple #[img0, .int .i64 15]) (by simp [img0, results, Tryd.results20, go_sem, d3]) rfl ⟨by rw [HE.out], ((hb.setCell (by simp; omega) _).setCell (by simp; omega) _).setCell (by simp; omega) _⟩
          · have c7 : (bW != sW) = true := by simpa using c6
            clear c5 c6
            go_enter Tryd.func20, Tryd.ntmps20
            go_upto_region 1 with (fail)
            refine name3 (fun W1 k1 k2 k3 hb => ?_)
            go_wp2_with fail
            refine (refBValid_any _ _).mono ?_
            rintro e w' ⟨rfl, rfl⟩
            rw [hv]
            have d1 := k1.c3
            have d2 := k2.c3
            go_wp2_with fail
            clear d1 d2
            refine (valued_any _ _ _ _ _ (HB.out.kept hb)).mono ?_
            rintro e W2 ⟨rfl, hS⟩
            replace k1 := k1.kept hS
            replace k2 := k2.kept hS
            replace k3 := k3.kept hS
            replace hb := hb.trans (hS.mono hb.size)
            clear hS
            rw [H3.out]
            have d1 := k1.c3
            have d2 := k2.c3
            go_wp2_with fail
            clear d1 d2
            refine (valued_any _ _ _ _ _ (HS.out.kept hb)).mono ?_
            rintro e W3 ⟨rfl, hS⟩
            replace k1 := k1.kept hS
            replace k2 := k2.kept hS
            replace k3 := k3.kept hS
            replace hb := hb.trans (hS.mono hb.size)
            clear hS
            rw [H4.out]
            have d1 := k1.c3
            have d2 := k2.c3
            have d3 := k3.c3
            go_wp2_with fail
            refine bodyPost_ret (v := .tuple #[img0, .int .i64 15]) (by simp [img0, results, Tryd.results20, go_sem, d3]) rfl ⟨by rw [HE.out], ((hb.setCell (by simp; omega) _).setCell (by simp; omega) _).setCell (by simp; omega) _⟩
        · have HE : Hid (R = ichk sW sH ss) := by show _ = _; rw [HR.out, if_neg (by simpa using c1), if_neg c2, if_neg (by simpa using c3), if_pos c4]
          have H3 := Lib.hid c3
          have q1 : ¬ o < 0 := by omega
          have q2 : ¬ 65535 < o := by omega
          clear c1 c2 c3 HR HNE
          generalize hE : ichk sW sH ss = E at *
          have c8 : (E != 0) = true := by simpa using c4
          have HEE := Lib.hid hE
          clear hE c4
          go_enter Tryd.func20, Tryd.ntmps20
          go_upto_region 1 with (fail)
          refine name3 (fun W1 k1 k2 k3 hb => ?_)
          go_wp2_with fail
          refine (refBValid_any _ _).mono ?_
          rintro e w' ⟨rfl, rfl⟩
          rw [hv]
          have d1 := k1.c3
          have d2 := k2.c3
          go_wp2_with fail
          clear d1 d2
          refine (valued_any _ _ _ _ _ (HB.out.kept hb)).mono ?_
          rintro e W2 ⟨rfl, hS⟩
          replace k1 := k1.kept hS
          replace k2 := k2.kept hS
          replace k3 := k3.kept hS
          replace hb := hb.trans (hS.mono hb.size)
          clear hS
          rw [H3.out]
          have d1 := k1.c3
          have d2 := k2.c3
          go_wp2_with fail
          clear d1 d2
          refine (valued_any _ _ _ _ _ (HS.out.kept hb)).mono ?_
          rintro e W3 ⟨rfl, hS⟩
          replace k1 := k1.kept hS
          replace k2 := k2.kept hS
          replace k3 := k3.kept hS
          replace hb := hb.trans (hS.mono hb.size)
          clear hS
          rw [HEE.out]
          have d3 := k3.c3
          go_wp2_with fail
          refine bodyPost_ret (v := .tuple #[img0, .int .i64 E]) (by simp [img0, results, Tryd.results20, go_sem, d3]) rfl ⟨by rw [HE.out], ((hb.setCell (by simp; omega) _).setCell (by simp; omega) _).setCell (by simp; omega) _⟩
      · have HE : Hid (R = ichk bW bH bs) := by show _ = _; rw [HR.out, if_neg (by simpa using c1), if_neg c2, if_pos c3]
        have q1 : ¬ o < 0 := by omega
        have q2 : ¬ 65535 < o := by omega
        clear c1 c2 HR HNE
        generalize hE : ichk bW bH bs = E at *
        have c8 : (E != 0) = true := by simpa using c3
        have HEE := Lib.hid hE
        clear hE c3
        go_enter Tryd.func20, Tryd.ntmps20
        go_upto_region 1 with (fail)
        refine name3 (fun W1 k1 k2 k3 hb => ?_)
        go_wp2_with fail
        refine (refBValid_any _ _).mono ?_
        rintro e w' ⟨rfl, rfl⟩
        rw [hv]
        have d1 := k1.c3
        have d2 := k2.c3
        go_wp2_with fail
        clear d1 d2
        refine (valued_any _ _ _ _ _ (HB.out.kept hb)).mono ?_
        rintro e W2 ⟨rfl, hS⟩
        replace k1 := k1.kept hS
        replace k2 := k2.kept hS
        replace k3 := k3.kept hS
        replace hb := hb.trans (hS.mono hb.size)
        clear hS
        rw [HEE.out]
        have d3 := k3.c3
        go_wp2_with fail
        refine bodyPost_ret (v := .tuple #[img0, .int .i64 E]) (by simp [img0, results, Tryd.results20, go_sem, d3]) rfl ⟨by rw [HE.out], ((hb.setCell (by simp; omega) _).setCell (by simp; omega) _).setCell (by simp; omega) _⟩
  · have hv : decide (0 ≤ m ∧ m ≤ 17) = false := decide_eq_false c1
    have HE : Hid (R = 8) := by show _ = _; rw [HR.out, if_pos c1]
    clear c1 HR HNE
    go_enter Tryd.func20, Tryd.ntmps20
    go_upto_region 1 with (fail)
    refine name3 (fun W1 k1 k2 k3 hb => ?_)
    go_wp2_with fail
    refine (refBValid_any _ _).mono ?_
    rintro e w' ⟨rfl, rfl⟩
    rw [hv]
    have c3 := k3.c3
    go_wp2_with fail
    refine bodyPost_ret (v := .tuple #[img0, .int .i64 8]) (by simp [img0, results, Tryd.results20, go_sem, c3]) rfl ⟨by rw [HE.out], ((hb.setCell (by simp; omega) _).setCell (by simp; omega) _).setCell (by simp; omega) _⟩

end Go.Proofs.YtfgkgibomgcmpaaDoor
