/- imageeditorref18.Place; Check, by the program and by the reference. -/
import Derived.Test.YtmejdhgknebbbaaGPlaces
namespace Go.Proofs.Ytmejdhgknebbbaa
open Go.RowKit
set_option linter.unusedVariables false
attribute [local go_sem] Oper.gAt gUponK

set_option maxHeartbeats 2000000 in
theorem refPlace_any (kind spread x y : Int) (v : Value) (zs : List Int) (w : World) (h : Nn w v zs) :
    Calls Try.prog 17 #[.int .i64 kind, v, .int .i64 spread, .int .i64 x, .int .i64 y] w fun e w' => e = .returned (.int .i64 (gPlace kind zs spread x y)) ∧ Below w.heap.size w w' := by
  have HD := Lib.hid (fun w h => head_any kind spread v zs w h)
  have HN := Lib.hid h
  obtain ⟨a, cap, rfl, hlen⟩ := h.slice
  by_cases h0 : gHead kind zs.length spread = 0
  · have hz := gHead_zero h0
    have NB := Lib.hid (fun w h => numbers_any kind (.slice a zs.length cap) zs w h ⟨hz.1, hz.2.1⟩ (by omega))
    by_cases h1 : gNum kind zs = 0
    · have hok : gOk kind zs spread = true := by unfold gOk; simp [h0, h1]
      have hr := gRaw_bd hok (cc_bd x) (cc_bd y)
      have HE : Hid (gPlace kind zs spread x y = fol spread (gRaw kind zs (cc x) (cc y))) := if_pos hok
      have C1 := Lib.hid (fun w h => plain_any kind spread (cc x) (cc y) (.slice a zs.length cap) zs w h hok (cc_bd x) (cc_bd y))
      have H0 := Lib.hid h0
      have H1 := Lib.hid h1
      rw [HE.out]
      clear h h0 h1 hok
      generalize gRaw kind zs (cc x) (cc y) = T at *
      have hsp : spread = 0 ∨ spread = 1 ∨ (spread = 2 ∧ 65535 < T % 131072) ∨ (spread = 2 ∧ ¬ 65535 < T % 131072) := by omega
      have hm1 : 0 ≤ T % 131072 ∧ T % 131072 < 131072 := by omega
      have F1 := Lib.hid (fol2a T)
      have F2 := Lib.hid (fol2b T)
      have M1 := Lib.hid (fun w => mod_any T 65536 w (by omega) (by omega) (by omega) (by omega))
      have M2 := Lib.hid (fun w => mod_any T 131072 w (by omega) (by omega) (by omega) (by omega))
      rcases hsp with rfl | rfl | ⟨rfl, hm⟩ | ⟨rfl, hm⟩
      · go_enter Try.func17, Try.ntmps17
        go_wp2_with fail
        refine (HD.out _ HN.out).mono ?_
        rintro e w' ⟨rfl, rfl⟩
        rw [H0.out]
        go_wp2_with fail
        refine (NB.out _ HN.out).mono ?_
        rintro e w' ⟨rfl, rfl⟩
        rw [H1.out]
        go_wp2_with fail
        refine (refClamp_any _ _ _ _).mono ?_
        rintro e w' ⟨rfl, rfl⟩
        go_wp2_with fail
        refine (refClamp_any _ _ _ _).mono ?_
        rintro e w' ⟨rfl, rfl⟩
        rw [cc_clamp, cc_clamp]
        go_wp2_with fail
        refine (C1.out _ HN.out).mono ?_
        rintro e w1 ⟨rfl, hb⟩
        go_wp2_with fail
        refine (refU_any _ _).mono ?_
        rintro e w' ⟨rfl, rfl⟩
        go_wp2_with fail
        go_ret
        exact ⟨rfl, hb⟩
      · go_enter Try.func17, Try.ntmps17
        go_wp2_with fail
        refine (HD.out _ HN.out).mono ?_
        rintro e w' ⟨rfl, rfl⟩
        rw [H0.out]
        go_wp2_with fail
        refine (NB.out _ HN.out).mono ?_
        rintro e w' ⟨rfl, rfl⟩
        rw [H1.out]
        go_wp2_with fail
        refine (refClamp_any _ _ _ _).mono ?_
        rintro e w' ⟨rfl, rfl⟩
        go_wp2_with fail
        refine (refClamp_any _ _ _ _).mono ?_
        rintro e w' ⟨rfl, rfl⟩
        rw [cc_clamp, cc_clamp]
        go_wp2_with fail
        refine (C1.out _ HN.out).mono ?_
        rintro e w1 ⟨rfl, hb⟩
        go_wp2_with fail
        refine (M1.out _).mono ?_
        rintro e w2 ⟨rfl, hb2⟩
        go_wp2_with fail
        go_ret
        exact ⟨rfl, hb.trans (hb2.mono hb.size)⟩
      · go_enter Try.func17, Try.ntmps17
        go_wp2_with fail
        refine (HD.out _ HN.out).mono ?_
        rintro e w' ⟨rfl, rfl⟩
        rw [H0.out]
        go_wp2_with fail
        refine (NB.out _ HN.out).mono ?_
        rintro e w' ⟨rfl, rfl⟩
        rw [H1.out]
        go_wp2_with fail
        refine (refClamp_any _ _ _ _).mono ?_
        rintro e w' ⟨rfl, rfl⟩
        go_wp2_with fail
        refine (refClamp_any _ _ _ _).mono ?_
        rintro e w' ⟨rfl, rfl⟩
        rw [cc_clamp, cc_clamp]
        go_wp2_with fail
        refine (C1.out _ HN.out).mono ?_
        rintro e w1 ⟨rfl, hb⟩
        go_wp2_with fail
        refine (M2.out _).mono ?_
        rintro e w2 ⟨rfl, hb2⟩
        go_wp2_with fail
        go_ret
        exact ⟨ret_int (by rw [F1.out hm]), hb.trans (hb2.mono hb.size)⟩
      · go_enter Try.func17, Try.ntmps17
        go_wp2_with fail
        refine (HD.out _ HN.out).mono ?_
        rintro e w' ⟨rfl, rfl⟩
        rw [H0.out]
        go_wp2_with fail
        refine (NB.out _ HN.out).mono ?_
        rintro e w' ⟨rfl, rfl⟩
        rw [H1.out]
        go_wp2_with fail
        refine (refClamp_any _ _ _ _).mono ?_
        rintro e w' ⟨rfl, rfl⟩
        go_wp2_with fail
        refine (refClamp_any _ _ _ _).mono ?_
        rintro e w' ⟨rfl, rfl⟩
        rw [cc_clamp, cc_clamp]
        go_wp2_with fail
        refine (C1.out _ HN.out).mono ?_
        rintro e w1 ⟨rfl, hb⟩
        go_wp2_with fail
        refine (M2.out _).mono ?_
        rintro e w2 ⟨rfl, hb2⟩
        go_wp2_with fail
        go_ret
        exact ⟨ret_int (by rw [F2.out (by omega)]), hb.trans (hb2.mono hb.size)⟩
    · have HE : Hid (gPlace kind zs spread x y = 0) := if_neg (by unfold gOk; simp [h1])
      have b1 : (gNum kind zs != 0) = true := by simpa using h1
      have H0 := Lib.hid h0
      rw [HE.out]
      clear h h0 h1
      generalize gNum kind zs = E at *
      go_enter Try.func17, Try.ntmps17
      go_wp2_with fail
      refine (HD.out _ HN.out).mono ?_
      rintro e w' ⟨rfl, rfl⟩
      rw [H0.out]
      go_wp2_with fail
      refine (NB.out _ HN.out).mono ?_
      rintro e w' ⟨rfl, rfl⟩
      go_wp2_with fail
      go_ret
      exact ⟨rfl, Below.refl _ _⟩
  · have HE : Hid (gPlace kind zs spread x y = 0) := if_neg (by unfold gOk; simp [h0])
    have b1 : (gHead kind zs.length spread != 0) = true := by simpa using h0
    rw [HE.out]
    clear h h0
    generalize gHead kind zs.length spread = E at *
    go_enter Try.func17, Try.ntmps17
    go_wp2_with fail
    refine (HD.out _ HN.out).mono ?_
    rintro e w' ⟨rfl, rfl⟩
    go_wp2_with fail
    go_ret
    exact ⟨rfl, Below.refl _ _⟩

/-- The error of a gradient. -/
def gChk (kind : Int) (zs : List Int) (spread : Int) (ss : List St) : Int :=
  if gHead kind zs.length spread ≠ 0 then gHead kind zs.length spread else if ss.length = 0 then 1 else if 16 < ss.length then 3 else if gNum kind zs ≠ 0 then gNum kind zs else sStops ss
theorem gChk_par (kind : Int) (zs : List Int) (spread : Int) (ss : List St) : gChk kind zs spread ss = if gPar kind zs spread ss.length ≠ 0 then gPar kind zs spread ss.length else sStops ss := by
  unfold gChk gPar
  by_cases h0 : gHead kind zs.length spread = 0
  · simp only [h0, ne_eq, not_true_eq_false, if_false]
    by_cases h1 : ss.length = 0
    · have : (ss.length : Int) = 0 := by omega
      simp [h1]
    · have e1 : ¬ (ss.length : Int) = 0 := by omega
      simp only [h1, e1, if_false]
      by_cases h2 : 16 < ss.length
      · have e2 : (16 : Int) < (ss.length : Int) := by omega
        simp [h2, e2]
      · have e2 : ¬ (16 : Int) < (ss.length : Int) := by omega
        simp only [h2, e2, if_false]
  · simp only [h0, ne_eq, not_false_eq_true, if_true]

set_option maxHeartbeats 1000000 in
theorem Check_any (kind spread : Int) (v u : Value) (zs : List Int) (ss : List St) (w : World) (h : Nn w v zs) (hs : Sn w u ss) :
    Calls Try.prog 11 #[.int .i64 kind, v, .int .i64 spread, u] w fun e w' => e = .returned (.int .i64 (gChk kind zs spread ss)) ∧ Below w.heap.size w w' := by
  have CP := Lib.hid (fun m w h => checkParams_any kind spread m v zs w h)
  have CS := Lib.hid (fun w h => checkStops_any u ss w h)
  have HN := Lib.hid h
  have HS := Lib.hid hs
  have HE := Lib.hid (gChk_par kind zs spread ss)
  obtain ⟨a, cap, rfl, hlen⟩ := h.slice
  obtain ⟨a', cap', rfl, hlen'⟩ := hs.slice
  rw [HE.out]
  clear h hs HE
  by_cases h0 : gPar kind zs spread ss.length = 0
  · rw [if_neg (by simpa using h0)]
    have H0 := Lib.hid h0
    clear h0
    generalize ss.length = n at *
    generalize zs.length = n' at *
    go_enter Try.func11, Try.ntmps11
    go_wp2_with fail
    refine (CP.out _ _ HN.out).mono ?_
    rintro e w' ⟨rfl, rfl⟩
    rw [H0.out]
    go_wp2_with fail
    refine (CS.out _ HS.out).mono ?_
    rintro e w1 ⟨rfl, hb⟩
    go_wp2_with fail
    go_ret
    exact ⟨rfl, hb⟩
  · rw [if_pos h0]
    have b0 : (gPar kind zs spread ss.length != 0) = true := by simpa using h0
    clear h0
    replace CP := Lib.hid (CP.out ss.length)
    generalize gPar kind zs spread ss.length = E at *
    generalize ss.length = n at *
    generalize zs.length = n' at *
    go_enter Try.func11, Try.ntmps11
    go_wp2_with fail
    refine (CP.out _ HN.out).mono ?_
    rintro e w' ⟨rfl, rfl⟩
    go_wp2_with fail
    go_ret
    exact ⟨rfl, Below.refl _ _⟩

set_option maxHeartbeats 2000000 in
theorem refCheck_any (kind spread : Int) (v u : Value) (zs : List Int) (ss : List St) (w : World) (h : Nn w v zs) (hs : Sn w u ss) :
    Calls Try.prog 12 #[.int .i64 kind, v, .int .i64 spread, u] w fun e w' => e = .returned (.int .i64 (gChk kind zs spread ss)) ∧ Below w.heap.size w w' := by
  have HD := Lib.hid (fun w h => head_any kind spread v zs w h)
  have CS := Lib.hid (fun w h => refStops_any u ss w h)
  have HN := Lib.hid h
  have HS := Lib.hid hs
  obtain ⟨a, cap, rfl, hlen⟩ := h.slice
  obtain ⟨a', cap', rfl, hlen'⟩ := hs.slice
  by_cases h0 : gHead kind zs.length spread = 0
  · have hz := gHead_zero h0
    have NB := Lib.hid (fun w h => numbers_any kind (.slice a zs.length cap) zs w h ⟨hz.1, hz.2.1⟩ (by omega))
    have H0 := Lib.hid h0
    by_cases n0 : ss.length = 0
    · have HE : Hid (gChk kind zs spread ss = 1) := by show _ = _; unfold gChk; rw [if_neg (by simpa using h0), if_pos n0]
      rw [HE.out]
      clear h hs h0
      generalize ss.length = n at *
      subst n0
      go_enter Try.func12, Try.ntmps12
      go_wp2_with fail
      refine (HD.out _ HN.out).mono ?_
      rintro e w' ⟨rfl, rfl⟩
      rw [H0.out]
      go_wp2_with fail
      go_ret
      exact ⟨rfl, Below.refl _ _⟩
    · have b0 : ((ss.length : Int) == 0) = false := by rw [beq_eq_false_iff_ne]; omega
      by_cases n1 : 16 < ss.length
      · have HE : Hid (gChk kind zs spread ss = 3) := by show _ = _; unfold gChk; rw [if_neg (by simpa using h0), if_neg n0, if_pos n1]
        have b1 : (16 : Int) < (ss.length : Int) := by omega
        rw [HE.out]
        clear h hs h0
        generalize ss.length = n at *
        go_enter Try.func12, Try.ntmps12
        go_wp2_with fail
        refine (HD.out _ HN.out).mono ?_
        rintro e w' ⟨rfl, rfl⟩
        rw [H0.out]
        go_wp2_with fail
        go_ret
        exact ⟨rfl, Below.refl _ _⟩
      · have b1 : ¬ (16 : Int) < (ss.length : Int) := by omega
        by_cases h1 : gNum kind zs = 0
        · have HE : Hid (gChk kind zs spread ss = gStops ss) := by show _ = _; unfold gChk gStops; rw [if_neg (by simpa using h0), if_neg n0, if_neg n1, if_neg (by simpa using h1), if_neg n0, if_neg n1]
          have H1 := Lib.hid h1
          rw [HE.out]
          clear h hs h0 h1
          generalize gStops ss = T at *
          generalize ss.length = n at *
          go_enter Try.func12, Try.ntmps12
          go_wp2_with fail
          refine (HD.out _ HN.out).mono ?_
          rintro e w' ⟨rfl, rfl⟩
          rw [H0.out]
          go_wp2_with fail
          refine (NB.out _ HN.out).mono ?_
          rintro e w' ⟨rfl, rfl⟩
          rw [H1.out]
          go_wp2_with fail
          refine (CS.out _ HS.out).mono ?_
          rintro e w1 ⟨rfl, hb⟩
          go_wp2_with fail
          go_ret
          exact ⟨rfl, hb⟩
        · have HE : Hid (gChk kind zs spread ss = gNum kind zs) := by show _ = _; unfold gChk; rw [if_neg (by simpa using h0), if_neg n0, if_neg n1, if_pos h1]
          have b2 : (gNum kind zs != 0) = true := by simpa using h1
          rw [HE.out]
          clear h hs h0 h1
          generalize gNum kind zs = T at *
          generalize ss.length = n at *
          go_enter Try.func12, Try.ntmps12
          go_wp2_with fail
          refine (HD.out _ HN.out).mono ?_
          rintro e w' ⟨rfl, rfl⟩
          rw [H0.out]
          go_wp2_with fail
          refine (NB.out _ HN.out).mono ?_
          rintro e w' ⟨rfl, rfl⟩
          go_wp2_with fail
          go_ret
          exact ⟨rfl, Below.refl _ _⟩
  · have HE : Hid (gChk kind zs spread ss = gHead kind zs.length spread) := if_pos h0
    have b2 : (gHead kind zs.length spread != 0) = true := by simpa using h0
    rw [HE.out]
    clear h hs h0
    generalize gHead kind zs.length spread = T at *
    generalize ss.length = n at *
    go_enter Try.func12, Try.ntmps12
    go_wp2_with fail
    refine (HD.out _ HN.out).mono ?_
    rintro e w' ⟨rfl, rfl⟩
    go_wp2_with fail
    go_ret
    exact ⟨rfl, Below.refl _ _⟩
end Go.Proofs.Ytmejdhgknebbbaa
