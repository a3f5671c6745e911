/- imageeditorref18.Color. -/
import Derived.Test.YtmejdhgknebbbaaGColor
namespace Go.Proofs.Ytmejdhgknebbbaa
open Go.RowKit
set_option linter.unusedVariables false
attribute [local go_sem] Oper.gAt gUponK Oper.sAt stilK

theorem sc_succ (ss : List St) (t : Int) (k : Nat) : sc ss t (k + 1) = if 0 < k ∧ stA ss (k - 1) < t ∧ t < stA ss k then stM ss (k - 1) t else if stA ss k ≤ t then stK ss k else sc ss t k := rfl
theorem stM_pred (ss : List St) (t : Int) (k : Nat) (hk : 0 < k) : stM ss (k - 1) t = mixP (stK ss (k - 1)) (stK ss k) (dv (65535 * (t - stA ss (k - 1))) (stA ss k - stA ss (k - 1))) := by
  unfold stM
  rw [Nat.sub_add_cancel hk]

set_option maxHeartbeats 8000000 in
set_option maxRecDepth 20000 in
theorem refColorOk (v : Value) (ss : List St) (t : Int) (w : World) (h : Sn w v ss) (hg : gStops ss = 0) :
    Calls Try.prog 14 #[v, .int .i64 t] w fun e w' => e = .returned (pvx (colF (sc ss (cl t) ss.length))) ∧ Below w.heap.size w w' := by
  obtain ⟨a, cap, rfl, hlen⟩ := h.slice
  have h1 : 0 < ss.length ∧ sStops ss = 0 := by
    unfold gStops at hg
    split at hg
    · cases hg
    · split at hg
      · cases hg
      · exact ⟨by omega, hg⟩
  have HS := Lib.hid h
  have CS := Lib.hid (fun w h => refStops_any (.slice a ss.length cap) ss w h)
  have HG := Lib.hid hg
  have SB := Lib.hid (@sStops_ok ss h1.2)
  rcases h.at with hn | ⟨b, off, rfl, hcell⟩
  · omega
  have HC := Lib.hid hcell
  have HC0 := Lib.hid (stop_cells hcell h1.1)
  have hl := h1.1
  have tb := cl_bd t
  have HT : Hid (min 65535 (max t 0) = cl t) := cl_min t
  have SS := Lib.hid (fun k => sc_succ ss (cl t) k)
  have S0 : Hid (sc ss (cl t) 0 = stK ss 0) := rfl
  clear h h1 hg hcell
  generalize hR : sc ss (cl t) ss.length = R
  have HR := Lib.hid hR
  clear hR
  generalize ss.length = n at *
  go_enter Try.func14, Try.ntmps14
  go_upto_region 1 with (fail)
  refine name1 (fun W k4 hb => ?_)
  go_wp2_with fail
  refine (CS.out _ (HS.out.kept hb)).mono ?_
  rintro e W1 ⟨rfl, hS⟩
  replace k4 := k4.kept hS
  replace hb := hb.trans (hS.mono hb.size)
  clear hS
  rw [HG.out]
  go_wp2_with fail
  refine (refU_any _ _).mono ?_
  rintro e w' ⟨rfl, rfl⟩
  generalize cl t = u at *
  have cc0 := HC0.out W1 hb
  have i0 : (0 : Int) < (n : Int) := by omega
  have hk4 := k4.lt
  go_upto_region 5 with (fail)
  clear cc0
  refine name1 (fun W2 k5 hS => ?_)
  replace k4 := k4.kept hS
  replace hb := hb.trans (hS.mono hb.size)
  clear hS
  obtain ⟨x, hx⟩ : ∃ x, x = W1.heap.size := ⟨_, rfl⟩
  rw [← hx] at k5 hk4 ⊢
  clear hx
  go_wp2_with fail
  have st0 : Blk W2 x (.cells #[.int .i64 (sc ss u 0).1, .int .i64 (sc ss u 0).2.1, .int .i64 (sc ss u 0).2.2.1, .int .i64 (sc ss u 0).2.2.2] 27 (0, 0)) := k5
  clear k5
  go_loopw [19] (fun i wr => ∃ k : Nat, k ≤ n ∧ i = .int .i64 k ∧ Blk wr x (.cells #[.int .i64 (sc ss u k).1, .int .i64 (sc ss u k).2.1, .int .i64 (sc ss u k).2.2.1, .int .i64 (sc ss u k).2.2.2] 27 (0, 0)) ∧ Blk wr w.heap.size (.cells #[.int .i64 0, .int .i64 0, .int .i64 0, .int .i64 0] 27 (0, 0)) ∧ Below w.heap.size w wr) (fun i _ => n - (intOf i).toNat)
  case atStart => exact ⟨0, Nat.zero_le _, rfl, st0, k4, hb⟩
  case round =>
    clear st0 k4 hb
    obtain ⟨k, hk, rfl, k5, k4, hb⟩ := hrel
    by_cases hlt : k < n
    · have HCk := Lib.hid (HC.out k hlt)
      have HCp : Hid (0 < k → _) := fun h0 => HC.out (k - 1) (by omega)
      have SK := Lib.hid (SS.out k)
      have SM : Hid (0 < k → _) := fun h0 => stM_pred ss u k h0
      have bk := SB.out k hlt
      have bp : 0 < k → 0 ≤ stA ss (k - 1) ∧ stA ss (k - 1) ≤ 65535 := fun h0 => ⟨(SB.out (k - 1) (by omega)).1, (SB.out (k - 1) (by omega)).2.1⟩
      have MX := Lib.hid (fun d w => refMix_any (stK ss (k - 1)) (stK ss k) d w)
      clear HC HC0 SS SB S0
      obtain ⟨Q, hQ⟩ : ∃ Q, sc ss u (k + 1) = Q := ⟨_, rfl⟩
      rw [hQ] at SK
      have HQ0 := Lib.hid hQ
      clear hQ
      generalize sc ss u k = r at k5 SK
      generalize stM ss (k - 1) u = M at *
      generalize stA ss (k - 1) = P at *
      generalize stA ss k = A at *
      generalize stK ss (k - 1) = cp at *
      generalize stK ss k = ck at *
      obtain ⟨r0, r1, r2, r3⟩ := r
      obtain ⟨p0, p1, p2, p3⟩ := cp
      obtain ⟨q0, q1, q2, q3⟩ := ck
      replace bk : 0 ≤ A ∧ A ≤ 65535 ∧ (0 < k → P < A) := bk
      have i1 : (0 : Int) ≤ (k : Int) := by omega
      have i2 : (k : Int) < (n : Int) := by omega
      have ck0 := HCk.out wr hb
      simp only at ck0 k5
      by_cases c1 : A ≤ u
      · have HQ : Hid (Q = (q0, q1, q2, q3)) := by show _ = _; rw [SK.out, if_neg (by omega), if_pos c1]
        have cx := k5.c4
        go_upto_region 10 with (fail)
        clear ck0 cx
        refine mid4 hb k5 (by omega) (fun W3 k5' kk hb => ?_)
        replace k4 := kk _ _ (by omega) k4
        clear kk k5
        have ck0 := HCk.out W3 hb
        simp only at ck0
        by_cases hk0 : 0 < k
        · have g3 : decide ((k : Int) > 0) = true := by simp; omega
          have hw : IntKind.i64.wrap ((k : Int) - 1) = (k : Int) - 1 := IntWalk.i64_in _ (by omega)
          have ht : ((k : Int) - 1).toNat = k - 1 := by omega
          have hi1 : 0 ≤ (k : Int) - 1 := by omega
          have hi2 : (k : Int) - 1 < (n : Int) := by omega
          have hi3 : (1 : Int) ≤ (k : Int) := by omega
          have cp0 := HCp.out hk0 W3 hb
          have pu : P < u := by have := bk.2.2 hk0; omega
          go_wp2_with fail
          go_roundw
          case rel => exact ⟨k + 1, by omega, by go_num, by rw [HQ0.out, HQ.out]; exact k5', k4, hb⟩
          case measure => simp only [intOf]; omega
        · have g3 : decide ((k : Int) > 0) = false := by simp; omega
          have g5 : ¬ (0 : Int) < (k : Int) := by omega
          go_wp2_with fail
          go_roundw
          case rel => exact ⟨k + 1, by omega, by go_num, by rw [HQ0.out, HQ.out]; exact k5', k4, hb⟩
          case measure => simp only [intOf]; omega
      · by_cases hk0 : 0 < k
        · have g3 : decide ((k : Int) > 0) = true := by simp; omega
          have g6 : (0 : Int) < (k : Int) := by omega
          have hw : IntKind.i64.wrap ((k : Int) - 1) = (k : Int) - 1 := IntWalk.i64_in _ (by omega)
          have ht : ((k : Int) - 1).toNat = k - 1 := by omega
          have hi1 : 0 ≤ (k : Int) - 1 := by omega
          have hi2 : (k : Int) - 1 < (n : Int) := by omega
          have hi3 : (1 : Int) ≤ (k : Int) := by omega
          have cp0 := HCp.out hk0 wr hb
          have bP := bp hk0
          have PA := bk.2.2 hk0
          simp only at cp0
          by_cases pu : P < u
          · have HQ : Hid (Q = M) := by show _ = _; rw [SK.out, if_pos ⟨hk0, pu, by omega⟩]
            have HM := Lib.hid (SM.out hk0)
            have db := slope01 u P A (by omega) (by omega)
            have DV := Lib.hid (fun w => refDiv_new (65535 * (u - P)) (A - P) w (by omega) (by omega) (by omega) (by omega))
            replace MX := Lib.hid (MX.out (dv (65535 * (u - P)) (A - P)))
            generalize dv (65535 * (u - P)) (A - P) = D at *
            generalize mixP (p0, p1, p2, p3) (q0, q1, q2, q3) D = z at *
            obtain ⟨z0, z1, z2, z3⟩ := z
            replace MX : Hid (∀ w, Calls Try.prog 30 #[pv p0 p1 p2 p3, pv q0 q1 q2 q3, .int .i64 D] w fun e w' => e = .returned (pv z0 z1 z2 z3) ∧ Below w.heap.size w w') := MX
            go_wp2_with fail
            clear ck0 cp0
            have e1 : IntKind.i64.wrap (u - P) = u - P := IntWalk.i64_in _ (by omega)
            have e2 : IntKind.i64.wrap (65535 * (u - P)) = 65535 * (u - P) := IntWalk.i64_in _ (by omega)
            have e3 : IntKind.i64.wrap (A - P) = A - P := IntWalk.i64_in _ (by omega)
            refine wp_region_grow 34 (fun w' => Below (World.heap wr).size wr w') (by kernel_rfl) (by kernel_rfl) (Below.refl _ _).drew ?_
            simp only [List.take_succ_cons, List.take_zero, List.drop_succ_cons, List.drop_zero]
            repeat (first | (apply wpG_on; rfl; (intro w' hS K hK; have hc0 := (k5.kept hS).c4; have hc1 := (k4.kept hS).c4; have hr0 := HCk.out _ (hb.trans (hS.mono hb.size)); have hr1 := HCp.out hk0 _ (hb.trans (hS.mono hb.size)); go_simp; (first | exact hK.out _ hS | (go_at_call 31; (with_reducible refine (DV.out _).mono ?_); rintro e w'' ⟨rfl, hbb⟩; exact ⟨_, rfl, hK.out _ (hS.trans (hbb.mono hS.size))⟩) | (go_at_call 30; (with_reducible refine (MX.out _).mono ?_); rintro e w'' ⟨rfl, hbb⟩; exact ⟨_, rfl, hK.out _ (hS.trans (hbb.mono hS.size))⟩))); simp only [Act.put, List.setIfInBounds_toArray, List.set_cons_succ, List.set_cons_zero]) | (apply wpG_off; rfl; simp only [Act.put, List.setIfInBounds_toArray, List.set_cons_succ, List.set_cons_zero]))
            apply wpG_nil
            intro W3 hS
            replace k5 := k5.kept hS
            replace k4 := k4.kept hS
            replace hb := hb.trans (hS.mono hb.size)
            clear hS
            clear e1 e2 e3 hw ht
            have cx := k5.c4
            go_upto_region 12 with (fail)
            clear cx
            refine mid4 hb k5 (by omega) (fun W4 k5' kk hb => ?_)
            replace k4 := kk _ _ (by omega) k4
            clear kk k5
            go_wp2_with fail
            go_roundw
            case rel => exact ⟨k + 1, by omega, by go_num, by rw [HQ0.out, HQ.out, HM.out]; exact k5', k4, hb⟩
            case measure => simp only [intOf]; omega
          · have HQ : Hid (Q = (r0, r1, r2, r3)) := by show _ = _; rw [SK.out, if_neg (by omega), if_neg c1]
            go_wp2_with fail
            go_roundw
            case rel => exact ⟨k + 1, by omega, by go_num, by rw [HQ0.out, HQ.out]; exact k5, k4, hb⟩
            case measure => simp only [intOf]; omega
        · have HQ : Hid (Q = (r0, r1, r2, r3)) := by show _ = _; rw [SK.out, if_neg (by omega), if_neg c1]
          have g3 : decide ((k : Int) > 0) = false := by simp; omega
          have g5 : ¬ (0 : Int) < (k : Int) := by omega
          go_wp2_with fail
          go_roundw
          case rel => exact ⟨k + 1, by omega, by go_num, by rw [HQ0.out, HQ.out]; exact k5, k4, hb⟩
          case measure => simp only [intOf]; omega
    · obtain rfl : k = n := by omega
      rw [HR.out] at k5
      obtain ⟨q0, q1, q2, q3⟩ := R
      simp only at k5
      by_cases hz : q3 = 0
      · subst hz
        have c5 := k5.c4
        have c4 := k4.c4
        go_wp2_with fail
        refine end4 hb k4 (by omega) (fun w3 e => by simp [results, Try.results14, go_sem, e]) rfl (fun w3 hb3 => ⟨rfl, hb3⟩)
      · have bz : (q3 == 0) = false := by simpa using hz
        have HF : Hid (colF (q0, q1, q2, q3) = (q0, q1, q2, q3)) := if_neg hz
        have c5 := k5.c4
        have c4 := k4.c4
        go_wp2_with fail
        refine end4 hb k4 (by omega) (fun w3 e => by simp [results, Try.results14, go_sem, e]) rfl (fun w3 hb3 => ⟨by rw [HF.out]; rfl, hb3⟩)

set_option maxHeartbeats 2000000 in
theorem refColor_any (v : Value) (ss : List St) (t : Int) (w : World) (h : Sn w v ss) :
    Calls Try.prog 14 #[v, .int .i64 t] w fun e w' => e = .returned (pvx (gcol ss t)) ∧ Below w.heap.size w w' := by
  by_cases h0 : gStops ss = 0
  · have e : gcol ss t = colF (sc ss (cl t) ss.length) := if_pos h0
    rw [e]
    exact refColorOk v ss t w h h0
  · have HE : Hid (gcol ss t = (0, 0, 0, 0)) := if_neg h0
    rw [HE.out]
    have HS := Lib.hid h
    have CS := Lib.hid (fun w h => refStops_any v ss w h)
    obtain ⟨a, cap, rfl, hlen⟩ := h.slice
    have b2 : (gStops ss != 0) = true := by simpa using h0
    clear h h0 HE
    generalize gStops ss = E at *
    generalize ss.length = n at *
    go_enter Try.func14, Try.ntmps14
    go_upto_region 1 with (fail)
    refine name1 (fun W k4 hb => ?_)
    go_wp2_with fail
    refine (CS.out _ (HS.out.kept hb)).mono ?_
    rintro e W1 ⟨rfl, hS⟩
    replace k4 := k4.kept hS
    replace hb := hb.trans (hS.mono hb.size)
    clear hS
    have c4 := k4.c4
    go_wp2_with fail
    refine end4 hb k4 (by omega) (fun w3 e => by simp [results, Try.results14, go_sem, e]) rfl (fun w3 hb3 => ⟨rfl, hb3⟩)
end Go.Proofs.Ytmejdhgknebbbaa
