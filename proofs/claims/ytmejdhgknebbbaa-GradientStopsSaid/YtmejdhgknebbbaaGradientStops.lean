/- GradientStops: at a stop the color is that of the stop; the alpha at any position is between the least and the greatest alpha of the stops. No conditions. -/
import Derived.Test.YtmejdhgknebbbaaFrame
import Derived.Test.YtmejdhgknebbbaaGAwake
import Derived.Test.YtmejdhgknebbbaaGOpen
namespace Go.Proofs.Ytmejdhgknebbbaa.gradientStops
open Go.ChangeShapes Go.WideShapes Go.ChangeAt Go.RowKit
set_option linter.unusedVariables false
attribute [local go_sem] Oper.gAt gUponK

def al (ss : List St) (i : Nat) : Int := (stK ss i).2.2.2
theorem mxA_between (a b t lo hi : Int) (ha : lo ≤ a ∧ a ≤ hi) (hb : lo ≤ b ∧ b ≤ hi) (h0 : 0 ≤ lo) (h1 : hi ≤ 65535) : lo ≤ mxA a b t ∧ mxA a b t ≤ hi := by
  have ea : cl a = a := cl_id _ (by omega) (by omega)
  have eb : cl b = b := cl_id _ (by omega) (by omega)
  have ht := cl_bd t
  unfold mxA mxU mxV
  rw [ea, eb]
  generalize cl t = d at *
  have l1 := Int.mul_le_mul_of_nonneg_right ha.1 (show 0 ≤ 65535 - d by omega)
  have l2 := Int.mul_le_mul_of_nonneg_right hb.1 (show 0 ≤ d by omega)
  have u1 := Int.mul_le_mul_of_nonneg_right ha.2 (show 0 ≤ 65535 - d by omega)
  have u2 := Int.mul_le_mul_of_nonneg_right hb.2 (show 0 ≤ d by omega)
  have sl : lo * (65535 - d) + lo * d = lo * 65535 := by rw [← Int.mul_add]; congr 1; omega
  have su : hi * (65535 - d) + hi * d = hi * 65535 := by rw [← Int.mul_add]; congr 1; omega
  exact ⟨dv_ge _ _ _ (by omega) (by omega), dv_le _ _ _ (by omega) (by omega)⟩
theorem mixP_alpha (p q : Px) (t : Int) : (mixP p q t).2.2.2 = mxA p.2.2.2 q.2.2.2 t := by
  unfold mixP
  split
  · rename_i h; exact h.symm
  · rfl
theorem sc_alpha (ss : List St) (t lo hi : Int) (h : ∀ i, i < ss.length → lo ≤ al ss i ∧ al ss i ≤ hi) (hn : 0 < ss.length) (h0 : 0 ≤ lo) (h1 : hi ≤ 65535) : ∀ k, k ≤ ss.length → lo ≤ (sc ss t k).2.2.2 ∧ (sc ss t k).2.2.2 ≤ hi
  | 0, _ => h 0 hn
  | k + 1, hk => by
    have ih := sc_alpha ss t lo hi h hn h0 h1 k (by omega)
    show lo ≤ (scStep ss t k (sc ss t k)).2.2.2 ∧ (scStep ss t k (sc ss t k)).2.2.2 ≤ hi
    unfold scStep
    split
    · rename_i hc
      unfold stM
      rw [mixP_alpha]
      have e : k - 1 + 1 = k := by omega
      rw [e]
      exact mxA_between _ _ _ lo hi (h (k - 1) (by omega)) (h k (by omega)) h0 h1
    · split
      · exact h k (by omega)
      · exact ih
theorem colF_alpha (p : Px) : (colF p).2.2.2 = p.2.2.2 := by
  unfold colF
  split
  · rename_i h; exact h.symm
  · rfl
theorem gcol_alpha (ss : List St) (t lo hi : Int) (hg : gStops ss = 0) (h : ∀ i, i < ss.length → lo ≤ al ss i ∧ al ss i ≤ hi) (hn : 0 < ss.length) (h0 : 0 ≤ lo) (h1 : hi ≤ 65535) : lo ≤ (gcol ss t).2.2.2 ∧ (gcol ss t).2.2.2 ≤ hi := by
  unfold gcol
  rw [if_pos hg, colF_alpha]
  exact sc_alpha ss (cl t) lo hi h hn h0 h1 ss.length (Nat.le_refl _)
theorem gcol_stop (ss : List St) (hg : gStops ss = 0) (hs : sStops ss = 0) (i : Nat) (hi : i < ss.length) : gcol ss (stA ss i) = colF (stK ss i) := by
  have hb := sStops_ok hs i hi
  unfold gcol
  rw [if_pos hg, cl_id _ hb.1 hb.2.1]
  by_cases hl : i + 1 < ss.length
  · have hm := stA_mono hs i (i + 1) (by omega) hl
    rw [sc_found hs i hl (Int.le_refl _) hm, if_neg (by omega)]
  · rw [sc_last i (by omega) (Int.le_refl _)]
theorem al_bd (ss : List St) (hs : sStops ss = 0) (i : Nat) (hi : i < ss.length) : 0 ≤ al ss i ∧ al ss i ≤ 65535 := by
  have h0 := ferr_zero (sbad ss) _ _ hs i (by omega) (by omega)
  unfold sbad at h0
  split at h0
  · cases h0
  · rename_i hc
    have hp : pOk (stK ss i) = true := by
      cases hh : pOk (stK ss i) with
      | true => rfl
      | false => exact absurd (.inr (.inr hh)) hc
    have := of_decide_eq_true hp
    have e := this.2.2.2
    have b := cl_bd (stK ss i).2.2.2
    unfold al
    omega

set_option maxHeartbeats 16000000 in
set_option maxRecDepth 20000 in
theorem good (v : Value) (ss : List St) (t : Int) (w : World) (h : Sn w v ss) (hg : gStops ss = 0) :
    Calls Try.prog 6 #[v, .int .i64 t] w fun e w' => e = .returned (.bool true) ∧ Below w.heap.size w w' := by
  obtain ⟨a, cap, rfl, hlen⟩ := h.slice
  have h1 : 0 < ss.length ∧ sStops ss = 0 := by
    unfold gStops at hg
    split at hg
    · cases hg
    · split at hg
      · cases hg
      · exact ⟨by omega, hg⟩
  have HS := Lib.hid h
  have CS := Lib.hid (fun w h => refStops_any (.slice a ss.length cap) ss w h)
  have CL := Lib.hid (fun t w h => Color_any (.slice a ss.length cap) ss t w h)
  have HG := Lib.hid hg
  have GS := Lib.hid (gcol_stop ss hg h1.2)
  have AB := Lib.hid (al_bd ss h1.2)
  have GA := Lib.hid (fun lo hi hh h0 h2 => gcol_alpha ss t lo hi hg hh h1.1 h0 h2)
  have AK : Hid (∀ i, al ss i = (stK ss i).2.2.2) := fun i => rfl
  rcases h.at with hn | ⟨b, off, rfl, hcell⟩
  · omega
  have HC := Lib.hid hcell
  clear h h1 hg hcell
  generalize ss.length = n at *
  go_enter Try.func6, Try.ntmps6
  go_wp2_with fail
  refine (CS.out _ HS.out).mono ?_
  rintro e W1 ⟨rfl, hb⟩
  rw [HG.out]
  go_wp2_with fail
  go_loopw [5, 6, 16] (fun l u i wr => ∃ (k : Nat) (lo hi : Int), k ≤ n ∧ i = .int .i64 k ∧ l = .int .i64 lo ∧ u = .int .i64 hi ∧ Hid (∀ i, i < k → lo ≤ al ss i ∧ al ss i ≤ hi) ∧ (0 ≤ lo ∧ lo ≤ 65535) ∧ (0 ≤ hi ∧ hi ≤ 65535) ∧ Below w.heap.size w wr) (fun _ _ i _ => n - (intOf i).toNat)
  case atStart => exact ⟨0, 65535, 0, Nat.zero_le _, rfl, rfl, rfl, fun i hi => by omega, by omega, by omega, hb⟩
  case round =>
    clear hb
    obtain ⟨k, lo, hi, hk, rfl, rfl, rfl, HL, hlo, hhi, hb⟩ := hrel
    by_cases hlt : k < n
    · have HCk := Lib.hid (HC.out k hlt)
      have C1 := Lib.hid (fun w h => CL.out (stA ss k) w h)
      rw [GS.out k hlt] at C1
      have ab := AB.out k hlt
      have HA := Lib.hid (AK.out k)
      rw [AK.out k] at ab
      clear HC GS AB AK CL
      generalize stA ss k = A at *
      generalize stK ss k = q at *
      obtain ⟨q0, q1, q2, q3⟩ := q
      replace ab : 0 ≤ q3 ∧ q3 ≤ 65535 := ab
      replace HA : Hid (al ss k = q3) := HA
      have i1 : (0 : Int) ≤ (k : Int) := by omega
      have i2 : (k : Int) < (n : Int) := by omega
      have ck0 := HCk.out wr hb
      simp only at ck0
      have NEXT : Hid (∀ lo' hi' : Int, lo' ≤ lo → lo' ≤ q3 → hi ≤ hi' → q3 ≤ hi' → ∀ i, i < k + 1 → lo' ≤ al ss i ∧ al ss i ≤ hi') := fun lo' hi' e1 e2 e3 e4 i hi0 => by
        by_cases e : i = k
        · subst e; rw [HA.out]; exact ⟨e2, e4⟩
        · have := HL.out i (by omega); omega
      go_upto_region 8 with (fail)
      clear ck0
      refine name1 (fun W2 k8 hS => ?_)
      have hk8 : w.heap.size ≤ wr.heap.size := hb.size
      replace hb := hb.trans (hS.mono hb.size)
      clear hS
      obtain ⟨x8, hx8⟩ : ∃ x8, x8 = wr.heap.size := ⟨_, rfl⟩
      rw [← hx8] at k8 hk8 ⊢
      clear hx8
      have c8 := k8.c4
      by_cases c1 : q3 < lo
      · skip
        by_cases c2 : hi < q3
        · skip
          by_cases c3 : q3 = 0
          · exfalso; omega
          · have b3 : (q3 == 0) = false := by simpa using c3
            have HF : Hid (colF (q0, q1, q2, q3) = (q0, q1, q2, q3)) := if_neg c3
            rw [HF.out] at C1
            simp only [pvx] at C1
            go_upto_region 14 with (fail)
            clear c8
            have ck0 := HCk.out W2 hb
            go_wp2_with fail
            clear ck0
            refine wp_region_grow 9 (fun w' => Below (World.heap W2).size W2 w') (by kernel_rfl) (by kernel_rfl) (Below.refl _ _).drew ?_
            simp only [List.take_succ_cons, List.take_zero, List.drop_succ_cons, List.drop_zero]
            repeat (first | (apply wpG_on; rfl; (intro w' hS K hK; have hc0 := (k8.kept hS).c4; have hr0 := HCk.out _ (hb.trans (hS.mono hb.size)); go_simp; (first | exact hK.out _ hS | (go_at_call 13; (with_reducible refine (C1.out _ (HS.out.kept (hb.trans (hS.mono hb.size)))).mono ?_); rintro e w'' ⟨rfl, hbb⟩; exact ⟨_, rfl, hK.out _ (hS.trans (hbb.mono hS.size))⟩))); simp only [Act.put, List.setIfInBounds_toArray, List.set_cons_succ, List.set_cons_zero]) | (apply wpG_off; rfl; simp only [Act.put, List.setIfInBounds_toArray, List.set_cons_succ, List.set_cons_zero]))
            apply wpG_nil
            intro W4 hS
            replace k8 := k8.kept hS
            replace hb := hb.trans (hS.mono hb.size)
            clear hS
            go_wp2_with fail
            go_roundw
            case rel => exact ⟨k + 1, q3, q3, by omega, by go_num, rfl, rfl, NEXT.out _ _ (by omega) (by omega) (by omega) (by omega), by omega, by omega, hb⟩
            case measure => simp only [intOf]; omega
        · skip
          by_cases c3 : q3 = 0
          · subst c3
            have HF : Hid (colF (q0, q1, q2, 0) = (0, 0, 0, 0)) := rfl
            rw [HF.out] at C1
            simp only [pvx] at C1
            go_upto_region 14 with (fail)
            clear c8
            refine mid4 hb k8 hk8 (fun W3 k8' kk hb => ?_)
            clear kk k8
            have k8 := k8'
            have ck0 := HCk.out W3 hb
            go_wp2_with fail
            clear ck0
            refine wp_region_grow 9 (fun w' => Below (World.heap W3).size W3 w') (by kernel_rfl) (by kernel_rfl) (Below.refl _ _).drew ?_
            simp only [List.take_succ_cons, List.take_zero, List.drop_succ_cons, List.drop_zero]
            repeat (first | (apply wpG_on; rfl; (intro w' hS K hK; have hc0 := (k8.kept hS).c4; have hr0 := HCk.out _ (hb.trans (hS.mono hb.size)); go_simp; (first | exact hK.out _ hS | (go_at_call 13; (with_reducible refine (C1.out _ (HS.out.kept (hb.trans (hS.mono hb.size)))).mono ?_); rintro e w'' ⟨rfl, hbb⟩; exact ⟨_, rfl, hK.out _ (hS.trans (hbb.mono hS.size))⟩))); simp only [Act.put, List.setIfInBounds_toArray, List.set_cons_succ, List.set_cons_zero]) | (apply wpG_off; rfl; simp only [Act.put, List.setIfInBounds_toArray, List.set_cons_succ, List.set_cons_zero]))
            apply wpG_nil
            intro W4 hS
            replace k8 := k8.kept hS
            replace hb := hb.trans (hS.mono hb.size)
            clear hS
            go_wp2_with fail
            go_roundw
            case rel => exact ⟨k + 1, 0, hi, by omega, by go_num, rfl, rfl, NEXT.out _ _ (by omega) (by omega) (by omega) (by omega), by omega, by omega, hb⟩
            case measure => simp only [intOf]; omega
          · have b3 : (q3 == 0) = false := by simpa using c3
            have HF : Hid (colF (q0, q1, q2, q3) = (q0, q1, q2, q3)) := if_neg c3
            rw [HF.out] at C1
            simp only [pvx] at C1
            go_upto_region 14 with (fail)
            clear c8
            have ck0 := HCk.out W2 hb
            go_wp2_with fail
            clear ck0
            refine wp_region_grow 9 (fun w' => Below (World.heap W2).size W2 w') (by kernel_rfl) (by kernel_rfl) (Below.refl _ _).drew ?_
            simp only [List.take_succ_cons, List.take_zero, List.drop_succ_cons, List.drop_zero]
            repeat (first | (apply wpG_on; rfl; (intro w' hS K hK; have hc0 := (k8.kept hS).c4; have hr0 := HCk.out _ (hb.trans (hS.mono hb.size)); go_simp; (first | exact hK.out _ hS | (go_at_call 13; (with_reducible refine (C1.out _ (HS.out.kept (hb.trans (hS.mono hb.size)))).mono ?_); rintro e w'' ⟨rfl, hbb⟩; exact ⟨_, rfl, hK.out _ (hS.trans (hbb.mono hS.size))⟩))); simp only [Act.put, List.setIfInBounds_toArray, List.set_cons_succ, List.set_cons_zero]) | (apply wpG_off; rfl; simp only [Act.put, List.setIfInBounds_toArray, List.set_cons_succ, List.set_cons_zero]))
            apply wpG_nil
            intro W4 hS
            replace k8 := k8.kept hS
            replace hb := hb.trans (hS.mono hb.size)
            clear hS
            go_wp2_with fail
            go_roundw
            case rel => exact ⟨k + 1, q3, hi, by omega, by go_num, rfl, rfl, NEXT.out _ _ (by omega) (by omega) (by omega) (by omega), by omega, by omega, hb⟩
            case measure => simp only [intOf]; omega
      · skip
        by_cases c2 : hi < q3
        · skip
          by_cases c3 : q3 = 0
          · exfalso; omega
          · have b3 : (q3 == 0) = false := by simpa using c3
            have HF : Hid (colF (q0, q1, q2, q3) = (q0, q1, q2, q3)) := if_neg c3
            rw [HF.out] at C1
            simp only [pvx] at C1
            go_upto_region 14 with (fail)
            clear c8
            have ck0 := HCk.out W2 hb
            go_wp2_with fail
            clear ck0
            refine wp_region_grow 9 (fun w' => Below (World.heap W2).size W2 w') (by kernel_rfl) (by kernel_rfl) (Below.refl _ _).drew ?_
            simp only [List.take_succ_cons, List.take_zero, List.drop_succ_cons, List.drop_zero]
            repeat (first | (apply wpG_on; rfl; (intro w' hS K hK; have hc0 := (k8.kept hS).c4; have hr0 := HCk.out _ (hb.trans (hS.mono hb.size)); go_simp; (first | exact hK.out _ hS | (go_at_call 13; (with_reducible refine (C1.out _ (HS.out.kept (hb.trans (hS.mono hb.size)))).mono ?_); rintro e w'' ⟨rfl, hbb⟩; exact ⟨_, rfl, hK.out _ (hS.trans (hbb.mono hS.size))⟩))); simp only [Act.put, List.setIfInBounds_toArray, List.set_cons_succ, List.set_cons_zero]) | (apply wpG_off; rfl; simp only [Act.put, List.setIfInBounds_toArray, List.set_cons_succ, List.set_cons_zero]))
            apply wpG_nil
            intro W4 hS
            replace k8 := k8.kept hS
            replace hb := hb.trans (hS.mono hb.size)
            clear hS
            go_wp2_with fail
            go_roundw
            case rel => exact ⟨k + 1, lo, q3, by omega, by go_num, rfl, rfl, NEXT.out _ _ (by omega) (by omega) (by omega) (by omega), by omega, by omega, hb⟩
            case measure => simp only [intOf]; omega
        · skip
          by_cases c3 : q3 = 0
          · subst c3
            have HF : Hid (colF (q0, q1, q2, 0) = (0, 0, 0, 0)) := rfl
            rw [HF.out] at C1
            simp only [pvx] at C1
            go_upto_region 14 with (fail)
            clear c8
            refine mid4 hb k8 hk8 (fun W3 k8' kk hb => ?_)
            clear kk k8
            have k8 := k8'
            have ck0 := HCk.out W3 hb
            go_wp2_with fail
            clear ck0
            refine wp_region_grow 9 (fun w' => Below (World.heap W3).size W3 w') (by kernel_rfl) (by kernel_rfl) (Below.refl _ _).drew ?_
            simp only [List.take_succ_cons, List.take_zero, List.drop_succ_cons, List.drop_zero]
            repeat (first | (apply wpG_on; rfl; (intro w' hS K hK; have hc0 := (k8.kept hS).c4; have hr0 := HCk.out _ (hb.trans (hS.mono hb.size)); go_simp; (first | exact hK.out _ hS | (go_at_call 13; (with_reducible refine (C1.out _ (HS.out.kept (hb.trans (hS.mono hb.size)))).mono ?_); rintro e w'' ⟨rfl, hbb⟩; exact ⟨_, rfl, hK.out _ (hS.trans (hbb.mono hS.size))⟩))); simp only [Act.put, List.setIfInBounds_toArray, List.set_cons_succ, List.set_cons_zero]) | (apply wpG_off; rfl; simp only [Act.put, List.setIfInBounds_toArray, List.set_cons_succ, List.set_cons_zero]))
            apply wpG_nil
            intro W4 hS
            replace k8 := k8.kept hS
            replace hb := hb.trans (hS.mono hb.size)
            clear hS
            go_wp2_with fail
            go_roundw
            case rel => exact ⟨k + 1, lo, hi, by omega, by go_num, rfl, rfl, NEXT.out _ _ (by omega) (by omega) (by omega) (by omega), by omega, by omega, hb⟩
            case measure => simp only [intOf]; omega
          · have b3 : (q3 == 0) = false := by simpa using c3
            have HF : Hid (colF (q0, q1, q2, q3) = (q0, q1, q2, q3)) := if_neg c3
            rw [HF.out] at C1
            simp only [pvx] at C1
            go_upto_region 14 with (fail)
            clear c8
            have ck0 := HCk.out W2 hb
            go_wp2_with fail
            clear ck0
            refine wp_region_grow 9 (fun w' => Below (World.heap W2).size W2 w') (by kernel_rfl) (by kernel_rfl) (Below.refl _ _).drew ?_
            simp only [List.take_succ_cons, List.take_zero, List.drop_succ_cons, List.drop_zero]
            repeat (first | (apply wpG_on; rfl; (intro w' hS K hK; have hc0 := (k8.kept hS).c4; have hr0 := HCk.out _ (hb.trans (hS.mono hb.size)); go_simp; (first | exact hK.out _ hS | (go_at_call 13; (with_reducible refine (C1.out _ (HS.out.kept (hb.trans (hS.mono hb.size)))).mono ?_); rintro e w'' ⟨rfl, hbb⟩; exact ⟨_, rfl, hK.out _ (hS.trans (hbb.mono hS.size))⟩))); simp only [Act.put, List.setIfInBounds_toArray, List.set_cons_succ, List.set_cons_zero]) | (apply wpG_off; rfl; simp only [Act.put, List.setIfInBounds_toArray, List.set_cons_succ, List.set_cons_zero]))
            apply wpG_nil
            intro W4 hS
            replace k8 := k8.kept hS
            replace hb := hb.trans (hS.mono hb.size)
            clear hS
            go_wp2_with fail
            go_roundw
            case rel => exact ⟨k + 1, lo, hi, by omega, by go_num, rfl, rfl, NEXT.out _ _ (by omega) (by omega) (by omega) (by omega), by omega, by omega, hb⟩
            case measure => simp only [intOf]; omega
    · obtain rfl : k = n := by omega
      have hg2 := GA.out lo hi HL.out hlo.1 hhi.2
      have C2 := Lib.hid (fun w h => CL.out t w h)
      generalize gcol ss t = z at *
      obtain ⟨z0, z1, z2, z3⟩ := z
      simp only [pvx, pv] at C2
      replace hg2 : lo ≤ z3 ∧ z3 ≤ hi := hg2
      have FE : ∀ w, Sem.run Try.prog (Instr.field 27 (Value.agg #[Value.int IntKind.i64 z0, Value.int IntKind.i64 z1, Value.int IntKind.i64 z2, Value.int IntKind.i64 z3]) 3) w = .ok (.int .i64 z3) w := fun w => rfl
      go_wp2_with fail
      refine (C2.out _ (HS.out.kept hb)).mono ?_
      rintro e W2 ⟨rfl, hS⟩
      replace hb := hb.trans (hS.mono hb.size)
      clear hS
      go_wp2_with fail
      refine (awake_any _).mono ?_
      rintro e W3 ⟨rfl, hS⟩
      replace hb := hb.trans (hS.mono hb.size)
      go_wp2_with fail
      go_ret
      exact ⟨ret_bool (by simp), hb⟩

set_option maxHeartbeats 1000000 in
theorem walk (v : Value) (ss : List St) (t : Int) (w : World) (hs : Sn w v ss) (w1 : (Lit.int .i64 t).wf = true) :
    Calls Try.prog 6 #[v, .int .i64 t] w fun e w' => e = .returned (.bool true) ∧ Below w.heap.size w w' := by
  by_cases h0 : gStops ss = 0
  · exact good v ss t w hs h0
  · have HS := Lib.hid hs
    have CS := Lib.hid (fun w h => refStops_any v ss w h)
    obtain ⟨a, cap, rfl, hlen⟩ := hs.slice
    have b2 : (gStops ss != 0) = true := by simpa using h0
    clear hs h0 w1
    generalize gStops ss = E at *
    generalize ss.length = n at *
    go_enter Try.func6, Try.ntmps6
    go_wp2_with fail
    refine (CS.out _ HS.out).mono ?_
    rintro e W1 ⟨rfl, hb⟩
    go_wp2_with fail
    refine (awake_any _).mono ?_
    rintro e W3 ⟨rfl, hS⟩
    replace hb := hb.trans (hS.mono hb.size)
    go_wp2_with fail
    go_ret
    exact ⟨rfl, hb⟩

set_option maxRecDepth 100000 in
theorem lifted (os : Os) (started : os.Started) (H : Type) (enc : TypeId × Value → H) :
    ReturnsInHanded {} Try.checked os 6 .any (Rows.gradientStopsSpec.pre6 enc Try.prog Try.f6 Rows.gradientStopsRow.domain false) (Rows.gradientStopsSpec.post enc Try.prog Try.f6 false true false false) := by
  refine returnsInHanded_of_change_sized (C := Try.checked) ownK started (by kernel_rfl) Try.func6
    (ChangeSpec.witness6 (enc := enc) (C := Try.checked) false ⟨#[], #[.slice none 0 0, .int .i64 0], []⟩ 8 (by kernel_rfl) (by kernel_rfl) (by kernel_rfl) (by kernel_rfl)) ?_
  intro W base args ds gs before hval0 hW hcnd hsz0 _
  have hval : ∀ (j : Nat) t v, Try.f6.params[j]? = some t → args[j]? = some v → Value.okWide Try.prog W .any base t v := hval0
  have hW' := hW
  obtain ⟨p, q, hA0, hV, rfl, hfz, hnd⟩ := hW
  have hA : DataW.TrodAll enc Try.prog W 0 (fun _ => true) true Try.f6.params.toList args.toList ds p := hA0
  rw [Try.params6] at hA hval
  have hAll := hA
  obtain ⟨v0, vs0, d0, ds0, p0, q0, hargs, rfl, rfl, h0, r0⟩ := trodAll_cons hA
  obtain ⟨v1, vs1, d1, ds1, p1, q1, rfl, rfl, rfl, h1, r1⟩ := trodAll_cons r0
  obtain ⟨rfl, rfl, rfl⟩ := trodAll_nil r1
  obtain rfl : args = #[v0, v1] := by cases args; simp_all
  obtain ⟨rfl, rfl⟩ := trodVars_none hV
  have hsz : (DataW.weightsEach Try.prog [23, 3] [d0, d1]).all (· ≤ reachBytes) = true := hsz0
  clear hA0 hval0 hsz0
  have hAll' : DataW.TrodAll enc Try.prog W 0 (fun _ => true) true [23, 3] [v0, v1] [d0, d1] _ := hAll
  clear hAll
  have hargsBack : ∀ W' : World, Below W.heap.size W W' → DataW.TrodAll enc Try.prog W' 0 (fun b => decide (b < W.heap.size)) true [23, 3] [v0, v1] [d0, d1] _ := fun W' bel => belowTrodAll laidK bel _ _ _ _ (by kernel_rfl) hAll'
  have hc : Calls Try.prog 6 #[v0, v1] W fun e w' => e = .returned (.bool true) ∧ Below W.heap.size W w' := by
    clear hargsBack hAll' hW'
    obtain ⟨ss0, hs0⟩ := openStops (hval 0 23 v0 rfl rfl) h0
    obtain ⟨a1, rfl, rfl, rfl, w1⟩ := open_int Try.underlying3 (hval 1 3 v1 rfl rfl) h1
    exact walk v0 ss0 a1 W hs0 w1
  refine hc.mono fun e W' ⟨he, bel⟩ => ?_
  subst he
  exact ⟨_, rfl, _, _, _, [], _, [], hW', trodAll_mk1 (shut_bool Try.underlying4 _), hargsBack W' bel, rfl, bel.frame _, fun h => by cases h⟩

theorem over : Rows.gradientStopsRow.holds Try.pinned (OpenSpec.ofChange Rows.gradientStopsSpec) :=
  OpenClaim.holds_of_wide 6 Try.f6 rfl rfl rfl rfl rfl rfl rfl ⟨rfl, rfl, rfl, rfl, rfl⟩ rfl rfl rfl rfl rfl (by kernel_rfl) Try.func6 (by kernel_rfl)
    (of_decide_eq_true (by kernel_rfl)) (by unfold Func.isWrapper; first | (rw [if_pos (by decide +kernel)]; kernel_rfl) | (rw [if_neg (by decide +kernel)]; exact ⟨rfl, rfl⟩))
    (fun os started H enc _ => lifted os started H enc)

theorem proved : Rows.GradientStopsSaid := over

end Go.Proofs.Ytmejdhgknebbbaa.gradientStops
