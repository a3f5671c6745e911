/- gradient.color and Color (printed by gencolor.py). -/
import Derived.Test.YtmejdhgknebbbaaGChecks
import Derived.Test.YtmejdhgknebbbaaFrame
import Derived.Test.YtmejdhgknebbbaaMake
import Derived.Deep.Cut
namespace Go.Proofs.Ytmejdhgknebbbaa
open Go.RowKit
set_option linter.unusedVariables false
attribute [local go_sem] Oper.gAt gUponK Oper.sAt stilK

theorem stop_cells {w : World} {b off : Nat} {ss : List St} {n : Nat} (h : ∀ i, i < n → ∀ w', Below w.heap.size w w' →
    w'.cell? ⟨b, off + i * 5, none⟩ = some (.int .i64 (stA ss i)) ∧ w'.cell? ⟨b, off + i * 5 + 1, none⟩ = some (.int .i64 (stK ss i).1) ∧ w'.cell? ⟨b, off + i * 5 + 2, none⟩ = some (.int .i64 (stK ss i).2.1) ∧ w'.cell? ⟨b, off + i * 5 + 3, none⟩ = some (.int .i64 (stK ss i).2.2.1) ∧ w'.cell? ⟨b, off + i * 5 + 4, none⟩ = some (.int .i64 (stK ss i).2.2.2)) (h0 : 0 < n) :
    ∀ w', Below w.heap.size w w' → w'.cell? ⟨b, off, none⟩ = some (.int .i64 (stA ss 0)) ∧ w'.cell? ⟨b, off + 1, none⟩ = some (.int .i64 (stK ss 0).1) ∧ w'.cell? ⟨b, off + 2, none⟩ = some (.int .i64 (stK ss 0).2.1) ∧ w'.cell? ⟨b, off + 3, none⟩ = some (.int .i64 (stK ss 0).2.2.1) ∧ w'.cell? ⟨b, off + 4, none⟩ = some (.int .i64 (stK ss 0).2.2.2) := fun w' hb => by
  simpa using h 0 h0 w' hb

theorem slope01 (t A B : Int) (h1 : A ≤ t) (h2 : t < B) : 0 ≤ dv (65535 * (t - A)) (B - A) ∧ dv (65535 * (t - A)) (B - A) ≤ 65535 := by
  refine ⟨dv_nonneg _ _ (by omega) (by omega), dv_le _ _ _ (by omega) ?_⟩
  exact Int.mul_le_mul_of_nonneg_left (by omega) (by omega)

set_option maxHeartbeats 8000000 in
theorem color_any (v : Value) (ss : List St) (t : Int) (w : World) (h : Sn w v ss) (h0 : sStops ss = 0) (hl : 0 < ss.length) (ht : 0 ≤ t ∧ t ≤ 65535) :
    Calls Try.prog 27 #[v, .int .i64 t] w fun e w' => e = .returned (pvx (colF (sc ss t ss.length))) ∧ Below w.heap.size w w' := by
  obtain ⟨a, cap, rfl, hlen⟩ := h.slice
  rcases h.at with hn | ⟨b, off, rfl, hcell⟩
  · omega
  have S1 := Lib.hid (fun ht => @sc_first ss t h0 hl ht)
  have S2 := Lib.hid (fun n hn ht => @sc_last ss t n hn ht)
  have S3 := Lib.hid (fun i hi h1 h2 => @sc_found ss t h0 i hi h1 h2)
  have SB := Lib.hid (@sStops_ok ss h0)
  have HC := Lib.hid hcell
  have HC0 := Lib.hid (stop_cells hcell hl)
  clear h h0 hcell
  have HM : Hid (∀ i, stM ss i t = mixP (stK ss i) (stK ss (i + 1)) (dv (65535 * (t - stA ss i)) (stA ss (i + 1) - stA ss i))) := fun i => rfl
  generalize sc ss t ss.length = R at *
  generalize ss.length = n at *
  have hw : IntKind.i64.wrap ((n : Int) - 1) = (n : Int) - 1 := IntWalk.i64_in _ (by omega)
  by_cases c1 : t ≤ stA ss 0
  · have HQ := Lib.hid (S1.out c1)
    generalize stA ss 0 = A at *
    generalize stK ss 0 = q at *
    obtain ⟨q0, q1, q2, q3⟩ := q
    go_enter Try.func27, Try.ntmps27
    go_upto_region 2 with (fail)
    refine name2 (fun W k4 k5 hb => ?_)
    have cc0 := HC0.out W hb
    simp only at cc0
    have c5 := k5.c4
    go_upto_region 14 with (fail)
    clear cc0 c5
    refine mid4 hb k5 (by omega) (fun W2 k5' kk hb => ?_)
    replace k4 := kk _ _ (by omega) k4
    clear kk k5
    have k5 := k5'
    by_cases hz : q3 = 0
    · subst hz
      have c5 := k5.c4
      have c4 := k4.c4
      go_wp2_with fail
      refine end4 hb k4 (by omega) (fun w3 e => by simp [results, Try.results27, go_sem, e]) rfl (fun w3 hb3 => ⟨by rw [HQ.out]; rfl, hb3⟩)
    · have bz : (q3 == 0) = false := by simpa using hz
      have HF : Hid (colF (q0, q1, q2, q3) = (q0, q1, q2, q3)) := if_neg hz
      have c5 := k5.c4
      have c4 := k4.c4
      go_wp2_with fail
      refine end4 hb k4 (by omega) (fun w3 e => by simp [results, Try.results27, go_sem, e]) rfl (fun w3 hb3 => ⟨by rw [HQ.out, HF.out]; rfl, hb3⟩)
  have c1' : ¬ t ≤ stA ss 0 := c1
  have cA0 : stA ss 0 ≤ t := by omega
  obtain ⟨l, rfl⟩ : ∃ l, n = l + 1 := ⟨n - 1, by omega⟩
  have hw1 : IntKind.i64.wrap (((l + 1 : Nat) : Int) - 1) = (l : Int) := by rw [IntWalk.i64_in _ (by omega)]; omega
  have hi1 : (0 : Int) ≤ (l : Int) := by omega
  have hi2 : (l : Int) < ((l + 1 : Nat) : Int) := by omega
  by_cases c2 : stA ss l ≤ t
  · have HQ := Lib.hid (S2.out l rfl c2)
    have HCl := Lib.hid (HC.out l (by omega))
    generalize stA ss 0 = A at *
    generalize stA ss l = B at *
    generalize stK ss l = q at *
    obtain ⟨q0, q1, q2, q3⟩ := q
    go_enter Try.func27, Try.ntmps27
    go_upto_region 2 with (fail)
    refine name2 (fun W k4 k5 hb => ?_)
    have cc0 := HC0.out W hb
    have ccl := HCl.out W hb
    simp only at ccl
    have c5 := k5.c4
    go_upto_region 14 with (fail)
    clear cc0 ccl c5
    refine mid4 hb k5 (by omega) (fun W2 k5' kk hb => ?_)
    replace k4 := kk _ _ (by omega) k4
    clear kk k5
    have k5 := k5'
    by_cases hz : q3 = 0
    · subst hz
      have c5 := k5.c4
      have c4 := k4.c4
      go_wp2_with fail
      refine end4 hb k4 (by omega) (fun w3 e => by simp [results, Try.results27, go_sem, e]) rfl (fun w3 hb3 => ⟨by rw [HQ.out]; rfl, hb3⟩)
    · have bz : (q3 == 0) = false := by simpa using hz
      have HF : Hid (colF (q0, q1, q2, q3) = (q0, q1, q2, q3)) := if_neg hz
      have c5 := k5.c4
      have c4 := k4.c4
      go_wp2_with fail
      refine end4 hb k4 (by omega) (fun w3 e => by simp [results, Try.results27, go_sem, e]) rfl (fun w3 hb3 => ⟨by rw [HQ.out, HF.out]; rfl, hb3⟩)
  · have HCl := Lib.hid (HC.out l (by omega))
    have CA0 := Lib.hid cA0
    have hlt0 : t < stA ss l := by omega
    have HLT := Lib.hid hlt0
    have HA0 : Hid (stA ss 0 ≤ t) := cA0
    have hl0 : 0 < l := by
      apply Decidable.byContradiction
      intro hh
      obtain rfl : l = 0 := by omega
      omega
    go_enter Try.func27, Try.ntmps27
    go_upto_region 2 with (fail)
    refine name2 (fun W k4 k5 hb => ?_)
    have cc0 := HC0.out W hb
    have ccl := HCl.out W hb
    go_wp2_with fail
    clear cc0 ccl c1 c2 c1' cA0 hlt0
    go_loopw [7] (fun i wr => ∃ k : Nat, k + 1 < l + 1 ∧ i = .int .i64 k ∧ wr = W ∧ Hid (stA ss k ≤ t)) (fun i _ => l - (intOf i).toNat)
    case atStart => exact ⟨0, by omega, rfl, rfl, HA0⟩
    case round =>
      obtain ⟨k, hk, rfl, rfl, HK⟩ := hrel
      have hc1 := HC.out (k + 1) (by omega) wr hb
      have hw2 : IntKind.i64.wrap ((k : Int) + 1) = ((k + 1 : Nat) : Int) := by rw [IntWalk.i64_in _ (by omega)]; omega
      have hj1 : (0 : Int) ≤ ((k + 1 : Nat) : Int) := by omega
      have hj2 : ((k + 1 : Nat) : Int) < ((l + 1 : Nat) : Int) := by omega
      by_cases c3 : stA ss (k + 1) ≤ t
      · have HK1 := Lib.hid c3
        have hkl : k + 1 < l := by
          apply Decidable.byContradiction
          intro hh
          obtain rfl : l = k + 1 := by omega
          have := HLT.out
          omega
        generalize stA ss (k + 1) = B at hc1 c3
        go_wp2_with fail
        go_roundw
        case rel => exact ⟨k + 1, by omega, by go_num, trivial, HK1⟩
        case measure => simp only [intOf]; omega
      · have hc0 := HC.out k (by omega) wr hb
        have hbl := lt_of_cell hc0.1
        have HR := Lib.hid (S3.out k hk HK.out (by omega))
        rw [HM.out k] at HR
        have b1 := SB.out k (by omega)
        have b2 := SB.out (k + 1) (by omega)
        have HK2 := HK.out
        have hm1 : (0 : Int) ≤ (k : Int) := by omega
        have hm2 : (k : Int) < ((l + 1 : Nat) : Int) := by omega
        have MX := Lib.hid (fun t w => mix_any (stK ss k) (stK ss (k + 1)) t w)
        clear HC HC0 HCl S1 S2 S3 SB HM HLT CA0 HA0 HK
        generalize stA ss k = A1 at *
        generalize stA ss (k + 1) = B1 at *
        replace b1 : 0 ≤ A1 ∧ A1 ≤ 65535 := ⟨b1.1, b1.2.1⟩
        replace b2 : 0 ≤ B1 ∧ B1 ≤ 65535 := ⟨b2.1, b2.2.1⟩
        generalize stK ss k = p at *
        generalize stK ss (k + 1) = p' at *
        obtain ⟨a0, a1, a2, a3⟩ := p
        obtain ⟨d0, d1, d2, d3⟩ := p'
        simp only at hc0 hc1
        have hk4 := k4.lt
        have hk5 := k5.lt
        go_upto_region 6 with (fail)
        go_region
        all_goals go_upto_region 7 with (fail)
        all_goals clear hc0 hc1 hw2
        · refine name2d (fun W3 k8 k9 hS => ?_)
          replace k4 := k4.kept hS
          replace k5 := k5.kept hS
          replace hb := hb.trans (hS.mono hb.size)
          clear hS
          have c8 := k8.c5
          have c5 := k5.c4
          go_upto_region 8 with (fail)
          clear c8 c5
          refine mid4 hb k5 (by omega) (fun W4 k5' kk hb => ?_)
          replace k4 := kk _ _ (by omega) k4
          replace k8 := kk _ _ (by omega) k8
          replace k9 := kk _ _ (by omega) k9
          clear kk k5
          have k5 := k5'
          by_cases ht1 : A1 < t
          · have db := slope01 t A1 B1 (by omega) (by omega)
            rw [if_pos ht1] at HR
            have DV := Lib.hid (fun w => div_any (65535 * (t - A1)) (B1 - A1) w (by omega) (by omega) (by omega) (by omega))
            replace MX := Lib.hid (MX.out (dv (65535 * (t - A1)) (B1 - A1)))
            generalize dv (65535 * (t - A1)) (B1 - A1) = D at *
            generalize mixP (a0, a1, a2, a3) (d0, d1, d2, d3) D = q at *
            obtain ⟨q0, q1, q2, q3⟩ := q
            have HQ := HR
            replace MX : Hid (∀ w, Calls Try.prog 43 #[pv a0 a1 a2 a3, pv d0 d1 d2 d3, .int .i64 D] w fun e w' => e = .returned (pv q0 q1 q2 q3) ∧ Below w.heap.size w w') := MX
            have c8 := k8.c5
            go_wp2_with fail
            clear c8
            have e1 : IntKind.i64.wrap (t - A1) = t - A1 := IntWalk.i64_in _ (by omega)
            have e2 : IntKind.i64.wrap (65535 * (t - A1)) = 65535 * (t - A1) := IntWalk.i64_in _ (by omega)
            have e3 : IntKind.i64.wrap (B1 - A1) = B1 - A1 := IntWalk.i64_in _ (by omega)
            refine wp_region_grow 16 (fun w' => Below (World.heap W4).size W4 w') (by kernel_rfl) (by kernel_rfl) (Below.refl _ _).drew ?_
            simp only [List.take_succ_cons, List.take_zero, List.drop_succ_cons, List.drop_zero]
            repeat (first | (apply wpG_on; rfl; (intro w' hS K hK; have hc0 := (k8.kept hS).c5; have hc1 := (k9.kept hS).c5; have hc2 := (k5.kept hS).c4; have hc3 := (k4.kept hS).c4; go_simp; (first | exact hK.out _ hS | (go_at_call 44; (with_reducible refine (DV.out _).mono ?_); rintro e w'' ⟨rfl, rfl⟩; exact ⟨_, rfl, hK.out _ hS⟩) | (go_at_call 43; (with_reducible refine (MX.out _).mono ?_); rintro e w'' ⟨rfl, hbb⟩; exact ⟨_, rfl, hK.out _ (hS.trans (hbb.mono hS.size))⟩))); simp only [Act.put, List.setIfInBounds_toArray, List.set_cons_succ, List.set_cons_zero]) | (apply wpG_off; rfl; simp only [Act.put, List.setIfInBounds_toArray, List.set_cons_succ, List.set_cons_zero]))
            apply wpG_nil
            intro W5 hS
            replace k8 := k8.kept hS
            replace k9 := k9.kept hS
            replace k5 := k5.kept hS
            replace k4 := k4.kept hS
            replace hb := hb.trans (hS.mono hb.size)
            clear hS
            clear e1 e2 e3
            have c5 := k5.c4
            go_upto_region 14 with (fail)
            clear c5
            refine mid4 hb k5 (by omega) (fun W6 k5' kk hb => ?_)
            replace k4 := kk _ _ (by omega) k4
            clear kk k5 k8 k9
            have k5 := k5'
            by_cases hz : q3 = 0
            · subst hz
              have c5 := k5.c4
              have c4 := k4.c4
              go_wp2_with fail
              refine end4 hb k4 (by omega) (fun w3 e => by simp [results, Try.results27, go_sem, e]) rfl (fun w3 hb3 => ⟨by rw [HQ.out]; rfl, hb3⟩)
            · have bz : (q3 == 0) = false := by simpa using hz
              have HF : Hid (colF (q0, q1, q2, q3) = (q0, q1, q2, q3)) := if_neg hz
              have c5 := k5.c4
              have c4 := k4.c4
              go_wp2_with fail
              refine end4 hb k4 (by omega) (fun w3 e => by simp [results, Try.results27, go_sem, e]) rfl (fun w3 hb3 => ⟨by rw [HQ.out, HF.out]; rfl, hb3⟩)
          · rw [if_neg ht1] at HR
            have HQ := HR
            have c8 := k8.c5
            go_upto_region 14 with (fail)
            clear c8
            by_cases hz : a3 = 0
            · subst hz
              have c5 := k5.c4
              have c4 := k4.c4
              go_wp2_with fail
              refine end4 hb k4 (by omega) (fun w3 e => by simp [results, Try.results27, go_sem, e]) rfl (fun w3 hb3 => ⟨by rw [HQ.out]; rfl, hb3⟩)
            · have bz : (a3 == 0) = false := by simpa using hz
              have HF : Hid (colF (a0, a1, a2, a3) = (a0, a1, a2, a3)) := if_neg hz
              have c5 := k5.c4
              have c4 := k4.c4
              go_wp2_with fail
              refine end4 hb k4 (by omega) (fun w3 e => by simp [results, Try.results27, go_sem, e]) rfl (fun w3 hb3 => ⟨by rw [HQ.out, HF.out]; rfl, hb3⟩)
        · refine name2d (fun W3 k9 k8 hS => ?_)
          replace k4 := k4.kept hS
          replace k5 := k5.kept hS
          replace hb := hb.trans (hS.mono hb.size)
          clear hS
          have c8 := k8.c5
          have c5 := k5.c4
          go_upto_region 8 with (fail)
          clear c8 c5
          refine mid4 hb k5 (by omega) (fun W4 k5' kk hb => ?_)
          replace k4 := kk _ _ (by omega) k4
          replace k8 := kk _ _ (by omega) k8
          replace k9 := kk _ _ (by omega) k9
          clear kk k5
          have k5 := k5'
          by_cases ht1 : A1 < t
          · have db := slope01 t A1 B1 (by omega) (by omega)
            rw [if_pos ht1] at HR
            have DV := Lib.hid (fun w => div_any (65535 * (t - A1)) (B1 - A1) w (by omega) (by omega) (by omega) (by omega))
            replace MX := Lib.hid (MX.out (dv (65535 * (t - A1)) (B1 - A1)))
            generalize dv (65535 * (t - A1)) (B1 - A1) = D at *
            generalize mixP (a0, a1, a2, a3) (d0, d1, d2, d3) D = q at *
            obtain ⟨q0, q1, q2, q3⟩ := q
            have HQ := HR
            replace MX : Hid (∀ w, Calls Try.prog 43 #[pv a0 a1 a2 a3, pv d0 d1 d2 d3, .int .i64 D] w fun e w' => e = .returned (pv q0 q1 q2 q3) ∧ Below w.heap.size w w') := MX
            have c8 := k8.c5
            go_wp2_with fail
            clear c8
            have e1 : IntKind.i64.wrap (t - A1) = t - A1 := IntWalk.i64_in _ (by omega)
            have e2 : IntKind.i64.wrap (65535 * (t - A1)) = 65535 * (t - A1) := IntWalk.i64_in _ (by omega)
            have e3 : IntKind.i64.wrap (B1 - A1) = B1 - A1 := IntWalk.i64_in _ (by omega)
            refine wp_region_grow 16 (fun w' => Below (World.heap W4).size W4 w') (by kernel_rfl) (by kernel_rfl) (Below.refl _ _).drew ?_
            simp only [List.take_succ_cons, List.take_zero, List.drop_succ_cons, List.drop_zero]
            repeat (first | (apply wpG_on; rfl; (intro w' hS K hK; have hc0 := (k8.kept hS).c5; have hc1 := (k9.kept hS).c5; have hc2 := (k5.kept hS).c4; have hc3 := (k4.kept hS).c4; go_simp; (first | exact hK.out _ hS | (go_at_call 44; (with_reducible refine (DV.out _).mono ?_); rintro e w'' ⟨rfl, rfl⟩; exact ⟨_, rfl, hK.out _ hS⟩) | (go_at_call 43; (with_reducible refine (MX.out _).mono ?_); rintro e w'' ⟨rfl, hbb⟩; exact ⟨_, rfl, hK.out _ (hS.trans (hbb.mono hS.size))⟩))); simp only [Act.put, List.setIfInBounds_toArray, List.set_cons_succ, List.set_cons_zero]) | (apply wpG_off; rfl; simp only [Act.put, List.setIfInBounds_toArray, List.set_cons_succ, List.set_cons_zero]))
            apply wpG_nil
            intro W5 hS
            replace k8 := k8.kept hS
            replace k9 := k9.kept hS
            replace k5 := k5.kept hS
            replace k4 := k4.kept hS
            replace hb := hb.trans (hS.mono hb.size)
            clear hS
            clear e1 e2 e3
            have c5 := k5.c4
            go_upto_region 14 with (fail)
            clear c5
            refine mid4 hb k5 (by omega) (fun W6 k5' kk hb => ?_)
            replace k4 := kk _ _ (by omega) k4
            clear kk k5 k8 k9
            have k5 := k5'
            by_cases hz : q3 = 0
            · subst hz
              have c5 := k5.c4
              have c4 := k4.c4
              go_wp2_with fail
              refine end4 hb k4 (by omega) (fun w3 e => by simp [results, Try.results27, go_sem, e]) rfl (fun w3 hb3 => ⟨by rw [HQ.out]; rfl, hb3⟩)
            · have bz : (q3 == 0) = false := by simpa using hz
              have HF : Hid (colF (q0, q1, q2, q3) = (q0, q1, q2, q3)) := if_neg hz
              have c5 := k5.c4
              have c4 := k4.c4
              go_wp2_with fail
              refine end4 hb k4 (by omega) (fun w3 e => by simp [results, Try.results27, go_sem, e]) rfl (fun w3 hb3 => ⟨by rw [HQ.out, HF.out]; rfl, hb3⟩)
          · rw [if_neg ht1] at HR
            have HQ := HR
            have c8 := k8.c5
            go_upto_region 14 with (fail)
            clear c8
            by_cases hz : a3 = 0
            · subst hz
              have c5 := k5.c4
              have c4 := k4.c4
              go_wp2_with fail
              refine end4 hb k4 (by omega) (fun w3 e => by simp [results, Try.results27, go_sem, e]) rfl (fun w3 hb3 => ⟨by rw [HQ.out]; rfl, hb3⟩)
            · have bz : (a3 == 0) = false := by simpa using hz
              have HF : Hid (colF (a0, a1, a2, a3) = (a0, a1, a2, a3)) := if_neg hz
              have c5 := k5.c4
              have c4 := k4.c4
              go_wp2_with fail
              refine end4 hb k4 (by omega) (fun w3 e => by simp [results, Try.results27, go_sem, e]) rfl (fun w3 hb3 => ⟨by rw [HQ.out, HF.out]; rfl, hb3⟩)

set_option maxHeartbeats 2000000 in
theorem Color_any (v : Value) (ss : List St) (t : Int) (w : World) (h : Sn w v ss) :
    Calls Try.prog 13 #[v, .int .i64 t] w fun e w' => e = .returned (pvx (gcol ss t)) ∧ Below w.heap.size w w' := by
  have HS := Lib.hid h
  have CS := Lib.hid (fun w h => checkStops_any v ss w h)
  obtain ⟨a, cap, rfl, hlen⟩ := h.slice
  clear h
  by_cases h0 : gStops ss = 0
  · have HE : Hid (gcol ss t = colF (sc ss (cl t) ss.length)) := if_pos h0
    have h1 : 0 < ss.length ∧ ss.length ≤ 16 ∧ sStops ss = 0 := by
      unfold gStops at h0
      split at h0
      · cases h0
      · split at h0
        · cases h0
        · exact ⟨by omega, by omega, h0⟩
    have CL := Lib.hid (fun w h => color_any (.slice a ss.length cap) ss (cl t) w h h1.2.2 h1.1 (cl_bd t))
    have H1 := Lib.hid h1.2.2
    rw [HE.out]
    generalize colF (sc ss (cl t) ss.length) = q at *
    obtain ⟨q0, q1, q2, q3⟩ := q
    have b0 : ((ss.length : Int) == 0) = false := by rw [beq_eq_false_iff_ne]; omega
    have b1 : ¬ (16 : Int) < (ss.length : Int) := by omega
    replace CL : Hid (∀ w, Sn w (.slice a ss.length cap) ss → Calls Try.prog 27 #[.slice a ss.length cap, .int .i64 (cl t)] w fun e w' => e = .returned (pv q0 q1 q2 q3) ∧ Below w.heap.size w w') := CL
    clear h0 h1 HE
    generalize ss.length = n at *
    go_enter Try.func13, Try.ntmps13
    go_upto_region 1 with (fail)
    refine name1 (fun W k4 hb => ?_)
    go_wp2_with fail
    refine (CS.out _ (HS.out.kept hb)).mono ?_
    rintro e W1 ⟨rfl, hS⟩
    replace k4 := k4.kept hS
    replace hb := hb.trans (hS.mono hb.size)
    clear hS
    rw [H1.out]
    go_wp2_with fail
    refine (clamp_any _ _ _ _).mono ?_
    rintro e w' ⟨rfl, rfl⟩
    rw [cl_min]
    go_wp2_with fail
    refine (CL.out _ (HS.out.kept hb)).mono ?_
    rintro e W2 ⟨rfl, hS⟩
    replace k4 := k4.kept hS
    replace hb := hb.trans (hS.mono hb.size)
    clear hS
    have c4 := k4.c4
    go_wp2_with fail
    refine end4 hb k4 (by omega) (fun w3 e => by simp [results, Try.results13, go_sem, e]) rfl (fun w3 hb3 => ⟨rfl, hb3⟩)
  · have HE : Hid (gcol ss t = (0, 0, 0, 0)) := if_neg h0
    rw [HE.out]
    have hc : ss.length = 0 ∨ (ss.length ≠ 0 ∧ 16 < ss.length) ∨ (ss.length ≠ 0 ∧ ¬ 16 < ss.length ∧ sStops ss ≠ 0) := by
      unfold gStops at h0
      split at h0
      · exact .inl (by assumption)
      · split at h0
        · exact .inr (.inl ⟨by assumption, by assumption⟩)
        · exact .inr (.inr ⟨by assumption, by assumption, h0⟩)
    clear h0 HE
    rcases hc with n0 | ⟨n0, n1⟩ | ⟨n0, n1, h1⟩
    · generalize ss.length = n at *
      subst n0
      go_enter Try.func13, Try.ntmps13
      go_upto_region 1 with (fail)
      refine name1 (fun W k4 hb => ?_)
      have c4 := k4.c4
      go_wp2_with fail
      refine end4 hb k4 (by omega) (fun w3 e => by simp [results, Try.results13, go_sem, e]) rfl (fun w3 hb3 => ⟨rfl, hb3⟩)
    · have b0 : ((ss.length : Int) == 0) = false := by rw [beq_eq_false_iff_ne]; omega
      have b1 : (16 : Int) < (ss.length : Int) := by omega
      generalize ss.length = n at *
      go_enter Try.func13, Try.ntmps13
      go_upto_region 1 with (fail)
      refine name1 (fun W k4 hb => ?_)
      have c4 := k4.c4
      go_wp2_with fail
      refine end4 hb k4 (by omega) (fun w3 e => by simp [results, Try.results13, go_sem, e]) rfl (fun w3 hb3 => ⟨rfl, hb3⟩)
    · have b0 : ((ss.length : Int) == 0) = false := by rw [beq_eq_false_iff_ne]; omega
      have b1 : ¬ (16 : Int) < (ss.length : Int) := by omega
      have b2 : (sStops ss != 0) = true := by simpa using h1
      generalize sStops ss = E at *
      generalize ss.length = n at *
      go_enter Try.func13, Try.ntmps13
      go_upto_region 1 with (fail)
      refine name1 (fun W k4 hb => ?_)
      go_wp2_with fail
      refine (CS.out _ (HS.out.kept hb)).mono ?_
      rintro e W1 ⟨rfl, hS⟩
      replace k4 := k4.kept hS
      replace hb := hb.trans (hS.mono hb.size)
      clear hS
      have c4 := k4.c4
      go_wp2_with fail
      refine end4 hb k4 (by omega) (fun w3 e => by simp [results, Try.results13, go_sem, e]) rfl (fun w3 hb3 => ⟨rfl, hb3⟩)
end Go.Proofs.Ytmejdhgknebbbaa
