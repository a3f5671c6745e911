/- The error of stops, by the program and by the reference (printed by genstops.py). -/
import Derived.Test.YtmejdhgknebbbaaStop
import Derived.Test.YtmejdhgknebbbaaGrow
import Derived.Deep.Cut
namespace Go.Proofs.Ytmejdhgknebbbaa
open Go.RowKit
set_option linter.unusedVariables false
attribute [local go_sem] Oper.gAt gUponK

theorem svalid (p : Px) (w : World) : Calls Try.prog 42 #[pvx p] w fun e w' => e = .returned (.bool (pOk p)) ∧ Below w.heap.size w w' := valid_any _ _ _ _ w
theorem sRefValid (p : Px) (w : World) : Calls Try.prog 40 #[pvx p] w fun e w' => e = .returned (.bool (pOk p)) ∧ Below w.heap.size w w' := refValid_any _ _ _ _ w

set_option maxHeartbeats 8000000 in
theorem checkStops_any (v : Value) (ss : List St) (w : World) (h : Sn w v ss) :
    Calls Try.prog 24 #[v] w fun e w' => e = .returned (.int .i64 (sStops ss)) ∧ Below w.heap.size w w' := by
  obtain ⟨a, cap, rfl, hlen⟩ := h.slice
  have HS := Lib.hid h
  clear h
  have HQ : Hid (sStops ss = ferr (sbad ss) (ss.length - 0) 0) := rfl
  have FA := Lib.hid (ferr_at (sbad ss) ss.length)
  have FG := Lib.hid (ferr_go (sbad ss) ss.length)
  have FE := Lib.hid (ferr_end (sbad ss) ss.length)
  generalize ss.length = n at *
  generalize sStops ss = R at *
  go_enter Try.func24, Try.ntmps24
  go_wp2_with fail
  go_loopw [7] (fun i wr => ∃ k : Nat, k ≤ n ∧ i = .int .i64 k ∧ Hid (R = ferr (sbad ss) (n - k) k) ∧ Below w.heap.size w wr) (fun i _ => n - (intOf i).toNat)
  case atStart => exact ⟨0, Nat.zero_le _, rfl, HQ, Below.refl _ _⟩
  case round =>
    clear HQ
    obtain ⟨k, hk, rfl, HR, hb⟩ := hrel
    by_cases hlt : k < n
    · rcases HS.out.at with h0 | ⟨b, off, rfl, hcell⟩
      · omega
      have HK : Hid (sbad ss k = if stA ss k < 0 ∨ 65535 < stA ss k ∨ pOk (stK ss k) = false then 2 else if 0 < k ∧ stA ss k ≤ stA ss (k - 1) then 24 else 0) := rfl
      have HC : Hid (∀ w', Below w.heap.size w w' → w'.cell? ⟨b, off + k * 5, none⟩ = some (.int .i64 (stA ss k)) ∧ w'.cell? ⟨b, off + k * 5 + 1, none⟩ = some (.int .i64 (stK ss k).1) ∧ w'.cell? ⟨b, off + k * 5 + 2, none⟩ = some (.int .i64 (stK ss k).2.1) ∧ w'.cell? ⟨b, off + k * 5 + 3, none⟩ = some (.int .i64 (stK ss k).2.2.1) ∧ w'.cell? ⟨b, off + k * 5 + 4, none⟩ = some (.int .i64 (stK ss k).2.2.2)) := fun w' hb' => hcell k hlt w' hb'
      have HP : Hid (∀ w' : World, Below w.heap.size w w' → 0 < k → w'.cell? ⟨b, off + (k - 1) * 5, none⟩ = some (.int .i64 (stA ss (k - 1)))) := fun w' hb' h0 => (hcell (k - 1) (by omega) w' hb').1
      have V1 := Lib.hid (fun w => svalid (stK ss k) w)
      have HF := Lib.hid (FA.out k hlt)
      have HG := Lib.hid (FG.out k hlt)
      clear hcell HS FA FG
      generalize stA ss (k - 1) = P at *
      generalize stA ss k = A at *
      generalize stK ss k = C at *
      obtain ⟨c0, c1, c2, c3⟩ := C
      replace V1 : Hid (∀ w, Calls Try.prog 42 #[pv c0 c1 c2 c3] w fun e w' => e = .returned (.bool (pOk (c0, c1, c2, c3))) ∧ Below w.heap.size w w') := V1
      generalize pOk (c0, c1, c2, c3) = ok at *
      have hc := HC.out wr hb
      simp only at hc
      have i1 : (0 : Int) ≤ (k : Int) := by omega
      have i2 : (k : Int) < (n : Int) := by omega
      have cs : A < 0 ∨ (¬ A < 0 ∧ 65535 < A) ∨ (¬ A < 0 ∧ ¬ 65535 < A) := by omega
      rcases cs with z1 | ⟨z1, z2⟩ | ⟨z1, z2⟩
      · have HE2 : Hid (sbad ss k = 2) := by show _ = _; rw [HK.out, if_pos (by omega)]
        go_upto_region 4 with (fail)
        clear hc
        refine name1 (fun W1 k1 hS => ?_)
        replace hb := hb.trans (hS.mono hb.size)
        clear hS
        have c5 := k1.c5
        go_wp2_with fail
        go_ret
        exact ⟨ret_int (by rw [HR.out, HF.out (by rw [HE2.out]; decide), HE2.out]), hb⟩
      · have HE2 : Hid (sbad ss k = 2) := by show _ = _; rw [HK.out, if_pos (by omega)]
        go_upto_region 4 with (fail)
        clear hc
        refine name1 (fun W1 k1 hS => ?_)
        replace hb := hb.trans (hS.mono hb.size)
        clear hS
        have c5 := k1.c5
        go_wp2_with fail
        go_ret
        exact ⟨ret_int (by rw [HR.out, HF.out (by rw [HE2.out]; decide), HE2.out]), hb⟩
      · cases ok with
        | false =>
          have HE2 : Hid (sbad ss k = 2) := by show _ = _; rw [HK.out, if_pos (.inr (.inr rfl))]
          go_upto_region 4 with (fail)
          clear hc
          refine name1 (fun W1 k1 hS => ?_)
          replace hb := hb.trans (hS.mono hb.size)
          clear hS
          have c5 := k1.c5
          go_wp2_with fail
          clear c5
          refine (V1.out _).mono ?_
          rintro e W2 ⟨rfl, hS⟩
          replace hb := hb.trans (hS.mono hb.size)
          replace k1 := k1.kept hS
          clear hS
          go_wp2_with fail
          go_ret
          exact ⟨ret_int (by rw [HR.out, HF.out (by rw [HE2.out]; decide), HE2.out]), hb⟩
        | true =>
          by_cases hk0 : 0 < k
          · have g3 : decide ((k : Int) > 0) = true := by simp; omega
            have hw : IntKind.i64.wrap ((k : Int) - 1) = (k : Int) - 1 := IntWalk.i64_in _ (by omega)
            have ht : ((k : Int) - 1).toNat = k - 1 := by omega
            have hi1 : 0 ≤ (k : Int) - 1 := by omega
            have hi2 : (k : Int) - 1 < (n : Int) := by omega
            have hi3 : (1 : Int) ≤ (k : Int) := by omega
            by_cases e3 : A ≤ P
            · have HE2 : Hid (sbad ss k = 24) := by show _ = _; rw [HK.out, if_neg (by simp; omega), if_pos ⟨hk0, e3⟩]
              have g4 : decide (A ≤ P) = true := by simpa using e3
              go_upto_region 4 with (fail)
              clear hc
              refine name1 (fun W1 k1 hS => ?_)
              replace hb := hb.trans (hS.mono hb.size)
              clear hS
              have c5 := k1.c5
              go_wp2_with fail
              clear c5
              refine (V1.out _).mono ?_
              rintro e W2 ⟨rfl, hS⟩
              replace hb := hb.trans (hS.mono hb.size)
              replace k1 := k1.kept hS
              clear hS
              go_wp2_with fail
              refine wp_region_grow 13 (fun w' => Below (World.heap W2).size W2 w') (by kernel_rfl) (by kernel_rfl) (Below.refl _ _).drew ?_
              simp only [List.take_succ_cons, List.take_zero, List.drop_succ_cons, List.drop_zero]
              repeat (first | (apply wpG_on; rfl; (intro w' hS K hK; have hc0 := (k1.kept hS).c5; have hr0 := HP.out _ (hb.trans (hS.mono hb.size)) hk0; go_simp; (first | exact hK.out _ hS)); simp only [Act.put, List.setIfInBounds_toArray, List.set_cons_succ, List.set_cons_zero]) | (apply wpG_off; rfl; simp only [Act.put, List.setIfInBounds_toArray, List.set_cons_succ, List.set_cons_zero]))
              apply wpG_nil
              intro W3 hS
              replace k1 := k1.kept hS
              replace hb := hb.trans (hS.mono hb.size)
              clear hS
              clear hw ht
              go_wp2_with fail
              go_ret
              exact ⟨ret_int (by rw [HR.out, HF.out (by rw [HE2.out]; decide), HE2.out]), hb⟩
            · have HE2 : Hid (sbad ss k = 0) := by show _ = _; rw [HK.out, if_neg (by simp; omega), if_neg (fun h => e3 h.2)]
              have g4 : decide (A ≤ P) = false := by simpa using e3
              go_upto_region 4 with (fail)
              clear hc
              refine name1 (fun W1 k1 hS => ?_)
              replace hb := hb.trans (hS.mono hb.size)
              clear hS
              have c5 := k1.c5
              go_wp2_with fail
              clear c5
              refine (V1.out _).mono ?_
              rintro e W2 ⟨rfl, hS⟩
              replace hb := hb.trans (hS.mono hb.size)
              replace k1 := k1.kept hS
              clear hS
              go_wp2_with fail
              refine wp_region_grow 13 (fun w' => Below (World.heap W2).size W2 w') (by kernel_rfl) (by kernel_rfl) (Below.refl _ _).drew ?_
              simp only [List.take_succ_cons, List.take_zero, List.drop_succ_cons, List.drop_zero]
              repeat (first | (apply wpG_on; rfl; (intro w' hS K hK; have hc0 := (k1.kept hS).c5; have hr0 := HP.out _ (hb.trans (hS.mono hb.size)) hk0; go_simp; (first | exact hK.out _ hS)); simp only [Act.put, List.setIfInBounds_toArray, List.set_cons_succ, List.set_cons_zero]) | (apply wpG_off; rfl; simp only [Act.put, List.setIfInBounds_toArray, List.set_cons_succ, List.set_cons_zero]))
              apply wpG_nil
              intro W3 hS
              replace k1 := k1.kept hS
              replace hb := hb.trans (hS.mono hb.size)
              clear hS
              clear hw ht
              go_wp2_with fail
              go_roundw
              case rel => exact ⟨k + 1, by omega, by go_num, by show _ = _; rw [HR.out, HG.out HE2.out], hb⟩
              case measure => simp only [intOf]; omega
          · have g3 : decide ((k : Int) > 0) = false := by simp; omega
            have HE2 : Hid (sbad ss k = 0) := by show _ = _; rw [HK.out, if_neg (by simp; omega), if_neg (fun h => hk0 h.1)]
            go_upto_region 4 with (fail)
            clear hc
            refine name1 (fun W1 k1 hS => ?_)
            replace hb := hb.trans (hS.mono hb.size)
            clear hS
            have c5 := k1.c5
            go_wp2_with fail
            clear c5
            refine (V1.out _).mono ?_
            rintro e W2 ⟨rfl, hS⟩
            replace hb := hb.trans (hS.mono hb.size)
            replace k1 := k1.kept hS
            clear hS
            go_wp2_with fail
            refine wp_region_grow 13 (fun w' => Below (World.heap W2).size W2 w') (by kernel_rfl) (by kernel_rfl) (Below.refl _ _).drew ?_
            simp only [List.take_succ_cons, List.take_zero, List.drop_succ_cons, List.drop_zero]
            repeat (first | (apply wpG_on; rfl; (intro w' hS K hK; have hc0 := (k1.kept hS).c5; go_simp; (first | exact hK.out _ hS)); simp only [Act.put, List.setIfInBounds_toArray, List.set_cons_succ, List.set_cons_zero]) | (apply wpG_off; rfl; simp only [Act.put, List.setIfInBounds_toArray, List.set_cons_succ, List.set_cons_zero]))
            apply wpG_nil
            intro W3 hS
            replace k1 := k1.kept hS
            replace hb := hb.trans (hS.mono hb.size)
            clear hS
            go_wp2_with fail
            go_roundw
            case rel => exact ⟨k + 1, by omega, by go_num, by show _ = _; rw [HR.out, HG.out HE2.out], hb⟩
            case measure => simp only [intOf]; omega
    · obtain rfl : k = n := by omega
      go_wp2_with fail
      go_ret
      exact ⟨ret_int (by rw [HR.out, FE.out]), hb⟩

set_option maxHeartbeats 8000000 in
theorem refStops_any (v : Value) (ss : List St) (w : World) (h : Sn w v ss) :
    Calls Try.prog 21 #[v] w fun e w' => e = .returned (.int .i64 (gStops ss)) ∧ Below w.heap.size w w' := by
  obtain ⟨a, cap, rfl, hlen⟩ := h.slice
  have HS := Lib.hid h
  clear h
  by_cases n0 : ss.length = 0
  · have HE : Hid (gStops ss = 1) := if_pos n0
    generalize ss.length = n at *
    subst n0
    go_enter Try.func21, Try.ntmps21
    go_wp2_with fail
    go_ret
    exact ⟨ret_int HE.out.symm, Below.refl _ _⟩
  by_cases n1 : 16 < ss.length
  · have HE : Hid (gStops ss = 3) := by show _ = _; unfold gStops; rw [if_neg n0, if_pos n1]
    generalize ss.length = n at *
    have b0 : ((n : Int) == 0) = false := by simp; omega
    have b1 : (16 : Int) < (n : Int) := by omega
    go_enter Try.func21, Try.ntmps21
    go_wp2_with fail
    go_ret
    exact ⟨ret_int HE.out.symm, Below.refl _ _⟩
  have HE : Hid (gStops ss = sStops ss) := by show _ = _; unfold gStops; rw [if_neg n0, if_neg n1]
  rw [HE.out]
  have b0 : ((ss.length : Int) == 0) = false := by rw [beq_eq_false_iff_ne]; omega
  have b1 : ¬ (16 : Int) < (ss.length : Int) := by omega
  have HQ : Hid (sStops ss = ferr (sbad ss) (ss.length - 0) 0) := rfl
  have FA := Lib.hid (ferr_at (sbad ss) ss.length)
  have FG := Lib.hid (ferr_go (sbad ss) ss.length)
  have FE := Lib.hid (ferr_end (sbad ss) ss.length)
  generalize ss.length = n at *
  generalize sStops ss = R at *
  go_enter Try.func21, Try.ntmps21
  go_wp2_with fail
  clear b0 b1
  go_loopw [12] (fun i wr => ∃ k : Nat, k ≤ n ∧ i = .int .i64 k ∧ Hid (R = ferr (sbad ss) (n - k) k) ∧ Below w.heap.size w wr) (fun i _ => n - (intOf i).toNat)
  case atStart => exact ⟨0, Nat.zero_le _, rfl, HQ, Below.refl _ _⟩
  case round =>
    clear HQ
    obtain ⟨k, hk, rfl, HR, hb⟩ := hrel
    by_cases hlt : k < n
    · rcases HS.out.at with h0 | ⟨b, off, rfl, hcell⟩
      · omega
      have HK : Hid (sbad ss k = if stA ss k < 0 ∨ 65535 < stA ss k ∨ pOk (stK ss k) = false then 2 else if 0 < k ∧ stA ss k ≤ stA ss (k - 1) then 24 else 0) := rfl
      have HC : Hid (∀ w', Below w.heap.size w w' → w'.cell? ⟨b, off + k * 5, none⟩ = some (.int .i64 (stA ss k)) ∧ w'.cell? ⟨b, off + k * 5 + 1, none⟩ = some (.int .i64 (stK ss k).1) ∧ w'.cell? ⟨b, off + k * 5 + 2, none⟩ = some (.int .i64 (stK ss k).2.1) ∧ w'.cell? ⟨b, off + k * 5 + 3, none⟩ = some (.int .i64 (stK ss k).2.2.1) ∧ w'.cell? ⟨b, off + k * 5 + 4, none⟩ = some (.int .i64 (stK ss k).2.2.2)) := fun w' hb' => hcell k hlt w' hb'
      have HP : Hid (∀ w' : World, Below w.heap.size w w' → 0 < k → w'.cell? ⟨b, off + (k - 1) * 5, none⟩ = some (.int .i64 (stA ss (k - 1)))) := fun w' hb' h0 => (hcell (k - 1) (by omega) w' hb').1
      have V1 := Lib.hid (fun w => sRefValid (stK ss k) w)
      have HF := Lib.hid (FA.out k hlt)
      have HG := Lib.hid (FG.out k hlt)
      clear hcell HS FA FG
      generalize stA ss (k - 1) = P at *
      generalize stA ss k = A at *
      generalize stK ss k = C at *
      obtain ⟨c0, c1, c2, c3⟩ := C
      replace V1 : Hid (∀ w, Calls Try.prog 40 #[pv c0 c1 c2 c3] w fun e w' => e = .returned (.bool (pOk (c0, c1, c2, c3))) ∧ Below w.heap.size w w') := V1
      generalize pOk (c0, c1, c2, c3) = ok at *
      have hc := HC.out wr hb
      simp only at hc
      have i1 : (0 : Int) ≤ (k : Int) := by omega
      have i2 : (k : Int) < (n : Int) := by omega
      have cs : A < 0 ∨ (¬ A < 0 ∧ 65535 < A) ∨ (¬ A < 0 ∧ ¬ 65535 < A) := by omega
      rcases cs with z1 | ⟨z1, z2⟩ | ⟨z1, z2⟩
      · have HE2 : Hid (sbad ss k = 2) := by show _ = _; rw [HK.out, if_pos (by omega)]
        go_wp2_with fail
        go_ret
        exact ⟨ret_int (by rw [HR.out, HF.out (by rw [HE2.out]; decide), HE2.out]), hb⟩
      · have HE2 : Hid (sbad ss k = 2) := by show _ = _; rw [HK.out, if_pos (by omega)]
        go_wp2_with fail
        go_ret
        exact ⟨ret_int (by rw [HR.out, HF.out (by rw [HE2.out]; decide), HE2.out]), hb⟩
      · cases ok with
        | false =>
          have HE2 : Hid (sbad ss k = 2) := by show _ = _; rw [HK.out, if_pos (.inr (.inr rfl))]
          go_wp2_with fail
          clear hc
          refine (V1.out _).mono ?_
          rintro e W2 ⟨rfl, hS⟩
          replace hb := hb.trans (hS.mono hb.size)
          clear hS
          go_wp2_with fail
          go_ret
          exact ⟨ret_int (by rw [HR.out, HF.out (by rw [HE2.out]; decide), HE2.out]), hb⟩
        | true =>
          by_cases hk0 : 0 < k
          · have g3 : decide ((k : Int) > 0) = true := by simp; omega
            have hw : IntKind.i64.wrap ((k : Int) - 1) = (k : Int) - 1 := IntWalk.i64_in _ (by omega)
            have ht : ((k : Int) - 1).toNat = k - 1 := by omega
            have hi1 : 0 ≤ (k : Int) - 1 := by omega
            have hi2 : (k : Int) - 1 < (n : Int) := by omega
            have hi3 : (1 : Int) ≤ (k : Int) := by omega
            by_cases e3 : A ≤ P
            · have HE2 : Hid (sbad ss k = 24) := by show _ = _; rw [HK.out, if_neg (by simp; omega), if_pos ⟨hk0, e3⟩]
              have g4 : decide (A ≤ P) = true := by simpa using e3
              go_wp2_with fail
              clear hc
              refine (V1.out _).mono ?_
              rintro e W2 ⟨rfl, hS⟩
              replace hb := hb.trans (hS.mono hb.size)
              clear hS
              go_wp2_with fail
              refine wp_region_grow 16 (fun w' => Below (World.heap W2).size W2 w') (by kernel_rfl) (by kernel_rfl) (Below.refl _ _).drew ?_
              simp only [List.take_succ_cons, List.take_zero, List.drop_succ_cons, List.drop_zero]
              repeat (first | (apply wpG_on; rfl; (intro w' hS K hK; have hr0 := HP.out _ (hb.trans (hS.mono hb.size)) hk0; have hr1 := HC.out _ (hb.trans (hS.mono hb.size)); go_simp; (first | exact hK.out _ hS)); simp only [Act.put, List.setIfInBounds_toArray, List.set_cons_succ, List.set_cons_zero]) | (apply wpG_off; rfl; simp only [Act.put, List.setIfInBounds_toArray, List.set_cons_succ, List.set_cons_zero]))
              apply wpG_nil
              intro W3 hS
              replace hb := hb.trans (hS.mono hb.size)
              clear hS
              clear hw ht
              go_wp2_with fail
              go_ret
              exact ⟨ret_int (by rw [HR.out, HF.out (by rw [HE2.out]; decide), HE2.out]), hb⟩
            · have HE2 : Hid (sbad ss k = 0) := by show _ = _; rw [HK.out, if_neg (by simp; omega), if_neg (fun h => e3 h.2)]
              have g4 : decide (A ≤ P) = false := by simpa using e3
              go_wp2_with fail
              clear hc
              refine (V1.out _).mono ?_
              rintro e W2 ⟨rfl, hS⟩
              replace hb := hb.trans (hS.mono hb.size)
              clear hS
              go_wp2_with fail
              refine wp_region_grow 16 (fun w' => Below (World.heap W2).size W2 w') (by kernel_rfl) (by kernel_rfl) (Below.refl _ _).drew ?_
              simp only [List.take_succ_cons, List.take_zero, List.drop_succ_cons, List.drop_zero]
              repeat (first | (apply wpG_on; rfl; (intro w' hS K hK; have hr0 := HP.out _ (hb.trans (hS.mono hb.size)) hk0; have hr1 := HC.out _ (hb.trans (hS.mono hb.size)); go_simp; (first | exact hK.out _ hS)); simp only [Act.put, List.setIfInBounds_toArray, List.set_cons_succ, List.set_cons_zero]) | (apply wpG_off; rfl; simp only [Act.put, List.setIfInBounds_toArray, List.set_cons_succ, List.set_cons_zero]))
              apply wpG_nil
              intro W3 hS
              replace hb := hb.trans (hS.mono hb.size)
              clear hS
              clear hw ht
              go_wp2_with fail
              go_roundw
              case rel => exact ⟨k + 1, by omega, by go_num, by show _ = _; rw [HR.out, HG.out HE2.out], hb⟩
              case measure => simp only [intOf]; omega
          · have g3 : decide ((k : Int) > 0) = false := by simp; omega
            have HE2 : Hid (sbad ss k = 0) := by show _ = _; rw [HK.out, if_neg (by simp; omega), if_neg (fun h => hk0 h.1)]
            go_wp2_with fail
            clear hc
            refine (V1.out _).mono ?_
            rintro e W2 ⟨rfl, hS⟩
            replace hb := hb.trans (hS.mono hb.size)
            clear hS
            go_wp2_with fail
            refine wp_region_grow 16 (fun w' => Below (World.heap W2).size W2 w') (by kernel_rfl) (by kernel_rfl) (Below.refl _ _).drew ?_
            simp only [List.take_succ_cons, List.take_zero, List.drop_succ_cons, List.drop_zero]
            repeat (first | (apply wpG_on; rfl; (intro w' hS K hK; go_simp; (first | exact hK.out _ hS)); simp only [Act.put, List.setIfInBounds_toArray, List.set_cons_succ, List.set_cons_zero]) | (apply wpG_off; rfl; simp only [Act.put, List.setIfInBounds_toArray, List.set_cons_succ, List.set_cons_zero]))
            apply wpG_nil
            intro W3 hS
            replace hb := hb.trans (hS.mono hb.size)
            clear hS
            go_wp2_with fail
            go_roundw
            case rel => exact ⟨k + 1, by omega, by go_num, by show _ = _; rw [HR.out, HG.out HE2.out], hb⟩
            case measure => simp only [intOf]; omega
    · obtain rfl : k = n := by omega
      go_wp2_with fail
      go_ret
      exact ⟨ret_int (by rw [HR.out, FE.out]), hb⟩

end Go.Proofs.Ytmejdhgknebbbaa
