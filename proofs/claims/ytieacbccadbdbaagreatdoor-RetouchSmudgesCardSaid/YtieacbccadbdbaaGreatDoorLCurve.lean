/- Several texts in one: Curve, CurveV, CurveRef. -/
import Derived.Test.YtieacbccadbdbaaGreatDoorLNum
import Derived.Test.YtieacbccadbdbaaGreatDoorLKit
import Derived.Test.YtieacbccadbdbaaGreatDoorLPlain
import Derived.IntWalk
import Derived.Deep.RegionHeld3

/- The walks of package curve and of its reference: Check, At. -/
namespace Go.Proofs.YtieacbccadbdbaaGreatDoor
open Go.RowKit
set_option linter.unusedVariables false
attribute [local go_sem] Oper.gAt gUponK

/-- The slice value v reads as the knots ks. -/
def Kn (w : World) (v : Value) (ks : Knots) : Prop :=
  ∃ a cap, v = .slice a ks.length cap ∧ ks.length ≤ 9223372036854775807 ∧ (ks.length = 0 ∨ ∃ b off, a = some ⟨b, off, none⟩ ∧ b < w.heap.size ∧
    ∀ i, i < ks.length → w.cell? ⟨b, off + i * 2, none⟩ = some (.int .i64 (kX ks i)) ∧ w.cell? ⟨b, off + i * 2 + 1, none⟩ = some (.int .i64 (kY ks i)))
theorem Kn.kept {w w' : World} {v : Value} {ks : Knots} (h : Kn w v ks) (hb : Below w.heap.size w w') : Kn w' v ks := by
  obtain ⟨a, cap, hv, hl, hr⟩ := h
  refine ⟨a, cap, hv, hl, ?_⟩
  rcases hr with h0 | ⟨b, off, ha, hlt, hc⟩
  · exact .inl h0
  · refine .inr ⟨b, off, ha, Nat.lt_of_lt_of_le hlt hb.size, fun i hi => ?_⟩
    rw [hb.cell (p := ⟨b, off + i * 2, none⟩) hlt, hb.cell (p := ⟨b, off + i * 2 + 1, none⟩) hlt]
    exact hc i hi

set_option maxHeartbeats 400000 in
theorem unit_c (x : Int) (w : World) :
    Calls Tryz.prog 169 #[.int .i64 x] w fun e w' => e = .returned (.int .i64 (cl x)) ∧ w = w' := by
  go_enter Tryz.func169, Tryz.ntmps169
  go_wp2_with fail
  refine (clamp_any _ _ _ _).mono ?_
  rintro e w' ⟨rfl, rfl⟩
  go_wp2_with fail
  go_ret
  exact ⟨ret_int (cl_min x), rfl⟩

set_option maxHeartbeats 1000000 in
theorem curveCheck_any (v : Value) (ks : Knots) (w : World) (h : Kn w v ks) :
    Calls Tryz.prog 155 #[v] w fun e w' => e = .returned (.int .i64 (kchk ks)) ∧ Below w.heap.size w w' := by
  obtain ⟨a, cap, rfl, hl, hr⟩ := h
  by_cases h2 : ks.length < 2
  · have HQ : Hid (kchk ks = 1) := by show _ = _; unfold kchk; rw [if_pos h2]
    go_enter Tryz.func155, Tryz.ntmps155
    go_wp2
    go_ret
    exact ⟨ret_int HQ.out.symm, Below.refl _ _⟩
  · by_cases h16 : 16 < ks.length
    · have HQ : Hid (kchk ks = 3) := by show _ = _; unfold kchk; rw [if_neg h2, if_pos h16]
      go_enter Tryz.func155, Tryz.ntmps155
      go_wp2
      go_ret
      exact ⟨ret_int HQ.out.symm, Below.refl _ _⟩
    · have HQ : Hid (kchk ks = ferr (kbad ks) (ks.length - 0) 0) := by show _ = _; unfold kchk; rw [if_neg h2, if_neg h16]
      rcases hr with h0 | ⟨b, off, rfl, hlt, hc⟩
      · omega
      have hc' : ∀ i, i < ks.length → ∀ w' : World, Below w.heap.size w w' → w'.cell? ⟨b, off + i * 2, none⟩ = some (.int .i64 (kX ks i)) ∧ w'.cell? ⟨b, off + i * 2 + 1, none⟩ = some (.int .i64 (kY ks i)) := fun i hi w' hb => by
        rw [hb.cell (p := ⟨b, off + i * 2, none⟩) hlt, hb.cell (p := ⟨b, off + i * 2 + 1, none⟩) hlt]
        exact hc i hi
      have HC := Lib.hid hc'
      clear hc hc'
      have e0 := Lib.hid (rfl : (ks.length : Nat) = ks.length)
      generalize hn : ks.length = n at *
      have HN := Lib.hid hn
      clear hn e0
      have d2 : decide ((n : Int) < 2) = false := by simp; omega
      have d16 : decide (16 < (n : Int)) = false := by simp; omega
      go_enter Tryz.func155, Tryz.ntmps155
      go_wp2
      clear d2 d16
      go_loopw [3, 4, 13] (fun _ _ i wr => ∃ k : Nat, k ≤ n ∧ i = .int .i64 k ∧ Hid (kchk ks = ferr (kbad ks) (n - k) k) ∧ Below w.heap.size w wr) (fun _ _ i _ => n - (intOf i).toNat)
      case atStart => exact ⟨0, Nat.zero_le _, rfl, HQ, Below.refl _ _⟩
      case round =>
        obtain ⟨k, hk, rfl, HR, hb⟩ := hrel
        by_cases hlt2 : k < n
        · obtain ⟨c1, c2⟩ := HC.out k hlt2 wr hb
          have HK : Hid (kbad ks k = if kX ks k ≠ cl (kX ks k) then 2 else if kY ks k ≠ cl (kY ks k) then 2 else if 0 < k ∧ kX ks k ≤ kX ks (k - 1) then 24 else 0) := rfl
          have HP : Hid (∀ w' : World, Below w.heap.size w w' → 0 < k → w'.cell? ⟨b, off + (k - 1) * 2, none⟩ = some (.int .i64 (kX ks (k - 1)))) := fun w' hb' h0 => (HC.out (k - 1) (by omega) w' hb').1
          have HF := Lib.hid (ferr_at (kbad ks) n k hlt2)
          have HG := Lib.hid (ferr_go (kbad ks) n k hlt2)
          generalize kX ks (k - 1) = P at *
          generalize kX ks k = X at *
          generalize kY ks k = Y at *
          clear HC
          by_cases e1 : X = cl X
          · have g1 : (X != cl X) = false := by simpa using e1
            have E1 := Lib.hid e1
            clear e1
            by_cases e2 : Y = cl Y
            · have g2 : (Y != cl Y) = false := by simpa using e2
              have E2 := Lib.hid e2
              clear e2
              by_cases hk0 : 0 < k
              · have g3 : decide ((k : Int) > 0) = true := by simp; omega
                have hw : IntKind.i64.wrap ((k : Int) - 1) = (k : Int) - 1 := IntWalk.i64_in _ (by omega)
                have ht : ((k : Int) - 1).toNat = k - 1 := by omega
                have hi1 : 0 ≤ (k : Int) - 1 := by omega
                have hi2 : (k : Int) - 1 < (n : Int) := by omega
                have hi3 : (1 : Int) ≤ (k : Int) := by omega
                by_cases e3 : X ≤ P
                · have HE : Hid (kbad ks k = 24) := by show _ = _; rw [HK.out, if_neg (fun h => h E1.out), if_neg (fun h => h E2.out), if_pos ⟨hk0, e3⟩]
                  have g4 : decide (X ≤ P) = true := by simpa using e3
                  go_wp2
                  refine name1 (fun W k1 hb1 => ?_)
                  replace hb := hb.trans (hb1.mono hb.size)
                  clear hb1
                  refine wp_region_grow 14 (fun w' => Below (World.heap W).size W w') (by kernel_rfl) (by kernel_rfl) (Below.refl _ _).drew ?_
                  simp only [List.take_succ_cons, List.take_zero, List.drop_succ_cons, List.drop_zero]
                  repeat (first | (apply wpG_on; rfl; (intro w' hS K hK; have hc0 := (k1.kept hS).c2; go_simp; (first | exact hK.out _ hS | (go_at_call 169; (with_reducible refine (unit_c _ _).mono ?_); rintro e w'' ⟨rfl, rfl⟩; exact ⟨_, rfl, hK.out _ hS⟩))); simp only [Act.put, List.setIfInBounds_toArray, List.set_cons_succ, List.set_cons_zero]) | (apply wpG_off; rfl; simp only [Act.put, List.setIfInBounds_toArray, List.set_cons_succ, List.set_cons_zero]))
                  apply wpG_nil
                  intro W1 hS
                  replace k1 := k1.kept hS
                  replace hb := hb.trans (hS.mono hb.size)
                  clear hS
                  go_wp2_with fail
                  refine wp_region_grow 13 (fun w' => Below (World.heap W1).size W1 w') (by kernel_rfl) (by kernel_rfl) (Below.refl _ _).drew ?_
                  simp only [List.take_succ_cons, List.take_zero, List.drop_succ_cons, List.drop_zero]
                  repeat (first | (apply wpG_on; rfl; (intro w' hS K hK; have hc0 := (k1.kept hS).c2; have hr0 := HP.out _ (hb.trans (hS.mono hb.size)) hk0; go_simp; (first | exact hK.out _ hS)); simp only [Act.put, List.setIfInBounds_toArray, List.set_cons_succ, List.set_cons_zero]) | (apply wpG_off; rfl; simp only [Act.put, List.setIfInBounds_toArray, List.set_cons_succ, List.set_cons_zero]))
                  apply wpG_nil
                  intro W2 hS
                  replace k1 := k1.kept hS
                  replace hb := hb.trans (hS.mono hb.size)
                  clear hS
                  clear hw ht
                  go_wp2_with fail
                  go_ret
                  exact ⟨ret_int (by rw [HR.out, HF.out (by rw [HE.out]; decide), HE.out]), hb⟩
                · have HE : Hid (kbad ks k = 0) := by show _ = _; rw [HK.out, if_neg (fun h => h E1.out), if_neg (fun h => h E2.out), if_neg (fun h => e3 h.2)]
                  have g4 : decide (X ≤ P) = false := by simpa using e3
                  go_wp2
                  refine name1 (fun W k1 hb1 => ?_)
                  replace hb := hb.trans (hb1.mono hb.size)
                  clear hb1
                  refine wp_region_grow 14 (fun w' => Below (World.heap W).size W w') (by kernel_rfl) (by kernel_rfl) (Below.refl _ _).drew ?_
                  simp only [List.take_succ_cons, List.take_zero, List.drop_succ_cons, List.drop_zero]
                  repeat (first | (apply wpG_on; rfl; (intro w' hS K hK; have hc0 := (k1.kept hS).c2; go_simp; (first | exact hK.out _ hS | (go_at_call 169; (with_reducible refine (unit_c _ _).mono ?_); rintro e w'' ⟨rfl, rfl⟩; exact ⟨_, rfl, hK.out _ hS⟩))); simp only [Act.put, List.setIfInBounds_toArray, List.set_cons_succ, List.set_cons_zero]) | (apply wpG_off; rfl; simp only [Act.put, List.setIfInBounds_toArray, List.set_cons_succ, List.set_cons_zero]))
                  apply wpG_nil
                  intro W1 hS
                  replace k1 := k1.kept hS
                  replace hb := hb.trans (hS.mono hb.size)
                  clear hS
                  go_wp2_with fail
                  refine wp_region_grow 13 (fun w' => Below (World.heap W1).size W1 w') (by kernel_rfl) (by kernel_rfl) (Below.refl _ _).drew ?_
                  simp only [List.take_succ_cons, List.take_zero, List.drop_succ_cons, List.drop_zero]
                  repeat (first | (apply wpG_on; rfl; (intro w' hS K hK; have hc0 := (k1.kept hS).c2; have hr0 := HP.out _ (hb.trans (hS.mono hb.size)) hk0; go_simp; (first | exact hK.out _ hS)); simp only [Act.put, List.setIfInBounds_toArray, List.set_cons_succ, List.set_cons_zero]) | (apply wpG_off; rfl; simp only [Act.put, List.setIfInBounds_toArray, List.set_cons_succ, List.set_cons_zero]))
                  apply wpG_nil
                  intro W2 hS
                  replace k1 := k1.kept hS
                  replace hb := hb.trans (hS.mono hb.size)
                  clear hS
                  clear hw ht
                  go_wp2_with fail
                  go_roundw
                  case rel => exact ⟨k + 1, by omega, by go_num, by show _ = _; rw [HR.out, HG.out HE.out], hb⟩
                  case measure => simp [intOf]; omega
              · have g3 : decide ((k : Int) > 0) = false := by simp; omega
                have HE : Hid (kbad ks k = 0) := by show _ = _; rw [HK.out, if_neg (fun h => h E1.out), if_neg (fun h => h E2.out), if_neg (fun h => hk0 h.1)]
                go_wp2
                refine name1 (fun W k1 hb1 => ?_)
                replace hb := hb.trans (hb1.mono hb.size)
                clear hb1
                refine wp_region_grow 14 (fun w' => Below (World.heap W).size W w') (by kernel_rfl) (by kernel_rfl) (Below.refl _ _).drew ?_
                simp only [List.take_succ_cons, List.take_zero, List.drop_succ_cons, List.drop_zero]
                repeat (first | (apply wpG_on; rfl; (intro w' hS K hK; have hc0 := (k1.kept hS).c2; go_simp; (first | exact hK.out _ hS | (go_at_call 169; (with_reducible refine (unit_c _ _).mono ?_); rintro e w'' ⟨rfl, rfl⟩; exact ⟨_, rfl, hK.out _ hS⟩))); simp only [Act.put, List.setIfInBounds_toArray, List.set_cons_succ, List.set_cons_zero]) | (apply wpG_off; rfl; simp only [Act.put, List.setIfInBounds_toArray, List.set_cons_succ, List.set_cons_zero]))
                apply wpG_nil
                intro W1 hS
                replace k1 := k1.kept hS
                replace hb := hb.trans (hS.mono hb.size)
                clear hS
                go_wp2_with fail
                refine wp_region_grow 13 (fun w' => Below (World.heap W1).size W1 w') (by kernel_rfl) (by kernel_rfl) (Below.refl _ _).drew ?_
                simp only [List.take_succ_cons, List.take_zero, List.drop_succ_cons, List.drop_zero]
                repeat (first | (apply wpG_on; rfl; (intro w' hS K hK; have hc0 := (k1.kept hS).c2; go_simp; (first | exact hK.out _ hS)); simp only [Act.put, List.setIfInBounds_toArray, List.set_cons_succ, List.set_cons_zero]) | (apply wpG_off; rfl; simp only [Act.put, List.setIfInBounds_toArray, List.set_cons_succ, List.set_cons_zero]))
                apply wpG_nil
                intro W2 hS
                replace k1 := k1.kept hS
                replace hb := hb.trans (hS.mono hb.size)
                clear hS
                go_wp2_with fail
                go_roundw
                case rel => exact ⟨k + 1, by omega, by go_num, by show _ = _; rw [HR.out, HG.out HE.out], hb⟩
                case measure => simp [intOf]; omega
            · have g2 : (Y != cl Y) = true := by simpa using e2
              have HE : Hid (kbad ks k = 2) := by show _ = _; rw [HK.out, if_neg (fun h => h E1.out), if_pos e2]
              clear e2
              go_wp2
              refine name1 (fun W k1 hb1 => ?_)
              replace hb := hb.trans (hb1.mono hb.size)
              clear hb1
              refine wp_region_grow 14 (fun w' => Below (World.heap W).size W w') (by kernel_rfl) (by kernel_rfl) (Below.refl _ _).drew ?_
              simp only [List.take_succ_cons, List.take_zero, List.drop_succ_cons, List.drop_zero]
              repeat (first | (apply wpG_on; rfl; (intro w' hS K hK; have hc0 := (k1.kept hS).c2; go_simp; (first | exact hK.out _ hS | (go_at_call 169; (with_reducible refine (unit_c _ _).mono ?_); rintro e w'' ⟨rfl, rfl⟩; exact ⟨_, rfl, hK.out _ hS⟩))); simp only [Act.put, List.setIfInBounds_toArray, List.set_cons_succ, List.set_cons_zero]) | (apply wpG_off; rfl; simp only [Act.put, List.setIfInBounds_toArray, List.set_cons_succ, List.set_cons_zero]))
              apply wpG_nil
              intro W1 hS
              replace k1 := k1.kept hS
              replace hb := hb.trans (hS.mono hb.size)
              clear hS
              go_wp2_with fail
              go_ret
              exact ⟨ret_int (by rw [HR.out, HF.out (by rw [HE.out]; decide), HE.out]), hb⟩
          · have g1 : (X != cl X) = true := by simpa using e1
            have HE : Hid (kbad ks k = 2) := by show _ = _; rw [HK.out, if_pos e1]
            clear e1
            go_wp2
            refine name1 (fun W k1 hb1 => ?_)
            replace hb := hb.trans (hb1.mono hb.size)
            clear hb1
            refine wp_region_grow 14 (fun w' => Below (World.heap W).size W w') (by kernel_rfl) (by kernel_rfl) (Below.refl _ _).drew ?_
            simp only [List.take_succ_cons, List.take_zero, List.drop_succ_cons, List.drop_zero]
            repeat (first | (apply wpG_on; rfl; (intro w' hS K hK; have hc0 := (k1.kept hS).c2; go_simp; (first | exact hK.out _ hS | (go_at_call 169; (with_reducible refine (unit_c _ _).mono ?_); rintro e w'' ⟨rfl, rfl⟩; exact ⟨_, rfl, hK.out _ hS⟩))); simp only [Act.put, List.setIfInBounds_toArray, List.set_cons_succ, List.set_cons_zero]) | (apply wpG_off; rfl; simp only [Act.put, List.setIfInBounds_toArray, List.set_cons_succ, List.set_cons_zero]))
            apply wpG_nil
            intro W1 hS
            replace k1 := k1.kept hS
            replace hb := hb.trans (hS.mono hb.size)
            clear hS
            go_wp2_with fail
            go_ret
            exact ⟨ret_int (by rw [HR.out, HF.out (by rw [HE.out]; decide), HE.out]), hb⟩
        · obtain rfl : k = n := by omega
          go_wp2
          go_ret
          exact ⟨ret_int (by rw [HR.out, ferr_end]), hb⟩
end Go.Proofs.YtieacbccadbdbaaGreatDoor


/- The walks of package curve, continued: value, At. -/
namespace Go.Proofs.YtieacbccadbdbaaGreatDoor
open Go.RowKit
set_option linter.unusedVariables false
attribute [local go_sem] Oper.gAt gUponK

set_option maxHeartbeats 1000000 in
theorem curveValue_any (v : Value) (ks : Knots) (x : Int) (w : World) (h : Kn w v ks) (hok : kchk ks = 0) (hx1 : -9223372036854775808 ≤ x) (hx2 : x ≤ 9223372036854775807) :
    Calls Tryz.prog 173 #[v, .int .i64 x] w fun e w' => e = .returned (.int .i64 (kval ks x)) ∧ Below w.heap.size w w' := by
  obtain ⟨a, cap, rfl, hl, hr⟩ := h
  obtain ⟨h2, h16, hbd, hord⟩ := kchk_ok ks hok
  clear hok
  rcases hr with h0 | ⟨b, off, rfl, hlt, hc⟩
  · omega
  have hc' : ∀ i, i < ks.length → ∀ w' : World, Below w.heap.size w w' → w'.cell? ⟨b, off + i * 2, none⟩ = some (.int .i64 (kX ks i)) ∧ w'.cell? ⟨b, off + i * 2 + 1, none⟩ = some (.int .i64 (kY ks i)) := fun i hi w' hb => by
    rw [hb.cell (p := ⟨b, off + i * 2, none⟩) hlt, hb.cell (p := ⟨b, off + i * 2 + 1, none⟩) hlt]
    exact hc i hi
  have HC := Lib.hid hc'
  have HBD := Lib.hid hbd
  have HOR := Lib.hid hord
  obtain ⟨c0, c1⟩ := hc 0 (by omega)
  simp only [Nat.zero_mul, Nat.add_zero] at c0 c1
  clear hc hc' hbd hord
  by_cases hx : x ≤ kX ks 0
  · have HQ : Hid (kval ks x = kY ks 0) := by show _ = _; unfold kval; rw [if_pos hx]
    generalize ks.length = n at *
    go_enter Tryz.func173, Tryz.ntmps173
    go_wp2
    go_ret
    exact ⟨ret_int HQ.out.symm, Below.refl _ _⟩
  · have HQ : Hid (kval ks x = kfrom ks x (ks.length - 1) 1) := by show _ = _; unfold kval; rw [if_neg hx]
    have HE := Lib.hid (kfrom_end ks x)
    generalize hn : ks.length = n at *
    have HN := Lib.hid hn
    clear hn
    have d0 : decide (x ≤ kX ks 0) = false := by simpa using hx
    go_enter Tryz.func173, Tryz.ntmps173
    go_wp2
    clear d0 c0 c1
    go_loopw [5, 6, 7] (fun i _ _ wr => ∃ k : Nat, 0 < k ∧ k ≤ n ∧ i = .int .i64 k ∧ kX ks (k - 1) ≤ x ∧ Hid (kval ks x = kfrom ks x (n - k) k) ∧ Below w.heap.size w wr) (fun i _ _ _ => n - (intOf i).toNat)
    case atStart => exact ⟨1, by omega, by omega, rfl, by simp; omega, HQ, Below.refl _ _⟩
    case round =>
      obtain ⟨k, hk0, hk, rfl, hxk, HR, hb⟩ := hrel
      by_cases hlt2 : k < n
      · obtain ⟨p1, p2⟩ := HC.out (k - 1) (by omega) wr hb
        obtain ⟨q1, q2⟩ := HC.out k hlt2 wr hb
        have hw : IntKind.i64.wrap ((k : Int) - 1) = (k : Int) - 1 := IntWalk.i64_in _ (by omega)
        have ht : ((k : Int) - 1).toNat = k - 1 := by omega
        have hi1 : 0 ≤ (k : Int) - 1 := by omega
        have hi2 : (k : Int) - 1 < (n : Int) := by omega
        have hi3 : (1 : Int) ≤ (k : Int) := by omega
        have hi4 : (0 : Int) ≤ (k : Int) := by omega
        have hi5 : (k : Int) < (n : Int) := by omega
        go_wp2
        go_region_held3 (fun w' => w'.cell? ⟨b, off + (k - 1) * 2, none⟩ = some (.int .i64 (kX ks (k - 1))) ∧ w'.cell? ⟨b, off + (k - 1) * 2 + 1, none⟩ = some (.int .i64 (kY ks (k - 1))) ∧ w'.cell? ⟨b, off + k * 2, none⟩ = some (.int .i64 (kX ks k)) ∧ w'.cell? ⟨b, off + k * 2 + 1, none⟩ = some (.int .i64 (kY ks k))) (go_keep) (fail)
        all_goals
          clear hw ht p1 p2 q1 q2
          have hB1 := HBD.out (k - 1) (by omega)
          have hB2 := HBD.out k hlt2
          have hO := HOR.out k hk0 hlt2
          have HM : Hid (kmid ks x k = kY ks (k - 1) + dv ((kY ks k - kY ks (k - 1)) * (x - kX ks (k - 1))) (kX ks k - kX ks (k - 1))) := rfl
          have HF := Lib.hid (kfrom_at ks x n k hlt2)
          have HG := Lib.hid (kfrom_go ks x n k hlt2)
          by_cases hq : x < kX ks k
          · generalize kX ks k = Q at *
            generalize kX ks (k - 1) = P at *
            generalize kY ks k = Y1 at *
            generalize kY ks (k - 1) = Y0 at *
            obtain ⟨m1, m2, m3, m4⟩ := kmid_bd P Q x Y0 Y1 hB1.2.2.1 hB1.2.2.2 hB2.2.2.1 hB2.2.2.2 hB1.1 hB2.2.1 hxk hq
            go_wp2_with fail
            refine name2d (fun W k1 k2 hb1 => ?_)
            replace hb := hb.trans (hb1.mono hb.size)
            clear hb1
            have e1 : IntKind.i64.wrap (Y1 - Y0) = Y1 - Y0 := IntWalk.i64_in _ (by omega)
            have e2 : IntKind.i64.wrap (x - P) = x - P := IntWalk.i64_in _ (by omega)
            have e3 : IntKind.i64.wrap ((Y1 - Y0) * (x - P)) = (Y1 - Y0) * (x - P) := IntWalk.i64_in _ (by omega)
            have e4 : IntKind.i64.wrap (Q - P) = Q - P := IntWalk.i64_in _ (by omega)
            have e5 : IntKind.i64.wrap (Y0 + dv ((Y1 - Y0) * (x - P)) (Q - P)) = Y0 + dv ((Y1 - Y0) * (x - P)) (Q - P) := IntWalk.i64_in _ (by omega)
            have f1 : 0 < Q - P := by omega
            have f2 : Q - P ≤ 4611686018427387904 := by omega
            have f3 : -4611686018427387904 ≤ (Y1 - Y0) * (x - P) := by omega
            have f4 : (Y1 - Y0) * (x - P) ≤ 4611686018427387904 := by omega
            refine wp_region_grow 20 (fun w' => Below (World.heap W).size W w') (by kernel_rfl) (by kernel_rfl) (Below.refl _ _).drew ?_
            simp only [List.take_succ_cons, List.take_zero, List.drop_succ_cons, List.drop_zero]
            repeat (first | (apply wpG_on; rfl; (intro w' hS K hK; have hc0 := (k1.kept hS).c2; have hc1 := (k2.kept hS).c2; go_simp; (first | exact hK.out _ hS | (go_at_call 61; (with_reducible refine (div_any _ _ _ f1 f2 f3 f4).mono ?_); rintro e w'' ⟨rfl, rfl⟩; exact ⟨_, rfl, hK.out _ hS⟩))); simp only [Act.put, List.setIfInBounds_toArray, List.set_cons_succ, List.set_cons_zero]) | (apply wpG_off; rfl; simp only [Act.put, List.setIfInBounds_toArray, List.set_cons_succ, List.set_cons_zero]))
            apply wpG_nil
            intro W1 hS
            replace k1 := k1.kept hS
            replace k2 := k2.kept hS
            replace hb := hb.trans (hS.mono hb.size)
            clear hS
            clear e1 e2 e3 e4 e5
            go_wp2_with fail
            go_ret
            exact ⟨ret_int (by rw [HR.out, HF.out hq, HM.out]), hb⟩
          · have hq' : kX ks k ≤ x := by omega
            go_wp2_with fail
            go_roundw
            case rel => exact ⟨k + 1, by omega, by omega, by go_num, by rw [Nat.add_sub_cancel]; exact hq', by show _ = _; rw [HR.out, HG.out hq], hb.trans ((((Below.refl _ _).alloc (Nat.le_refl _) _).alloc (by simp) _).drew.mono hb.size)⟩
            case measure => simp [intOf]; omega
      · obtain rfl : k = n := by omega
        obtain ⟨p1, p2⟩ := HC.out (k - 1) (by omega) wr hb
        have hw : IntKind.i64.wrap ((k : Int) - 1) = (k : Int) - 1 := IntWalk.i64_in _ (by omega)
        have ht : ((k : Int) - 1).toNat = k - 1 := by omega
        have hi1 : 0 ≤ (k : Int) - 1 := by omega
        have hi3 : (1 : Int) ≤ (k : Int) := by omega
        have HEQ : Hid (kval ks x = kY ks (k - 1)) := by show _ = _; rw [HR.out, HE.out]
        go_wp2_with fail
        go_ret
        exact ⟨ret_int HEQ.out.symm, hb⟩

set_option maxHeartbeats 400000 in
theorem curveAt_any (v : Value) (ks : Knots) (x : Int) (w : World) (h : Kn w v ks) (hx1 : -9223372036854775808 ≤ x) (hx2 : x ≤ 9223372036854775807) :
    Calls Tryz.prog 159 #[v, .int .i64 x] w fun e w' => e = .returned (.int .i64 (kat ks x)) ∧ Below w.heap.size w w' := by
  have hsl : ∃ a n cap, v = .slice a n cap := by obtain ⟨a, cap, hv, _⟩ := h; exact ⟨_, _, _, hv⟩
  by_cases hk : kchk ks = 0
  · have HQ : Hid (kat ks x = kval ks x) := by show _ = _; unfold kat; rw [if_pos hk]
    have HK := Lib.hid hk
    have HH := Lib.hid h
    obtain ⟨a, n, cap, rfl⟩ := hsl
    clear hk h
    go_enter Tryz.func159, Tryz.ntmps159
    go_wp2_with fail
    refine (curveCheck_any _ _ _ HH.out).mono ?_
    rintro e w1 ⟨rfl, hb⟩
    rw [HK.out]
    go_wp2_with fail
    refine (curveValue_any _ _ _ _ (HH.out.kept hb) HK.out hx1 hx2).mono ?_
    rintro e w2 ⟨rfl, hb2⟩
    go_wp2_with fail
    go_ret
    exact ⟨ret_int HQ.out.symm, hb.trans (hb2.mono hb.size)⟩
  · have HQ : Hid (kat ks x = cl x) := by show _ = _; unfold kat; rw [if_neg hk]
    have hf : (kchk ks != 0) = true := by simpa using hk
    have HH := Lib.hid h
    obtain ⟨a, n, cap, rfl⟩ := hsl
    clear hk h
    go_enter Tryz.func159, Tryz.ntmps159
    go_wp2_with fail
    refine (curveCheck_any _ _ _ HH.out).mono ?_
    rintro e w1 ⟨rfl, hb⟩
    go_wp2_with fail
    refine (unit_c _ _).mono ?_
    rintro e w' ⟨rfl, rfl⟩
    go_wp2_with fail
    go_ret
    exact ⟨ret_int HQ.out.symm, hb⟩
end Go.Proofs.YtieacbccadbdbaaGreatDoor


/- The walks of the reference of package curve: Check, At. -/
namespace Go.Proofs.YtieacbccadbdbaaGreatDoor
open Go.RowKit
set_option linter.unusedVariables false
attribute [local go_sem] Oper.gAt gUponK

set_option maxHeartbeats 400000 in
theorem refUnit_c (x : Int) (w : World) :
    Calls Tryz.prog 171 #[.int .i64 x] w fun e w' => e = .returned (.bool (decide (x = cl x))) ∧ w = w' := by
  by_cases h0 : 0 ≤ x
  · by_cases h1 : x ≤ 65535
    · go_enter Tryz.func171, Tryz.ntmps171
      go_wp2
      go_ret
      exact ⟨ret_bool (by symm; rw [decide_eq_true_eq, cl_iff]; exact ⟨h0, h1⟩), rfl⟩
    · go_enter Tryz.func171, Tryz.ntmps171
      go_wp2
      go_ret
      exact ⟨ret_bool (by symm; rw [decide_eq_false_iff_not, cl_iff]; omega), rfl⟩
  · go_enter Tryz.func171, Tryz.ntmps171
    go_wp2
    go_ret
    exact ⟨ret_bool (by symm; rw [decide_eq_false_iff_not, cl_iff]; omega), rfl⟩

set_option maxHeartbeats 1000000 in
theorem refCurveCheck_any (v : Value) (ks : Knots) (w : World) (h : Kn w v ks) :
    Calls Tryz.prog 157 #[v] w fun e w' => e = .returned (.int .i64 (kchk ks)) ∧ Below w.heap.size w w' := by
  obtain ⟨a, cap, rfl, hl, hr⟩ := h
  by_cases h2 : ks.length < 2
  · have HQ : Hid (kchk ks = 1) := by show _ = _; unfold kchk; rw [if_pos h2]
    go_enter Tryz.func157, Tryz.ntmps157
    go_wp2
    go_ret
    exact ⟨ret_int HQ.out.symm, Below.refl _ _⟩
  · by_cases h16 : 16 < ks.length
    · have HQ : Hid (kchk ks = 3) := by show _ = _; unfold kchk; rw [if_neg h2, if_pos h16]
      go_enter Tryz.func157, Tryz.ntmps157
      go_wp2
      go_ret
      exact ⟨ret_int HQ.out.symm, Below.refl _ _⟩
    · have HQ : Hid (kchk ks = ferr (kbad ks) (ks.length - 0) 0) := by show _ = _; unfold kchk; rw [if_neg h2, if_neg h16]
      rcases hr with h0 | ⟨b, off, rfl, hlt, hc⟩
      · omega
      have hc' : ∀ i, i < ks.length → ∀ w' : World, Below w.heap.size w w' → w'.cell? ⟨b, off + i * 2, none⟩ = some (.int .i64 (kX ks i)) ∧ w'.cell? ⟨b, off + i * 2 + 1, none⟩ = some (.int .i64 (kY ks i)) := fun i hi w' hb => by
        rw [hb.cell (p := ⟨b, off + i * 2, none⟩) hlt, hb.cell (p := ⟨b, off + i * 2 + 1, none⟩) hlt]
        exact hc i hi
      have HC := Lib.hid hc'
      clear hc hc'
      generalize hn : ks.length = n at *
      have HN := Lib.hid hn
      clear hn
      have d2 : decide ((n : Int) < 2) = false := by simp; omega
      have d16 : decide (16 < (n : Int)) = false := by simp; omega
      go_enter Tryz.func157, Tryz.ntmps157
      go_wp2
      clear d2 d16
      go_loopw [3] (fun i wr => ∃ k : Nat, k ≤ n ∧ i = .int .i64 k ∧ Hid (kchk ks = ferr (kbad ks) (n - k) k) ∧ Below w.heap.size w wr) (fun i _ => n - (intOf i).toNat)
      case atStart => exact ⟨0, Nat.zero_le _, rfl, HQ, Below.refl _ _⟩
      case round =>
        obtain ⟨k, hk, rfl, HR, hb⟩ := hrel
        by_cases hlt2 : k < n
        · obtain ⟨c1, c2⟩ := HC.out k hlt2 wr hb
          have HK : Hid (kbad ks k = if kX ks k ≠ cl (kX ks k) then 2 else if kY ks k ≠ cl (kY ks k) then 2 else if 0 < k ∧ kX ks k ≤ kX ks (k - 1) then 24 else 0) := rfl
          have HP : Hid (∀ w' : World, Below w.heap.size w w' → 0 < k → w'.cell? ⟨b, off + (k - 1) * 2, none⟩ = some (.int .i64 (kX ks (k - 1)))) := fun w' hb' h0 => (HC.out (k - 1) (by omega) w' hb').1
          have HO : Hid (∀ w' : World, Below w.heap.size w w' → w'.cell? ⟨b, off + k * 2, none⟩ = some (.int .i64 (kX ks k))) := fun w' hb' => (HC.out k hlt2 w' hb').1
          have HF := Lib.hid (ferr_at (kbad ks) n k hlt2)
          have HG := Lib.hid (ferr_go (kbad ks) n k hlt2)
          have hi4 : (0 : Int) ≤ (k : Int) := by omega
          have hi5 : (k : Int) < (n : Int) := by omega
          generalize kX ks (k - 1) = P at *
          generalize kX ks k = X at *
          generalize kY ks k = Y at *
          clear HC
          by_cases e1 : X = cl X
          · have g1 : decide (X = cl X) = true := by simpa using e1
            have E1 := Lib.hid e1
            clear e1
            by_cases e2 : Y = cl Y
            · have g2 : decide (Y = cl Y) = true := by simpa using e2
              have E2 := Lib.hid e2
              clear e2
              by_cases hk0 : 0 < k
              · have g3 : decide ((k : Int) > 0) = true := by simp; omega
                have hw : IntKind.i64.wrap ((k : Int) - 1) = (k : Int) - 1 := IntWalk.i64_in _ (by omega)
                have ht : ((k : Int) - 1).toNat = k - 1 := by omega
                have hi1 : 0 ≤ (k : Int) - 1 := by omega
                have hi2 : (k : Int) - 1 < (n : Int) := by omega
                have hi3 : (1 : Int) ≤ (k : Int) := by omega
                by_cases e3 : X ≤ P
                · have HE : Hid (kbad ks k = 24) := by show _ = _; rw [HK.out, if_neg (fun h => h E1.out), if_neg (fun h => h E2.out), if_pos ⟨hk0, e3⟩]
                  have g4 : decide (X ≤ P) = true := by simpa using e3
                  go_wp2_with fail
                  refine (refUnit_c _ _).mono ?_
                  rintro e w' ⟨rfl, rfl⟩
                  rw [g1]
                  go_wp2_with fail
                  refine (refUnit_c _ _).mono ?_
                  rintro e w' ⟨rfl, rfl⟩
                  rw [g2]
                  go_wp2_with fail
                  refine wp_region_grow 16 (fun w' => Below (World.heap wr).size wr w') (by kernel_rfl) (by kernel_rfl) (Below.refl _ _).drew ?_
                  simp only [List.take_succ_cons, List.take_zero, List.drop_succ_cons, List.drop_zero]
                  repeat (first | (apply wpG_on; rfl; (intro w' hS K hK; have hr0 := HP.out _ (hb.trans (hS.mono hb.size)) hk0; have hr1 := HO.out _ (hb.trans (hS.mono hb.size)); go_simp; (first | exact hK.out _ hS)); simp only [Act.put, List.setIfInBounds_toArray, List.set_cons_succ, List.set_cons_zero]) | (apply wpG_off; rfl; simp only [Act.put, List.setIfInBounds_toArray, List.set_cons_succ, List.set_cons_zero]))
                  apply wpG_nil
                  intro W2 hS
                  replace hb := hb.trans (hS.mono hb.size)
                  clear hS
                  clear hw ht
                  go_wp2_with fail
                  go_ret
                  exact ⟨ret_int (by rw [HR.out, HF.out (by rw [HE.out]; decide), HE.out]), hb⟩
                · have HE : Hid (kbad ks k = 0) := by show _ = _; rw [HK.out, if_neg (fun h => h E1.out), if_neg (fun h => h E2.out), if_neg (fun h => e3 h.2)]
                  have g4 : decide (X ≤ P) = false := by simpa using e3
                  go_wp2_with fail
                  refine (refUnit_c _ _).mono ?_
                  rintro e w' ⟨rfl, rfl⟩
                  rw [g1]
                  go_wp2_with fail
                  refine (refUnit_c _ _).mono ?_
                  rintro e w' ⟨rfl, rfl⟩
                  rw [g2]
                  go_wp2_with fail
                  refine wp_region_grow 16 (fun w' => Below (World.heap wr).size wr w') (by kernel_rfl) (by kernel_rfl) (Below.refl _ _).drew ?_
                  simp only [List.take_succ_cons, List.take_zero, List.drop_succ_cons, List.drop_zero]
                  repeat (first | (apply wpG_on; rfl; (intro w' hS K hK; have hr0 := HP.out _ (hb.trans (hS.mono hb.size)) hk0; have hr1 := HO.out _ (hb.trans (hS.mono hb.size)); go_simp; (first | exact hK.out _ hS)); simp only [Act.put, List.setIfInBounds_toArray, List.set_cons_succ, List.set_cons_zero]) | (apply wpG_off; rfl; simp only [Act.put, List.setIfInBounds_toArray, List.set_cons_succ, List.set_cons_zero]))
                  apply wpG_nil
                  intro W2 hS
                  replace hb := hb.trans (hS.mono hb.size)
                  clear hS
                  clear hw ht
                  go_wp2_with fail
                  go_roundw
                  case rel => exact ⟨k + 1, by omega, by go_num, by show _ = _; rw [HR.out, HG.out HE.out], hb⟩
                  case measure => simp [intOf]; omega
              · have g3 : decide ((k : Int) > 0) = false := by simp; omega
                have HE : Hid (kbad ks k = 0) := by show _ = _; rw [HK.out, if_neg (fun h => h E1.out), if_neg (fun h => h E2.out), if_neg (fun h => hk0 h.1)]
                go_wp2_with fail
                refine (refUnit_c _ _).mono ?_
                rintro e w' ⟨rfl, rfl⟩
                rw [g1]
                go_wp2_with fail
                refine (refUnit_c _ _).mono ?_
                rintro e w' ⟨rfl, rfl⟩
                rw [g2]
                go_wp2_with fail
                refine wp_region_grow 16 (fun w' => Below (World.heap wr).size wr w') (by kernel_rfl) (by kernel_rfl) (Below.refl _ _).drew ?_
                simp only [List.take_succ_cons, List.take_zero, List.drop_succ_cons, List.drop_zero]
                repeat (first | (apply wpG_on; rfl; (intro w' hS K hK; go_simp; (first | exact hK.out _ hS)); simp only [Act.put, List.setIfInBounds_toArray, List.set_cons_succ, List.set_cons_zero]) | (apply wpG_off; rfl; simp only [Act.put, List.setIfInBounds_toArray, List.set_cons_succ, List.set_cons_zero]))
                apply wpG_nil
                intro W2 hS
                replace hb := hb.trans (hS.mono hb.size)
                clear hS
                go_wp2_with fail
                go_roundw
                case rel => exact ⟨k + 1, by omega, by go_num, by show _ = _; rw [HR.out, HG.out HE.out], hb⟩
                case measure => simp [intOf]; omega
            · have g2 : decide (Y = cl Y) = false := by simpa using e2
              have HE : Hid (kbad ks k = 2) := by show _ = _; rw [HK.out, if_neg (fun h => h E1.out), if_pos e2]
              clear e2
              go_wp2_with fail
              refine (refUnit_c _ _).mono ?_
              rintro e w' ⟨rfl, rfl⟩
              rw [g1]
              go_wp2_with fail
              refine (refUnit_c _ _).mono ?_
              rintro e w' ⟨rfl, rfl⟩
              rw [g2]
              go_wp2_with fail
              go_ret
              exact ⟨ret_int (by rw [HR.out, HF.out (by rw [HE.out]; decide), HE.out]), hb⟩
          · have g1 : decide (X = cl X) = false := by simpa using e1
            have HE : Hid (kbad ks k = 2) := by show _ = _; rw [HK.out, if_pos e1]
            clear e1
            go_wp2_with fail
            refine (refUnit_c _ _).mono ?_
            rintro e w' ⟨rfl, rfl⟩
            rw [g1]
            go_wp2_with fail
            go_ret
            exact ⟨ret_int (by rw [HR.out, HF.out (by rw [HE.out]; decide), HE.out]), hb⟩
        · obtain rfl : k = n := by omega
          go_wp2
          go_ret
          exact ⟨ret_int (by rw [HR.out, ferr_end]), hb⟩

set_option maxHeartbeats 1000000 in
theorem refCurveAt_any (v : Value) (ks : Knots) (x : Int) (w : World) (h : Kn w v ks) (hx1 : -9223372036854775808 ≤ x) (hx2 : x ≤ 9223372036854775807) :
    Calls Tryz.prog 165 #[v, .int .i64 x] w fun e w' => e = .returned (.int .i64 (kat ks x)) ∧ Below w.heap.size w w' := by
  have HH := Lib.hid h
  obtain ⟨a, cap, rfl, hl, hr⟩ := h
  by_cases hk : kchk ks = 0
  · have HQ0 : Hid (kat ks x = kval ks x) := by show _ = _; unfold kat; rw [if_pos hk]
    have HK := Lib.hid hk
    obtain ⟨h2, h16, hbd, hord⟩ := kchk_ok ks hk
    clear hk
    rcases hr with h0 | ⟨b, off, rfl, hlt, hc⟩
    · omega
    have hc' : ∀ i, i < ks.length → ∀ w' : World, Below w.heap.size w w' → w'.cell? ⟨b, off + i * 2, none⟩ = some (.int .i64 (kX ks i)) ∧ w'.cell? ⟨b, off + i * 2 + 1, none⟩ = some (.int .i64 (kY ks i)) := fun i hi w' hb => by
      rw [hb.cell (p := ⟨b, off + i * 2, none⟩) hlt, hb.cell (p := ⟨b, off + i * 2 + 1, none⟩) hlt]
      exact hc i hi
    have HC := Lib.hid hc'
    have HBD := Lib.hid hbd
    have HOR := Lib.hid hord
    clear hc hc' hbd hord
    by_cases hx : x ≤ kX ks 0
    · have HQ : Hid (kval ks x = kY ks 0) := by show _ = _; unfold kval; rw [if_pos hx]
      go_enter Tryz.func165, Tryz.ntmps165
      go_wp2_with fail
      refine (refCurveCheck_any _ _ _ HH.out).mono ?_
      rintro e w1 ⟨rfl, hb⟩
      rw [HK.out]
      obtain ⟨c0, c1⟩ := HC.out 0 (by omega) w1 hb
      simp only [Nat.zero_mul, Nat.add_zero] at c0 c1
      go_wp2
      go_ret
      exact ⟨ret_int (by rw [HQ0.out, HQ.out]), hb⟩
    · have HQ : Hid (kval ks x = kfrom ks x (ks.length - 1) 1) := by show _ = _; unfold kval; rw [if_neg hx]
      have HE := Lib.hid (kfrom_end ks x)
      have d0 : decide (x ≤ kX ks 0) = false := by simpa using hx
      go_enter Tryz.func165, Tryz.ntmps165
      go_wp2_with fail
      refine (refCurveCheck_any _ _ _ HH.out).mono ?_
      rintro e w1 ⟨rfl, hb⟩
      rw [HK.out]
      obtain ⟨c0, c1⟩ := HC.out 0 (by omega) w1 hb
      simp only [Nat.zero_mul, Nat.add_zero] at c0 c1
      clear HH
      generalize hn : ks.length = n at *
      have HN := Lib.hid hn
      clear hn
      go_wp2
      clear d0 c0 c1
      go_loopw [5] (fun i wr => ∃ k : Nat, 0 < k ∧ k ≤ n ∧ i = .int .i64 k ∧ kX ks (k - 1) ≤ x ∧ Hid (kval ks x = kfrom ks x (n - k) k) ∧ Below w.heap.size w wr) (fun i _ => n - (intOf i).toNat)
      case atStart => exact ⟨1, by omega, by omega, rfl, by simp; omega, HQ, hb⟩
      case round =>
        obtain ⟨k, hk0, hk, rfl, hxk, HR, hb⟩ := hrel
        by_cases hlt2 : k < n
        · have HP := Lib.hid (fun w' (hb' : Below w.heap.size w w') => HC.out (k - 1) (by omega) w' hb')
          have HO := Lib.hid (fun w' (hb' : Below w.heap.size w w') => HC.out k hlt2 w' hb')
          have hi1 : 0 ≤ (k : Int) - 1 := by omega
          have hi2 : (k : Int) - 1 < (n : Int) := by omega
          have hi3 : (1 : Int) ≤ (k : Int) := by omega
          have hi4 : (0 : Int) ≤ (k : Int) := by omega
          have hi5 : (k : Int) < (n : Int) := by omega
          have hB1 := HBD.out (k - 1) (by omega)
          have hB2 := HBD.out k hlt2
          have hO := HOR.out k hk0 hlt2
          have HM : Hid (kmid ks x k = kY ks (k - 1) + dv ((kY ks k - kY ks (k - 1)) * (x - kX ks (k - 1))) (kX ks k - kX ks (k - 1))) := rfl
          have HF := Lib.hid (kfrom_at ks x n k hlt2)
          have HG := Lib.hid (kfrom_go ks x n k hlt2)
          by_cases hq : x < kX ks k
          · generalize kX ks k = Q at *
            generalize kX ks (k - 1) = P at *
            generalize kY ks k = Y1 at *
            generalize kY ks (k - 1) = Y0 at *
            obtain ⟨m1, m2, m3, m4⟩ := kmid_bd P Q x Y0 Y1 hB1.2.2.1 hB1.2.2.2 hB2.2.2.1 hB2.2.2.2 hB1.1 hB2.2.1 hxk hq
            obtain ⟨q1, q2⟩ := HO.out wr hb
            go_wp2_with fail
            clear q1 q2
            have e0 : IntKind.i64.wrap ((k : Int) - 1) = (k : Int) - 1 := IntWalk.i64_in _ (by omega)
            have ht : ((k : Int) - 1).toNat = k - 1 := by omega
            have e1 : IntKind.i64.wrap (Y1 - Y0) = Y1 - Y0 := IntWalk.i64_in _ (by omega)
            have e2 : IntKind.i64.wrap (x - P) = x - P := IntWalk.i64_in _ (by omega)
            have e3 : IntKind.i64.wrap ((Y1 - Y0) * (x - P)) = (Y1 - Y0) * (x - P) := IntWalk.i64_in _ (by omega)
            have e4 : IntKind.i64.wrap (Q - P) = Q - P := IntWalk.i64_in _ (by omega)
            have e5 : IntKind.i64.wrap (Y0 + dv ((Y1 - Y0) * (x - P)) (Q - P)) = Y0 + dv ((Y1 - Y0) * (x - P)) (Q - P) := IntWalk.i64_in _ (by omega)
            have f1 : 0 < Q - P := by omega
            have f2 : Q - P ≤ 4611686018427387904 := by omega
            have f3 : -4611686018427387904 ≤ (Y1 - Y0) * (x - P) := by omega
            have f4 : (Y1 - Y0) * (x - P) ≤ 4611686018427387904 := by omega
            refine wp_region_grow 42 (fun w' => Below (World.heap wr).size wr w') (by kernel_rfl) (by kernel_rfl) (Below.refl _ _).drew ?_
            simp only [List.take_succ_cons, List.take_zero, List.drop_succ_cons, List.drop_zero]
            repeat (first | (apply wpG_on; rfl; (intro w' hS K hK; have hr0 := HP.out _ (hb.trans (hS.mono hb.size)); have hr1 := HO.out _ (hb.trans (hS.mono hb.size)); go_simp; (first | exact hK.out _ hS | (go_at_call 67; (with_reducible refine (refDiv_any _ _ _ f1 f2 f3 f4).mono ?_); rintro e w'' ⟨rfl, nn, rfl⟩; exact ⟨_, rfl, hK.out _ (belowN hS nn)⟩))); simp only [Act.put, List.setIfInBounds_toArray, List.set_cons_succ, List.set_cons_zero]) | (apply wpG_off; rfl; simp only [Act.put, List.setIfInBounds_toArray, List.set_cons_succ, List.set_cons_zero]))
            apply wpG_nil
            intro W1 hS
            replace hb := hb.trans (hS.mono hb.size)
            clear hS
            clear e0 ht e1 e2 e3 e4 e5
            go_wp2_with fail
            go_ret
            exact ⟨ret_int (by rw [HQ0.out, HR.out, HF.out hq, HM.out]), hb⟩
          · have hq' : kX ks k ≤ x := by omega
            obtain ⟨q1, q2⟩ := HO.out wr hb
            go_wp2_with fail
            go_roundw
            case rel => exact ⟨k + 1, by omega, by omega, by go_num, by rw [Nat.add_sub_cancel]; exact hq', by show _ = _; rw [HR.out, HG.out hq], hb⟩
            case measure => simp [intOf]; omega
        · obtain rfl : k = n := by omega
          obtain ⟨p1, p2⟩ := HC.out (k - 1) (by omega) wr hb
          have hw : IntKind.i64.wrap ((k : Int) - 1) = (k : Int) - 1 := IntWalk.i64_in _ (by omega)
          have ht : ((k : Int) - 1).toNat = k - 1 := by omega
          have hi1 : 0 ≤ (k : Int) - 1 := by omega
          have hi3 : (1 : Int) ≤ (k : Int) := by omega
          have HEQ : Hid (kval ks x = kY ks (k - 1)) := by show _ = _; rw [HR.out, HE.out]
          go_wp2_with fail
          go_ret
          exact ⟨ret_int (by rw [HQ0.out, HEQ.out]), hb⟩
  · have HQ : Hid (kat ks x = cl x) := by show _ = _; unfold kat; rw [if_neg hk]
    have hf : (kchk ks != 0) = true := by simpa using hk
    clear hk
    go_enter Tryz.func165, Tryz.ntmps165
    go_wp2_with fail
    refine (refCurveCheck_any _ _ _ HH.out).mono ?_
    rintro e w1 ⟨rfl, hb⟩
    go_wp2_with fail
    refine (refUnit_n _ _).mono ?_
    rintro e w' ⟨rfl, rfl⟩
    go_wp2_with fail
    go_ret
    exact ⟨ret_int HQ.out.symm, hb⟩
end Go.Proofs.YtieacbccadbdbaaGreatDoor

