/- The walks of package curve, continued: value, At. -/
import Derived.Test.YtnnginappckfcaaCurve
import Derived.Deep.RegionHeld3
namespace Go.Proofs.Ytnnginappckfcaa
open Go.RowKit
set_option linter.unusedVariables false
attribute [local go_sem] Oper.gAt gUponK

set_option maxHeartbeats 1000000 in
theorem curveValue_any (v : Value) (ks : Knots) (x : Int) (w : World) (h : Kn w v ks) (hok : kchk ks = 0) (hx1 : -9223372036854775808 ≤ x) (hx2 : x ≤ 9223372036854775807) :
    Calls Try.prog 38 #[v, .int .i64 x] w fun e w' => e = .returned (.int .i64 (kval ks x)) ∧ Below w.heap.size w w' := by
  obtain ⟨a, cap, rfl, hl, hr⟩ := h
  obtain ⟨h2, h16, hbd, hord⟩ := kchk_ok ks hok
  clear hok
  rcases hr with h0 | ⟨b, off, rfl, hlt, hc⟩
  · omega
  have hc' : ∀ i, i < ks.length → ∀ w' : World, Below w.heap.size w w' → w'.cell? ⟨b, off + i * 2, none⟩ = some (.int .i64 (kX ks i)) ∧ w'.cell? ⟨b, off + i * 2 + 1, none⟩ = some (.int .i64 (kY ks i)) := fun i hi w' hb => by
    rw [hb.cell (p := ⟨b, off + i * 2, none⟩) hlt, hb.cell (p := ⟨b, off + i * 2 + 1, none⟩) hlt]
    exact hc i hi
  have HC := Lib.hid hc'
  have HBD := Lib.hid hbd
  have HOR := Lib.hid hord
  obtain ⟨c0, c1⟩ := hc 0 (by omega)
  simp only [Nat.zero_mul, Nat.add_zero] at c0 c1
  clear hc hc' hbd hord
  by_cases hx : x ≤ kX ks 0
  · have HQ : Hid (kval ks x = kY ks 0) := by show _ = _; unfold kval; rw [if_pos hx]
    generalize ks.length = n at *
    go_enter Try.func38, Try.ntmps38
    go_wp2
    go_ret
    exact ⟨ret_int HQ.out.symm, Below.refl _ _⟩
  · have HQ : Hid (kval ks x = kfrom ks x (ks.length - 1) 1) := by show _ = _; unfold kval; rw [if_neg hx]
    have HE := Lib.hid (kfrom_end ks x)
    generalize hn : ks.length = n at *
    have HN := Lib.hid hn
    clear hn
    have d0 : decide (x ≤ kX ks 0) = false := by simpa using hx
    go_enter Try.func38, Try.ntmps38
    go_wp2
    clear d0 c0 c1
    go_loopw [5, 6, 7] (fun i _ _ wr => ∃ k : Nat, 0 < k ∧ k ≤ n ∧ i = .int .i64 k ∧ kX ks (k - 1) ≤ x ∧ Hid (kval ks x = kfrom ks x (n - k) k) ∧ Below w.heap.size w wr) (fun i _ _ _ => n - (intOf i).toNat)
    case atStart => exact ⟨1, by omega, by omega, rfl, by simp; omega, HQ, Below.refl _ _⟩
    case round =>
      obtain ⟨k, hk0, hk, rfl, hxk, HR, hb⟩ := hrel
      by_cases hlt2 : k < n
      · obtain ⟨p1, p2⟩ := HC.out (k - 1) (by omega) wr hb
        obtain ⟨q1, q2⟩ := HC.out k hlt2 wr hb
        have hw : IntKind.i64.wrap ((k : Int) - 1) = (k : Int) - 1 := IntWalk.i64_in _ (by omega)
        have ht : ((k : Int) - 1).toNat = k - 1 := by omega
        have hi1 : 0 ≤ (k : Int) - 1 := by omega
        have hi2 : (k : Int) - 1 < (n : Int) := by omega
        have hi3 : (1 : Int) ≤ (k : Int) := by omega
        have hi4 : (0 : Int) ≤ (k : Int) := by omega
        have hi5 : (k : Int) < (n : Int) := by omega
        go_wp2
        go_region_held3 (fun w' => w'.cell? ⟨b, off + (k - 1) * 2, none⟩ = some (.int .i64 (kX ks (k - 1))) ∧ w'.cell? ⟨b, off + (k - 1) * 2 + 1, none⟩ = some (.int .i64 (kY ks (k - 1))) ∧ w'.cell? ⟨b, off + k * 2, none⟩ = some (.int .i64 (kX ks k)) ∧ w'.cell? ⟨b, off + k * 2 + 1, none⟩ = some (.int .i64 (kY ks k))) (go_keep) (fail)
        all_goals
          clear hw ht p1 p2 q1 q2
          have hB1 := HBD.out (k - 1) (by omega)
          have hB2 := HBD.out k hlt2
          have hO := HOR.out k hk0 hlt2
          have HM : Hid (kmid ks x k = kY ks (k - 1) + dv ((kY ks k - kY ks (k - 1)) * (x - kX ks (k - 1))) (kX ks k - kX ks (k - 1))) := rfl
          have HF := Lib.hid (kfrom_at ks x n k hlt2)
          have HG := Lib.hid (kfrom_go ks x n k hlt2)
          by_cases hq : x < kX ks k
          · generalize kX ks k = Q at *
            generalize kX ks (k - 1) = P at *
            generalize kY ks k = Y1 at *
            generalize kY ks (k - 1) = Y0 at *
            obtain ⟨m1, m2, m3, m4⟩ := kmid_bd P Q x Y0 Y1 hB1.2.2.1 hB1.2.2.2 hB2.2.2.1 hB2.2.2.2 hB1.1 hB2.2.1 hxk hq
            go_wp2_with fail
            refine name2d (fun W k1 k2 hb1 => ?_)
            replace hb := hb.trans (hb1.mono hb.size)
            clear hb1
            have e1 : IntKind.i64.wrap (Y1 - Y0) = Y1 - Y0 := IntWalk.i64_in _ (by omega)
            have e2 : IntKind.i64.wrap (x - P) = x - P := IntWalk.i64_in _ (by omega)
            have e3 : IntKind.i64.wrap ((Y1 - Y0) * (x - P)) = (Y1 - Y0) * (x - P) := IntWalk.i64_in _ (by omega)
            have e4 : IntKind.i64.wrap (Q - P) = Q - P := IntWalk.i64_in _ (by omega)
            have e5 : IntKind.i64.wrap (Y0 + dv ((Y1 - Y0) * (x - P)) (Q - P)) = Y0 + dv ((Y1 - Y0) * (x - P)) (Q - P) := IntWalk.i64_in _ (by omega)
            have f1 : 0 < Q - P := by omega
            have f2 : Q - P ≤ 4611686018427387904 := by omega
            have f3 : -4611686018427387904 ≤ (Y1 - Y0) * (x - P) := by omega
            have f4 : (Y1 - Y0) * (x - P) ≤ 4611686018427387904 := by omega
            refine wp_region_grow 20 (fun w' => Below (World.heap W).size W w') (by kernel_rfl) (by kernel_rfl) (Below.refl _ _).drew ?_
            simp only [List.take_succ_cons, List.take_zero, List.drop_succ_cons, List.drop_zero]
            repeat (first | (apply wpG_on; rfl; (intro w' hS K hK; have hc0 := (k1.kept hS).c2; have hc1 := (k2.kept hS).c2; go_simp; (first | exact hK.out _ hS | (go_at_call 27; (with_reducible refine (div_any _ _ _ f1 f2 f3 f4).mono ?_); rintro e w'' ⟨rfl, rfl⟩; exact ⟨_, rfl, hK.out _ hS⟩))); simp only [Act.put, List.setIfInBounds_toArray, List.set_cons_succ, List.set_cons_zero]) | (apply wpG_off; rfl; simp only [Act.put, List.setIfInBounds_toArray, List.set_cons_succ, List.set_cons_zero]))
            apply wpG_nil
            intro W1 hS
            replace k1 := k1.kept hS
            replace k2 := k2.kept hS
            replace hb := hb.trans (hS.mono hb.size)
            clear hS
            clear e1 e2 e3 e4 e5
            go_wp2_with fail
            go_ret
            exact ⟨ret_int (by rw [HR.out, HF.out hq, HM.out]), hb⟩
          · have hq' : kX ks k ≤ x := by omega
            go_wp2_with fail
            go_roundw
            case rel => exact ⟨k + 1, by omega, by omega, by go_num, by rw [Nat.add_sub_cancel]; exact hq', by show _ = _; rw [HR.out, HG.out hq], hb.trans ((((Below.refl _ _).alloc (Nat.le_refl _) _).alloc (by simp) _).drew.mono hb.size)⟩
            case measure => simp [intOf]; omega
      · obtain rfl : k = n := by omega
        obtain ⟨p1, p2⟩ := HC.out (k - 1) (by omega) wr hb
        have hw : IntKind.i64.wrap ((k : Int) - 1) = (k : Int) - 1 := IntWalk.i64_in _ (by omega)
        have ht : ((k : Int) - 1).toNat = k - 1 := by omega
        have hi1 : 0 ≤ (k : Int) - 1 := by omega
        have hi3 : (1 : Int) ≤ (k : Int) := by omega
        have HEQ : Hid (kval ks x = kY ks (k - 1)) := by show _ = _; rw [HR.out, HE.out]
        go_wp2_with fail
        go_ret
        exact ⟨ret_int HEQ.out.symm, hb⟩

set_option maxHeartbeats 400000 in
theorem curveAt_any (v : Value) (ks : Knots) (x : Int) (w : World) (h : Kn w v ks) (hx1 : -9223372036854775808 ≤ x) (hx2 : x ≤ 9223372036854775807) :
    Calls Try.prog 20 #[v, .int .i64 x] w fun e w' => e = .returned (.int .i64 (kat ks x)) ∧ Below w.heap.size w w' := by
  have hsl : ∃ a n cap, v = .slice a n cap := by obtain ⟨a, cap, hv, _⟩ := h; exact ⟨_, _, _, hv⟩
  by_cases hk : kchk ks = 0
  · have HQ : Hid (kat ks x = kval ks x) := by show _ = _; unfold kat; rw [if_pos hk]
    have HK := Lib.hid hk
    have HH := Lib.hid h
    obtain ⟨a, n, cap, rfl⟩ := hsl
    clear hk h
    go_enter Try.func20, Try.ntmps20
    go_wp2_with fail
    refine (curveCheck_any _ _ _ HH.out).mono ?_
    rintro e w1 ⟨rfl, hb⟩
    rw [HK.out]
    go_wp2_with fail
    refine (curveValue_any _ _ _ _ (HH.out.kept hb) HK.out hx1 hx2).mono ?_
    rintro e w2 ⟨rfl, hb2⟩
    go_wp2_with fail
    go_ret
    exact ⟨ret_int HQ.out.symm, hb.trans (hb2.mono hb.size)⟩
  · have HQ : Hid (kat ks x = cl x) := by show _ = _; unfold kat; rw [if_neg hk]
    have hf : (kchk ks != 0) = true := by simpa using hk
    have HH := Lib.hid h
    obtain ⟨a, n, cap, rfl⟩ := hsl
    clear hk h
    go_enter Try.func20, Try.ntmps20
    go_wp2_with fail
    refine (curveCheck_any _ _ _ HH.out).mono ?_
    rintro e w1 ⟨rfl, hb⟩
    go_wp2_with fail
    refine (unit_c _ _).mono ?_
    rintro e w' ⟨rfl, rfl⟩
    go_wp2_with fail
    go_ret
    exact ⟨ret_int HQ.out.symm, hb⟩
end Go.Proofs.Ytnnginappckfcaa
