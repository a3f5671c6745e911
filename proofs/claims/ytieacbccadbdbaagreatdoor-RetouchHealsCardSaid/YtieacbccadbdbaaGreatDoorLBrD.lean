/- Several texts in one: BrChk, BrDab. -/
import Derived.Test.YtieacbccadbdbaaGreatDoorLBru
import Derived.Test.YtieacbccadbdbaaGreatDoorLDyn
import Derived.Deep.Cut
import Derived.Test.YtieacbccadbdbaaGreatDoorLNum
import Derived.Test.YtieacbccadbdbaaGreatDoorLHyp
import Derived.Lib.MinMax

/- The error of samples, by the program and by the reference (printed by genbrchk.py). -/
namespace Go.Proofs.YtieacbccadbdbaaGreatDoor
open Go.RowKit
set_option linter.unusedVariables false
attribute [local go_sem] Oper.gAt gUponK Oper.sAt stilK

set_option maxHeartbeats 400000 in
theorem brWithin_any (x lo hi : Int) (w : World) :
    Calls Tryz.prog 59 #[.int .i64 x, .int .i64 lo, .int .i64 hi] w fun e w' => e = .returned (.bool (inB x lo hi)) ∧ w = w' := by
  rcases (by omega : ¬ lo ≤ x ∨ (lo ≤ x ∧ ¬ x ≤ hi) ∨ (lo ≤ x ∧ x ≤ hi)) with h | ⟨h, h2⟩ | ⟨h, h2⟩
  · have HE : Hid (inB x lo hi = false) := decide_eq_false (by omega)
    go_enter Tryz.func59, Tryz.ntmps59
    go_wp2
    go_ret
    exact ⟨ret_bool (by rw [HE.out]), rfl⟩
  · have HE : Hid (inB x lo hi = false) := decide_eq_false (by omega)
    go_enter Tryz.func59, Tryz.ntmps59
    go_wp2
    go_ret
    exact ⟨ret_bool (by rw [HE.out]), rfl⟩
  · have HE : Hid (inB x lo hi = true) := decide_eq_true (by omega)
    go_enter Tryz.func59, Tryz.ntmps59
    go_wp2
    go_ret
    exact ⟨ret_bool (by rw [HE.out]), rfl⟩

set_option maxHeartbeats 400000 in
theorem ref28Unit_any (x : Int) (w : World) :
    Calls Tryz.prog 145 #[.int .i64 x] w fun e w' => e = .returned (.bool (inB x 0 65535)) ∧ w = w' := by
  rcases (by omega : ¬ 0 ≤ x ∨ (0 ≤ x ∧ ¬ x ≤ 65535) ∨ (0 ≤ x ∧ x ≤ 65535)) with h | ⟨h, h2⟩ | ⟨h, h2⟩
  · have HE : Hid (inB x 0 65535 = false) := decide_eq_false (by omega)
    go_enter Tryz.func145, Tryz.ntmps145
    go_wp2
    go_ret
    exact ⟨ret_bool (by rw [HE.out]), rfl⟩
  · have HE : Hid (inB x 0 65535 = false) := decide_eq_false (by omega)
    go_enter Tryz.func145, Tryz.ntmps145
    go_wp2
    go_ret
    exact ⟨ret_bool (by rw [HE.out]), rfl⟩
  · have HE : Hid (inB x 0 65535 = true) := decide_eq_true (by omega)
    go_enter Tryz.func145, Tryz.ntmps145
    go_wp2
    go_ret
    exact ⟨ret_bool (by rw [HE.out]), rfl⟩

set_option maxRecDepth 20000 in
set_option maxHeartbeats 8000000 in
theorem brCheck_any (v : Value) (ls : List Smp) (w : World) (h : Sm w v ls) :
    Calls Tryz.prog 96 #[v] w fun e w' => e = .returned (.int .i64 (schk ls)) ∧ Below w.heap.size w w' := by
  have hlen := Qn.len h
  obtain ⟨a, cap, rfl⟩ := Qn.slice h
  have HA := Lib.hid (fun hn => Qn.all h hn)
  have HD : Hid (schk ls = if ls.length = 0 then 1 else if 128 < ls.length then 3 else ferr (sbad ls) (ls.length - 0) 0) := rfl
  have FA := Lib.hid (ferr_at (sbad ls) ls.length)
  have FG := Lib.hid (ferr_go (sbad ls) ls.length)
  have FE := Lib.hid (ferr_end (sbad ls) ls.length)
  clear h
  generalize hn : ls.length = n at *
  have HN := Lib.hid hn
  clear hn
  generalize schk ls = R at *
  by_cases z0 : n = 0
  · have HE : Hid (R = 1) := by show _ = _; rw [HD.out, if_pos z0]
    subst z0
    go_enter Tryz.func96, Tryz.ntmps96
    go_wp2_with fail
    go_ret
    exact ⟨ret_int HE.out.symm, Below.refl _ _⟩
  by_cases z1 : 128 < n
  · have HE : Hid (R = 3) := by show _ = _; rw [HD.out, if_neg z0, if_pos z1]
    have b0 : ((n : Int) == 0) = false := by simp; omega
    have b1 : decide ((128 : Int) < (n : Int)) = true := by simp; omega
    go_enter Tryz.func96, Tryz.ntmps96
    go_wp2_with fail
    go_ret
    exact ⟨ret_int HE.out.symm, Below.refl _ _⟩
  have HE : Hid (R = ferr (sbad ls) (n - 0) 0) := by show _ = _; rw [HD.out, if_neg z0, if_neg z1]
  clear HD
  obtain ⟨b, off, rfl, hbl, hall⟩ := HA.out (by omega)
  have HALL := Lib.hid hall
  clear hall HA
  have b0 : ((n : Int) == 0) = false := by simp; omega
  have b1 : decide ((128 : Int) < (n : Int)) = false := by simp; omega
  go_enter Tryz.func96, Tryz.ntmps96
  go_wp2_with fail
  clear b0 b1
  go_loopw [13] (fun i wr => ∃ k : Nat, k ≤ n ∧ i = .int .i64 k ∧ Hid (R = ferr (sbad ls) (n - k) k) ∧ Below w.heap.size w wr) (fun i _ => n - (intOf i).toNat)
  case atStart => exact ⟨0, Nat.zero_le _, rfl, HE, Below.refl _ _⟩
  case round =>
    clear HE
    obtain ⟨k, hk, rfl, HR, hb⟩ := hrel
    by_cases hlt : k < n
    · have hc := HALL.out k hlt _ hb
      unfold At5 s5 at hc
      simp only at hc
      have FB : Hid (sbad ls k = if smOk (smAt ls k) = true then if 0 < k ∧ (smAt ls k).m < (smAt ls (k - 1)).m then 24 else 0 else 2) := rfl
      have i1 : (0 : Int) ≤ (k : Int) := by omega
      have i2 : (k : Int) < (n : Int) := by omega
      generalize smAt ls k = s at *
      have HO : Hid (smOk s = (inB s.x (-16777216) 16777216 && (inB s.y (-16777216) 16777216 && (inB s.p 0 65535 && (inB s.t 0 65535 && inB s.m 0 1073741824))))) := rfl
      rw [HO.out] at FB
      clear HO
      have C_x := Lib.hid (fun w => brWithin_any s.x (-16777216) 16777216 w)
      generalize inB s.x (-16777216) 16777216 = b_x at *
      have C_y := Lib.hid (fun w => brWithin_any s.y (-16777216) 16777216 w)
      generalize inB s.y (-16777216) 16777216 = b_y at *
      have C_p := Lib.hid (fun w => brWithin_any s.p 0 65535 w)
      generalize inB s.p 0 65535 = b_p at *
      have C_t := Lib.hid (fun w => brWithin_any s.t 0 65535 w)
      generalize inB s.t 0 65535 = b_t at *
      have C_m := Lib.hid (fun w => brWithin_any s.m 0 1073741824 w)
      generalize inB s.m 0 1073741824 = b_m at *
      go_upto_region 8 with (fail)
      refine name1 (fun W2 kx hS => ?_)
      replace hb := hb.trans (hS.mono hb.size)
      clear hS hc
      have c5 := kx.c5
      cases b_x with
      | false =>
        have FB2 : Hid (sbad ls k = 2) := by show _ = _; rw [FB.out]; rfl
        go_wp2_with fail
        refine (C_x.out _).mono ?_
        rintro e w' ⟨rfl, rfl⟩
        go_wp2_with fail
        go_ret
        exact ⟨ret_int (by rw [HR.out, FA.out k hlt (by rw [FB2.out]; decide), FB2.out]), hb⟩
      | true =>
        go_wp2_with fail
        refine (C_x.out _).mono ?_
        rintro e w' ⟨rfl, rfl⟩
        cases b_y with
        | false =>
          have FB2 : Hid (sbad ls k = 2) := by show _ = _; rw [FB.out]; rfl
          go_wp2_with fail
          refine (C_y.out _).mono ?_
          rintro e w' ⟨rfl, rfl⟩
          go_wp2_with fail
          go_ret
          exact ⟨ret_int (by rw [HR.out, FA.out k hlt (by rw [FB2.out]; decide), FB2.out]), hb⟩
        | true =>
          go_wp2_with fail
          refine (C_y.out _).mono ?_
          rintro e w' ⟨rfl, rfl⟩
          cases b_p with
          | false =>
            have FB2 : Hid (sbad ls k = 2) := by show _ = _; rw [FB.out]; rfl
            go_wp2_with fail
            refine (C_p.out _).mono ?_
            rintro e w' ⟨rfl, rfl⟩
            go_wp2_with fail
            go_ret
            exact ⟨ret_int (by rw [HR.out, FA.out k hlt (by rw [FB2.out]; decide), FB2.out]), hb⟩
          | true =>
            go_wp2_with fail
            refine (C_p.out _).mono ?_
            rintro e w' ⟨rfl, rfl⟩
            cases b_t with
            | false =>
              have FB2 : Hid (sbad ls k = 2) := by show _ = _; rw [FB.out]; rfl
              go_wp2_with fail
              refine (C_t.out _).mono ?_
              rintro e w' ⟨rfl, rfl⟩
              go_wp2_with fail
              go_ret
              exact ⟨ret_int (by rw [HR.out, FA.out k hlt (by rw [FB2.out]; decide), FB2.out]), hb⟩
            | true =>
              go_wp2_with fail
              refine (C_t.out _).mono ?_
              rintro e w' ⟨rfl, rfl⟩
              cases b_m with
              | false =>
                have FB2 : Hid (sbad ls k = 2) := by show _ = _; rw [FB.out]; rfl
                go_wp2_with fail
                refine (C_m.out _).mono ?_
                rintro e w' ⟨rfl, rfl⟩
                go_wp2_with fail
                go_ret
                exact ⟨ret_int (by rw [HR.out, FA.out k hlt (by rw [FB2.out]; decide), FB2.out]), hb⟩
              | true =>
                go_wp2_with fail
                refine (C_m.out _).mono ?_
                rintro e w' ⟨rfl, rfl⟩
                replace FB : Hid (sbad ls k = if 0 < k ∧ s.m < (smAt ls (k - 1)).m then 24 else 0) := FB
                clear c5
                by_cases h0 : 0 < k
                · have hcp := HALL.out (k - 1) (by omega) _ hb
                  unfold At5 s5 at hcp
                  simp only at hcp
                  have HCP := Lib.hid (fun w' h => (HALL.out (k - 1) (by omega) w' h).2.2.2.2)
                  replace HCP : Hid (∀ w', Below w.heap.size w w' → w'.cell? ⟨b, off + (k - 1) * 5 + 4, none⟩ = some (.int .i64 (smAt ls (k - 1)).m)) := HCP
                  clear hcp
                  generalize (smAt ls (k - 1)).m = pm at *
                  have bg : decide ((0 : Int) < (k : Int)) = true := by simp; omega
                  have hw : IntKind.i64.wrap ((k : Int) - 1) = (k : Int) - 1 := IntWalk.i64_in _ (by omega)
                  have ht : ((k : Int) - 1).toNat = k - 1 := by omega
                  have hi1 : 0 ≤ (k : Int) - 1 := by omega
                  have hi3 : (1 : Int) ≤ (k : Int) := by omega
                  have hi2 : (k : Int) - 1 < (n : Int) := by omega
                  go_upto_region 12 with (fail)
                  refine wp_region_grow 13 (fun w' => Below (World.heap W2).size W2 w') (by kernel_rfl) (by kernel_rfl) (Below.refl _ _).drew ?_
                  simp only [List.take_succ_cons, List.take_zero, List.drop_succ_cons, List.drop_zero]
                  repeat (first | (apply wpG_on; rfl; (intro w' hS K hK; have hc0 := (kx.kept hS).c5; have hr0 := HCP.out _ (hb.trans (hS.mono hb.size)); go_simp; (first | exact hK.out _ hS)); simp only [Act.put, List.setIfInBounds_toArray, List.set_cons_succ, List.set_cons_zero]) | (apply wpG_off; rfl; simp only [Act.put, List.setIfInBounds_toArray, List.set_cons_succ, List.set_cons_zero]))
                  apply wpG_nil
                  intro W3 hS
                  replace kx := kx.kept hS
                  replace hb := hb.trans (hS.mono hb.size)
                  clear hS
                  clear hw ht
                  by_cases hm : s.m < pm
                  · have FB2 : Hid (sbad ls k = 24) := by show _ = _; rw [FB.out, if_pos ⟨h0, hm⟩]
                    go_wp2_with fail
                    go_ret
                    exact ⟨ret_int (by rw [HR.out, FA.out k hlt (by rw [FB2.out]; decide), FB2.out]), hb⟩
                  · have FB2 : Hid (sbad ls k = 0) := by show _ = _; rw [FB.out, if_neg (by omega)]
                    go_wp2_with fail
                    go_roundw
                    case rel => exact ⟨k + 1, by omega, by go_num, by show _ = _; rw [HR.out, FG.out k hlt FB2.out], hb⟩
                    case measure => simp [intOf]; omega
                · have bg : decide ((0 : Int) < (k : Int)) = false := by simp; omega
                  have FB2 : Hid (sbad ls k = 0) := by show _ = _; rw [FB.out, if_neg (by omega)]
                  go_upto_region 12 with (fail)
                  refine wp_region_grow 13 (fun w' => Below (World.heap W2).size W2 w') (by kernel_rfl) (by kernel_rfl) (Below.refl _ _).drew ?_
                  simp only [List.take_succ_cons, List.take_zero, List.drop_succ_cons, List.drop_zero]
                  repeat (first | (apply wpG_on; rfl; (intro w' hS K hK; have hc0 := (kx.kept hS).c5; go_simp; (first | exact hK.out _ hS)); simp only [Act.put, List.setIfInBounds_toArray, List.set_cons_succ, List.set_cons_zero]) | (apply wpG_off; rfl; simp only [Act.put, List.setIfInBounds_toArray, List.set_cons_succ, List.set_cons_zero]))
                  apply wpG_nil
                  intro W3 hS
                  replace kx := kx.kept hS
                  replace hb := hb.trans (hS.mono hb.size)
                  clear hS
                  go_wp2_with fail
                  go_roundw
                  case rel => exact ⟨k + 1, by omega, by go_num, by show _ = _; rw [HR.out, FG.out k hlt FB2.out], hb⟩
                  case measure => simp [intOf]; omega
    · obtain rfl : k = n := by omega
      go_wp2_with fail
      go_ret
      exact ⟨ret_int (by rw [HR.out, FE.out]), hb⟩

set_option maxRecDepth 20000 in
set_option maxHeartbeats 8000000 in
theorem refBrCheck_any (v : Value) (ls : List Smp) (w : World) (h : Sm w v ls) :
    Calls Tryz.prog 103 #[v] w fun e w' => e = .returned (.int .i64 (schk ls)) ∧ Below w.heap.size w w' := by
  have hlen := Qn.len h
  obtain ⟨a, cap, rfl⟩ := Qn.slice h
  have HA := Lib.hid (fun hn => Qn.all h hn)
  have HD : Hid (schk ls = if ls.length = 0 then 1 else if 128 < ls.length then 3 else ferr (sbad ls) (ls.length - 0) 0) := rfl
  have FA := Lib.hid (ferr_at (sbad ls) ls.length)
  have FG := Lib.hid (ferr_go (sbad ls) ls.length)
  have FE := Lib.hid (ferr_end (sbad ls) ls.length)
  clear h
  generalize hn : ls.length = n at *
  have HN := Lib.hid hn
  clear hn
  generalize schk ls = R at *
  by_cases z0 : n = 0
  · have HE : Hid (R = 1) := by show _ = _; rw [HD.out, if_pos z0]
    subst z0
    go_enter Tryz.func103, Tryz.ntmps103
    go_wp2_with fail
    go_ret
    exact ⟨ret_int HE.out.symm, Below.refl _ _⟩
  by_cases z1 : 128 < n
  · have HE : Hid (R = 3) := by show _ = _; rw [HD.out, if_neg z0, if_pos z1]
    have b0 : ((n : Int) == 0) = false := by simp; omega
    have b1 : decide ((128 : Int) < (n : Int)) = true := by simp; omega
    go_enter Tryz.func103, Tryz.ntmps103
    go_wp2_with fail
    go_ret
    exact ⟨ret_int HE.out.symm, Below.refl _ _⟩
  have HE : Hid (R = ferr (sbad ls) (n - 0) 0) := by show _ = _; rw [HD.out, if_neg z0, if_neg z1]
  clear HD
  obtain ⟨b, off, rfl, hbl, hall⟩ := HA.out (by omega)
  have HALL := Lib.hid hall
  clear hall HA
  have b0 : ((n : Int) == 0) = false := by simp; omega
  have b1 : decide ((128 : Int) < (n : Int)) = false := by simp; omega
  go_enter Tryz.func103, Tryz.ntmps103
  go_wp2_with fail
  clear b0 b1
  go_loopw [3] (fun i wr => ∃ k : Nat, k ≤ n ∧ i = .int .i64 k ∧ Hid (R = ferr (sbad ls) (n - k) k) ∧ Below w.heap.size w wr) (fun i _ => n - (intOf i).toNat)
  case atStart => exact ⟨0, Nat.zero_le _, rfl, HE, Below.refl _ _⟩
  case round =>
    clear HE
    obtain ⟨k, hk, rfl, HR, hb⟩ := hrel
    by_cases hlt : k < n
    · have hc := HALL.out k hlt _ hb
      unfold At5 s5 at hc
      simp only at hc
      have FB : Hid (sbad ls k = if smOk (smAt ls k) = true then if 0 < k ∧ (smAt ls k).m < (smAt ls (k - 1)).m then 24 else 0 else 2) := rfl
      have i1 : (0 : Int) ≤ (k : Int) := by omega
      have i2 : (k : Int) < (n : Int) := by omega
      generalize smAt ls k = s at *
      have HO : Hid (smOk s = (inB s.x (-16777216) 16777216 && (inB s.y (-16777216) 16777216 && (inB s.p 0 65535 && (inB s.t 0 65535 && inB s.m 0 1073741824))))) := rfl
      rw [HO.out] at FB
      clear HO
      have C_p := Lib.hid (fun w => ref28Unit_any s.p w)
      generalize hb_p : inB s.p 0 65535 = b_p at *
      have HB_p := Lib.hid hb_p
      clear hb_p
      have C_t := Lib.hid (fun w => ref28Unit_any s.t w)
      generalize hb_t : inB s.t 0 65535 = b_t at *
      have HB_t := Lib.hid hb_t
      clear hb_t
      go_upto_region 9 with (fail)
      refine name1 (fun W2 kx hS => ?_)
      replace hb := hb.trans (hS.mono hb.size)
      clear hS hc
      have c5 := kx.c5
      by_cases d0 : s.x < -16777216
      · have FB2 : Hid (sbad ls k = 2) := by show _ = _; rw [FB.out, show inB s.x (-16777216) 16777216 = false from decide_eq_false (by omega)]; simp
        go_wp2_with fail
        go_ret
        exact ⟨ret_int (by rw [HR.out, FA.out k hlt (by rw [FB2.out]; decide), FB2.out]), hb⟩
      · have g0 : decide (s.x < -16777216) = false := by simpa using d0
        by_cases d1 : 16777216 < s.x
        · have FB2 : Hid (sbad ls k = 2) := by show _ = _; rw [FB.out, show inB s.x (-16777216) 16777216 = false from decide_eq_false (by omega)]; simp
          go_wp2_with fail
          go_ret
          exact ⟨ret_int (by rw [HR.out, FA.out k hlt (by rw [FB2.out]; decide), FB2.out]), hb⟩
        · have g1 : decide (16777216 < s.x) = false := by simpa using d1
          by_cases d2 : s.y < -16777216
          · have FB2 : Hid (sbad ls k = 2) := by show _ = _; rw [FB.out, show inB s.y (-16777216) 16777216 = false from decide_eq_false (by omega)]; simp
            go_wp2_with fail
            go_ret
            exact ⟨ret_int (by rw [HR.out, FA.out k hlt (by rw [FB2.out]; decide), FB2.out]), hb⟩
          · have g2 : decide (s.y < -16777216) = false := by simpa using d2
            by_cases d3 : 16777216 < s.y
            · have FB2 : Hid (sbad ls k = 2) := by show _ = _; rw [FB.out, show inB s.y (-16777216) 16777216 = false from decide_eq_false (by omega)]; simp
              go_wp2_with fail
              go_ret
              exact ⟨ret_int (by rw [HR.out, FA.out k hlt (by rw [FB2.out]; decide), FB2.out]), hb⟩
            · have g3 : decide (16777216 < s.y) = false := by simpa using d3
              cases b_p with
              | false =>
                have FB2 : Hid (sbad ls k = 2) := by show _ = _; rw [FB.out, if_neg (by simp)]
                go_wp2_with fail
                refine (C_p.out _).mono ?_
                rintro e w' ⟨rfl, rfl⟩
                go_wp2_with fail
                go_ret
                exact ⟨ret_int (by rw [HR.out, FA.out k hlt (by rw [FB2.out]; decide), FB2.out]), hb⟩
              | true =>
                cases b_t with
                | false =>
                  have FB2 : Hid (sbad ls k = 2) := by show _ = _; rw [FB.out, if_neg (by simp)]
                  go_wp2_with fail
                  refine (C_p.out _).mono ?_
                  rintro e w' ⟨rfl, rfl⟩
                  go_wp2_with fail
                  refine (C_t.out _).mono ?_
                  rintro e w' ⟨rfl, rfl⟩
                  go_wp2_with fail
                  go_ret
                  exact ⟨ret_int (by rw [HR.out, FA.out k hlt (by rw [FB2.out]; decide), FB2.out]), hb⟩
                | true =>
                  by_cases d6 : s.m < 0
                  · have FB2 : Hid (sbad ls k = 2) := by show _ = _; rw [FB.out, show inB s.m 0 1073741824 = false from decide_eq_false (by omega)]; simp
                    go_wp2_with fail
                    refine (C_p.out _).mono ?_
                    rintro e w' ⟨rfl, rfl⟩
                    go_wp2_with fail
                    refine (C_t.out _).mono ?_
                    rintro e w' ⟨rfl, rfl⟩
                    go_wp2_with fail
                    go_ret
                    exact ⟨ret_int (by rw [HR.out, FA.out k hlt (by rw [FB2.out]; decide), FB2.out]), hb⟩
                  · have g6 : decide (s.m < 0) = false := by simpa using d6
                    by_cases d7 : 1073741824 < s.m
                    · have FB2 : Hid (sbad ls k = 2) := by show _ = _; rw [FB.out, show inB s.m 0 1073741824 = false from decide_eq_false (by omega)]; simp
                      go_wp2_with fail
                      refine (C_p.out _).mono ?_
                      rintro e w' ⟨rfl, rfl⟩
                      go_wp2_with fail
                      refine (C_t.out _).mono ?_
                      rintro e w' ⟨rfl, rfl⟩
                      go_wp2_with fail
                      go_ret
                      exact ⟨ret_int (by rw [HR.out, FA.out k hlt (by rw [FB2.out]; decide), FB2.out]), hb⟩
                    · have g7 : decide (1073741824 < s.m) = false := by simpa using d7
                      have FB1 : Hid (sbad ls k = if 0 < k ∧ s.m < (smAt ls (k - 1)).m then 24 else 0) := by
                        show _ = _
                        rw [FB.out, show inB s.x (-16777216) 16777216 = true from decide_eq_true (by omega), show inB s.y (-16777216) 16777216 = true from decide_eq_true (by omega), show inB s.m 0 1073741824 = true from decide_eq_true (by omega)]
                        rfl
                      replace FB := FB1
                      clear FB1
                      go_wp2_with fail
                      refine (C_p.out _).mono ?_
                      rintro e w' ⟨rfl, rfl⟩
                      go_wp2_with fail
                      refine (C_t.out _).mono ?_
                      rintro e w' ⟨rfl, rfl⟩
                      go_upto_region 11 with (fail)
                      clear c5
                      by_cases h0 : 0 < k
                      · have hcp := HALL.out (k - 1) (by omega) _ hb
                        unfold At5 s5 at hcp
                        simp only at hcp
                        have HCP := Lib.hid (fun w' h => (HALL.out (k - 1) (by omega) w' h).2.2.2.2)
                        replace HCP : Hid (∀ w', Below w.heap.size w w' → w'.cell? ⟨b, off + (k - 1) * 5 + 4, none⟩ = some (.int .i64 (smAt ls (k - 1)).m)) := HCP
                        clear hcp
                        generalize (smAt ls (k - 1)).m = pm at *
                        have bg : decide ((0 : Int) < (k : Int)) = true := by simp; omega
                        have hw : IntKind.i64.wrap ((k : Int) - 1) = (k : Int) - 1 := IntWalk.i64_in _ (by omega)
                        have ht : ((k : Int) - 1).toNat = k - 1 := by omega
                        have hi1 : 0 ≤ (k : Int) - 1 := by omega
                        have hi3 : (1 : Int) ≤ (k : Int) := by omega
                        have hi2 : (k : Int) - 1 < (n : Int) := by omega
                        refine wp_region_grow 13 (fun w' => Below (World.heap W2).size W2 w') (by kernel_rfl) (by kernel_rfl) (Below.refl _ _).drew ?_
                        simp only [List.take_succ_cons, List.take_zero, List.drop_succ_cons, List.drop_zero]
                        repeat (first | (apply wpG_on; rfl; (intro w' hS K hK; have hc0 := (kx.kept hS).c5; have hr0 := HCP.out _ (hb.trans (hS.mono hb.size)); go_simp; (first | exact hK.out _ hS)); simp only [Act.put, List.setIfInBounds_toArray, List.set_cons_succ, List.set_cons_zero]) | (apply wpG_off; rfl; simp only [Act.put, List.setIfInBounds_toArray, List.set_cons_succ, List.set_cons_zero]))
                        apply wpG_nil
                        intro W3 hS
                        replace kx := kx.kept hS
                        replace hb := hb.trans (hS.mono hb.size)
                        clear hS
                        clear hw ht
                        by_cases hm : s.m < pm
                        · have FB2 : Hid (sbad ls k = 24) := by show _ = _; rw [FB.out, if_pos ⟨h0, hm⟩]
                          go_wp2_with fail
                          go_ret
                          exact ⟨ret_int (by rw [HR.out, FA.out k hlt (by rw [FB2.out]; decide), FB2.out]), hb⟩
                        · have FB2 : Hid (sbad ls k = 0) := by show _ = _; rw [FB.out, if_neg (by omega)]
                          go_wp2_with fail
                          go_roundw
                          case rel => exact ⟨k + 1, by omega, by go_num, by show _ = _; rw [HR.out, FG.out k hlt FB2.out], hb⟩
                          case measure => simp [intOf]; omega
                      · have bg : decide ((0 : Int) < (k : Int)) = false := by simp; omega
                        have FB2 : Hid (sbad ls k = 0) := by show _ = _; rw [FB.out, if_neg (by omega)]
                        refine wp_region_grow 13 (fun w' => Below (World.heap W2).size W2 w') (by kernel_rfl) (by kernel_rfl) (Below.refl _ _).drew ?_
                        simp only [List.take_succ_cons, List.take_zero, List.drop_succ_cons, List.drop_zero]
                        repeat (first | (apply wpG_on; rfl; (intro w' hS K hK; have hc0 := (kx.kept hS).c5; go_simp; (first | exact hK.out _ hS)); simp only [Act.put, List.setIfInBounds_toArray, List.set_cons_succ, List.set_cons_zero]) | (apply wpG_off; rfl; simp only [Act.put, List.setIfInBounds_toArray, List.set_cons_succ, List.set_cons_zero]))
                        apply wpG_nil
                        intro W3 hS
                        replace kx := kx.kept hS
                        replace hb := hb.trans (hS.mono hb.size)
                        clear hS
                        go_wp2_with fail
                        go_roundw
                        case rel => exact ⟨k + 1, by omega, by go_num, by show _ = _; rw [HR.out, FG.out k hlt FB2.out], hb⟩
                        case measure => simp [intOf]; omega
    · obtain rfl : k = n := by omega
      go_wp2_with fail
      go_ret
      exact ⟨ret_int (by rw [HR.out, FE.out]), hb⟩
end Go.Proofs.YtieacbccadbdbaaGreatDoor


/- Package brush: the dab of a sample, the distance to the next one, the sample between two samples (printed by genbrdab.py). -/
namespace Go.Proofs.YtieacbccadbdbaaGreatDoor
open Go.RowKit
set_option linter.unusedVariables false
attribute [local go_sem] Oper.gAt gUponK Oper.sAt stilK

abbrev svx (s : Smp) : Value := .agg #[.int .i64 s.x, .int .i64 s.y, .int .i64 s.p, .int .i64 s.t, .int .i64 s.m]
theorem alloc5 (w : World) (A B C D E : Obj) : Blk (((((w.alloc A).alloc B).alloc C).alloc D).alloc E) w.heap.size A ∧ Blk (((((w.alloc A).alloc B).alloc C).alloc D).alloc E) (w.heap.size + 1) B ∧ Blk (((((w.alloc A).alloc B).alloc C).alloc D).alloc E) (w.heap.size + 1 + 1) C ∧ Blk (((((w.alloc A).alloc B).alloc C).alloc D).alloc E) (w.heap.size + 1 + 1 + 1) D ∧ Blk (((((w.alloc A).alloc B).alloc C).alloc D).alloc E) (w.heap.size + 1 + 1 + 1 + 1) E ∧ Below w.heap.size w (((((w.alloc A).alloc B).alloc C).alloc D).alloc E) := by
  obtain ⟨h1, h2, h3, h4⟩ := alloc3 w A B C
  have hz : (((w.alloc A).alloc B).alloc C).heap.size = w.heap.size + 1 + 1 + 1 := by simp
  obtain ⟨h5, h6, h7⟩ := alloc2 (((w.alloc A).alloc B).alloc C) D E
  rw [hz] at h5 h6
  exact ⟨h1.kept h7, h2.kept h7, h3.kept h7, h5, h6, h4.trans (h7.mono (by omega))⟩
theorem name5 {P : Program} {c : Code} {Q : Exit → Act → World → Prop} {a : Act} {w : World} {A B C D E : Obj}
    (h : ∀ W : World, Blk W w.heap.size A → Blk W (w.heap.size + 1) B → Blk W (w.heap.size + 1 + 1) C → Blk W (w.heap.size + 1 + 1 + 1) D → Blk W (w.heap.size + 1 + 1 + 1 + 1) E → Below w.heap.size w W → c.wp P Q a W) : c.wp P Q a (((((w.alloc A).alloc B).alloc C).alloc D).alloc E) :=
  have t := alloc5 w A B C D E
  h _ t.1 t.2.1 t.2.2.1 t.2.2.2.1 t.2.2.2.2.1 t.2.2.2.2.2

set_option maxHeartbeats 2000000 in
theorem bvalC (B : Bru) (u : Value) (s : Smp) (speed index target : Int) (b0 b1 b2 b3 : Nat) (w : World) (hD : Dn w u B.ds)
    (k0 : Blk w b0 (.cells #[.int .i64 B.sz, .int .i64 B.hd, .int .i64 B.rn, .int .i64 B.fl, .int .i64 B.op, .int .i64 B.sp, .int .i64 B.an, .int .i64 B.sc, .int .i64 B.md, .int .i64 B.r, .int .i64 B.g, .int .i64 B.b, .int .i64 B.a, .int .i64 B.sd, u, .bool B.er] 29 (0, 0))) (k1 : Blk w b1 (.cells #[.int .i64 s.x, .int .i64 s.y, .int .i64 s.p, .int .i64 s.t, .int .i64 s.m] 94 (0, 0))) (k2 : Blk w b2 (.cells #[.int .i64 speed] 3 (0, 0))) (k3 : Blk w b3 (.cells #[.int .i64 index] 3 (0, 0))) :
    Calls Tryz.prog 127 #[.int .i64 target, .pointer (some ⟨b0, 0, none⟩), .pointer (some ⟨b1, 0, none⟩), .pointer (some ⟨b2, 0, none⟩), .pointer (some ⟨b3, 0, none⟩)] w fun e w' => e = .returned (.int .i64 (bval B s speed index target)) ∧ Below w.heap.size w w' := by
  have HD := Lib.hid hD
  obtain ⟨a, cap, rfl, _, _⟩ := hD
  have V : Hid (∀ w, Dn w (.slice a B.ds.length cap) B.ds → Calls Tryz.prog 128 #[.slice a B.ds.length cap, .int .i64 target, svx s, .int .i64 speed, .int .i64 index, .int .i64 B.sd] w fun e w' => e = .returned (.int .i64 (bval B s speed index target)) ∧ Below w.heap.size w w') := fun w h => dynValue_any _ B.ds target s.x s.y s.p s.t s.m speed index B.sd w h
  generalize bval B s speed index target = v at *
  generalize B.ds.length = n at *
  have c0 := k0.c16
  have c1 := k1.c5
  have c2 := k2.c1
  have c3 := k3.c1
  clear k0 k1 k2 k3
  go_enter Tryz.func127, Tryz.ntmps127
  go_wp2_with fail
  refine (V.out _ HD.out).mono ?_
  rintro e W1 ⟨rfl, hS⟩
  go_wp2_with fail
  go_ret
  exact ⟨rfl, hS⟩

theorem dabOf_def (B : Bru) (s : Smp) (speed index v1 v2 v3 v4 z m : Int) (h1 : bval B s speed index 1 = v1) (h2 : bval B s speed index 2 = v2) (h3 : bval B s speed index 3 = v3) (h4 : bval B s speed index 4 = v4) (hz : bsz B.sz v1 = z) (hm : bsc z B.sc v4 = m) :
    dabOf B s speed index = ⟨bpos s.x B.sd index 2 m, bpos s.y B.sd index 3 m, z, v2, ban v3⟩ := by
  unfold dabOf
  rw [h1, h2, h3, h4, hz, hm]

set_option maxRecDepth 20000 in
set_option maxHeartbeats 8000000 in
theorem dabOf_any (B : Bru) (u : Value) (s : Smp) (speed index : Int) (w : World) (hD : Dn w u B.ds) (hB : BruOk B) (hx : -67108864 ≤ s.x ∧ s.x ≤ 67108864) (hy : -67108864 ≤ s.y ∧ s.y ≤ 67108864) :
    Calls Tryz.prog 97 #[brv B u, svx s, .int .i64 speed, .int .i64 index] w fun e w' => e = .returned (dbv (dabOf B s speed index)) ∧ Below w.heap.size w w' := by
  have HD := Lib.hid hD
  obtain ⟨a, cap, rfl, _, _⟩ := hD
  obtain ⟨hz, _, hc⟩ := hB
  have C := Lib.hid (fun target b0 b1 b2 b3 w h k0 k1 k2 k3 => bvalC B (.slice a B.ds.length cap) s speed index target b0 b1 b2 b3 w h k0 k1 k2 k3)
  have C1 := Lib.hid (C.out 1)
  have C2 := Lib.hid (C.out 2)
  have C3 := Lib.hid (C.out 3)
  have C4 := Lib.hid (C.out 4)
  clear C
  have b1 := bval_bd B s speed index 1
  have b2 := bval_bd B s speed index 2
  have b3 := bval_bd B s speed index 3
  have b4 := bval_bd B s speed index 4
  have DE := Lib.hid (dabOf_def B s speed index)
  generalize bval B s speed index 1 = v1 at *
  generalize bval B s speed index 2 = v2 at *
  generalize bval B s speed index 3 = v3 at *
  generalize bval B s speed index 4 = v4 at *
  have HE := Lib.hid (DE.out _ _ _ _ _ _ rfl rfl rfl rfl rfl rfl)
  clear DE
  generalize dabOf B s speed index = R at *
  have i1 := bsz_in B.sz v1 hz b1
  have i2 := bsz_bd B.sz v1 hz b1
  have D1 : Hid (∀ w, Calls Tryz.prog 61 #[.int .i64 (B.sz * v1), .int .i64 65535] w fun e w' => e = .returned (.int .i64 (dv (B.sz * v1) 65535)) ∧ w = w') := fun w => div_any _ _ w (by omega) (by omega) (by omega) (by omega)
  have m1 : IntKind.i64.wrap (B.sz * v1) = B.sz * v1 := IntWalk.i64_in _ (by omega)
  have HZ : Hid (max 1 (dv (B.sz * v1) 65535) = bsz B.sz v1) := rfl
  generalize hn : B.ds.length = n at *
  have HN := Lib.hid hn
  clear hn
  have hmf : ∀ (fn : Fn) (first cap : Array Value) (w : World), (Instr.makeFunc fn first cap).run Tryz.prog w = .ok (.func fn first cap) w := fun _ _ _ _ => rfl
  go_enter Tryz.func97, Tryz.ntmps97
  go_upto_region 1 with (fail)
  refine name5 (fun W k0 k1 k2 k3 k4 hb => ?_)
  go_upto_region 2 with (fail)
  refine wp_region_grow 8 (fun w' => Below (World.heap W).size W w') (by kernel_rfl) (by kernel_rfl) (Below.refl _ _).drew ?_
  simp only [List.take_succ_cons, List.take_zero, List.drop_succ_cons, List.drop_zero]
  repeat (first | (apply wpG_on; rfl; (intro w' hS K hK; have hc0 := (k0.kept hS).c16; have hc1 := (k1.kept hS).c5; have hc2 := (k2.kept hS).c1; have hc3 := (k3.kept hS).c1; have hc4 := (k4.kept hS).c5; go_simp; (first | exact hK.out _ hS | (go_at_call 127; (with_reducible refine (C1.out _ _ _ _ _ (HD.out.kept (hb.trans (hS.mono hb.size))) (k0.kept hS) (k1.kept hS) (k2.kept hS) (k3.kept hS)).mono ?_); rintro e w'' ⟨rfl, hbb⟩; exact ⟨_, rfl, hK.out _ (hS.trans (hbb.mono hS.size))⟩) | (go_at_call 61; (with_reducible refine (D1.out _).mono ?_); rintro e w'' ⟨rfl, rfl⟩; exact ⟨_, rfl, hK.out _ hS⟩))); simp only [Act.put, List.setIfInBounds_toArray, List.set_cons_succ, List.set_cons_zero]) | (apply wpG_off; rfl; simp only [Act.put, List.setIfInBounds_toArray, List.set_cons_succ, List.set_cons_zero]))
  apply wpG_nil
  intro W1 hS
  replace k0 := k0.kept hS
  replace k1 := k1.kept hS
  replace k2 := k2.kept hS
  replace k3 := k3.kept hS
  replace k4 := k4.kept hS
  replace hb := hb.trans (hS.mono hb.size)
  clear hS
  rw [HZ.out]
  clear HZ D1 m1 i1 C1
  have i3 := bsc_in (bsz B.sz v1) B.sc v4 i2 hc b4
  have i4 := bsc_bd (bsz B.sz v1) B.sc v4 i2 hc b4
  have HM : Hid (dv (dv (bsz B.sz v1 * B.sc) 100 * v4) 65535 = bsc (bsz B.sz v1) B.sc v4) := rfl
  generalize bsz B.sz v1 = z at *
  have D2 : Hid (∀ w, Calls Tryz.prog 61 #[.int .i64 (z * B.sc), .int .i64 100] w fun e w' => e = .returned (.int .i64 (dv (z * B.sc) 100)) ∧ w = w') := fun w => div_any _ _ w (by omega) (by omega) (by omega) (by omega)
  have m2 : IntKind.i64.wrap (z * B.sc) = z * B.sc := IntWalk.i64_in _ (by omega)
  generalize dv (z * B.sc) 100 = q at *
  have D3 : Hid (∀ w, Calls Tryz.prog 61 #[.int .i64 (q * v4), .int .i64 65535] w fun e w' => e = .returned (.int .i64 (dv (q * v4) 65535)) ∧ w = w') := fun w => div_any _ _ w (by omega) (by omega) (by omega) (by omega)
  have m3 : IntKind.i64.wrap (q * v4) = q * v4 := IntWalk.i64_in _ (by omega)
  have c0 := k0.c16
  go_wp2_with fail
  refine (D2.out _).mono ?_
  rintro e w' ⟨rfl, rfl⟩
  clear c0
  go_wp2_with fail
  refine (C4.out _ _ _ _ _ (HD.out.kept hb) k0 k1 k2 k3).mono ?_
  rintro e W2 ⟨rfl, hS⟩
  replace k0 := k0.kept hS
  replace k1 := k1.kept hS
  replace k2 := k2.kept hS
  replace k3 := k3.kept hS
  replace k4 := k4.kept hS
  replace hb := hb.trans (hS.mono hb.size)
  clear hS C4
  go_wp2_with fail
  refine (D3.out _).mono ?_
  rintro e w' ⟨rfl, rfl⟩
  go_upto_region 4 with (fail)
  rw [HM.out]
  clear HM D2 D3 m2 m3 i3
  generalize bsc z B.sc v4 = m at *
  have B2 : Hid (∀ w, Calls Tryz.prog 129 #[.int .i64 B.sd, .int .i64 index, .int .i64 2, .int .i64 (2 * m + 1)] w fun e w' => e = .returned (.int .i64 (belowI B.sd index 2 (2 * m + 1))) ∧ w = w') := fun w => below_any _ _ _ _ w
  have B3 : Hid (∀ w, Calls Tryz.prog 129 #[.int .i64 B.sd, .int .i64 index, .int .i64 3, .int .i64 (2 * m + 1)] w fun e w' => e = .returned (.int .i64 (belowI B.sd index 3 (2 * m + 1))) ∧ w = w') := fun w => below_any _ _ _ _ w
  have g2 := below_bd B.sd index 2 (2 * m + 1) (by omega)
  have g3 := below_bd B.sd index 3 (2 * m + 1) (by omega)
  have HX : Hid (co (s.x + belowI B.sd index 2 (2 * m + 1) - m) = bpos s.x B.sd index 2 m) := rfl
  have HY : Hid (co (s.y + belowI B.sd index 3 (2 * m + 1) - m) = bpos s.y B.sd index 3 m) := rfl
  generalize belowI B.sd index 2 (2 * m + 1) = r2 at *
  generalize belowI B.sd index 3 (2 * m + 1) = r3 at *
  have m1 : IntKind.i64.wrap (2 * m) = 2 * m := IntWalk.i64_in _ (by omega)
  have m2 : IntKind.i64.wrap (2 * m + 1) = 2 * m + 1 := IntWalk.i64_in _ (by omega)
  have m3 : IntKind.i64.wrap (s.x + r2) = s.x + r2 := IntWalk.i64_in _ (by omega)
  have m4 : IntKind.i64.wrap (s.x + r2 - m) = s.x + r2 - m := IntWalk.i64_in _ (by omega)
  have m5 : IntKind.i64.wrap (s.y + r3) = s.y + r3 := IntWalk.i64_in _ (by omega)
  have m6 : IntKind.i64.wrap (s.y + r3 - m) = s.y + r3 - m := IntWalk.i64_in _ (by omega)
  refine wp_region_grow 13 (fun w' => Below (World.heap W2).size W2 w') (by kernel_rfl) (by kernel_rfl) (Below.refl _ _).drew ?_
  simp only [List.take_succ_cons, List.take_zero, List.drop_succ_cons, List.drop_zero]
  repeat (first | (apply wpG_on; rfl; (intro w' hS K hK; have hc0 := (k0.kept hS).c16; have hc1 := (k1.kept hS).c5; have hc2 := (k2.kept hS).c1; have hc3 := (k3.kept hS).c1; have hc4 := (k4.kept hS).c5; go_simp; (first | exact hK.out _ hS | (go_at_call 129; (with_reducible refine (B2.out _).mono ?_); rintro e w'' ⟨rfl, rfl⟩; exact ⟨_, rfl, hK.out _ hS⟩))); simp only [Act.put, List.setIfInBounds_toArray, List.set_cons_succ, List.set_cons_zero]) | (apply wpG_off; rfl; simp only [Act.put, List.setIfInBounds_toArray, List.set_cons_succ, List.set_cons_zero]))
  apply wpG_nil
  intro W3 hS
  replace k0 := k0.kept hS
  replace k1 := k1.kept hS
  replace k2 := k2.kept hS
  replace k3 := k3.kept hS
  replace k4 := k4.kept hS
  replace hb := hb.trans (hS.mono hb.size)
  clear hS
  go_upto_region 5 with (fail)
  refine wp_region_grow 13 (fun w' => Below (World.heap W3).size W3 w') (by kernel_rfl) (by kernel_rfl) (Below.refl _ _).drew ?_
  simp only [List.take_succ_cons, List.take_zero, List.drop_succ_cons, List.drop_zero]
  repeat (first | (apply wpG_on; rfl; (intro w' hS K hK; have hc0 := (k0.kept hS).c16; have hc1 := (k1.kept hS).c5; have hc2 := (k2.kept hS).c1; have hc3 := (k3.kept hS).c1; have hc4 := (k4.kept hS).c5; go_simp; (first | exact hK.out _ hS | (go_at_call 129; (with_reducible refine (B3.out _).mono ?_); rintro e w'' ⟨rfl, rfl⟩; exact ⟨_, rfl, hK.out _ hS⟩))); simp only [Act.put, List.setIfInBounds_toArray, List.set_cons_succ, List.set_cons_zero]) | (apply wpG_off; rfl; simp only [Act.put, List.setIfInBounds_toArray, List.set_cons_succ, List.set_cons_zero]))
  apply wpG_nil
  intro W4 hS
  replace k0 := k0.kept hS
  replace k1 := k1.kept hS
  replace k2 := k2.kept hS
  replace k3 := k3.kept hS
  replace k4 := k4.kept hS
  replace hb := hb.trans (hS.mono hb.size)
  clear hS
  clear m1 m2 m3 m4 m5 m6 B2 B3
  have X2 : Hid (∀ w, Calls Tryz.prog 91 #[.int .i64 (s.x + r2 - m), .int .i64 (-16777216), .int .i64 16777216] w fun e w' => e = .returned (.int .i64 (bpos s.x B.sd index 2 m)) ∧ w = w') := fun w => by rw [← HX.out]; exact clamp_any _ _ _ _
  have X3 : Hid (∀ w, Calls Tryz.prog 91 #[.int .i64 (s.y + r3 - m), .int .i64 (-16777216), .int .i64 16777216] w fun e w' => e = .returned (.int .i64 (bpos s.y B.sd index 3 m)) ∧ w = w') := fun w => by rw [← HY.out]; exact clamp_any _ _ _ _
  generalize bpos s.x B.sd index 2 m = px at *
  generalize bpos s.y B.sd index 3 m = py at *
  go_wp2_with fail
  refine (X2.out _).mono ?_
  rintro e w' ⟨rfl, rfl⟩
  go_wp2_with fail
  refine (X3.out _).mono ?_
  rintro e w' ⟨rfl, rfl⟩
  go_wp2_with fail
  refine (C2.out _ _ _ _ _ (HD.out.kept hb) k0 k1 k2 k3).mono ?_
  rintro e W5 ⟨rfl, hS⟩
  replace k0 := k0.kept hS
  replace k1 := k1.kept hS
  replace k2 := k2.kept hS
  replace k3 := k3.kept hS
  replace k4 := k4.kept hS
  replace hb := hb.trans (hS.mono hb.size)
  clear hS
  go_wp2_with fail
  refine (C3.out _ _ _ _ _ (HD.out.kept hb) k0 k1 k2 k3).mono ?_
  rintro e W6 ⟨rfl, hS⟩
  replace k4 := k4.kept hS
  replace hb := hb.trans (hS.mono hb.size)
  clear hS
  have F1 : Hid (∀ w, Calls Tryz.prog 73 #[.int .i64 (v3 * 65536), .int .i64 65535] w fun e w' => e = .returned (.int .i64 (v3 * 65536 / 65535)) ∧ w = w') := fun w => floor_any _ _ w (by omega) (by omega) (by omega) (by omega)
  go_wp2_with fail
  refine (F1.out _).mono ?_
  rintro e w' ⟨rfl, rfl⟩
  have c4 := k4.c5
  have HA : Hid (v3 * 65536 / 65535 % 65536 = ban v3) := rfl
  have n1 : 0 ≤ v3 * 65536 / 65535 := by omega
  go_wp2_with fail
  exact end5 hb k4 (by omega) (fun w3 c3 => by simp [results, Tryz.results97, go_sem, c3]) rfl (fun w3 hb3 => ⟨by rw [HE.out, ← HA.out], hb3⟩)

set_option maxHeartbeats 1000000 in
theorem spacing_any (B : Bru) (u : Value) (d : Dab) (w : World) (hD : Dn w u B.ds) (hB : BruOk B) (hz : 1 ≤ d.sz ∧ d.sz ≤ 1024) :
    Calls Tryz.prog 98 #[brv B u, dbv d] w fun e w' => e = .returned (.int .i64 (bspc B d.sz)) ∧ Below w.heap.size w w' := by
  obtain ⟨a, cap, rfl, _, _⟩ := hD
  have i1 := bspc_in d.sz B.sp hz hB.sp
  have D1 : Hid (∀ w, Calls Tryz.prog 61 #[.int .i64 (d.sz * B.sp), .int .i64 100] w fun e w' => e = .returned (.int .i64 (dv (d.sz * B.sp) 100)) ∧ w = w') := fun w => div_any _ _ w (by omega) (by omega) (by omega) (by omega)
  have i2 := dv_nonneg (d.sz * B.sp) 100 (by omega) (by omega)
  have i3 := dv_le (d.sz * B.sp) 100 10240 (by omega) (by omega)
  have HE : Hid (16 * max 1 (dv (d.sz * B.sp) 100) = bspc B d.sz) := rfl
  generalize dv (d.sz * B.sp) 100 = q at *
  have m1 : IntKind.i64.wrap (d.sz * B.sp) = d.sz * B.sp := IntWalk.i64_in _ (by omega)
  have m2 : IntKind.i64.wrap (16 * max 1 q) = 16 * max 1 q := IntWalk.i64_in _ (by omega)
  go_enter Tryz.func98, Tryz.ntmps98
  go_upto_region 1 with (fail)
  refine name2 (fun W k1 k2 hb => ?_)
  have c1 := k1.c16
  have c2 := k2.c5
  go_wp2_with fail
  refine (D1.out _).mono ?_
  rintro e w' ⟨rfl, rfl⟩
  go_wp2_with fail
  go_ret
  exact ⟨ret_int HE.out, hb⟩

set_option maxHeartbeats 1000000 in
theorem btwC (x y d n : Int) (b2 b3 : Nat) (w : World) (k2 : Blk w b2 (.cells #[.int .i64 d] 3 (0, 0))) (k3 : Blk w b3 (.cells #[.int .i64 n] 3 (0, 0))) (hn : 0 < n ∧ n ≤ 1073741824) (hd : 0 ≤ d ∧ d ≤ n) (hx : -1073741824 ≤ x ∧ x ≤ 1073741824) (hy : -1073741824 ≤ y ∧ y ≤ 1073741824) (hxy : -1073741824 ≤ y - x ∧ y - x ≤ 1073741824) :
    Calls Tryz.prog 135 #[.int .i64 x, .int .i64 y, .pointer (some ⟨b2, 0, none⟩), .pointer (some ⟨b3, 0, none⟩)] w fun e w' => e = .returned (.int .i64 (btw1 x y d n)) ∧ w = w' := by
  have i1 := btw1_in x y d n 1073741824 hn.1 hd hxy
  have e1 : (1073741824 : Int) * n ≤ 1073741824 * 1073741824 := by omega
  have D1 : Hid (∀ w, Calls Tryz.prog 61 #[.int .i64 ((y - x) * d), .int .i64 n] w fun e w' => e = .returned (.int .i64 (dv ((y - x) * d) n)) ∧ w = w') := fun w => div_any _ _ w (by omega) (by omega) (by omega) (by omega)
  have HE : Hid (x + dv ((y - x) * d) n = btw1 x y d n) := rfl
  have i2 : -1073741824 ≤ dv ((y - x) * d) n ∧ dv ((y - x) * d) n ≤ 1073741824 := by rw [← HE.out] at i1; omega
  have m1 : IntKind.i64.wrap ((y - x) * d) = (y - x) * d := IntWalk.i64_in _ (by omega)
  generalize dv ((y - x) * d) n = q at *
  have c2 := k2.c1
  have c3 := k3.c1
  clear k2 k3 i1 e1
  go_enter Tryz.func135, Tryz.ntmps135
  go_wp2_with fail
  refine (D1.out _).mono ?_
  rintro e w' ⟨rfl, rfl⟩
  go_wp2_with fail
  go_ret
  exact ⟨ret_int HE.out, rfl⟩

/-- What two samples are asked for. -/
structure SmpIn (a b : Smp) : Prop where
  x : (-16777216 ≤ a.x ∧ a.x ≤ 16777216) ∧ (-16777216 ≤ b.x ∧ b.x ≤ 16777216)
  y : (-16777216 ≤ a.y ∧ a.y ≤ 16777216) ∧ (-16777216 ≤ b.y ∧ b.y ≤ 16777216)
  p : (0 ≤ a.p ∧ a.p ≤ 65535) ∧ (0 ≤ b.p ∧ b.p ≤ 65535)
  t : (0 ≤ a.t ∧ a.t ≤ 65535) ∧ (0 ≤ b.t ∧ b.t ≤ 65535)
  m : (0 ≤ a.m ∧ a.m ≤ 1073741824) ∧ (0 ≤ b.m ∧ b.m ≤ 1073741824)
theorem smpIn {p q : Smp} (hp : smOk p = true) (hq : smOk q = true) : SmpIn p q := by
  have a := smOk_bd hp
  have b := smOk_bd hq
  exact ⟨⟨a.1, b.1⟩, ⟨a.2.1, b.2.1⟩, ⟨a.2.2.1, b.2.2.1⟩, ⟨a.2.2.2.1, b.2.2.2.1⟩, ⟨a.2.2.2.2, b.2.2.2.2⟩⟩
theorem btw_xy {p q : Smp} (h : SmpIn p q) (d n : Int) (hn : 0 < n) (hd : 0 ≤ d ∧ d ≤ n) : (-67108864 ≤ (btw p q d n).x ∧ (btw p q d n).x ≤ 67108864) ∧ (-67108864 ≤ (btw p q d n).y ∧ (btw p q d n).y ≤ 67108864) := by
  obtain ⟨hx, hy, _, _, _⟩ := h
  have a := btw1_in p.x q.x d n 33554432 hn hd (by omega)
  have b := btw1_in p.y q.y d n 33554432 hn hd (by omega)
  show (_ ≤ btw1 p.x q.x d n ∧ btw1 p.x q.x d n ≤ _) ∧ _ ≤ btw1 p.y q.y d n ∧ btw1 p.y q.y d n ≤ _
  omega

set_option maxRecDepth 20000 in
set_option maxHeartbeats 8000000 in
theorem between_any (p q : Smp) (d n : Int) (w : World) (h : SmpIn p q) (hn : 0 < n ∧ n ≤ 1073741824) (hd : 0 ≤ d ∧ d ≤ n) :
    Calls Tryz.prog 101 #[svx p, svx q, .int .i64 d, .int .i64 n] w fun e w' => e = .returned (svx (btw p q d n)) ∧ Below w.heap.size w w' := by
  obtain ⟨hx, hy, hp, ht, hm⟩ := h
  have C1 := Lib.hid (fun b2 b3 w k2 k3 => btwC p.x q.x d n b2 b3 w k2 k3 hn hd (by omega) (by omega) (by omega))
  have C2 := Lib.hid (fun b2 b3 w k2 k3 => btwC p.y q.y d n b2 b3 w k2 k3 hn hd (by omega) (by omega) (by omega))
  have C3 := Lib.hid (fun b2 b3 w k2 k3 => btwC p.p q.p d n b2 b3 w k2 k3 hn hd (by omega) (by omega) (by omega))
  have C4 := Lib.hid (fun b2 b3 w k2 k3 => btwC p.t q.t d n b2 b3 w k2 k3 hn hd (by omega) (by omega) (by omega))
  have C5 := Lib.hid (fun b2 b3 w k2 k3 => btwC p.m q.m d n b2 b3 w k2 k3 hn hd (by omega) (by omega) (by omega))
  clear hx hy hp ht hm hn hd
  unfold svx btw
  simp only
  generalize btw1 p.x q.x d n = v1 at *
  generalize btw1 p.y q.y d n = v2 at *
  generalize btw1 p.p q.p d n = v3 at *
  generalize btw1 p.t q.t d n = v4 at *
  generalize btw1 p.m q.m d n = v5 at *
  have hmf : ∀ (fn : Fn) (first cap : Array Value) (w : World), (Instr.makeFunc fn first cap).run Tryz.prog w = .ok (.func fn first cap) w := fun _ _ _ _ => rfl
  go_enter Tryz.func101, Tryz.ntmps101
  go_upto_region 1 with (fail)
  refine name5 (fun W k0 k1 k2 k3 k4 hb => ?_)
  go_upto_region 2 with (fail)
  refine wp_region_grow 31 (fun w' => Below (World.heap W).size W w') (by kernel_rfl) (by kernel_rfl) (Below.refl _ _).drew ?_
  simp only [List.take_succ_cons, List.take_zero, List.drop_succ_cons, List.drop_zero]
  repeat (first | (apply wpG_on; rfl; (intro w' hS K hK; have hc0 := (k0.kept hS).c5; have hc1 := (k1.kept hS).c5; have hc2 := (k2.kept hS).c1; have hc3 := (k3.kept hS).c1; have hc4 := (k4.kept hS).c5; go_simp; (first | exact hK.out _ hS | (go_at_call 135; (with_reducible refine (C1.out _ _ _ (k2.kept hS) (k3.kept hS)).mono ?_); rintro e w'' ⟨rfl, rfl⟩; exact ⟨_, rfl, hK.out _ hS⟩) | (go_at_call 135; (with_reducible refine (C2.out _ _ _ (k2.kept hS) (k3.kept hS)).mono ?_); rintro e w'' ⟨rfl, rfl⟩; exact ⟨_, rfl, hK.out _ hS⟩) | (go_at_call 135; (with_reducible refine (C3.out _ _ _ (k2.kept hS) (k3.kept hS)).mono ?_); rintro e w'' ⟨rfl, rfl⟩; exact ⟨_, rfl, hK.out _ hS⟩) | (go_at_call 135; (with_reducible refine (C4.out _ _ _ (k2.kept hS) (k3.kept hS)).mono ?_); rintro e w'' ⟨rfl, rfl⟩; exact ⟨_, rfl, hK.out _ hS⟩) | (go_at_call 135; (with_reducible refine (C5.out _ _ _ (k2.kept hS) (k3.kept hS)).mono ?_); rintro e w'' ⟨rfl, rfl⟩; exact ⟨_, rfl, hK.out _ hS⟩))); simp only [Act.put, List.setIfInBounds_toArray, List.set_cons_succ, List.set_cons_zero]) | (apply wpG_off; rfl; simp only [Act.put, List.setIfInBounds_toArray, List.set_cons_succ, List.set_cons_zero]))
  apply wpG_nil
  intro W1 hS
  replace k0 := k0.kept hS
  replace k1 := k1.kept hS
  replace k2 := k2.kept hS
  replace k3 := k3.kept hS
  replace k4 := k4.kept hS
  replace hb := hb.trans (hS.mono hb.size)
  clear hS
  have c4 := k4.c5
  go_wp2_with fail
  exact end5 hb k4 (by omega) (fun w3 c3 => by simp [results, Tryz.results101, go_sem, c3]) rfl (fun w3 hb3 => ⟨rfl, hb3⟩)
end Go.Proofs.YtieacbccadbdbaaGreatDoor

