/- The error of samples, by the program and by the reference (printed by genbrchk.py). -/
import Derived.Test.YtjaidcdkkgnfoaaDoorSeq
import Derived.Test.YtjaidcdkkgnfoaaDoorLDyn
import Derived.Deep.Cut
namespace Go.Proofs.YtjaidcdkkgnfoaaDoor
open Go.RowKit
set_option linter.unusedVariables false
attribute [local go_sem] Oper.gAt gUponK Oper.sAt stilK

set_option maxHeartbeats 400000 in
theorem brWithin_any (x lo hi : Int) (w : World) :
    Calls Tryd.prog 15 #[.int .i64 x, .int .i64 lo, .int .i64 hi] w fun e w' => e = .returned (.bool (inB x lo hi)) ∧ w = w' := by
  rcases (by omega : ¬ lo ≤ x ∨ (lo ≤ x ∧ ¬ x ≤ hi) ∨ (lo ≤ x ∧ x ≤ hi)) with h | ⟨h, h2⟩ | ⟨h, h2⟩
  · have HE : Hid (inB x lo hi = false) := decide_eq_false (by omega)
    go_enter Tryd.func15, Tryd.ntmps15
    go_wp2
    go_ret
    exact ⟨ret_bool (by rw [HE.out]), rfl⟩
  · have HE : Hid (inB x lo hi = false) := decide_eq_false (by omega)
    go_enter Tryd.func15, Tryd.ntmps15
    go_wp2
    go_ret
    exact ⟨ret_bool (by rw [HE.out]), rfl⟩
  · have HE : Hid (inB x lo hi = true) := decide_eq_true (by omega)
    go_enter Tryd.func15, Tryd.ntmps15
    go_wp2
    go_ret
    exact ⟨ret_bool (by rw [HE.out]), rfl⟩

set_option maxHeartbeats 400000 in
theorem ref28Unit_any (x : Int) (w : World) :
    Calls Tryd.prog 67 #[.int .i64 x] w fun e w' => e = .returned (.bool (inB x 0 65535)) ∧ w = w' := by
  rcases (by omega : ¬ 0 ≤ x ∨ (0 ≤ x ∧ ¬ x ≤ 65535) ∨ (0 ≤ x ∧ x ≤ 65535)) with h | ⟨h, h2⟩ | ⟨h, h2⟩
  · have HE : Hid (inB x 0 65535 = false) := decide_eq_false (by omega)
    go_enter Tryd.func67, Tryd.ntmps67
    go_wp2
    go_ret
    exact ⟨ret_bool (by rw [HE.out]), rfl⟩
  · have HE : Hid (inB x 0 65535 = false) := decide_eq_false (by omega)
    go_enter Tryd.func67, Tryd.ntmps67
    go_wp2
    go_ret
    exact ⟨ret_bool (by rw [HE.out]), rfl⟩
  · have HE : Hid (inB x 0 65535 = true) := decide_eq_true (by omega)
    go_enter Tryd.func67, Tryd.ntmps67
    go_wp2
    go_ret
    exact ⟨ret_bool (by rw [HE.out]), rfl⟩

set_option maxRecDepth 20000 in
set_option maxHeartbeats 8000000 in
theorem brCheck_any (v : Value) (ls : List Smp) (w : World) (h : Sm w v ls) :
    Calls Tryd.prog 18 #[v] w fun e w' => e = .returned (.int .i64 (schk ls)) ∧ Below w.heap.size w w' := by
  have hlen := Qn.len h
  obtain ⟨a, cap, rfl⟩ := Qn.slice h
  have HA := Lib.hid (fun hn => Qn.all h hn)
  have HD : Hid (schk ls = if ls.length = 0 then 1 else if 128 < ls.length then 3 else ferr (sbad ls) (ls.length - 0) 0) := rfl
  have FA := Lib.hid (ferr_at (sbad ls) ls.length)
  have FG := Lib.hid (ferr_go (sbad ls) ls.length)
  have FE := Lib.hid (ferr_end (sbad ls) ls.length)
  clear h
  generalize hn : ls.length = n at *
  have HN := Lib.hid hn
  clear hn
  generalize schk ls = R at *
  by_cases z0 : n = 0
  · have HE : Hid (R = 1) := by show _ = _; rw [HD.out, if_pos z0]
    subst z0
    go_enter Tryd.func18, Tryd.ntmps18
    go_wp2_with fail
    go_ret
    exact ⟨ret_int HE.out.symm, Below.refl _ _⟩
  by_cases z1 : 128 < n
  · have HE : Hid (R = 3) := by show _ = _; rw [HD.out, if_neg z0, if_pos z1]
    have b0 : ((n : Int) == 0) = false := by simp; omega
    have b1 : decide ((128 : Int) < (n : Int)) = true := by simp; omega
    go_enter Tryd.func18, Tryd.ntmps18
    go_wp2_with fail
    go_ret
    exact ⟨ret_int HE.out.symm, Below.refl _ _⟩
  have HE : Hid (R = ferr (sbad ls) (n - 0) 0) := by show _ = _; rw [HD.out, if_neg z0, if_neg z1]
  clear HD
  obtain ⟨b, off, rfl, hbl, hall⟩ := HA.out (by omega)
  have HALL := Lib.hid hall
  clear hall HA
  have b0 : ((n : Int) == 0) = false := by simp; omega
  have b1 : decide ((128 : Int) < (n : Int)) = false := by simp; omega
  go_enter Tryd.func18, Tryd.ntmps18
  go_wp2_with fail
  clear b0 b1
  go_loopw [13] (fun i wr => ∃ k : Nat, k ≤ n ∧ i = .int .i64 k ∧ Hid (R = ferr (sbad ls) (n - k) k) ∧ Below w.heap.size w wr) (fun i _ => n - (intOf i).toNat)
  case atStart => exact ⟨0, Nat.zero_le _, rfl, HE, Below.refl _ _⟩
  case round =>
    clear HE
    obtain ⟨k, hk, rfl, HR, hb⟩ := hrel
    by_cases hlt : k < n
    · have hc := HALL.out k hlt _ hb
      unfold At5 s5 at hc
      simp only at hc
      have FB : Hid (sbad ls k = if smOk (smAt ls k) = true then if 0 < k ∧ (smAt ls k).m < (smAt ls (k - 1)).m then 24 else 0 else 2) := rfl
      have i1 : (0 : Int) ≤ (k : Int) := by omega
      have i2 : (k : Int) < (n : Int) := by omega
      generalize smAt ls k = s at *
      have HO : Hid (smOk s = (inB s.x (-16777216) 16777216 && (inB s.y (-16777216) 16777216 && (inB s.p 0 65535 && (inB s.t 0 65535 && inB s.m 0 1073741824))))) := rfl
      rw [HO.out] at FB
      clear HO
      have C_x := Lib.hid (fun w => brWithin_any s.x (-16777216) 16777216 w)
      generalize inB s.x (-16777216) 16777216 = b_x at *
      have C_y := Lib.hid (fun w => brWithin_any s.y (-16777216) 16777216 w)
      generalize inB s.y (-16777216) 16777216 = b_y at *
      have C_p := Lib.hid (fun w => brWithin_any s.p 0 65535 w)
      generalize inB s.p 0 65535 = b_p at *
      have C_t := Lib.hid (fun w => brWithin_any s.t 0 65535 w)
      generalize inB s.t 0 65535 = b_t at *
      have C_m := Lib.hid (fun w => brWithin_any s.m 0 1073741824 w)
      generalize inB s.m 0 1073741824 = b_m at *
      go_upto_region 8 with (fail)
      refine name1 (fun W2 kx hS => ?_)
      replace hb := hb.trans (hS.mono hb.size)
      clear hS hc
      have c5 := kx.c5
      cases b_x with
      | false =>
        have FB2 : Hid (sbad ls k = 2) := by show _ = _; rw [FB.out]; rfl
        go_wp2_with fail
        refine (C_x.out _).mono ?_
        rintro e w' ⟨rfl, rfl⟩
        go_wp2_with fail
        go_ret
        exact ⟨ret_int (by rw [HR.out, FA.out k hlt (by rw [FB2.out]; decide), FB2.out]), hb⟩
      | true =>
        go_wp2_with fail
        refine (C_x.out _).mono ?_
        rintro e w' ⟨rfl, rfl⟩
        cases b_y with
        | false =>
          have FB2 : Hid (sbad ls k = 2) := by show _ = _; rw [FB.out]; rfl
          go_wp2_with fail
          refine (C_y.out _).mono ?_
          rintro e w' ⟨rfl, rfl⟩
          go_wp2_with fail
          go_ret
          exact ⟨ret_int (by rw [HR.out, FA.out k hlt (by rw [FB2.out]; decide), FB2.out]), hb⟩
        | true =>
          go_wp2_with fail
          refine (C_y.out _).mono ?_
          rintro e w' ⟨rfl, rfl⟩
          cases b_p with
          | false =>
            have FB2 : Hid (sbad ls k = 2) := by show _ = _; rw [FB.out]; rfl
            go_wp2_with fail
            refine (C_p.out _).mono ?_
            rintro e w' ⟨rfl, rfl⟩
            go_wp2_with fail
            go_ret
            exact ⟨ret_int (by rw [HR.out, FA.out k hlt (by rw [FB2.out]; decide), FB2.out]), hb⟩
          | true =>
            go_wp2_with fail
            refine (C_p.out _).mono ?_
            rintro e w' ⟨rfl, rfl⟩
            cases b_t with
            | false =>
              have FB2 : Hid (sbad ls k = 2) := by show _ = _; rw [FB.out]; rfl
              go_wp2_with fail
              refine (C_t.out _).mono ?_
              rintro e w' ⟨rfl, rfl⟩
              go_wp2_with fail
              go_ret
              exact ⟨ret_int (by rw [HR.out, FA.out k hlt (by rw [FB2.out]; decide), FB2.out]), hb⟩
            | true =>
              go_wp2_with fail
              refine (C_t.out _).mono ?_
              rintro e w' ⟨rfl, rfl⟩
              cases b_m with
              | false =>
                have FB2 : Hid (sbad ls k = 2) := by show _ = _; rw [FB.out]; rfl
                go_wp2_with fail
                refine (C_m.out _).mono ?_
                rintro e w' ⟨rfl, rfl⟩
                go_wp2_with fail
                go_ret
                exact ⟨ret_int (by rw [HR.out, FA.out k hlt (by rw [FB2.out]; decide), FB2.out]), hb⟩
              | true =>
                go_wp2_with fail
                refine (C_m.out _).mono ?_
                rintro e w' ⟨rfl, rfl⟩
                replace FB : Hid (sbad ls k = if 0 < k ∧ s.m < (smAt ls (k - 1)).m then 24 else 0) := FB
                clear c5
                by_cases h0 : 0 < k
                · have hcp := HALL.out (k - 1) (by omega) _ hb
                  unfold At5 s5 at hcp
                  simp only at hcp
                  have HCP := Lib.hid (fun w' h => (HALL.out (k - 1) (by omega) w' h).2.2.2.2)
                  replace HCP : Hid (∀ w', Below w.heap.size w w' → w'.cell? ⟨b, off + (k - 1) * 5 + 4, none⟩ = some (.int .i64 (smAt ls (k - 1)).m)) := HCP
                  clear hcp
                  generalize (smAt ls (k - 1)).m = pm at *
                  have bg : decide ((0 : Int) < (k : Int)) = true := by simp; omega
                  have hw : IntKind.i64.wrap ((k : Int) - 1) = (k : Int) - 1 := IntWalk.i64_in _ (by omega)
                  have ht : ((k : Int) - 1).toNat = k - 1 := by omega
                  have hi1 : 0 ≤ (k : Int) - 1 := by omega
                  have hi3 : (1 : Int) ≤ (k : Int) := by omega
                  have hi2 : (k : Int) - 1 < (n : Int) := by omega
                  go_upto_region 12 with (fail)
                  refine wp_region_grow 13 (fun w' => Below (World.heap W2).size W2 w') (by kernel_rfl) (by kernel_rfl) (Below.refl _ _).drew ?_
                  simp only [List.take_succ_cons, List.take_zero, List.drop_succ_cons, List.drop_zero]
                  repeat (first | (apply wpG_on; rfl; (intro w' hS K hK; have hc0 := (kx.kept hS).c5; have hr0 := HCP.out _ (hb.trans (hS.mono hb.size)); go_simp; (first | exact hK.out _ hS)); simp only [Act.put, List.setIfInBounds_toArray, List.set_cons_succ, List.set_cons_zero]) | (apply wpG_off; rfl; simp only [Act.put, List.setIfInBounds_toArray, List.set_cons_succ, List.set_cons_zero]))
                  apply wpG_nil
                  intro W3 hS
                  replace kx := kx.kept hS
                  replace hb := hb.trans (hS.mono hb.size)
                  clear hS
                  clear hw ht
                  by_cases hm : s.m < pm
                  · have FB2 : Hid (sbad ls k = 24) := by show _ = _; rw [FB.out, if_pos ⟨h0, hm⟩]
                    go_wp2_with fail
                    go_ret
                    exact ⟨ret_int (by rw [HR.out, FA.out k hlt (by rw [FB2.out]; decide), FB2.out]), hb⟩
                  · have FB2 : Hid (sbad ls k = 0) := by show _ = _; rw [FB.out, if_neg (by omega)]
                    go_wp2_with fail
                    go_roundw
                    case rel => exact ⟨k + 1, by omega, by go_num, by show _ = _; rw [HR.out, FG.out k hlt FB2.out], hb⟩
                    case measure => simp [intOf]; omega
                · have bg : decide ((0 : Int) < (k : Int)) = false := by simp; omega
                  have FB2 : Hid (sbad ls k = 0) := by show _ = _; rw [FB.out, if_neg (by omega)]
                  go_upto_region 12 with (fail)
                  refine wp_region_grow 13 (fun w' => Below (World.heap W2).size W2 w') (by kernel_rfl) (by kernel_rfl) (Below.refl _ _).drew ?_
                  simp only [List.take_succ_cons, List.take_zero, List.drop_succ_cons, List.drop_zero]
                  repeat (first | (apply wpG_on; rfl; (intro w' hS K hK; have hc0 := (kx.kept hS).c5; go_simp; (first | exact hK.out _ hS)); simp only [Act.put, List.setIfInBounds_toArray, List.set_cons_succ, List.set_cons_zero]) | (apply wpG_off; rfl; simp only [Act.put, List.setIfInBounds_toArray, List.set_cons_succ, List.set_cons_zero]))
                  apply wpG_nil
                  intro W3 hS
                  replace kx := kx.kept hS
                  replace hb := hb.trans (hS.mono hb.size)
                  clear hS
                  go_wp2_with fail
                  go_roundw
                  case rel => exact ⟨k + 1, by omega, by go_num, by show _ = _; rw [HR.out, FG.out k hlt FB2.out], hb⟩
                  case measure => simp [intOf]; omega
    · obtain rfl : k = n := by omega
      go_wp2_with fail
      go_ret
      exact ⟨ret_int (by rw [HR.out, FE.out]), hb⟩

set_option maxRecDepth 20000 in
set_option maxHeartbeats 8000000 in
theorem refBrCheck_any (v : Value) (ls : List Smp) (w : World) (h : Sm w v ls) :
    Calls Tryd.prog 32 #[v] w fun e w' => e = .returned (.int .i64 (schk ls)) ∧ Below w.heap.size w w' := by
  have hlen := Qn.len h
  obtain ⟨a, cap, rfl⟩ := Qn.slice h
  have HA := Lib.hid (fun hn => Qn.all h hn)
  have HD : Hid (schk ls = if ls.length = 0 then 1 else if 128 < ls.length then 3 else ferr (sbad ls) (ls.length - 0) 0) := rfl
  have FA := Lib.hid (ferr_at (sbad ls) ls.length)
  have FG := Lib.hid (ferr_go (sbad ls) ls.length)
  have FE := Lib.hid (ferr_end (sbad ls) ls.length)
  clear h
  generalize hn : ls.length = n at *
  have HN := Lib.hid hn
  clear hn
  generalize schk ls = R at *
  by_cases z0 : n = 0
  · have HE : Hid (R = 1) := by show _ = _; rw [HD.out, if_pos z0]
    subst z0
    go_enter Tryd.func32, Tryd.ntmps32
    go_wp2_with fail
    go_ret
    exact ⟨ret_int HE.out.symm, Below.refl _ _⟩
  by_cases z1 : 128 < n
  · have HE : Hid (R = 3) := by show _ = _; rw [HD.out, if_neg z0, if_pos z1]
    have b0 : ((n : Int) == 0) = false := by simp; omega
    have b1 : decide ((128 : Int) < (n : Int)) = true := by simp; omega
    go_enter Tryd.func32, Tryd.ntmps32
    go_wp2_with fail
    go_ret
    exact ⟨ret_int HE.out.symm, Below.refl _ _⟩
  have HE : Hid (R = ferr (sbad ls) (n - 0) 0) := by show _ = _; rw [HD.out, if_neg z0, if_neg z1]
  clear HD
  obtain ⟨b, off, rfl, hbl, hall⟩ := HA.out (by omega)
  have HALL := Lib.hid hall
  clear hall HA
  have b0 : ((n : Int) == 0) = false := by simp; omega
  have b1 : decide ((128 : Int) < (n : Int)) = false := by simp; omega
  go_enter Tryd.func32, Tryd.ntmps32
  go_wp2_with fail
  clear b0 b1
  go_loopw [3] (fun i wr => ∃ k : Nat, k ≤ n ∧ i = .int .i64 k ∧ Hid (R = ferr (sbad ls) (n - k) k) ∧ Below w.heap.size w wr) (fun i _ => n - (intOf i).toNat)
  case atStart => exact ⟨0, Nat.zero_le _, rfl, HE, Below.refl _ _⟩
  case round =>
    clear HE
    obtain ⟨k, hk, rfl, HR, hb⟩ := hrel
    by_cases hlt : k < n
    · have hc := HALL.out k hlt _ hb
      unfold At5 s5 at hc
      simp only at hc
      have FB : Hid (sbad ls k = if smOk (smAt ls k) = true then if 0 < k ∧ (smAt ls k).m < (smAt ls (k - 1)).m then 24 else 0 else 2) := rfl
      have i1 : (0 : Int) ≤ (k : Int) := by omega
      have i2 : (k : Int) < (n : Int) := by omega
      generalize smAt ls k = s at *
      have HO : Hid (smOk s = (inB s.x (-16777216) 16777216 && (inB s.y (-16777216) 16777216 && (inB s.p 0 65535 && (inB s.t 0 65535 && inB s.m 0 1073741824))))) := rfl
      rw [HO.out] at FB
      clear HO
      have C_p := Lib.hid (fun w => ref28Unit_any s.p w)
      generalize hb_p : inB s.p 0 65535 = b_p at *
      have HB_p := Lib.hid hb_p
      clear hb_p
      have C_t := Lib.hid (fun w => ref28Unit_any s.t w)
      generalize hb_t : inB s.t 0 65535 = b_t at *
      have HB_t := Lib.hid hb_t
      clear hb_t
      go_upto_region 9 with (fail)
      refine name1 (fun W2 kx hS => ?_)
      replace hb := hb.trans (hS.mono hb.size)
      clear hS hc
      have c5 := kx.c5
      by_cases d0 : s.x < -16777216
      · have FB2 : Hid (sbad ls k = 2) := by show _ = _; rw [FB.out, show inB s.x (-16777216) 16777216 = false from decide_eq_false (by omega)]; simp
        go_wp2_with fail
        go_ret
        exact ⟨ret_int (by rw [HR.out, FA.out k hlt (by rw [FB2.out]; decide), FB2.out]), hb⟩
      · have g0 : decide (s.x < -16777216) = false := by simpa using d0
        by_cases d1 : 16777216 < s.x
        · have FB2 : Hid (sbad ls k = 2) := by show _ = _; rw [FB.out, show inB s.x (-16777216) 16777216 = false from decide_eq_false (by omega)]; simp
          go_wp2_with fail
          go_ret
          exact ⟨ret_int (by rw [HR.out, FA.out k hlt (by rw [FB2.out]; decide), FB2.out]), hb⟩
        · have g1 : decide (16777216 < s.x) = false := by simpa using d1
          by_cases d2 : s.y < -16777216
          · have FB2 : Hid (sbad ls k = 2) := by show _ = _; rw [FB.out, show inB s.y (-16777216) 16777216 = false from decide_eq_false (by omega)]; simp
            go_wp2_with fail
            go_ret
            exact ⟨ret_int (by rw [HR.out, FA.out k hlt (by rw [FB2.out]; decide), FB2.out]), hb⟩
          · have g2 : decide (s.y < -16777216) = false := by simpa using d2
            by_cases d3 : 16777216 < s.y
            · have FB2 : Hid (sbad ls k = 2) := by show _ = _; rw [FB.out, show inB s.y (-16777216) 16777216 = false from decide_eq_false (by omega)]; simp
              go_wp2_with fail
              go_ret
              exact ⟨ret_int (by rw [HR.out, FA.out k hlt (by rw [FB2.out]; decide), FB2.out]), hb⟩
            · have g3 : decide (16777216 < s.y) = false := by simpa using d3
              cases b_p with
              | false =>
                have FB2 : Hid (sbad ls k = 2) := by show _ = _; rw [FB.out, if_neg (by simp)]
                go_wp2_with fail
                refine (C_p.out _).mono ?_
                rintro e w' ⟨rfl, rfl⟩
                go_wp2_with fail
                go_ret
                exact ⟨ret_int (by rw [HR.out, FA.out k hlt (by rw [FB2.out]; decide), FB2.out]), hb⟩
              | true =>
                cases b_t with
                | false =>
                  have FB2 : Hid (sbad ls k = 2) := by show _ = _; rw [FB.out, if_neg (by simp)]
                  go_wp2_with fail
                  refine (C_p.out _).mono ?_
                  rintro e w' ⟨rfl, rfl⟩
                  go_wp2_with fail
                  refine (C_t.out _).mono ?_
                  rintro e w' ⟨rfl, rfl⟩
                  go_wp2_with fail
                  go_ret
                  exact ⟨ret_int (by rw [HR.out, FA.out k hlt (by rw [FB2.out]; decide), FB2.out]), hb⟩
                | true =>
                  by_cases d6 : s.m < 0
                  · have FB2 : Hid (sbad ls k = 2) := by show _ = _; rw [FB.out, show inB s.m 0 1073741824 = false from decide_eq_false (by omega)]; simp
                    go_wp2_with fail
                    refine (C_p.out _).mono ?_
                    rintro e w' ⟨rfl, rfl⟩
                    go_wp2_with fail
                    refine (C_t.out _).mono ?_
                    rintro e w' ⟨rfl, rfl⟩
                    go_wp2_with fail
                    go_ret
                    exact ⟨ret_int (by rw [HR.out, FA.out k hlt (by rw [FB2.out]; decide), FB2.out]), hb⟩
                  · have g6 : decide (s.m < 0) = false := by simpa using d6
                    by_cases d7 : 1073741824 < s.m
                    · have FB2 : Hid (sbad ls k = 2) := by show _ = _; rw [FB.out, show inB s.m 0 1073741824 = false from decide_eq_false (by omega)]; simp
                      go_wp2_with fail
                      refine (C_p.out _).mono ?_
                      rintro e w' ⟨rfl, rfl⟩
                      go_wp2_with fail
                      refine (C_t.out _).mono ?_
                      rintro e w' ⟨rfl, rfl⟩
                      go_wp2_with fail
                      go_ret
                      exact ⟨ret_int (by rw [HR.out, FA.out k hlt (by rw [FB2.out]; decide), FB2.out]), hb⟩
                    · have g7 : decide (1073741824 < s.m) = false := by simpa using d7
                      have FB1 : Hid (sbad ls k = if 0 < k ∧ s.m < (smAt ls (k - 1)).m then 24 else 0) := by
                        show _ = _
                        rw [FB.out, show inB s.x (-16777216) 16777216 = true from decide_eq_true (by omega), show inB s.y (-16777216) 16777216 = true from decide_eq_true (by omega), show inB s.m 0 1073741824 = true from decide_eq_true (by omega)]
                        rfl
                      replace FB := FB1
                      clear FB1
                      go_wp2_with fail
                      refine (C_p.out _).mono ?_
                      rintro e w' ⟨rfl, rfl⟩
                      go_wp2_with fail
                      refine (C_t.out _).mono ?_
                      rintro e w' ⟨rfl, rfl⟩
                      go_upto_region 11 with (fail)
                      clear c5
                      by_cases h0 : 0 < k
                      · have hcp := HALL.out (k - 1) (by omega) _ hb
                        unfold At5 s5 at hcp
                        simp only at hcp
                        have HCP := Lib.hid (fun w' h => (HALL.out (k - 1) (by omega) w' h).2.2.2.2)
                        replace HCP : Hid (∀ w', Below w.heap.size w w' → w'.cell? ⟨b, off + (k - 1) * 5 + 4, none⟩ = some (.int .i64 (smAt ls (k - 1)).m)) := HCP
                        clear hcp
                        generalize (smAt ls (k - 1)).m = pm at *
                        have bg : decide ((0 : Int) < (k : Int)) = true := by simp; omega
                        have hw : IntKind.i64.wrap ((k : Int) - 1) = (k : Int) - 1 := IntWalk.i64_in _ (by omega)
                        have ht : ((k : Int) - 1).toNat = k - 1 := by omega
                        have hi1 : 0 ≤ (k : Int) - 1 := by omega
                        have hi3 : (1 : Int) ≤ (k : Int) := by omega
                        have hi2 : (k : Int) - 1 < (n : Int) := by omega
                        refine wp_region_grow 13 (fun w' => Below (World.heap W2).size W2 w') (by kernel_rfl) (by kernel_rfl) (Below.refl _ _).drew ?_
                        simp only [List.take_succ_cons, List.take_zero, List.drop_succ_cons, List.drop_zero]
                        repeat (first | (apply wpG_on; rfl; (intro w' hS K hK; have hc0 := (kx.kept hS).c5; have hr0 := HCP.out _ (hb.trans (hS.mono hb.size)); go_simp; (first | exact hK.out _ hS)); simp only [Act.put, List.setIfInBounds_toArray, List.set_cons_succ, List.set_cons_zero]) | (apply wpG_off; rfl; simp only [Act.put, List.setIfInBounds_toArray, List.set_cons_succ, List.set_cons_zero]))
                        apply wpG_nil
                        intro W3 hS
                        replace kx := kx.kept hS
                        replace hb := hb.trans (hS.mono hb.size)
                        clear hS
                        clear hw ht
                        by_cases hm : s.m < pm
                        · have FB2 : Hid (sbad ls k = 24) := by show _ = _; rw [FB.out, if_pos ⟨h0, hm⟩]
                          go_wp2_with fail
                          go_ret
                          exact ⟨ret_int (by rw [HR.out, FA.out k hlt (by rw [FB2.out]; decide), FB2.out]), hb⟩
                        · have FB2 : Hid (sbad ls k = 0) := by show _ = _; rw [FB.out, if_neg (by omega)]
                          go_wp2_with fail
                          go_roundw
                          case rel => exact ⟨k + 1, by omega, by go_num, by show _ = _; rw [HR.out, FG.out k hlt FB2.out], hb⟩
                          case measure => simp [intOf]; omega
                      · have bg : decide ((0 : Int) < (k : Int)) = false := by simp; omega
                        have FB2 : Hid (sbad ls k = 0) := by show _ = _; rw [FB.out, if_neg (by omega)]
                        refine wp_region_grow 13 (fun w' => Below (World.heap W2).size W2 w') (by kernel_rfl) (by kernel_rfl) (Below.refl _ _).drew ?_
                        simp only [List.take_succ_cons, List.take_zero, List.drop_succ_cons, List.drop_zero]
                        repeat (first | (apply wpG_on; rfl; (intro w' hS K hK; have hc0 := (kx.kept hS).c5; go_simp; (first | exact hK.out _ hS)); simp only [Act.put, List.setIfInBounds_toArray, List.set_cons_succ, List.set_cons_zero]) | (apply wpG_off; rfl; simp only [Act.put, List.setIfInBounds_toArray, List.set_cons_succ, List.set_cons_zero]))
                        apply wpG_nil
                        intro W3 hS
                        replace kx := kx.kept hS
                        replace hb := hb.trans (hS.mono hb.size)
                        clear hS
                        go_wp2_with fail
                        go_roundw
                        case rel => exact ⟨k + 1, by omega, by go_num, by show _ = _; rw [HR.out, FG.out k hlt FB2.out], hb⟩
                        case measure => simp [intOf]; omega
    · obtain rfl : k = n := by omega
      go_wp2_with fail
      go_ret
      exact ⟨ret_int (by rw [HR.out, FE.out]), hb⟩
end Go.Proofs.YtjaidcdkkgnfoaaDoor

