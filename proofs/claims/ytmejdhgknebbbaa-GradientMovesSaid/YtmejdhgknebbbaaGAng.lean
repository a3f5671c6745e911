/- The angle of a direction, and spreads, by the program (printed by genang.py). -/
import Derived.Test.YtmejdhgknebbbaaGAng0
namespace Go.Proofs.Ytmejdhgknebbbaa
open Go.RowKit
set_option linter.unusedVariables false

set_option maxHeartbeats 20000000 in
theorem angle_any (dx dy : Int) (w : World) (x1 : -20000000 ≤ dx) (x2 : dx ≤ 20000000) (y1 : -20000000 ≤ dy) (y2 : dy ≤ 20000000) :
    Calls Try.prog 50 #[.int .i64 dx, .int .i64 dy] w fun e w' => e = .returned (.int .i64 (ang dx dy)) ∧ w = w' := by
  have A1 := Lib.hid (ang1 dx dy)
  have A2 := Lib.hid (ang2 dx dy)
  have A3 := Lib.hid (ang3 dx dy)
  have A4 := Lib.hid (ang4 dx dy)
  have B1 := Lib.hid (fun w => gabs_any dx w (by omega) (by omega))
  have B2 := Lib.hid (fun w => gabs_any dy w (by omega) (by omega))
  have pb := gabs_bd dx 20000000 (by omega) (by omega)
  have qb := gabs_bd dy 20000000 (by omega) (by omega)
  generalize gabs dx = p at *
  generalize gabs dy = q at *
  generalize ang dx dy = R at *
  have hH : (p = 0 ∧ q = 0) ∨ (0 < p ∧ q ≤ p) ∨ (0 < p ∧ p < q) ∨ (p = 0 ∧ 0 < q) := by omega
  rcases hH with hH | hH | hH | hH
  · obtain ⟨rfl, rfl⟩ := hH
    have HE : Hid (angH 0 0 = 0) := rfl
    have sg : (0 ≤ dx ∧ 0 ≤ dy) ∨ (dx < 0 ∧ 0 ≤ dy) ∨ (dx < 0 ∧ dy < 0) ∨ (0 ≤ dx ∧ dy < 0) := by omega
    rcases sg with sg | sg | sg | sg
    · obtain ⟨sg1, sg2⟩ := sg
      go_enter Try.func50, Try.ntmps50
      go_wp2_with fail
      refine (B1.out _).mono ?_
      rintro e w' ⟨rfl, rfl⟩
      go_wp2_with fail
      refine (B2.out _).mono ?_
      rintro e w' ⟨rfl, rfl⟩
      go_wp2_with fail
      go_ret
      exact ⟨ret_int (by have := A1.out _ HE.out (by omega) (by omega); omega), rfl⟩
    · obtain ⟨sg1, sg2⟩ := sg
      go_enter Try.func50, Try.ntmps50
      go_wp2_with fail
      refine (B1.out _).mono ?_
      rintro e w' ⟨rfl, rfl⟩
      go_wp2_with fail
      refine (B2.out _).mono ?_
      rintro e w' ⟨rfl, rfl⟩
      go_wp2_with fail
      go_ret
      exact ⟨ret_int (by have := A2.out _ HE.out (by omega) (by omega); omega), rfl⟩
    · obtain ⟨sg1, sg2⟩ := sg
      go_enter Try.func50, Try.ntmps50
      go_wp2_with fail
      refine (B1.out _).mono ?_
      rintro e w' ⟨rfl, rfl⟩
      go_wp2_with fail
      refine (B2.out _).mono ?_
      rintro e w' ⟨rfl, rfl⟩
      go_wp2_with fail
      go_ret
      exact ⟨ret_int (by have := A3.out _ HE.out (by omega) (by omega); omega), rfl⟩
    · obtain ⟨sg1, sg2⟩ := sg
      go_enter Try.func50, Try.ntmps50
      go_wp2_with fail
      refine (B1.out _).mono ?_
      rintro e w' ⟨rfl, rfl⟩
      go_wp2_with fail
      refine (B2.out _).mono ?_
      rintro e w' ⟨rfl, rfl⟩
      go_wp2_with fail
      refine (modulo_any _ _ _ (by omega) (by omega) (by omega) (by omega)).mono ?_
      rintro e w' ⟨rfl, rfl⟩
      go_wp2_with fail
      go_ret
      exact ⟨ret_int (by have := A4.out _ HE.out (by omega) (by omega); omega), rfl⟩
  · have HE := Lib.hid (angHa p q hH.1 hH.2)
    have sb := slope_bd p q hH.1 qb.1 hH.2
    have ez := eig_bd _ sb.1 sb.2
    have b1 : (p == 0) = false := by simp; omega
    have sg : (0 ≤ dx ∧ 0 ≤ dy) ∨ (dx < 0 ∧ 0 ≤ dy) ∨ (dx < 0 ∧ dy < 0) ∨ (0 ≤ dx ∧ dy < 0) := by omega
    rcases sg with sg | sg | sg | sg
    · obtain ⟨sg1, sg2⟩ := sg
      go_enter Try.func50, Try.ntmps50
      go_wp2_with fail
      refine (B1.out _).mono ?_
      rintro e w' ⟨rfl, rfl⟩
      go_wp2_with fail
      refine (B2.out _).mono ?_
      rintro e w' ⟨rfl, rfl⟩
      go_wp2_with fail
      refine (div_any _ _ _ (by omega) (by omega) (by omega) (by omega)).mono ?_
      rintro e w' ⟨rfl, rfl⟩
      go_wp2_with fail
      refine (eighth_any _ _ sb.1 sb.2).mono ?_
      rintro e w' ⟨rfl, rfl⟩
      generalize hz : eig (dv (q * 65536) p) = z at *
      go_wp2_with fail
      go_ret
      exact ⟨ret_int (by have := A1.out _ HE.out (by omega) (by omega); omega), rfl⟩
    · obtain ⟨sg1, sg2⟩ := sg
      go_enter Try.func50, Try.ntmps50
      go_wp2_with fail
      refine (B1.out _).mono ?_
      rintro e w' ⟨rfl, rfl⟩
      go_wp2_with fail
      refine (B2.out _).mono ?_
      rintro e w' ⟨rfl, rfl⟩
      go_wp2_with fail
      refine (div_any _ _ _ (by omega) (by omega) (by omega) (by omega)).mono ?_
      rintro e w' ⟨rfl, rfl⟩
      go_wp2_with fail
      refine (eighth_any _ _ sb.1 sb.2).mono ?_
      rintro e w' ⟨rfl, rfl⟩
      generalize hz : eig (dv (q * 65536) p) = z at *
      go_wp2_with fail
      go_ret
      exact ⟨ret_int (by have := A2.out _ HE.out (by omega) (by omega); omega), rfl⟩
    · obtain ⟨sg1, sg2⟩ := sg
      go_enter Try.func50, Try.ntmps50
      go_wp2_with fail
      refine (B1.out _).mono ?_
      rintro e w' ⟨rfl, rfl⟩
      go_wp2_with fail
      refine (B2.out _).mono ?_
      rintro e w' ⟨rfl, rfl⟩
      go_wp2_with fail
      refine (div_any _ _ _ (by omega) (by omega) (by omega) (by omega)).mono ?_
      rintro e w' ⟨rfl, rfl⟩
      go_wp2_with fail
      refine (eighth_any _ _ sb.1 sb.2).mono ?_
      rintro e w' ⟨rfl, rfl⟩
      generalize hz : eig (dv (q * 65536) p) = z at *
      go_wp2_with fail
      go_ret
      exact ⟨ret_int (by have := A3.out _ HE.out (by omega) (by omega); omega), rfl⟩
    · obtain ⟨sg1, sg2⟩ := sg
      go_enter Try.func50, Try.ntmps50
      go_wp2_with fail
      refine (B1.out _).mono ?_
      rintro e w' ⟨rfl, rfl⟩
      go_wp2_with fail
      refine (B2.out _).mono ?_
      rintro e w' ⟨rfl, rfl⟩
      go_wp2_with fail
      refine (div_any _ _ _ (by omega) (by omega) (by omega) (by omega)).mono ?_
      rintro e w' ⟨rfl, rfl⟩
      go_wp2_with fail
      refine (eighth_any _ _ sb.1 sb.2).mono ?_
      rintro e w' ⟨rfl, rfl⟩
      generalize hz : eig (dv (q * 65536) p) = z at *
      go_wp2_with fail
      refine (modulo_any _ _ _ (by omega) (by omega) (by omega) (by omega)).mono ?_
      rintro e w' ⟨rfl, rfl⟩
      go_wp2_with fail
      go_ret
      exact ⟨ret_int (by have := A4.out _ HE.out (by omega) (by omega); omega), rfl⟩
  · have b0 : (p == 0) = false := by simp; omega
    have HE := Lib.hid (angHb p q pb.1 hH.2)
    have sb := slope_bd q p (by omega) pb.1 (by omega)
    have ez := eig_bd _ sb.1 sb.2
    have b1 : (q == 0) = false := by simp; omega
    have b2 : ¬ q ≤ p := by omega
    have sg : (0 ≤ dx ∧ 0 ≤ dy) ∨ (dx < 0 ∧ 0 ≤ dy) ∨ (dx < 0 ∧ dy < 0) ∨ (0 ≤ dx ∧ dy < 0) := by omega
    rcases sg with sg | sg | sg | sg
    · obtain ⟨sg1, sg2⟩ := sg
      go_enter Try.func50, Try.ntmps50
      go_wp2_with fail
      refine (B1.out _).mono ?_
      rintro e w' ⟨rfl, rfl⟩
      go_wp2_with fail
      refine (B2.out _).mono ?_
      rintro e w' ⟨rfl, rfl⟩
      go_wp2_with fail
      refine (div_any _ _ _ (by omega) (by omega) (by omega) (by omega)).mono ?_
      rintro e w' ⟨rfl, rfl⟩
      go_wp2_with fail
      refine (eighth_any _ _ sb.1 sb.2).mono ?_
      rintro e w' ⟨rfl, rfl⟩
      generalize hz : eig (dv (p * 65536) q) = z at *
      go_wp2_with fail
      go_ret
      exact ⟨ret_int (by have := A1.out _ HE.out (by omega) (by omega); omega), rfl⟩
    · obtain ⟨sg1, sg2⟩ := sg
      go_enter Try.func50, Try.ntmps50
      go_wp2_with fail
      refine (B1.out _).mono ?_
      rintro e w' ⟨rfl, rfl⟩
      go_wp2_with fail
      refine (B2.out _).mono ?_
      rintro e w' ⟨rfl, rfl⟩
      go_wp2_with fail
      refine (div_any _ _ _ (by omega) (by omega) (by omega) (by omega)).mono ?_
      rintro e w' ⟨rfl, rfl⟩
      go_wp2_with fail
      refine (eighth_any _ _ sb.1 sb.2).mono ?_
      rintro e w' ⟨rfl, rfl⟩
      generalize hz : eig (dv (p * 65536) q) = z at *
      go_wp2_with fail
      go_ret
      exact ⟨ret_int (by have := A2.out _ HE.out (by omega) (by omega); omega), rfl⟩
    · obtain ⟨sg1, sg2⟩ := sg
      go_enter Try.func50, Try.ntmps50
      go_wp2_with fail
      refine (B1.out _).mono ?_
      rintro e w' ⟨rfl, rfl⟩
      go_wp2_with fail
      refine (B2.out _).mono ?_
      rintro e w' ⟨rfl, rfl⟩
      go_wp2_with fail
      refine (div_any _ _ _ (by omega) (by omega) (by omega) (by omega)).mono ?_
      rintro e w' ⟨rfl, rfl⟩
      go_wp2_with fail
      refine (eighth_any _ _ sb.1 sb.2).mono ?_
      rintro e w' ⟨rfl, rfl⟩
      generalize hz : eig (dv (p * 65536) q) = z at *
      go_wp2_with fail
      go_ret
      exact ⟨ret_int (by have := A3.out _ HE.out (by omega) (by omega); omega), rfl⟩
    · obtain ⟨sg1, sg2⟩ := sg
      go_enter Try.func50, Try.ntmps50
      go_wp2_with fail
      refine (B1.out _).mono ?_
      rintro e w' ⟨rfl, rfl⟩
      go_wp2_with fail
      refine (B2.out _).mono ?_
      rintro e w' ⟨rfl, rfl⟩
      go_wp2_with fail
      refine (div_any _ _ _ (by omega) (by omega) (by omega) (by omega)).mono ?_
      rintro e w' ⟨rfl, rfl⟩
      go_wp2_with fail
      refine (eighth_any _ _ sb.1 sb.2).mono ?_
      rintro e w' ⟨rfl, rfl⟩
      generalize hz : eig (dv (p * 65536) q) = z at *
      go_wp2_with fail
      refine (modulo_any _ _ _ (by omega) (by omega) (by omega) (by omega)).mono ?_
      rintro e w' ⟨rfl, rfl⟩
      go_wp2_with fail
      go_ret
      exact ⟨ret_int (by have := A4.out _ HE.out (by omega) (by omega); omega), rfl⟩
  · obtain ⟨rfl, hH⟩ := hH
    have HE := Lib.hid (angHb 0 q (by omega) hH)
    have sb := slope_bd q 0 (by omega) (by omega) (by omega)
    rw [Int.zero_mul] at sb HE
    have ez := eig_bd _ sb.1 sb.2
    have b1 : (q == 0) = false := by simp; omega
    have b2 : ¬ q ≤ 0 := by omega
    have sg : (0 ≤ dx ∧ 0 ≤ dy) ∨ (dx < 0 ∧ 0 ≤ dy) ∨ (dx < 0 ∧ dy < 0) ∨ (0 ≤ dx ∧ dy < 0) := by omega
    rcases sg with sg | sg | sg | sg
    · obtain ⟨sg1, sg2⟩ := sg
      go_enter Try.func50, Try.ntmps50
      go_wp2_with fail
      refine (B1.out _).mono ?_
      rintro e w' ⟨rfl, rfl⟩
      go_wp2_with fail
      refine (B2.out _).mono ?_
      rintro e w' ⟨rfl, rfl⟩
      go_wp2_with fail
      refine (div_any _ _ _ (by omega) (by omega) (by omega) (by omega)).mono ?_
      rintro e w' ⟨rfl, rfl⟩
      go_wp2_with fail
      refine (eighth_any _ _ sb.1 sb.2).mono ?_
      rintro e w' ⟨rfl, rfl⟩
      generalize hz : eig (dv (0) q) = z at *
      go_wp2_with fail
      go_ret
      exact ⟨ret_int (by have := A1.out _ HE.out (by omega) (by omega); omega), rfl⟩
    · obtain ⟨sg1, sg2⟩ := sg
      go_enter Try.func50, Try.ntmps50
      go_wp2_with fail
      refine (B1.out _).mono ?_
      rintro e w' ⟨rfl, rfl⟩
      go_wp2_with fail
      refine (B2.out _).mono ?_
      rintro e w' ⟨rfl, rfl⟩
      go_wp2_with fail
      refine (div_any _ _ _ (by omega) (by omega) (by omega) (by omega)).mono ?_
      rintro e w' ⟨rfl, rfl⟩
      go_wp2_with fail
      refine (eighth_any _ _ sb.1 sb.2).mono ?_
      rintro e w' ⟨rfl, rfl⟩
      generalize hz : eig (dv (0) q) = z at *
      go_wp2_with fail
      go_ret
      exact ⟨ret_int (by have := A2.out _ HE.out (by omega) (by omega); omega), rfl⟩
    · obtain ⟨sg1, sg2⟩ := sg
      go_enter Try.func50, Try.ntmps50
      go_wp2_with fail
      refine (B1.out _).mono ?_
      rintro e w' ⟨rfl, rfl⟩
      go_wp2_with fail
      refine (B2.out _).mono ?_
      rintro e w' ⟨rfl, rfl⟩
      go_wp2_with fail
      refine (div_any _ _ _ (by omega) (by omega) (by omega) (by omega)).mono ?_
      rintro e w' ⟨rfl, rfl⟩
      go_wp2_with fail
      refine (eighth_any _ _ sb.1 sb.2).mono ?_
      rintro e w' ⟨rfl, rfl⟩
      generalize hz : eig (dv (0) q) = z at *
      go_wp2_with fail
      go_ret
      exact ⟨ret_int (by have := A3.out _ HE.out (by omega) (by omega); omega), rfl⟩
    · obtain ⟨sg1, sg2⟩ := sg
      go_enter Try.func50, Try.ntmps50
      go_wp2_with fail
      refine (B1.out _).mono ?_
      rintro e w' ⟨rfl, rfl⟩
      go_wp2_with fail
      refine (B2.out _).mono ?_
      rintro e w' ⟨rfl, rfl⟩
      go_wp2_with fail
      refine (div_any _ _ _ (by omega) (by omega) (by omega) (by omega)).mono ?_
      rintro e w' ⟨rfl, rfl⟩
      go_wp2_with fail
      refine (eighth_any _ _ sb.1 sb.2).mono ?_
      rintro e w' ⟨rfl, rfl⟩
      generalize hz : eig (dv (0) q) = z at *
      go_wp2_with fail
      refine (modulo_any _ _ _ (by omega) (by omega) (by omega) (by omega)).mono ?_
      rintro e w' ⟨rfl, rfl⟩
      go_wp2_with fail
      go_ret
      exact ⟨ret_int (by have := A4.out _ HE.out (by omega) (by omega); omega), rfl⟩

theorem fol1 (t : Int) : fol 1 t = t % 65536 := rfl
theorem fol2a (t : Int) (h : 65535 < t % 131072) : fol 2 t = 131071 - t % 131072 := by unfold fol; rw [if_neg (by decide), if_pos rfl, if_pos h]
theorem fol2b (t : Int) (h : ¬ 65535 < t % 131072) : fol 2 t = t % 131072 := by unfold fol; rw [if_neg (by decide), if_pos rfl, if_neg h]
theorem fol0 (t : Int) : fol 0 t = cl t := rfl

set_option maxHeartbeats 1000000 in
theorem fold_any (s t : Int) (w : World) (hs : 0 ≤ s ∧ s ≤ 2) (h1 : -8000000000000000000 ≤ t) (h2 : t ≤ 8000000000000000000) :
    Calls Try.prog 52 #[.int .i64 s, .int .i64 t] w fun e w' => e = .returned (.int .i64 (fol s t)) ∧ w = w' := by
  obtain rfl | rfl | rfl : s = 0 ∨ s = 1 ∨ s = 2 := by omega
  · go_enter Try.func52, Try.ntmps52
    go_wp2_with fail
    refine (clamp_any _ _ _ _).mono ?_
    rintro e w' ⟨rfl, rfl⟩
    go_wp2_with fail
    go_ret
    exact ⟨ret_int (by rw [cl_min, fol0]), rfl⟩
  · go_enter Try.func52, Try.ntmps52
    go_wp2_with fail
    refine (modulo_any _ _ _ (by omega) (by omega) (by omega) (by omega)).mono ?_
    rintro e w' ⟨rfl, rfl⟩
    go_wp2_with fail
    go_ret
    exact ⟨rfl, rfl⟩
  · have F1 := Lib.hid (fol2a t)
    have F2 := Lib.hid (fol2b t)
    have hm : 0 ≤ t % 131072 ∧ t % 131072 < 131072 := by omega
    by_cases h : 65535 < t % 131072
    · go_enter Try.func52, Try.ntmps52
      go_wp2_with fail
      refine (modulo_any _ _ _ (by omega) (by omega) (by omega) (by omega)).mono ?_
      rintro e w' ⟨rfl, rfl⟩
      go_wp2_with fail
      go_ret
      exact ⟨ret_int (by rw [F1.out h]), rfl⟩
    · go_enter Try.func52, Try.ntmps52
      go_wp2_with fail
      refine (modulo_any _ _ _ (by omega) (by omega) (by omega) (by omega)).mono ?_
      rintro e w' ⟨rfl, rfl⟩
      go_wp2_with fail
      go_ret
      exact ⟨ret_int (by rw [F2.out h]), rfl⟩
end Go.Proofs.Ytmejdhgknebbbaa
