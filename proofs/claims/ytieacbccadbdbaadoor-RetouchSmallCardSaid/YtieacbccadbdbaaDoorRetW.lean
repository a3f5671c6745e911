/- rect.Within of a rectangle with pixels, in an image. -/
import Derived.Test.YtieacbccadbdbaaDoorRetB
import Derived.Test.YtieacbccadbdbaaDoorLCovR
import Derived.Deep.Cut
namespace Go.Proofs.YtieacbccadbdbaaDoor
open Go.RowKit
set_option linter.unusedVariables false
attribute [local go_sem] Oper.gAt gUponK Oper.sAt stilK

/-- A rectangle lies in an image. -/
def witB (ax ay aw ah W H : Int) : Bool := decide (0 ≤ ax ∧ ax + aw ≤ W ∧ 0 ≤ ay ∧ ay + ah ≤ H)
set_option maxHeartbeats 8000000 in
theorem withinRect_any (ax ay aw ah W H : Int) (w : World) (ha : rEmp (ax, ay, aw, ah) = false) (hW : 0 ≤ W ∧ W ≤ 256) (hH : 0 ≤ H ∧ H ≤ 256) (hWH : W = 0 ↔ H = 0) :
    Calls Tryd.prog 34 #[.agg #[.int .i64 ax, .int .i64 ay, .int .i64 aw, .int .i64 ah], .agg #[.int .i64 0, .int .i64 0, .int .i64 W, .int .i64 H]] w fun e w' => e = .returned (.bool (witB ax ay aw ah W H)) ∧ Below w.heap.size w w' := by
  obtain ⟨g1, g2⟩ := rEmp_false ha
  simp only at g1 g2
  have EA : Hid (∀ w, Calls Tryd.prog 33 #[.agg #[.int .i64 ax, .int .i64 ay, .int .i64 aw, .int .i64 ah]] w fun e w' => e = .returned (.bool false) ∧ Below w.heap.size w w') := fun w => by rw [← ha]; exact remp_any ax ay aw ah w
  have EB := Lib.hid (fun w => remp_any 0 0 W H w)
  have hb0 : rEmp (0, 0, W, H) = decide (W = 0) := by
    unfold rEmp
    rw [show rOk (0, 0, W, H) = true from (rOk_iff _).2 (by simp only; omega)]
    simp only [Bool.not_true, Bool.false_or]
    by_cases h : W = 0
    · rw [decide_eq_true h, h]; rfl
    · rw [decide_eq_false h]
      simp only [Bool.or_eq_false_iff, beq_eq_false_iff_ne]
      omega
  rw [hb0] at EB
  clear ha hb0
  by_cases h : W = 0
  · have HE : Hid (witB ax ay aw ah W H = false) := decide_eq_false (by omega)
    rw [decide_eq_true h] at EB
    clear h hWH
    go_enter Tryd.func34, Tryd.ntmps34
    go_upto_region 1 with (fail)
    refine name2 (fun W1 k1 k2 hb => ?_)
    have c1 := k1.c4
    go_wp2_with fail
    clear c1
    refine (EA.out _).mono ?_
    rintro e W2 ⟨rfl, hS⟩
    replace k1 := k1.kept hS
    replace k2 := k2.kept hS
    replace hb := hb.trans (hS.mono hb.size)
    clear hS
    have c2 := k2.c4
    go_wp2_with fail
    clear c2
    refine (EB.out _).mono ?_
    rintro e W3 ⟨rfl, hS⟩
    replace hb := hb.trans (hS.mono hb.size)
    go_wp2_with fail
    go_ret
    exact ⟨ret_bool (by rw [HE.out]), hb⟩
  · rw [decide_eq_false h] at EB
    clear h hWH
    have aX : IntKind.i64.wrap (ax + aw) = ax + aw := IntWalk.i64_in _ (by omega)
    have aY : IntKind.i64.wrap (ay + ah) = ay + ah := IntWalk.i64_in _ (by omega)
    have bX : IntKind.i64.wrap (0 + W) = W := by rw [Int.zero_add]; exact IntWalk.i64_in _ (by omega)
    have bY : IntKind.i64.wrap (0 + H) = H := by rw [Int.zero_add]; exact IntWalk.i64_in _ (by omega)
    have bX2 : IntKind.i64.wrap W = W := IntWalk.i64_in _ (by omega)
    have bY2 : IntKind.i64.wrap H = H := IntWalk.i64_in _ (by omega)
    have c : ¬ 0 ≤ ax ∨ (0 ≤ ax ∧ ¬ ax + aw ≤ W) ∨ (0 ≤ ax ∧ ax + aw ≤ W ∧ ¬ 0 ≤ ay) ∨ (0 ≤ ax ∧ ax + aw ≤ W ∧ 0 ≤ ay ∧ ¬ ay + ah ≤ H) ∨ (0 ≤ ax ∧ ax + aw ≤ W ∧ 0 ≤ ay ∧ ay + ah ≤ H) := by omega
    rcases c with d1 | ⟨d1, d2⟩ | ⟨d1, d2, d3⟩ | ⟨d1, d2, d3, d4⟩ | ⟨d1, d2, d3, d4⟩
    all_goals
      first
      | (have HE : Hid (witB ax ay aw ah W H = true) := decide_eq_true (by omega))
      | (have HE : Hid (witB ax ay aw ah W H = false) := decide_eq_false (by omega))
    all_goals
      go_enter Tryd.func34, Tryd.ntmps34
      go_upto_region 1 with (fail)
      refine name2 (fun W1 k1 k2 hb => ?_)
      have c1 := k1.c4
      go_wp2_with fail
      clear c1
      refine (EA.out _).mono ?_
      rintro e W2 ⟨rfl, hS⟩
      replace k1 := k1.kept hS
      replace k2 := k2.kept hS
      replace hb := hb.trans (hS.mono hb.size)
      clear hS
      have c2 := k2.c4
      go_wp2_with fail
      clear c2
      refine (EB.out _).mono ?_
      rintro e W3 ⟨rfl, hS⟩
      replace k1 := k1.kept hS
      replace k2 := k2.kept hS
      replace hb := hb.trans (hS.mono hb.size)
      clear hS
      have c1 := k1.c4
      have c2 := k2.c4
      go_wp2_with fail
      go_ret
      exact ⟨ret_bool (by first | (rw [HE.out]; done) | (rw [HE.out]; simp; omega)), hb⟩
end Go.Proofs.YtieacbccadbdbaaDoor

