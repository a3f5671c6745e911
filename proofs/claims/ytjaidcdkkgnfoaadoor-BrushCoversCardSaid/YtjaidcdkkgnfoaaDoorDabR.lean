/- The reference of package dab: Limit, Box (printed by gendab.py). -/
import Derived.Test.YtjaidcdkkgnfoaaDoorLDab
import Derived.Test.YtjaidcdkkgnfoaaDoorLTurn
import Derived.Test.YtjaidcdkkgnfoaaDoorLNumW
namespace Go.Proofs.YtjaidcdkkgnfoaaDoor
open Go.RowKit
set_option linter.unusedVariables false
attribute [local go_sem] Oper.gAt gUponK Oper.sAt stilK

theorem refCoC_any (x : Int) (w : World) : Calls Tryd.prog 29 #[.int .i64 x, .int .i64 (-16777216), .int .i64 16777216] w fun e w' => e = .returned (.int .i64 (co x)) ∧ w = w' := refClamp_any _ _ _ _
theorem refSzC_any (x : Int) (w : World) : Calls Tryd.prog 29 #[.int .i64 x, .int .i64 0, .int .i64 1024] w fun e w' => e = .returned (.int .i64 (sz1 x)) ∧ w = w' := refClamp_any _ _ _ _
theorem refCcC_any (x : Int) (w : World) : Calls Tryd.prog 29 #[.int .i64 x, .int .i64 (-1048576), .int .i64 1048576] w fun e w' => e = .returned (.int .i64 (cc x)) ∧ w = w' := refClamp_any _ _ _ _

set_option maxHeartbeats 400000 in
theorem turned_any (a : Int) (w : World) : Calls Tryd.prog 60 #[.int .i64 a] w fun e w' => e = .returned (.int .i64 (a % 65536)) ∧ w = w' := by
  have hb := tmod_bd a 65536 (by omega)
  have hm := mod_pos a 65536 (by omega)
  by_cases hn : a.tmod 65536 < 0
  · have m1 : Hid (a.tmod 65536 + 65536 = a % 65536) := by
      show _ = _
      rw [← hm]
      generalize a.tmod 65536 = q at *
      rw [Int.tmod_eq_emod_of_nonneg (by omega)]
      omega
    clear hm
    generalize a % 65536 = r at *
    go_enter Tryd.func60, Tryd.ntmps60
    go_wp2_with fail
    go_ret
    exact ⟨ret_int m1.out, rfl⟩
  · have m1 : Hid (a.tmod 65536 = a % 65536) := by
      show _ = _
      rw [← hm]
      generalize a.tmod 65536 = q at *
      rw [Int.tmod_eq_emod_of_nonneg (by omega)]
      omega
    clear hm
    generalize a % 65536 = r at *
    go_enter Tryd.func60, Tryd.ntmps60
    go_wp2_with fail
    go_ret
    exact ⟨ret_int m1.out, rfl⟩

set_option maxHeartbeats 1000000 in
theorem refDabLimit_any (d : Dab) (w : World) :
    Calls Tryd.prog 27 #[dbv d] w fun e w' => e = .returned (dbv (lim d)) ∧ Below w.heap.size w w' := by
  have T := Lib.hid (fun w => turned_any d.an w)
  go_enter Tryd.func27, Tryd.ntmps27
  go_upto_region 1 with (fail)
  refine name2 (fun W k1 k2 hb => ?_)
  refine wp_region_grow 16 (fun w' => Below (World.heap W).size W w') (by kernel_rfl) (by kernel_rfl) (Below.refl _ _).drew ?_
  simp only [List.take_succ_cons, List.take_zero, List.drop_succ_cons, List.drop_zero]
  repeat (first | (apply wpG_on; rfl; (intro w' hS K hK; have hc0 := (k1.kept hS).c5; have hc1 := (k2.kept hS).c5; go_simp; (first | exact hK.out _ hS | (go_at_call 29; (with_reducible refine (refCoC_any _ _).mono ?_); rintro e w'' ⟨rfl, rfl⟩; exact ⟨_, rfl, hK.out _ hS⟩) | (go_at_call 29; (with_reducible refine (refSzC_any _ _).mono ?_); rintro e w'' ⟨rfl, rfl⟩; exact ⟨_, rfl, hK.out _ hS⟩) | (go_at_call 59; (with_reducible refine (refU_any _ _).mono ?_); rintro e w'' ⟨rfl, rfl⟩; exact ⟨_, rfl, hK.out _ hS⟩) | (go_at_call 60; (with_reducible refine (T.out _).mono ?_); rintro e w'' ⟨rfl, rfl⟩; exact ⟨_, rfl, hK.out _ hS⟩))); simp only [Act.put, List.setIfInBounds_toArray, List.set_cons_succ, List.set_cons_zero]) | (apply wpG_off; rfl; simp only [Act.put, List.setIfInBounds_toArray, List.set_cons_succ, List.set_cons_zero]))
  apply wpG_nil
  intro W1 hS
  replace k1 := k1.kept hS
  replace k2 := k2.kept hS
  replace hb := hb.trans (hS.mono hb.size)
  clear hS
  have c2 := k2.c5
  go_wp2_with fail
  exact end5 hb k2 (by omega) (fun w3 c3 => by simp [results, Tryd.results27, go_sem, c3]) rfl (fun w3 hb3 => ⟨rfl, hb3⟩)

theorem cc_lo (x h : Int) (hx : -16777216 ≤ x ∧ x ≤ 16777216) (hh : 0 ≤ h ∧ h ≤ 512) : min 1048576 (max ((x - h) / 16) (-1048576)) = bxLo x h := by unfold bxLo; omega
theorem cc_hi (x h : Int) (hx : -16777216 ≤ x ∧ x ≤ 16777216) (hh : 0 ≤ h ∧ h ≤ 512) : min 1048576 (max ((x + h) / 16 + 1) (-1048576)) = bxHi x h + 1 := by unfold bxHi; omega

end Go.Proofs.YtjaidcdkkgnfoaaDoor

