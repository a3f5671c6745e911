/- BlendTurns: the walk. -/
import Derived.Test.YtfgkgibomgcmpaaDoorFrame
import Derived.Test.YtfgkgibomgcmpaaDoorBlendEx
import Derived.Test.YtfgkgibomgcmpaaDoorOvp
import Derived.Lib.MinMax
namespace Go.Proofs.YtfgkgibomgcmpaaDoor.blendTurns
open Go.ChangeShapes Go.WideShapes Go.ChangeAt Go.RowKit
set_option linter.unusedVariables false
attribute [local go_sem] Oper.gAt gUponK Oper.sAt stilK

theorem turned {m : Int} (x y : Int) (hm : m = 1 ∨ m = 2 ∨ m = 4 ∨ m = 5 ∨ m = 10 ∨ m = 11 ∨ m = 12) : chU m y x = chU m x y := by
  rcases hm with rfl | rfl | rfl | rfl | rfl | rfl | rfl
  · exact mulU_comm y x
  · show y + x - mulU y x = x + y - mulU x y
    rw [mulU_comm y x]; omega
  · show min y x = min x y
    omega
  · show max y x = max x y
    omega
  · show max (y - x) (x - y) = max (x - y) (y - x)
    omega
  · show cl (y + x - dv (2 * y * x) 65535) = cl (x + y - dv (2 * x * y) 65535)
    rw [show 2 * y * x = 2 * x * y by rw [Int.mul_assoc, Int.mul_comm y x, Int.mul_assoc], Int.add_comm y x]
  · show cl (y + x) = cl (x + y)
    rw [Int.add_comm]
theorem turn_call {m : Int} (b s : Int) (w : World) (hm : m = 1 ∨ m = 2 ∨ m = 4 ∨ m = 5 ∨ m = 10 ∨ m = 11 ∨ m = 12) :
    Calls Tryd.prog 12 #[.int .i64 m, .int .i64 s, .int .i64 b] w fun e w' => e = .returned (.int .i64 (chU m (cl b) (cl s))) ∧ w = w' := by
  have := channel_any m s b w
  rw [turned (cl b) (cl s) hm] at this
  exact this

set_option maxHeartbeats 4000000 in
theorem walk (b s : Int) (w : World) (hN : Names w) (w0 : (Lit.int .i64 b).wf = true) (w1 : (Lit.int .i64 s).wf = true) :
    Calls Tryd.prog 9 #[.int .i64 b, .int .i64 s] w fun e w' => e = .returned (.bool true) ∧ Below w.heap.size w w' := by
  clear w0 w1
  have HN := Lib.hid hN
  clear hN
  have b1 := mulU_bd (cl b) (cl s) (cl_bd _) (cl_bd _)
  have b2 := scrU_bd (cl b) (cl s) (cl_bd _) (cl_bd _)
  go_enter Tryd.func9, Tryd.ntmps9
  go_upto_region 2 with (fail)
  refine name1 (fun W k1 hb => ?_)
  go_wp2_with fail
  go_loopw [6] (fun i wr => ∃ (k : Nat) (j : Int), k ≤ 7 ∧ j = k ∧ i = .int .i64 j ∧ Blk wr w.heap.size (.cells #[.int .i64 1, .int .i64 2, .int .i64 4, .int .i64 5, .int .i64 10, .int .i64 11, .int .i64 12] 3 (0, 0)) ∧ Below w.heap.size w wr) (fun i _ => 7 - (intOf i).toNat)
  case atStart => exact ⟨0, 0, by omega, rfl, rfl, k1, hb⟩
  case round =>
    clear k1 hb
    obtain ⟨k, j, hk, hj, rfl, k1, hb⟩ := hrel
    obtain rfl | rfl | rfl | rfl | rfl | rfl | rfl | rfl : k = 0 ∨ k = 1 ∨ k = 2 ∨ k = 3 ∨ k = 4 ∨ k = 5 ∨ k = 6 ∨ k = 7 := by omega
    · obtain rfl : j = 0 := hj
      have C1 := Lib.hid (fun w => channel_any 1 b s w)
      have C2 := Lib.hid (fun w => turn_call (m := 1) b s w (by omega))
      generalize chU 1 (cl b) (cl s) = z at C1 C2
      go_wp2_with fail
      refine wp_region_grow 15 (fun w' => Below (World.heap wr).size wr w') (by kernel_rfl) (by kernel_rfl) (Below.refl _ _).drew ?_
      simp only [List.take_succ_cons, List.take_zero, List.drop_succ_cons, List.drop_zero]
      repeat (first | (apply wpG_on; rfl; (intro w' hS K hK; have hc0 := (k1.kept hS).c7; go_simp; (first | exact hK.out _ hS | (go_at_call 12; (with_reducible refine (C1.out _).mono ?_); rintro e w'' ⟨rfl, rfl⟩; exact ⟨_, rfl, hK.out _ hS⟩) | (go_at_call 12; (with_reducible refine (C2.out _).mono ?_); rintro e w'' ⟨rfl, rfl⟩; exact ⟨_, rfl, hK.out _ hS⟩))); simp only [Act.put, List.setIfInBounds_toArray, List.set_cons_succ, List.set_cons_zero]) | (apply wpG_off; rfl; simp only [Act.put, List.setIfInBounds_toArray, List.set_cons_succ, List.set_cons_zero]))
      apply wpG_nil
      intro W6 hS
      replace k1 := k1.kept hS
      replace hb := hb.trans (hS.mono hb.size)
      clear hS
      go_wp2_with fail
      go_roundw
      case rel => exact ⟨1, 1, by omega, rfl, rfl, k1, hb⟩
      case measure => simp [intOf]
    · obtain rfl : j = 1 := hj
      have C1 := Lib.hid (fun w => channel_any 2 b s w)
      have C2 := Lib.hid (fun w => turn_call (m := 2) b s w (by omega))
      generalize chU 2 (cl b) (cl s) = z at C1 C2
      go_wp2_with fail
      refine wp_region_grow 15 (fun w' => Below (World.heap wr).size wr w') (by kernel_rfl) (by kernel_rfl) (Below.refl _ _).drew ?_
      simp only [List.take_succ_cons, List.take_zero, List.drop_succ_cons, List.drop_zero]
      repeat (first | (apply wpG_on; rfl; (intro w' hS K hK; have hc0 := (k1.kept hS).c7; go_simp; (first | exact hK.out _ hS | (go_at_call 12; (with_reducible refine (C1.out _).mono ?_); rintro e w'' ⟨rfl, rfl⟩; exact ⟨_, rfl, hK.out _ hS⟩) | (go_at_call 12; (with_reducible refine (C2.out _).mono ?_); rintro e w'' ⟨rfl, rfl⟩; exact ⟨_, rfl, hK.out _ hS⟩))); simp only [Act.put, List.setIfInBounds_toArray, List.set_cons_succ, List.set_cons_zero]) | (apply wpG_off; rfl; simp only [Act.put, List.setIfInBounds_toArray, List.set_cons_succ, List.set_cons_zero]))
      apply wpG_nil
      intro W6 hS
      replace k1 := k1.kept hS
      replace hb := hb.trans (hS.mono hb.size)
      clear hS
      go_wp2_with fail
      go_roundw
      case rel => exact ⟨2, 2, by omega, rfl, rfl, k1, hb⟩
      case measure => simp [intOf]
    · obtain rfl : j = 2 := hj
      have C1 := Lib.hid (fun w => channel_any 4 b s w)
      have C2 := Lib.hid (fun w => turn_call (m := 4) b s w (by omega))
      generalize chU 4 (cl b) (cl s) = z at C1 C2
      go_wp2_with fail
      refine wp_region_grow 15 (fun w' => Below (World.heap wr).size wr w') (by kernel_rfl) (by kernel_rfl) (Below.refl _ _).drew ?_
      simp only [List.take_succ_cons, List.take_zero, List.drop_succ_cons, List.drop_zero]
      repeat (first | (apply wpG_on; rfl; (intro w' hS K hK; have hc0 := (k1.kept hS).c7; go_simp; (first | exact hK.out _ hS | (go_at_call 12; (with_reducible refine (C1.out _).mono ?_); rintro e w'' ⟨rfl, rfl⟩; exact ⟨_, rfl, hK.out _ hS⟩) | (go_at_call 12; (with_reducible refine (C2.out _).mono ?_); rintro e w'' ⟨rfl, rfl⟩; exact ⟨_, rfl, hK.out _ hS⟩))); simp only [Act.put, List.setIfInBounds_toArray, List.set_cons_succ, List.set_cons_zero]) | (apply wpG_off; rfl; simp only [Act.put, List.setIfInBounds_toArray, List.set_cons_succ, List.set_cons_zero]))
      apply wpG_nil
      intro W6 hS
      replace k1 := k1.kept hS
      replace hb := hb.trans (hS.mono hb.size)
      clear hS
      go_wp2_with fail
      go_roundw
      case rel => exact ⟨3, 3, by omega, rfl, rfl, k1, hb⟩
      case measure => simp [intOf]
    · obtain rfl : j = 3 := hj
      have C1 := Lib.hid (fun w => channel_any 5 b s w)
      have C2 := Lib.hid (fun w => turn_call (m := 5) b s w (by omega))
      generalize chU 5 (cl b) (cl s) = z at C1 C2
      go_wp2_with fail
      refine wp_region_grow 15 (fun w' => Below (World.heap wr).size wr w') (by kernel_rfl) (by kernel_rfl) (Below.refl _ _).drew ?_
      simp only [List.take_succ_cons, List.take_zero, List.drop_succ_cons, List.drop_zero]
      repeat (first | (apply wpG_on; rfl; (intro w' hS K hK; have hc0 := (k1.kept hS).c7; go_simp; (first | exact hK.out _ hS | (go_at_call 12; (with_reducible refine (C1.out _).mono ?_); rintro e w'' ⟨rfl, rfl⟩; exact ⟨_, rfl, hK.out _ hS⟩) | (go_at_call 12; (with_reducible refine (C2.out _).mono ?_); rintro e w'' ⟨rfl, rfl⟩; exact ⟨_, rfl, hK.out _ hS⟩))); simp only [Act.put, List.setIfInBounds_toArray, List.set_cons_succ, List.set_cons_zero]) | (apply wpG_off; rfl; simp only [Act.put, List.setIfInBounds_toArray, List.set_cons_succ, List.set_cons_zero]))
      apply wpG_nil
      intro W6 hS
      replace k1 := k1.kept hS
      replace hb := hb.trans (hS.mono hb.size)
      clear hS
      go_wp2_with fail
      go_roundw
      case rel => exact ⟨4, 4, by omega, rfl, rfl, k1, hb⟩
      case measure => simp [intOf]
    · obtain rfl : j = 4 := hj
      have C1 := Lib.hid (fun w => channel_any 10 b s w)
      have C2 := Lib.hid (fun w => turn_call (m := 10) b s w (by omega))
      generalize chU 10 (cl b) (cl s) = z at C1 C2
      go_wp2_with fail
      refine wp_region_grow 15 (fun w' => Below (World.heap wr).size wr w') (by kernel_rfl) (by kernel_rfl) (Below.refl _ _).drew ?_
      simp only [List.take_succ_cons, List.take_zero, List.drop_succ_cons, List.drop_zero]
      repeat (first | (apply wpG_on; rfl; (intro w' hS K hK; have hc0 := (k1.kept hS).c7; go_simp; (first | exact hK.out _ hS | (go_at_call 12; (with_reducible refine (C1.out _).mono ?_); rintro e w'' ⟨rfl, rfl⟩; exact ⟨_, rfl, hK.out _ hS⟩) | (go_at_call 12; (with_reducible refine (C2.out _).mono ?_); rintro e w'' ⟨rfl, rfl⟩; exact ⟨_, rfl, hK.out _ hS⟩))); simp only [Act.put, List.setIfInBounds_toArray, List.set_cons_succ, List.set_cons_zero]) | (apply wpG_off; rfl; simp only [Act.put, List.setIfInBounds_toArray, List.set_cons_succ, List.set_cons_zero]))
      apply wpG_nil
      intro W6 hS
      replace k1 := k1.kept hS
      replace hb := hb.trans (hS.mono hb.size)
      clear hS
      go_wp2_with fail
      go_roundw
      case rel => exact ⟨5, 5, by omega, rfl, rfl, k1, hb⟩
      case measure => simp [intOf]
    · obtain rfl : j = 5 := hj
      have C1 := Lib.hid (fun w => channel_any 11 b s w)
      have C2 := Lib.hid (fun w => turn_call (m := 11) b s w (by omega))
      generalize chU 11 (cl b) (cl s) = z at C1 C2
      go_wp2_with fail
      refine wp_region_grow 15 (fun w' => Below (World.heap wr).size wr w') (by kernel_rfl) (by kernel_rfl) (Below.refl _ _).drew ?_
      simp only [List.take_succ_cons, List.take_zero, List.drop_succ_cons, List.drop_zero]
      repeat (first | (apply wpG_on; rfl; (intro w' hS K hK; have hc0 := (k1.kept hS).c7; go_simp; (first | exact hK.out _ hS | (go_at_call 12; (with_reducible refine (C1.out _).mono ?_); rintro e w'' ⟨rfl, rfl⟩; exact ⟨_, rfl, hK.out _ hS⟩) | (go_at_call 12; (with_reducible refine (C2.out _).mono ?_); rintro e w'' ⟨rfl, rfl⟩; exact ⟨_, rfl, hK.out _ hS⟩))); simp only [Act.put, List.setIfInBounds_toArray, List.set_cons_succ, List.set_cons_zero]) | (apply wpG_off; rfl; simp only [Act.put, List.setIfInBounds_toArray, List.set_cons_succ, List.set_cons_zero]))
      apply wpG_nil
      intro W6 hS
      replace k1 := k1.kept hS
      replace hb := hb.trans (hS.mono hb.size)
      clear hS
      go_wp2_with fail
      go_roundw
      case rel => exact ⟨6, 6, by omega, rfl, rfl, k1, hb⟩
      case measure => simp [intOf]
    · obtain rfl : j = 6 := hj
      have C1 := Lib.hid (fun w => channel_any 12 b s w)
      have C2 := Lib.hid (fun w => turn_call (m := 12) b s w (by omega))
      generalize chU 12 (cl b) (cl s) = z at C1 C2
      go_wp2_with fail
      refine wp_region_grow 15 (fun w' => Below (World.heap wr).size wr w') (by kernel_rfl) (by kernel_rfl) (Below.refl _ _).drew ?_
      simp only [List.take_succ_cons, List.take_zero, List.drop_succ_cons, List.drop_zero]
      repeat (first | (apply wpG_on; rfl; (intro w' hS K hK; have hc0 := (k1.kept hS).c7; go_simp; (first | exact hK.out _ hS | (go_at_call 12; (with_reducible refine (C1.out _).mono ?_); rintro e w'' ⟨rfl, rfl⟩; exact ⟨_, rfl, hK.out _ hS⟩) | (go_at_call 12; (with_reducible refine (C2.out _).mono ?_); rintro e w'' ⟨rfl, rfl⟩; exact ⟨_, rfl, hK.out _ hS⟩))); simp only [Act.put, List.setIfInBounds_toArray, List.set_cons_succ, List.set_cons_zero]) | (apply wpG_off; rfl; simp only [Act.put, List.setIfInBounds_toArray, List.set_cons_succ, List.set_cons_zero]))
      apply wpG_nil
      intro W6 hS
      replace k1 := k1.kept hS
      replace hb := hb.trans (hS.mono hb.size)
      clear hS
      go_wp2_with fail
      go_roundw
      case rel => exact ⟨7, 7, by omega, rfl, rfl, k1, hb⟩
      case measure => simp [intOf]
    · obtain rfl : j = 7 := hj
      go_wp2_with fail
      go_wp2_with fail
      refine (refUnit_n _ _).mono ?_
      rintro e w' ⟨rfl, rfl⟩
      go_wp2_with fail
      refine (refUnit_n _ _).mono ?_
      rintro e w' ⟨rfl, rfl⟩
      go_wp2_with fail
      refine (channel_any _ _ _ _).mono ?_
      rintro e w' ⟨rfl, rfl⟩
      go_wp2_with fail
      refine (channel_any _ _ _ _).mono ?_
      rintro e w' ⟨rfl, rfl⟩
      have e3 : chU 3 (cl b) (cl s) = hrdU (cl s) (cl b) := rfl
      have e8 : chU 8 (cl s) (cl b) = hrdU (cl s) (cl b) := rfl
      rw [e3, e8]
      go_wp2_with fail
      refine (channel_any _ _ _ _).mono ?_
      rintro e w' ⟨rfl, rfl⟩
      have e1 : chU 1 (cl b) (cl s) = mulU (cl b) (cl s) := rfl
      have d1 : decide (mulU (cl b) (cl s) ≤ min (cl b) (cl s)) = true := decide_eq_true (by omega)
      rw [e1]
      go_wp2_with fail
      refine (channel_any _ _ _ _).mono ?_
      rintro e w' ⟨rfl, rfl⟩
      have e2 : chU 2 (cl b) (cl s) = scrU (cl b) (cl s) := rfl
      have d2 : decide (max (cl b) (cl s) ≤ scrU (cl b) (cl s)) = true := decide_eq_true (by omega)
      rw [e2]
      go_wp2_with fail
      refine (example_any _ (HN.out.kept hb)).mono ?_
      rintro e w2 ⟨rfl, hb2⟩
      go_wp2_with fail
      go_ret
      exact ⟨ret_bool (by simp), hb.trans (hb2.mono hb.size)⟩
end Go.Proofs.YtfgkgibomgcmpaaDoor.blendTurns
