/- imageeditorref18.plain, kind by kind (printed by gengplace.py). -/
import Derived.Test.YtmejdhgknebbbaaGAngR
import Derived.Test.YtmejdhgknebbbaaGPar
import Derived.Test.YtmejdhgknebbbaaHyp
import Derived.Test.YtmejdhgknebbbaaGrow
import Derived.Deep.Cut
namespace Go.Proofs.Ytmejdhgknebbbaa
open Go.RowKit
set_option linter.unusedVariables false
attribute [local go_sem] Oper.gAt gUponK

set_option maxHeartbeats 4000000 in
theorem plain1 (x y p0 p1 p2 p3 : Int) (v : Value) (w : World) (h : Nn w v [p0, p1, p2, p3]) (hp0 : -1048576 ≤ p0 ∧ p0 ≤ 1048576) (hp1 : -1048576 ≤ p1 ∧ p1 ≤ 1048576) (hp2 : -1048576 ≤ p2 ∧ p2 ≤ 1048576) (hx : -1048576 ≤ x ∧ x ≤ 1048576) (hy : -1048576 ≤ y ∧ y ≤ 1048576) (hp3 : -1048576 ≤ p3 ∧ p3 ≤ 1048576) :
    Calls Try.prog 33 #[.int .i64 1, v, .int .i64 x, .int .i64 y] w fun e w' => e = .returned (.int .i64 (plc 1 p0 p1 p2 p3 (16 * x + 8 - p0) (16 * y + 8 - p1))) ∧ Below w.heap.size w w' := by
  obtain ⟨b, off, cap, rfl, hcell⟩ := h.four
  have HC := Lib.hid hcell
  have c0 := hcell w (Below.refl _ _)
  clear hcell h
  have hb := Below.refl w.heap.size w
  obtain ⟨dx, hdx⟩ : ∃ dx, 16 * x + 8 - p0 = dx := ⟨_, rfl⟩
  obtain ⟨dy, hdy⟩ : ∃ dy, 16 * y + 8 - p1 = dy := ⟨_, rfl⟩
  have bx : -17825800 ≤ dx ∧ dx ≤ 17825800 := by omega
  have bY : -17825800 ≤ dy ∧ dy ≤ 17825800 := by omega
  rw [hdx, hdy]
  have HX := Lib.hid hdx
  have HY := Lib.hid hdy
  have m1 := mulB dx (p2 - p0) 17825800 2097152 (by omega) (by omega) (by omega) (by omega) (by omega)
  have m2 := mulB dy (p3 - p1) 17825800 2097152 (by omega) (by omega) (by omega) (by omega) (by omega)
  have m3 := mulB (p2 - p0) (p2 - p0) 2097152 2097152 (by omega) (by omega) (by omega) (by omega) (by omega)
  have m4 := mulB (p3 - p1) (p3 - p1) 2097152 2097152 (by omega) (by omega) (by omega) (by omega) (by omega)
  have m5 := mul_self_nonneg' (p2 - p0)
  have m6 := mul_self_nonneg' (p3 - p1)
  have ma := adv_abs (65535 * (dx * (p2 - p0) + dy * (p3 - p1))) ((p2 - p0) * (p2 - p0) + (p3 - p1) * (p3 - p1)) 5000000000000000000 (by omega) (by omega) (by omega) (by omega)
  have HR : Hid (plc 1 p0 p1 p2 p3 dx dy = adv (65535 * (dx * (p2 - p0) + dy * (p3 - p1))) ((p2 - p0) * (p2 - p0) + (p3 - p1) * (p3 - p1))) := rfl
  generalize plc 1 p0 p1 p2 p3 dx dy = T at *
  go_enter Try.func33, Try.ntmps33
  have e1 : IntKind.i64.wrap (16 * x) = 16 * x := IntWalk.i64_in _ (by omega)
  have e2 : IntKind.i64.wrap (16 * y) = 16 * y := IntWalk.i64_in _ (by omega)
  have e3 : IntKind.i64.wrap (16 * x + 8) = 16 * x + 8 := IntWalk.i64_in _ (by omega)
  have e4 : IntKind.i64.wrap (16 * y + 8) = 16 * y + 8 := IntWalk.i64_in _ (by omega)
  have e5 : IntKind.i64.wrap dx = dx := IntWalk.i64_in _ (by omega)
  have e6 : IntKind.i64.wrap dy = dy := IntWalk.i64_in _ (by omega)
  clear c0
  go_wp2_with fail
  refine wp_region_grow 16 (fun w' => Below (World.heap w).size w w') (by kernel_rfl) (by kernel_rfl) (Below.refl _ _).drew ?_
  simp only [List.take_succ_cons, List.take_zero, List.drop_succ_cons, List.drop_zero]
  repeat (first | (apply wpG_on; rfl; (intro w' hS K hK; have hr0 := HC.out _ hS; go_simp; (first | exact hK.out _ hS)); simp only [Act.put, List.setIfInBounds_toArray, List.set_cons_succ, List.set_cons_zero]) | (apply wpG_off; rfl; simp only [Act.put, List.setIfInBounds_toArray, List.set_cons_succ, List.set_cons_zero]))
  apply wpG_nil
  intro W0 hS
  replace hb := hb.trans (hS.mono hb.size)
  replace HC := Lib.hid (fun w' (h : Below W0.heap.size W0 w') => HC.out w' (hS.trans (h.mono hS.size)))
  have c0 := HC.out W0 (Below.refl _ _)
  clear hS e1 e2 e3 e4 e5 e6
  clear hdx hdy
  have e1 : IntKind.i64.wrap (p2 - p0) = p2 - p0 := IntWalk.i64_in _ (by omega)
  have e2 : IntKind.i64.wrap (p3 - p1) = p3 - p1 := IntWalk.i64_in _ (by omega)
  go_wp2_with fail
  clear c0
  refine wp_region_grow 16 (fun w' => Below (World.heap W0).size W0 w') (by kernel_rfl) (by kernel_rfl) (Below.refl _ _).drew ?_
  simp only [List.take_succ_cons, List.take_zero, List.drop_succ_cons, List.drop_zero]
  repeat (first | (apply wpG_on; rfl; (intro w' hS K hK; have hr0 := HC.out _ hS; go_simp; (first | exact hK.out _ hS)); simp only [Act.put, List.setIfInBounds_toArray, List.set_cons_succ, List.set_cons_zero]) | (apply wpG_off; rfl; simp only [Act.put, List.setIfInBounds_toArray, List.set_cons_succ, List.set_cons_zero]))
  apply wpG_nil
  intro W1 hS
  replace hb := hb.trans (hS.mono hb.size)
  clear hS
  clear e1 e2
  generalize p2 - p0 = vx at *
  generalize p3 - p1 = vy at *
  go_wp2_with fail
  refine (refAdv_any _ _ _ (by omega) (by omega) (by omega) (by omega)).mono ?_
  rintro e w1 ⟨rfl, hS⟩
  replace hb := hb.trans (hS.mono hb.size)
  clear hS
  rw [← HR.out] at ma ⊢
  go_wp2_with fail
  go_ret
  exact ⟨rfl, hb⟩

set_option maxHeartbeats 4000000 in
theorem plain2 (x y p0 p1 p2 : Int) (v : Value) (w : World) (h : Nn w v [p0, p1, p2]) (hp0 : -1048576 ≤ p0 ∧ p0 ≤ 1048576) (hp1 : -1048576 ≤ p1 ∧ p1 ≤ 1048576) (hp2 : -1048576 ≤ p2 ∧ p2 ≤ 1048576) (hx : -1048576 ≤ x ∧ x ≤ 1048576) (hy : -1048576 ≤ y ∧ y ≤ 1048576) (hn : 0 ≤ p2) :
    Calls Try.prog 33 #[.int .i64 2, v, .int .i64 x, .int .i64 y] w fun e w' => e = .returned (.int .i64 (plc 2 p0 p1 p2 0 (16 * x + 8 - p0) (16 * y + 8 - p1))) ∧ Below w.heap.size w w' := by
  obtain ⟨b, off, cap, rfl, hcell⟩ := h.three
  have HC := Lib.hid hcell
  have c0 := hcell w (Below.refl _ _)
  clear hcell h
  have hb := Below.refl w.heap.size w
  obtain ⟨dx, hdx⟩ : ∃ dx, 16 * x + 8 - p0 = dx := ⟨_, rfl⟩
  obtain ⟨dy, hdy⟩ : ∃ dy, 16 * y + 8 - p1 = dy := ⟨_, rfl⟩
  have bx : -17825800 ≤ dx ∧ dx ≤ 17825800 := by omega
  have bY : -17825800 ≤ dy ∧ dy ≤ 17825800 := by omega
  rw [hdx, hdy]
  have HX := Lib.hid hdx
  have HY := Lib.hid hdy
  by_cases hz : 0 < p2
  · have hh := hypot_ub (16 * dx) (16 * dy) 285212800 (by omega) (by omega) (by omega) (by omega) (by omega)
    have HH := Lib.hid (fun w => refHypot_any (16 * dx) (16 * dy) w (by omega) (by omega) (by omega) (by omega))
    have HR : Hid (plc 2 p0 p1 p2 0 dx dy = dv (65535 * hypot (16 * dx) (16 * dy)) (16 * p2)) := by show _ = _; unfold plc; rw [if_neg (by decide), if_pos rfl, if_pos hz]
    generalize hypot (16 * dx) (16 * dy) = hy0 at *
    have hd := adv_abs (65535 * hy0) (16 * p2) 100000000000000 (by omega) (by omega) (by omega) (by omega)
    rw [show adv (65535 * hy0) (16 * p2) = dv (65535 * hy0) (16 * p2) from if_neg (by omega)] at hd
    generalize plc 2 p0 p1 p2 0 dx dy = T at *
    have DV := Lib.hid (fun w => refDiv_new (65535 * hy0) (16 * p2) w (by omega) (by omega) (by omega) (by omega))
    rw [← HR.out] at hd DV
    have zb : (p2 == 0) = false := by simp; omega
    go_enter Try.func33, Try.ntmps33
    have e1 : IntKind.i64.wrap (16 * x) = 16 * x := IntWalk.i64_in _ (by omega)
    have e2 : IntKind.i64.wrap (16 * y) = 16 * y := IntWalk.i64_in _ (by omega)
    have e3 : IntKind.i64.wrap (16 * x + 8) = 16 * x + 8 := IntWalk.i64_in _ (by omega)
    have e4 : IntKind.i64.wrap (16 * y + 8) = 16 * y + 8 := IntWalk.i64_in _ (by omega)
    have e5 : IntKind.i64.wrap dx = dx := IntWalk.i64_in _ (by omega)
    have e6 : IntKind.i64.wrap dy = dy := IntWalk.i64_in _ (by omega)
    clear c0
    go_wp2_with fail
    refine wp_region_grow 16 (fun w' => Below (World.heap w).size w w') (by kernel_rfl) (by kernel_rfl) (Below.refl _ _).drew ?_
    simp only [List.take_succ_cons, List.take_zero, List.drop_succ_cons, List.drop_zero]
    repeat (first | (apply wpG_on; rfl; (intro w' hS K hK; have hr0 := HC.out _ hS; go_simp; (first | exact hK.out _ hS)); simp only [Act.put, List.setIfInBounds_toArray, List.set_cons_succ, List.set_cons_zero]) | (apply wpG_off; rfl; simp only [Act.put, List.setIfInBounds_toArray, List.set_cons_succ, List.set_cons_zero]))
    apply wpG_nil
    intro W0 hS
    replace hb := hb.trans (hS.mono hb.size)
    replace HC := Lib.hid (fun w' (h : Below W0.heap.size W0 w') => HC.out w' (hS.trans (h.mono hS.size)))
    have c0 := HC.out W0 (Below.refl _ _)
    clear hS e1 e2 e3 e4 e5 e6
    clear hdx hdy
    go_wp2_with fail
    clear c0
    have e1 : IntKind.i64.wrap (16 * dx) = 16 * dx := IntWalk.i64_in _ (by omega)
    have e2 : IntKind.i64.wrap (16 * dy) = 16 * dy := IntWalk.i64_in _ (by omega)
    have e3 : IntKind.i64.wrap (65535 * hy0) = 65535 * hy0 := IntWalk.i64_in _ (by omega)
    have e4 : IntKind.i64.wrap (16 * p2) = 16 * p2 := IntWalk.i64_in _ (by omega)
    refine wp_region_grow 11 (fun w' => Below (World.heap W0).size W0 w') (by kernel_rfl) (by kernel_rfl) (Below.refl _ _).drew ?_
    simp only [List.take_succ_cons, List.take_zero, List.drop_succ_cons, List.drop_zero]
    repeat (first | (apply wpG_on; rfl; (intro w' hS K hK; have hr0 := HC.out _ hS; go_simp; (first | exact hK.out _ hS | (go_at_call 53; (with_reducible refine (HH.out _).mono ?_); rintro e w'' ⟨rfl, rfl⟩; exact ⟨_, rfl, hK.out _ hS⟩) | (go_at_call 31; (with_reducible refine (DV.out _).mono ?_); rintro e w'' ⟨rfl, hbb⟩; exact ⟨_, rfl, hK.out _ (hS.trans (hbb.mono hS.size))⟩))); simp only [Act.put, List.setIfInBounds_toArray, List.set_cons_succ, List.set_cons_zero]) | (apply wpG_off; rfl; simp only [Act.put, List.setIfInBounds_toArray, List.set_cons_succ, List.set_cons_zero]))
    apply wpG_nil
    intro W1 hS
    replace hb := hb.trans (hS.mono hb.size)
    clear hS
    clear e1 e2 e3 e4
    go_wp2_with fail
    go_ret
    exact ⟨rfl, hb⟩
  · obtain rfl : p2 = 0 := by omega
    have HR : Hid (plc 2 p0 p1 0 0 dx dy = 65535) := by show _ = _; unfold plc; rw [if_neg (by decide), if_pos rfl, if_neg (by decide)]
    rw [HR.out]
    go_enter Try.func33, Try.ntmps33
    have e1 : IntKind.i64.wrap (16 * x) = 16 * x := IntWalk.i64_in _ (by omega)
    have e2 : IntKind.i64.wrap (16 * y) = 16 * y := IntWalk.i64_in _ (by omega)
    have e3 : IntKind.i64.wrap (16 * x + 8) = 16 * x + 8 := IntWalk.i64_in _ (by omega)
    have e4 : IntKind.i64.wrap (16 * y + 8) = 16 * y + 8 := IntWalk.i64_in _ (by omega)
    have e5 : IntKind.i64.wrap dx = dx := IntWalk.i64_in _ (by omega)
    have e6 : IntKind.i64.wrap dy = dy := IntWalk.i64_in _ (by omega)
    clear c0
    go_wp2_with fail
    refine wp_region_grow 16 (fun w' => Below (World.heap w).size w w') (by kernel_rfl) (by kernel_rfl) (Below.refl _ _).drew ?_
    simp only [List.take_succ_cons, List.take_zero, List.drop_succ_cons, List.drop_zero]
    repeat (first | (apply wpG_on; rfl; (intro w' hS K hK; have hr0 := HC.out _ hS; go_simp; (first | exact hK.out _ hS)); simp only [Act.put, List.setIfInBounds_toArray, List.set_cons_succ, List.set_cons_zero]) | (apply wpG_off; rfl; simp only [Act.put, List.setIfInBounds_toArray, List.set_cons_succ, List.set_cons_zero]))
    apply wpG_nil
    intro W0 hS
    replace hb := hb.trans (hS.mono hb.size)
    replace HC := Lib.hid (fun w' (h : Below W0.heap.size W0 w') => HC.out w' (hS.trans (h.mono hS.size)))
    have c0 := HC.out W0 (Below.refl _ _)
    clear hS e1 e2 e3 e4 e5 e6
    clear hdx hdy
    go_wp2_with fail
    go_ret
    exact ⟨rfl, hb⟩

set_option maxHeartbeats 4000000 in
theorem plain3 (x y p0 p1 p2 : Int) (v : Value) (w : World) (h : Nn w v [p0, p1, p2]) (hp0 : -1048576 ≤ p0 ∧ p0 ≤ 1048576) (hp1 : -1048576 ≤ p1 ∧ p1 ≤ 1048576) (hp2 : -1048576 ≤ p2 ∧ p2 ≤ 1048576) (hx : -1048576 ≤ x ∧ x ≤ 1048576) (hy : -1048576 ≤ y ∧ y ≤ 1048576) :
    Calls Try.prog 33 #[.int .i64 3, v, .int .i64 x, .int .i64 y] w fun e w' => e = .returned (.int .i64 (plc 3 p0 p1 p2 0 (16 * x + 8 - p0) (16 * y + 8 - p1))) ∧ Below w.heap.size w w' := by
  obtain ⟨b, off, cap, rfl, hcell⟩ := h.three
  have HC := Lib.hid hcell
  have c0 := hcell w (Below.refl _ _)
  clear hcell h
  have hb := Below.refl w.heap.size w
  obtain ⟨dx, hdx⟩ : ∃ dx, 16 * x + 8 - p0 = dx := ⟨_, rfl⟩
  obtain ⟨dy, hdy⟩ : ∃ dy, 16 * y + 8 - p1 = dy := ⟨_, rfl⟩
  have bx : -17825800 ≤ dx ∧ dx ≤ 17825800 := by omega
  have bY : -17825800 ≤ dy ∧ dy ≤ 17825800 := by omega
  rw [hdx, hdy]
  have HX := Lib.hid hdx
  have HY := Lib.hid hdy
  have ab := ang_bd dx dy
  have AN := Lib.hid (fun w => refAngle_any dx dy w (by omega) (by omega) (by omega) (by omega))
  have HR : Hid (plc 3 p0 p1 p2 0 dx dy = (ang dx dy - p2) % 65536) := rfl
  generalize ang dx dy = A at *
  have MD := Lib.hid (fun w => mod_any (A - p2) 65536 w (by omega) (by omega) (by omega) (by omega))
  have hT : 0 ≤ (A - p2) % 65536 ∧ (A - p2) % 65536 < 65536 := by omega
  rw [← HR.out] at MD hT
  generalize plc 3 p0 p1 p2 0 dx dy = T at *
  go_enter Try.func33, Try.ntmps33
  have e1 : IntKind.i64.wrap (16 * x) = 16 * x := IntWalk.i64_in _ (by omega)
  have e2 : IntKind.i64.wrap (16 * y) = 16 * y := IntWalk.i64_in _ (by omega)
  have e3 : IntKind.i64.wrap (16 * x + 8) = 16 * x + 8 := IntWalk.i64_in _ (by omega)
  have e4 : IntKind.i64.wrap (16 * y + 8) = 16 * y + 8 := IntWalk.i64_in _ (by omega)
  have e5 : IntKind.i64.wrap dx = dx := IntWalk.i64_in _ (by omega)
  have e6 : IntKind.i64.wrap dy = dy := IntWalk.i64_in _ (by omega)
  clear c0
  go_wp2_with fail
  refine wp_region_grow 16 (fun w' => Below (World.heap w).size w w') (by kernel_rfl) (by kernel_rfl) (Below.refl _ _).drew ?_
  simp only [List.take_succ_cons, List.take_zero, List.drop_succ_cons, List.drop_zero]
  repeat (first | (apply wpG_on; rfl; (intro w' hS K hK; have hr0 := HC.out _ hS; go_simp; (first | exact hK.out _ hS)); simp only [Act.put, List.setIfInBounds_toArray, List.set_cons_succ, List.set_cons_zero]) | (apply wpG_off; rfl; simp only [Act.put, List.setIfInBounds_toArray, List.set_cons_succ, List.set_cons_zero]))
  apply wpG_nil
  intro W0 hS
  replace hb := hb.trans (hS.mono hb.size)
  replace HC := Lib.hid (fun w' (h : Below W0.heap.size W0 w') => HC.out w' (hS.trans (h.mono hS.size)))
  have c0 := HC.out W0 (Below.refl _ _)
  clear hS e1 e2 e3 e4 e5 e6
  clear hdx hdy
  go_wp2_with fail
  clear c0
  have e1 : IntKind.i64.wrap (A - p2) = A - p2 := IntWalk.i64_in _ (by omega)
  refine wp_region_grow 8 (fun w' => Below (World.heap W0).size W0 w') (by kernel_rfl) (by kernel_rfl) (Below.refl _ _).drew ?_
  simp only [List.take_succ_cons, List.take_zero, List.drop_succ_cons, List.drop_zero]
  repeat (first | (apply wpG_on; rfl; (intro w' hS K hK; have hr0 := HC.out _ hS; go_simp; (first | exact hK.out _ hS | (go_at_call 54; (with_reducible refine (AN.out _).mono ?_); rintro e w'' ⟨rfl, hbb⟩; exact ⟨_, rfl, hK.out _ (hS.trans (hbb.mono hS.size))⟩) | (go_at_call 35; (with_reducible refine (MD.out _).mono ?_); rintro e w'' ⟨rfl, hbb⟩; exact ⟨_, rfl, hK.out _ (hS.trans (hbb.mono hS.size))⟩))); simp only [Act.put, List.setIfInBounds_toArray, List.set_cons_succ, List.set_cons_zero]) | (apply wpG_off; rfl; simp only [Act.put, List.setIfInBounds_toArray, List.set_cons_succ, List.set_cons_zero]))
  apply wpG_nil
  intro W1 hS
  replace hb := hb.trans (hS.mono hb.size)
  clear hS
  clear e1
  go_wp2_with fail
  go_ret
  exact ⟨rfl, hb⟩

set_option maxHeartbeats 4000000 in
theorem plain4 (x y p0 p1 p2 : Int) (v : Value) (w : World) (h : Nn w v [p0, p1, p2]) (hp0 : -1048576 ≤ p0 ∧ p0 ≤ 1048576) (hp1 : -1048576 ≤ p1 ∧ p1 ≤ 1048576) (hp2 : -1048576 ≤ p2 ∧ p2 ≤ 1048576) (hx : -1048576 ≤ x ∧ x ≤ 1048576) (hy : -1048576 ≤ y ∧ y ≤ 1048576) (hn : 0 ≤ p2) :
    Calls Try.prog 33 #[.int .i64 4, v, .int .i64 x, .int .i64 y] w fun e w' => e = .returned (.int .i64 (plc 4 p0 p1 p2 0 (16 * x + 8 - p0) (16 * y + 8 - p1))) ∧ Below w.heap.size w w' := by
  obtain ⟨b, off, cap, rfl, hcell⟩ := h.three
  have HC := Lib.hid hcell
  have c0 := hcell w (Below.refl _ _)
  clear hcell h
  have hb := Below.refl w.heap.size w
  obtain ⟨dx, hdx⟩ : ∃ dx, 16 * x + 8 - p0 = dx := ⟨_, rfl⟩
  obtain ⟨dy, hdy⟩ : ∃ dy, 16 * y + 8 - p1 = dy := ⟨_, rfl⟩
  have bx : -17825800 ≤ dx ∧ dx ≤ 17825800 := by omega
  have bY : -17825800 ≤ dy ∧ dy ≤ 17825800 := by omega
  rw [hdx, hdy]
  have HX := Lib.hid hdx
  have HY := Lib.hid hdy
  by_cases hz : 0 < p2
  · have g1 := gabs_bd dx 17825800 (by omega) (by omega)
    have g2 := gabs_bd dy 17825800 (by omega) (by omega)
    have GA := Lib.hid (fun w => refGabs_any dx w (by omega) (by omega))
    have GB := Lib.hid (fun w => refGabs_any dy w (by omega) (by omega))
    have HR : Hid (plc 4 p0 p1 p2 0 dx dy = dv (65535 * (gabs dx + gabs dy)) p2) := by show _ = _; unfold plc; rw [if_neg (by decide), if_neg (by decide), if_neg (by decide), if_pos hz]
    generalize gabs dx = ax at *
    generalize gabs dy = ay at *
    have hd := adv_abs (65535 * (ax + ay)) p2 100000000000000 (by omega) (by omega) (by omega) (by omega)
    rw [show adv (65535 * (ax + ay)) p2 = dv (65535 * (ax + ay)) p2 from if_neg (by omega)] at hd
    generalize plc 4 p0 p1 p2 0 dx dy = T at *
    have DV := Lib.hid (fun w => refDiv_new (65535 * (ax + ay)) p2 w (by omega) (by omega) (by omega) (by omega))
    rw [← HR.out] at hd DV
    have zb : (p2 == 0) = false := by simp; omega
    go_enter Try.func33, Try.ntmps33
    have e1 : IntKind.i64.wrap (16 * x) = 16 * x := IntWalk.i64_in _ (by omega)
    have e2 : IntKind.i64.wrap (16 * y) = 16 * y := IntWalk.i64_in _ (by omega)
    have e3 : IntKind.i64.wrap (16 * x + 8) = 16 * x + 8 := IntWalk.i64_in _ (by omega)
    have e4 : IntKind.i64.wrap (16 * y + 8) = 16 * y + 8 := IntWalk.i64_in _ (by omega)
    have e5 : IntKind.i64.wrap dx = dx := IntWalk.i64_in _ (by omega)
    have e6 : IntKind.i64.wrap dy = dy := IntWalk.i64_in _ (by omega)
    clear c0
    go_wp2_with fail
    refine wp_region_grow 16 (fun w' => Below (World.heap w).size w w') (by kernel_rfl) (by kernel_rfl) (Below.refl _ _).drew ?_
    simp only [List.take_succ_cons, List.take_zero, List.drop_succ_cons, List.drop_zero]
    repeat (first | (apply wpG_on; rfl; (intro w' hS K hK; have hr0 := HC.out _ hS; go_simp; (first | exact hK.out _ hS)); simp only [Act.put, List.setIfInBounds_toArray, List.set_cons_succ, List.set_cons_zero]) | (apply wpG_off; rfl; simp only [Act.put, List.setIfInBounds_toArray, List.set_cons_succ, List.set_cons_zero]))
    apply wpG_nil
    intro W0 hS
    replace hb := hb.trans (hS.mono hb.size)
    replace HC := Lib.hid (fun w' (h : Below W0.heap.size W0 w') => HC.out w' (hS.trans (h.mono hS.size)))
    have c0 := HC.out W0 (Below.refl _ _)
    clear hS e1 e2 e3 e4 e5 e6
    clear hdx hdy
    go_wp2_with fail
    clear c0
    have e1 : IntKind.i64.wrap (ax + ay) = ax + ay := IntWalk.i64_in _ (by omega)
    have e2 : IntKind.i64.wrap (65535 * (ax + ay)) = 65535 * (ax + ay) := IntWalk.i64_in _ (by omega)
    refine wp_region_grow 10 (fun w' => Below (World.heap W0).size W0 w') (by kernel_rfl) (by kernel_rfl) (Below.refl _ _).drew ?_
    simp only [List.take_succ_cons, List.take_zero, List.drop_succ_cons, List.drop_zero]
    repeat (first | (apply wpG_on; rfl; (intro w' hS K hK; have hr0 := HC.out _ hS; go_simp; (first | exact hK.out _ hS | (go_at_call 55; (with_reducible refine (GA.out _).mono ?_); rintro e w'' ⟨rfl, rfl⟩; exact ⟨_, rfl, hK.out _ hS⟩) | (go_at_call 55; (with_reducible refine (GB.out _).mono ?_); rintro e w'' ⟨rfl, rfl⟩; exact ⟨_, rfl, hK.out _ hS⟩) | (go_at_call 31; (with_reducible refine (DV.out _).mono ?_); rintro e w'' ⟨rfl, hbb⟩; exact ⟨_, rfl, hK.out _ (hS.trans (hbb.mono hS.size))⟩))); simp only [Act.put, List.setIfInBounds_toArray, List.set_cons_succ, List.set_cons_zero]) | (apply wpG_off; rfl; simp only [Act.put, List.setIfInBounds_toArray, List.set_cons_succ, List.set_cons_zero]))
    apply wpG_nil
    intro W1 hS
    replace hb := hb.trans (hS.mono hb.size)
    clear hS
    clear e1 e2
    go_wp2_with fail
    go_ret
    exact ⟨rfl, hb⟩
  · obtain rfl : p2 = 0 := by omega
    have HR : Hid (plc 4 p0 p1 0 0 dx dy = 65535) := by show _ = _; unfold plc; rw [if_neg (by decide), if_neg (by decide), if_neg (by decide), if_neg (by decide)]
    rw [HR.out]
    go_enter Try.func33, Try.ntmps33
    have e1 : IntKind.i64.wrap (16 * x) = 16 * x := IntWalk.i64_in _ (by omega)
    have e2 : IntKind.i64.wrap (16 * y) = 16 * y := IntWalk.i64_in _ (by omega)
    have e3 : IntKind.i64.wrap (16 * x + 8) = 16 * x + 8 := IntWalk.i64_in _ (by omega)
    have e4 : IntKind.i64.wrap (16 * y + 8) = 16 * y + 8 := IntWalk.i64_in _ (by omega)
    have e5 : IntKind.i64.wrap dx = dx := IntWalk.i64_in _ (by omega)
    have e6 : IntKind.i64.wrap dy = dy := IntWalk.i64_in _ (by omega)
    clear c0
    go_wp2_with fail
    refine wp_region_grow 16 (fun w' => Below (World.heap w).size w w') (by kernel_rfl) (by kernel_rfl) (Below.refl _ _).drew ?_
    simp only [List.take_succ_cons, List.take_zero, List.drop_succ_cons, List.drop_zero]
    repeat (first | (apply wpG_on; rfl; (intro w' hS K hK; have hr0 := HC.out _ hS; go_simp; (first | exact hK.out _ hS)); simp only [Act.put, List.setIfInBounds_toArray, List.set_cons_succ, List.set_cons_zero]) | (apply wpG_off; rfl; simp only [Act.put, List.setIfInBounds_toArray, List.set_cons_succ, List.set_cons_zero]))
    apply wpG_nil
    intro W0 hS
    replace hb := hb.trans (hS.mono hb.size)
    replace HC := Lib.hid (fun w' (h : Below W0.heap.size W0 w') => HC.out w' (hS.trans (h.mono hS.size)))
    have c0 := HC.out W0 (Below.refl _ _)
    clear hS e1 e2 e3 e4 e5 e6
    clear hdx hdy
    go_wp2_with fail
    go_ret
    exact ⟨rfl, hb⟩

end Go.Proofs.Ytmejdhgknebbbaa
