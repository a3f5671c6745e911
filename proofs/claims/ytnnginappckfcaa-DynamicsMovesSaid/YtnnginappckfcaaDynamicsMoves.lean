/- DynamicsMoves: Speed depends on the differences of places and times alone, for all small numbers. No conditions. -/
import Derived.Test.YtnnginappckfcaaDynAwake
import Derived.Test.YtnnginappckfcaaDynOpen
import Derived.RegionTactic
import Derived.BigRegion
import Derived.Test.YtnnginappckfcaaFlow
namespace Go.Proofs.Ytnnginappckfcaa.dynamicsMoves
open Go.ChangeShapes Go.WideShapes Go.ChangeAt Go.RowKit
set_option linter.unusedVariables false
attribute [local go_sem] Oper.gAt gUponK Oper.sAt stilK

theorem i16_bd (a : Int) (h : (Lit.int .i16 a).wf = true) : -32768 ≤ a ∧ a ≤ 32767 := by
  simp [Lit.wf, IntKind.min, IntKind.max, IntKind.signed, IntKind.bits] at h
  omega
theorem u16_bd (a : Int) (h : (Lit.int .u16 a).wf = true) : 0 ≤ a ∧ a ≤ 65535 := by
  simp [Lit.wf, IntKind.min, IntKind.max, IntKind.signed, IntKind.bits] at h
  omega

theorem co_small (x : Int) (h1 : -16777216 ≤ x) (h2 : x ≤ 16777216) : co x = x := by unfold co; omega
theorem tm_small (x : Int) (h1 : 0 ≤ x) (h2 : x ≤ 1073741824) : tm x = x := by unfold tm; omega
theorem hypot_neg (x y : Int) : hypot (-x) (-y) = hypot x y := by unfold hypot; rw [Int.neg_mul_neg, Int.neg_mul_neg]
theorem spd_turn (ax ay t bx by_ u : Int) : spd bx by_ t ax ay u = spd ax ay t bx by_ u := by
  unfold spd
  have e1 : co ax - co bx = -(co bx - co ax) := by omega
  have e2 : co ay - co by_ = -(co by_ - co ay) := by omega
  rw [e1, e2, hypot_neg]
theorem spd_move (ax ay t bx by_ u dx dy l : Int) (h1 : -32768 ≤ ax ∧ ax ≤ 32767) (h2 : -32768 ≤ ay ∧ ay ≤ 32767) (h3 : -32768 ≤ bx ∧ bx ≤ 32767) (h4 : -32768 ≤ by_ ∧ by_ ≤ 32767) (h5 : -32768 ≤ dx ∧ dx ≤ 32767) (h6 : -32768 ≤ dy ∧ dy ≤ 32767)
    (h7 : 0 ≤ t ∧ t ≤ 65535) (h8 : 0 ≤ u ∧ u ≤ 131070) (h9 : 0 ≤ l ∧ l ≤ 65535) : spd (ax + dx) (ay + dy) (t + l) (bx + dx) (by_ + dy) (u + l) = spd ax ay t bx by_ u := by
  unfold spd
  rw [co_small (ax + dx) (by omega) (by omega), co_small (ay + dy) (by omega) (by omega), co_small (bx + dx) (by omega) (by omega), co_small (by_ + dy) (by omega) (by omega), co_small ax (by omega) (by omega), co_small ay (by omega) (by omega), co_small bx (by omega) (by omega), co_small by_ (by omega) (by omega),
    tm_small (t + l) (by omega) (by omega), tm_small (u + l) (by omega) (by omega), tm_small t (by omega) (by omega), tm_small u (by omega) (by omega)]
  rw [show u + l - (t + l) = u - t from by omega, show bx + dx - (ax + dx) = bx - ax from by omega, show by_ + dy - (ay + dy) = by_ - ay from by omega]

set_option maxHeartbeats 4000000 in
theorem walk (a0 a1 a2 a3 a4 a5 a6 a7 a8 : Int) (w : World) (w0 : (Lit.int .i16 a0).wf = true) (w1 : (Lit.int .i16 a1).wf = true) (w2 : (Lit.int .i16 a2).wf = true) (w3 : (Lit.int .i16 a3).wf = true) (w4 : (Lit.int .i16 a4).wf = true) (w5 : (Lit.int .i16 a5).wf = true) (w6 : (Lit.int .u16 a6).wf = true) (w7 : (Lit.int .u16 a7).wf = true) (w8 : (Lit.int .u16 a8).wf = true) :
    Calls Try.prog 9 #[.int .i16 a0, .int .i16 a1, .int .i16 a2, .int .i16 a3, .int .i16 a4, .int .i16 a5, .int .u16 a6, .int .u16 a7, .int .u16 a8] w fun e w' => e = .returned (.bool true) ∧ Below w.heap.size w w' := by
  have h0 := i16_bd _ w0
  have h1 := i16_bd _ w1
  have h2 := i16_bd _ w2
  have h3 := i16_bd _ w3
  have h4 := i16_bd _ w4
  have h5 := i16_bd _ w5
  have h6 := u16_bd _ w6
  have h7 := u16_bd _ w7
  have h8 := u16_bd _ w8
  clear w0 w1 w2 w3 w4 w5 w6 w7 w8
  go_enter Try.func9, Try.ntmps9
  go_wp2_with fail
  refine callName2 (fun W k1 k2 hb => ?_)
  refine (speed_any _ _ _ _ _ _ _ _ _ _ _).mono ?_
  rintro e W1 ⟨rfl, hS⟩
  replace k1 := k1.kept hS
  replace k2 := k2.kept hS
  replace hb := hb.trans (hS.mono hb.size)
  clear hS
  go_wp2_with fail
  have HK : Hid (∀ w' : World, Below W1.heap.size W1 w' → Below W1.heap.size W1 w' ∧ w'.cell? ⟨w.heap.size, 0, none⟩ = some (.int .i64 a0) ∧ w'.cell? ⟨w.heap.size, 1, none⟩ = some (.int .i64 a1) ∧ w'.cell? ⟨w.heap.size, 2, none⟩ = some (.int .i64 0) ∧ w'.cell? ⟨w.heap.size, 3, none⟩ = some (.int .i64 0) ∧ w'.cell? ⟨w.heap.size, 4, none⟩ = some (.int .i64 a6) ∧ w'.cell? ⟨w.heap.size + 1, 0, none⟩ = some (.int .i64 a2) ∧ w'.cell? ⟨w.heap.size + 1, 1, none⟩ = some (.int .i64 a3) ∧ w'.cell? ⟨w.heap.size + 1, 2, none⟩ = some (.int .i64 0) ∧ w'.cell? ⟨w.heap.size + 1, 3, none⟩ = some (.int .i64 0) ∧ w'.cell? ⟨w.heap.size + 1, 4, none⟩ = some (.int .i64 (a6 + a7))) := fun w' h => ⟨h, (k1.kept h).c5.1, (k1.kept h).c5.2.1, (k1.kept h).c5.2.2.1, (k1.kept h).c5.2.2.2.1, (k1.kept h).c5.2.2.2.2.1, (k2.kept h).c5.1, (k2.kept h).c5.2.1, (k2.kept h).c5.2.2.1, (k2.kept h).c5.2.2.2.1, (k2.kept h).c5.2.2.2.2.1⟩
  go_region_held3 (fun w' => Below W1.heap.size W1 w' ∧ w'.cell? ⟨w.heap.size, 0, none⟩ = some (.int .i64 a0) ∧ w'.cell? ⟨w.heap.size, 1, none⟩ = some (.int .i64 a1) ∧ w'.cell? ⟨w.heap.size, 2, none⟩ = some (.int .i64 0) ∧ w'.cell? ⟨w.heap.size, 3, none⟩ = some (.int .i64 0) ∧ w'.cell? ⟨w.heap.size, 4, none⟩ = some (.int .i64 a6) ∧ w'.cell? ⟨w.heap.size + 1, 0, none⟩ = some (.int .i64 a2) ∧ w'.cell? ⟨w.heap.size + 1, 1, none⟩ = some (.int .i64 a3) ∧ w'.cell? ⟨w.heap.size + 1, 2, none⟩ = some (.int .i64 0) ∧ w'.cell? ⟨w.heap.size + 1, 3, none⟩ = some (.int .i64 0) ∧ w'.cell? ⟨w.heap.size + 1, 4, none⟩ = some (.int .i64 (a6 + a7)))
    ((refine HK.out _ ?_; repeat' (first | exact Below.refl _ _ | exact Nat.le_refl _ | apply Below.drew | apply Below.alloc | apply Below.setCell | (simp; done) | (simp; omega)))) (fail)
  all_goals clear HK
  · go_wp2_with fail
    have hlt1 := k1.lt
    have hlt2 := k2.lt
    refine name2d (fun W2 kc kd hS => ?_)
    replace k1 := k1.kept hS
    replace k2 := k2.kept hS
    replace hb := hb.trans (hS.mono hb.size)
    clear hS
    generalize hBD : W1.heap.size + 1 = BD at *
    have qD : BD = W1.heap.size + 1 := hBD.symm
    generalize hBC : W1.heap.size = BC at *
    have n1 : BC ≠ BD := by omega
    have n2 : BC ≠ w.heap.size := by omega
    have n3 : BC ≠ w.heap.size + 1 := by omega
    have n4 : BD ≠ w.heap.size := by omega
    have n5 : BD ≠ w.heap.size + 1 := by omega
    have n6 : w.heap.size ≤ BC := by omega
    have n7 : w.heap.size ≤ BD := by omega
    have n1' : BD ≠ BC := by omega
    clear hBC hBD qD hlt1 hlt2
    have c3 := kc.c5
    have c4 := kd.c5
    refine wp_region_flow (fun w' => ∀ k o, k ≠ BC → k ≠ BD → Blk W2 k o → Blk w' k o) (by kernel_rfl) (by kernel_rfl) (fun k o _ _ hk => hk) ?_
    repeat (first | (apply wpS_on; rfl; rfl; (intro w' hS K hK; have hc0 := (hS _ _ (Ne.symm n2) (Ne.symm n4) k1).c5; have hc1 := (hS _ _ (Ne.symm n3) (Ne.symm n5) k2).c5; go_simp; exact hK.out); simp only [Act.put, List.setIfInBounds_toArray, List.set_cons_succ, List.set_cons_zero]) | (apply wpS_off; rfl; rfl; simp only [Act.put, List.setIfInBounds_toArray, List.set_cons_succ, List.set_cons_zero]) | (apply wpS_store; rfl; rfl; (intro K hK; go_simp; exact hK.out); (intro k o h1 h2 hk; repeat (first | (with_reducible exact hk) | (with_reducible apply Blk.drewd) | (with_reducible refine Blk.other (hne := h1) ?_ _) | (with_reducible refine Blk.other (hne := h2) ?_ _))); simp only [Act.put, List.setIfInBounds_toArray, List.set_cons_succ, List.set_cons_zero]))
    apply wpS_nil
    go_wp2_with fail
    clear c3 c4
    refine callGen (fun W3 hW3 => ?_)
    have kc' : Blk W3 BC (.cells #[.int .i64 a2, .int .i64 a3, .int .i64 0, .int .i64 0, .int .i64 a6] 28 (0, 0)) := by
      rw [hW3]; exact ((((kc.set1 0 _ (by simp) rfl).set1 1 _ (by simp) rfl).other n1 _).other n1 _).drewd
    have kd' : Blk W3 BD (.cells #[.int .i64 a0, .int .i64 a1, .int .i64 0, .int .i64 0, .int .i64 (a6 + a7)] 28 (0, 0)) := by
      rw [hW3]; exact ((((kd.other n1' _).other n1' _).set1 0 _ (by simp) rfl).set1 1 _ (by simp) rfl).drewd
    have k1' : Blk W3 w.heap.size (.cells #[.int .i64 a0, .int .i64 a1, .int .i64 0, .int .i64 0, .int .i64 a6] 28 (0, 0)) := by
      rw [hW3]; exact ((((k1.other (Ne.symm n2) _).other (Ne.symm n2) _).other (Ne.symm n4) _).other (Ne.symm n4) _).drewd
    have k2' : Blk W3 (w.heap.size + 1) (.cells #[.int .i64 a2, .int .i64 a3, .int .i64 0, .int .i64 0, .int .i64 (a6 + a7)] 28 (0, 0)) := by
      rw [hW3]; exact ((((k2.other (Ne.symm n3) _).other (Ne.symm n3) _).other (Ne.symm n5) _).other (Ne.symm n5) _).drewd
    have hb' : Below w.heap.size w W3 := by
      rw [hW3]; exact ((((hb.setCell n6 _).setCell n6 _).setCell n7 _).setCell n7 _).drew
    clear hW3 kc kd k1 k2 hb
    refine (awake_any _).mono ?_
    rintro e W4 ⟨rfl, hS⟩
    replace kc' := kc'.kept hS
    replace kd' := kd'.kept hS
    replace k1' := k1'.kept hS
    replace k2' := k2'.kept hS
    replace hb' := hb'.trans (hS.mono hb'.size)
    clear hS
    have c3 := kc'.c5
    have c4 := kd'.c5
    go_wp2_with fail
    clear c3 c4
    refine (speed_any _ _ _ _ _ _ _ _ _ _ _).mono ?_
    rintro e W5 ⟨rfl, hS⟩
    replace kc' := kc'.kept hS
    replace kd' := kd'.kept hS
    replace k1' := k1'.kept hS
    replace k2' := k2'.kept hS
    replace hb' := hb'.trans (hS.mono hb'.size)
    clear hS
    rw [spd_turn]
    go_wp2_with fail
    have c3 := kc'.c5
    have c4 := kd'.c5
    refine wp_region_flow (fun w' => ∀ k o, k ≠ BC → k ≠ BD → Blk W5 k o → Blk w' k o) (by kernel_rfl) (by kernel_rfl) (fun k o _ _ hk => hk) ?_
    repeat (first | (apply wpS_on; rfl; rfl; (intro w' hS K hK; have hc0 := (hS _ _ (Ne.symm n2) (Ne.symm n4) k1').c5; have hc1 := (hS _ _ (Ne.symm n3) (Ne.symm n5) k2').c5; go_simp; exact hK.out); simp only [Act.put, List.setIfInBounds_toArray, List.set_cons_succ, List.set_cons_zero]) | (apply wpS_off; rfl; rfl; simp only [Act.put, List.setIfInBounds_toArray, List.set_cons_succ, List.set_cons_zero]) | (apply wpS_store; rfl; rfl; (intro K hK; go_simp; exact hK.out); (intro k o h1 h2 hk; repeat (first | (with_reducible exact hk) | (with_reducible apply Blk.drewd) | (with_reducible refine Blk.other (hne := h1) ?_ _) | (with_reducible refine Blk.other (hne := h2) ?_ _))); simp only [Act.put, List.setIfInBounds_toArray, List.set_cons_succ, List.set_cons_zero]))
    apply wpS_nil
    go_wp2_with fail
    clear c3 c4
    refine codeGen (fun W6 hW6 => ?_)
    have kc6 : Blk W6 BC (.cells #[.int .i64 a0, .int .i64 a1, .int .i64 0, .int .i64 0, .int .i64 a6] 28 (0, 0)) := by
      rw [hW6]; exact ((((((((((kc'.set1 0 _ (by simp) rfl).set1 1 _ (by simp) rfl).set1 2 _ (by simp) rfl).set1 3 _ (by simp) rfl).set1 4 _ (by simp) rfl).other n1 _).other n1 _).other n1 _).other n1 _).other n1 _).drewd
    have kd6 : Blk W6 BD (.cells #[.int .i64 a2, .int .i64 a3, .int .i64 0, .int .i64 0, .int .i64 (a6 + a7)] 28 (0, 0)) := by
      rw [hW6]; exact ((((((((((kd'.other n1' _).other n1' _).other n1' _).other n1' _).other n1' _).set1 0 _ (by simp) rfl).set1 1 _ (by simp) rfl).set1 2 _ (by simp) rfl).set1 3 _ (by simp) rfl).set1 4 _ (by simp) rfl).drewd
    have k16 : Blk W6 w.heap.size (.cells #[.int .i64 a0, .int .i64 a1, .int .i64 0, .int .i64 0, .int .i64 a6] 28 (0, 0)) := by
      rw [hW6]; exact ((((((((((k1'.other (Ne.symm n2) _).other (Ne.symm n2) _).other (Ne.symm n2) _).other (Ne.symm n2) _).other (Ne.symm n2) _).other (Ne.symm n4) _).other (Ne.symm n4) _).other (Ne.symm n4) _).other (Ne.symm n4) _).other (Ne.symm n4) _).drewd
    have k26 : Blk W6 (w.heap.size + 1) (.cells #[.int .i64 a2, .int .i64 a3, .int .i64 0, .int .i64 0, .int .i64 (a6 + a7)] 28 (0, 0)) := by
      rw [hW6]; exact ((((((((((k2'.other (Ne.symm n3) _).other (Ne.symm n3) _).other (Ne.symm n3) _).other (Ne.symm n3) _).other (Ne.symm n3) _).other (Ne.symm n5) _).other (Ne.symm n5) _).other (Ne.symm n5) _).other (Ne.symm n5) _).other (Ne.symm n5) _).drewd
    have hb6 : Below w.heap.size w W6 := by
      rw [hW6]; exact ((((((((((hb'.setCell n6 _).setCell n6 _).setCell n6 _).setCell n6 _).setCell n6 _).setCell n7 _).setCell n7 _).setCell n7 _).setCell n7 _).setCell n7 _).drew
    clear hW6 kc' kd' k1' k2' hb'
    have c3 := kc6.c5
    have c4 := kd6.c5
    have x0 : IntKind.i64.wrap (a0 + a4) = a0 + a4 := IntWalk.i64_in _ (by omega)
    have x1 : IntKind.i64.wrap (a1 + a5) = a1 + a5 := IntWalk.i64_in _ (by omega)
    have x2 : IntKind.i64.wrap (a2 + a4) = a2 + a4 := IntWalk.i64_in _ (by omega)
    have x3 : IntKind.i64.wrap (a3 + a5) = a3 + a5 := IntWalk.i64_in _ (by omega)
    have x4 : IntKind.i64.wrap a4 = a4 := IntWalk.i64_in _ (by omega)
    have x5 : IntKind.i64.wrap a5 = a5 := IntWalk.i64_in _ (by omega)
    refine wp_region_flow (fun w' => ∀ k o, k ≠ BC → k ≠ BD → Blk W6 k o → Blk w' k o) (by kernel_rfl) (by kernel_rfl) (fun k o _ _ hk => hk) ?_
    repeat (first | (apply wpS_on; rfl; rfl; (intro w' hS K hK; have hc0 := (hS _ _ (Ne.symm n2) (Ne.symm n4) k16).c5; have hc1 := (hS _ _ (Ne.symm n3) (Ne.symm n5) k26).c5; go_simp; exact hK.out); simp only [Act.put, List.setIfInBounds_toArray, List.set_cons_succ, List.set_cons_zero]) | (apply wpS_off; rfl; rfl; simp only [Act.put, List.setIfInBounds_toArray, List.set_cons_succ, List.set_cons_zero]) | (apply wpS_store; rfl; rfl; (intro K hK; go_simp; exact hK.out); (intro k o h1 h2 hk; repeat (first | (with_reducible exact hk) | (with_reducible apply Blk.drewd) | (with_reducible refine Blk.other (hne := h1) ?_ _) | (with_reducible refine Blk.other (hne := h2) ?_ _))); simp only [Act.put, List.setIfInBounds_toArray, List.set_cons_succ, List.set_cons_zero]))
    apply wpS_nil
    clear x0 x1 x2 x3 x4 x5 c3 c4
    go_wp2_with fail
    refine codeGen (fun W7 hW7 => ?_)
    have kc7 : Blk W7 BC (.cells #[.int .i64 (a0 + a4), .int .i64 (a1 + a5), .int .i64 0, .int .i64 0, .int .i64 a6] 28 (0, 0)) := by
      rw [hW7]; exact ((((kc6.set1 0 _ (by simp) rfl).set1 1 _ (by simp) rfl).other n1 _).other n1 _).drewd
    have kd7 : Blk W7 BD (.cells #[.int .i64 (a2 + a4), .int .i64 (a3 + a5), .int .i64 0, .int .i64 0, .int .i64 (a6 + a7)] 28 (0, 0)) := by
      rw [hW7]; exact ((((kd6.other n1' _).other n1' _).set1 0 _ (by simp) rfl).set1 1 _ (by simp) rfl).drewd
    have k17 : Blk W7 w.heap.size (.cells #[.int .i64 a0, .int .i64 a1, .int .i64 0, .int .i64 0, .int .i64 a6] 28 (0, 0)) := by
      rw [hW7]; exact ((((k16.other (Ne.symm n2) _).other (Ne.symm n2) _).other (Ne.symm n4) _).other (Ne.symm n4) _).drewd
    have k27 : Blk W7 (w.heap.size + 1) (.cells #[.int .i64 a2, .int .i64 a3, .int .i64 0, .int .i64 0, .int .i64 (a6 + a7)] 28 (0, 0)) := by
      rw [hW7]; exact ((((k26.other (Ne.symm n3) _).other (Ne.symm n3) _).other (Ne.symm n5) _).other (Ne.symm n5) _).drewd
    have hb7 : Below w.heap.size w W7 := by
      rw [hW7]; exact ((((hb6.setCell n6 _).setCell n6 _).setCell n7 _).setCell n7 _).drew
    clear hW7 kc6 kd6 k16 k26 hb6
    have c3 := kc7.c5
    have c4 := kd7.c5
    have x0 : IntKind.i64.wrap (a6 + a8) = a6 + a8 := IntWalk.i64_in _ (by omega)
    have x1 : IntKind.i64.wrap (a6 + a7 + a8) = a6 + a7 + a8 := IntWalk.i64_in _ (by omega)
    have x2 : IntKind.i64.wrap a8 = a8 := IntWalk.i64_in _ (by omega)
    refine wp_region_flow (fun w' => ∀ k o, k ≠ BC → k ≠ BD → Blk W7 k o → Blk w' k o) (by kernel_rfl) (by kernel_rfl) (fun k o _ _ hk => hk) ?_
    repeat (first | (apply wpS_on; rfl; rfl; (intro w' hS K hK; have hc0 := (hS _ _ (Ne.symm n2) (Ne.symm n4) k17).c5; have hc1 := (hS _ _ (Ne.symm n3) (Ne.symm n5) k27).c5; go_simp; exact hK.out); simp only [Act.put, List.setIfInBounds_toArray, List.set_cons_succ, List.set_cons_zero]) | (apply wpS_off; rfl; rfl; simp only [Act.put, List.setIfInBounds_toArray, List.set_cons_succ, List.set_cons_zero]) | (apply wpS_store; rfl; rfl; (intro K hK; go_simp; exact hK.out); (intro k o h1 h2 hk; repeat (first | (with_reducible exact hk) | (with_reducible apply Blk.drewd) | (with_reducible refine Blk.other (hne := h1) ?_ _) | (with_reducible refine Blk.other (hne := h2) ?_ _))); simp only [Act.put, List.setIfInBounds_toArray, List.set_cons_succ, List.set_cons_zero]))
    apply wpS_nil
    clear x0 x1 x2
    go_wp2_with fail
    clear c3 c4
    refine callGen (fun W8 hW8 => ?_)
    have kc8 : Blk W8 BC (.cells #[.int .i64 (a0 + a4), .int .i64 (a1 + a5), .int .i64 0, .int .i64 0, .int .i64 (a6 + a8)] 28 (0, 0)) := by
      rw [hW8]; exact ((kc7.set1 4 _ (by simp) rfl).other n1 _).drewd
    have kd8 : Blk W8 BD (.cells #[.int .i64 (a2 + a4), .int .i64 (a3 + a5), .int .i64 0, .int .i64 0, .int .i64 (a6 + a7 + a8)] 28 (0, 0)) := by
      rw [hW8]; exact ((kd7.other n1' _).set1 4 _ (by simp) rfl).drewd
    have k18 : Blk W8 w.heap.size (.cells #[.int .i64 a0, .int .i64 a1, .int .i64 0, .int .i64 0, .int .i64 a6] 28 (0, 0)) := by
      rw [hW8]; exact ((k17.other (Ne.symm n2) _).other (Ne.symm n4) _).drewd
    have k28 : Blk W8 (w.heap.size + 1) (.cells #[.int .i64 a2, .int .i64 a3, .int .i64 0, .int .i64 0, .int .i64 (a6 + a7)] 28 (0, 0)) := by
      rw [hW8]; exact ((k27.other (Ne.symm n3) _).other (Ne.symm n5) _).drewd
    have hb8 : Below w.heap.size w W8 := by
      rw [hW8]; exact ((hb7.setCell n6 _).setCell n7 _).drew
    clear hW8 kc7 kd7 k17 k27 hb7
    refine (speed_any _ _ _ _ _ _ _ _ _ _ _).mono ?_
    rintro e W9 ⟨rfl, hS⟩
    rw [spd_move a0 a1 a6 a2 a3 (a6 + a7) a4 a5 a8 h0 h1 h2 h3 h4 h5 h6 (by omega) h8]
    go_wp2_with fail
    go_ret
    exact ⟨ret_bool (by simp), hb8.trans (hS.mono hb8.size)⟩
  · go_wp2_with fail
    have hlt1 := k1.lt
    have hlt2 := k2.lt
    refine name2d (fun W2 kd kc hS => ?_)
    replace k1 := k1.kept hS
    replace k2 := k2.kept hS
    replace hb := hb.trans (hS.mono hb.size)
    clear hS
    generalize hBC : W1.heap.size + 1 = BC at *
    have qD : BC = W1.heap.size + 1 := hBC.symm
    generalize hBD : W1.heap.size = BD at *
    have n1 : BC ≠ BD := by omega
    have n2 : BC ≠ w.heap.size := by omega
    have n3 : BC ≠ w.heap.size + 1 := by omega
    have n4 : BD ≠ w.heap.size := by omega
    have n5 : BD ≠ w.heap.size + 1 := by omega
    have n6 : w.heap.size ≤ BC := by omega
    have n7 : w.heap.size ≤ BD := by omega
    have n1' : BD ≠ BC := by omega
    clear hBC hBD qD hlt1 hlt2
    have c3 := kc.c5
    have c4 := kd.c5
    refine wp_region_flow (fun w' => ∀ k o, k ≠ BC → k ≠ BD → Blk W2 k o → Blk w' k o) (by kernel_rfl) (by kernel_rfl) (fun k o _ _ hk => hk) ?_
    repeat (first | (apply wpS_on; rfl; rfl; (intro w' hS K hK; have hc0 := (hS _ _ (Ne.symm n2) (Ne.symm n4) k1).c5; have hc1 := (hS _ _ (Ne.symm n3) (Ne.symm n5) k2).c5; go_simp; exact hK.out); simp only [Act.put, List.setIfInBounds_toArray, List.set_cons_succ, List.set_cons_zero]) | (apply wpS_off; rfl; rfl; simp only [Act.put, List.setIfInBounds_toArray, List.set_cons_succ, List.set_cons_zero]) | (apply wpS_store; rfl; rfl; (intro K hK; go_simp; exact hK.out); (intro k o h1 h2 hk; repeat (first | (with_reducible exact hk) | (with_reducible apply Blk.drewd) | (with_reducible refine Blk.other (hne := h1) ?_ _) | (with_reducible refine Blk.other (hne := h2) ?_ _))); simp only [Act.put, List.setIfInBounds_toArray, List.set_cons_succ, List.set_cons_zero]))
    apply wpS_nil
    go_wp2_with fail
    clear c3 c4
    refine callGen (fun W3 hW3 => ?_)
    have kc' : Blk W3 BC (.cells #[.int .i64 a2, .int .i64 a3, .int .i64 0, .int .i64 0, .int .i64 a6] 28 (0, 0)) := by
      rw [hW3]; exact ((((kc.set1 0 _ (by simp) rfl).set1 1 _ (by simp) rfl).other n1 _).other n1 _).drewd
    have kd' : Blk W3 BD (.cells #[.int .i64 a0, .int .i64 a1, .int .i64 0, .int .i64 0, .int .i64 (a6 + a7)] 28 (0, 0)) := by
      rw [hW3]; exact ((((kd.other n1' _).other n1' _).set1 0 _ (by simp) rfl).set1 1 _ (by simp) rfl).drewd
    have k1' : Blk W3 w.heap.size (.cells #[.int .i64 a0, .int .i64 a1, .int .i64 0, .int .i64 0, .int .i64 a6] 28 (0, 0)) := by
      rw [hW3]; exact ((((k1.other (Ne.symm n2) _).other (Ne.symm n2) _).other (Ne.symm n4) _).other (Ne.symm n4) _).drewd
    have k2' : Blk W3 (w.heap.size + 1) (.cells #[.int .i64 a2, .int .i64 a3, .int .i64 0, .int .i64 0, .int .i64 (a6 + a7)] 28 (0, 0)) := by
      rw [hW3]; exact ((((k2.other (Ne.symm n3) _).other (Ne.symm n3) _).other (Ne.symm n5) _).other (Ne.symm n5) _).drewd
    have hb' : Below w.heap.size w W3 := by
      rw [hW3]; exact ((((hb.setCell n6 _).setCell n6 _).setCell n7 _).setCell n7 _).drew
    clear hW3 kc kd k1 k2 hb
    refine (awake_any _).mono ?_
    rintro e W4 ⟨rfl, hS⟩
    replace kc' := kc'.kept hS
    replace kd' := kd'.kept hS
    replace k1' := k1'.kept hS
    replace k2' := k2'.kept hS
    replace hb' := hb'.trans (hS.mono hb'.size)
    clear hS
    have c3 := kc'.c5
    have c4 := kd'.c5
    go_wp2_with fail
    clear c3 c4
    refine (speed_any _ _ _ _ _ _ _ _ _ _ _).mono ?_
    rintro e W5 ⟨rfl, hS⟩
    replace kc' := kc'.kept hS
    replace kd' := kd'.kept hS
    replace k1' := k1'.kept hS
    replace k2' := k2'.kept hS
    replace hb' := hb'.trans (hS.mono hb'.size)
    clear hS
    rw [spd_turn]
    go_wp2_with fail
    have c3 := kc'.c5
    have c4 := kd'.c5
    refine wp_region_flow (fun w' => ∀ k o, k ≠ BC → k ≠ BD → Blk W5 k o → Blk w' k o) (by kernel_rfl) (by kernel_rfl) (fun k o _ _ hk => hk) ?_
    repeat (first | (apply wpS_on; rfl; rfl; (intro w' hS K hK; have hc0 := (hS _ _ (Ne.symm n2) (Ne.symm n4) k1').c5; have hc1 := (hS _ _ (Ne.symm n3) (Ne.symm n5) k2').c5; go_simp; exact hK.out); simp only [Act.put, List.setIfInBounds_toArray, List.set_cons_succ, List.set_cons_zero]) | (apply wpS_off; rfl; rfl; simp only [Act.put, List.setIfInBounds_toArray, List.set_cons_succ, List.set_cons_zero]) | (apply wpS_store; rfl; rfl; (intro K hK; go_simp; exact hK.out); (intro k o h1 h2 hk; repeat (first | (with_reducible exact hk) | (with_reducible apply Blk.drewd) | (with_reducible refine Blk.other (hne := h1) ?_ _) | (with_reducible refine Blk.other (hne := h2) ?_ _))); simp only [Act.put, List.setIfInBounds_toArray, List.set_cons_succ, List.set_cons_zero]))
    apply wpS_nil
    go_wp2_with fail
    clear c3 c4
    refine codeGen (fun W6 hW6 => ?_)
    have kc6 : Blk W6 BC (.cells #[.int .i64 a0, .int .i64 a1, .int .i64 0, .int .i64 0, .int .i64 a6] 28 (0, 0)) := by
      rw [hW6]; exact ((((((((((kc'.set1 0 _ (by simp) rfl).set1 1 _ (by simp) rfl).set1 2 _ (by simp) rfl).set1 3 _ (by simp) rfl).set1 4 _ (by simp) rfl).other n1 _).other n1 _).other n1 _).other n1 _).other n1 _).drewd
    have kd6 : Blk W6 BD (.cells #[.int .i64 a2, .int .i64 a3, .int .i64 0, .int .i64 0, .int .i64 (a6 + a7)] 28 (0, 0)) := by
      rw [hW6]; exact ((((((((((kd'.other n1' _).other n1' _).other n1' _).other n1' _).other n1' _).set1 0 _ (by simp) rfl).set1 1 _ (by simp) rfl).set1 2 _ (by simp) rfl).set1 3 _ (by simp) rfl).set1 4 _ (by simp) rfl).drewd
    have k16 : Blk W6 w.heap.size (.cells #[.int .i64 a0, .int .i64 a1, .int .i64 0, .int .i64 0, .int .i64 a6] 28 (0, 0)) := by
      rw [hW6]; exact ((((((((((k1'.other (Ne.symm n2) _).other (Ne.symm n2) _).other (Ne.symm n2) _).other (Ne.symm n2) _).other (Ne.symm n2) _).other (Ne.symm n4) _).other (Ne.symm n4) _).other (Ne.symm n4) _).other (Ne.symm n4) _).other (Ne.symm n4) _).drewd
    have k26 : Blk W6 (w.heap.size + 1) (.cells #[.int .i64 a2, .int .i64 a3, .int .i64 0, .int .i64 0, .int .i64 (a6 + a7)] 28 (0, 0)) := by
      rw [hW6]; exact ((((((((((k2'.other (Ne.symm n3) _).other (Ne.symm n3) _).other (Ne.symm n3) _).other (Ne.symm n3) _).other (Ne.symm n3) _).other (Ne.symm n5) _).other (Ne.symm n5) _).other (Ne.symm n5) _).other (Ne.symm n5) _).other (Ne.symm n5) _).drewd
    have hb6 : Below w.heap.size w W6 := by
      rw [hW6]; exact ((((((((((hb'.setCell n6 _).setCell n6 _).setCell n6 _).setCell n6 _).setCell n6 _).setCell n7 _).setCell n7 _).setCell n7 _).setCell n7 _).setCell n7 _).drew
    clear hW6 kc' kd' k1' k2' hb'
    have c3 := kc6.c5
    have c4 := kd6.c5
    have x0 : IntKind.i64.wrap (a0 + a4) = a0 + a4 := IntWalk.i64_in _ (by omega)
    have x1 : IntKind.i64.wrap (a1 + a5) = a1 + a5 := IntWalk.i64_in _ (by omega)
    have x2 : IntKind.i64.wrap (a2 + a4) = a2 + a4 := IntWalk.i64_in _ (by omega)
    have x3 : IntKind.i64.wrap (a3 + a5) = a3 + a5 := IntWalk.i64_in _ (by omega)
    have x4 : IntKind.i64.wrap a4 = a4 := IntWalk.i64_in _ (by omega)
    have x5 : IntKind.i64.wrap a5 = a5 := IntWalk.i64_in _ (by omega)
    refine wp_region_flow (fun w' => ∀ k o, k ≠ BC → k ≠ BD → Blk W6 k o → Blk w' k o) (by kernel_rfl) (by kernel_rfl) (fun k o _ _ hk => hk) ?_
    repeat (first | (apply wpS_on; rfl; rfl; (intro w' hS K hK; have hc0 := (hS _ _ (Ne.symm n2) (Ne.symm n4) k16).c5; have hc1 := (hS _ _ (Ne.symm n3) (Ne.symm n5) k26).c5; go_simp; exact hK.out); simp only [Act.put, List.setIfInBounds_toArray, List.set_cons_succ, List.set_cons_zero]) | (apply wpS_off; rfl; rfl; simp only [Act.put, List.setIfInBounds_toArray, List.set_cons_succ, List.set_cons_zero]) | (apply wpS_store; rfl; rfl; (intro K hK; go_simp; exact hK.out); (intro k o h1 h2 hk; repeat (first | (with_reducible exact hk) | (with_reducible apply Blk.drewd) | (with_reducible refine Blk.other (hne := h1) ?_ _) | (with_reducible refine Blk.other (hne := h2) ?_ _))); simp only [Act.put, List.setIfInBounds_toArray, List.set_cons_succ, List.set_cons_zero]))
    apply wpS_nil
    clear x0 x1 x2 x3 x4 x5 c3 c4
    go_wp2_with fail
    refine codeGen (fun W7 hW7 => ?_)
    have kc7 : Blk W7 BC (.cells #[.int .i64 (a0 + a4), .int .i64 (a1 + a5), .int .i64 0, .int .i64 0, .int .i64 a6] 28 (0, 0)) := by
      rw [hW7]; exact ((((kc6.set1 0 _ (by simp) rfl).set1 1 _ (by simp) rfl).other n1 _).other n1 _).drewd
    have kd7 : Blk W7 BD (.cells #[.int .i64 (a2 + a4), .int .i64 (a3 + a5), .int .i64 0, .int .i64 0, .int .i64 (a6 + a7)] 28 (0, 0)) := by
      rw [hW7]; exact ((((kd6.other n1' _).other n1' _).set1 0 _ (by simp) rfl).set1 1 _ (by simp) rfl).drewd
    have k17 : Blk W7 w.heap.size (.cells #[.int .i64 a0, .int .i64 a1, .int .i64 0, .int .i64 0, .int .i64 a6] 28 (0, 0)) := by
      rw [hW7]; exact ((((k16.other (Ne.symm n2) _).other (Ne.symm n2) _).other (Ne.symm n4) _).other (Ne.symm n4) _).drewd
    have k27 : Blk W7 (w.heap.size + 1) (.cells #[.int .i64 a2, .int .i64 a3, .int .i64 0, .int .i64 0, .int .i64 (a6 + a7)] 28 (0, 0)) := by
      rw [hW7]; exact ((((k26.other (Ne.symm n3) _).other (Ne.symm n3) _).other (Ne.symm n5) _).other (Ne.symm n5) _).drewd
    have hb7 : Below w.heap.size w W7 := by
      rw [hW7]; exact ((((hb6.setCell n6 _).setCell n6 _).setCell n7 _).setCell n7 _).drew
    clear hW7 kc6 kd6 k16 k26 hb6
    have c3 := kc7.c5
    have c4 := kd7.c5
    have x0 : IntKind.i64.wrap (a6 + a8) = a6 + a8 := IntWalk.i64_in _ (by omega)
    have x1 : IntKind.i64.wrap (a6 + a7 + a8) = a6 + a7 + a8 := IntWalk.i64_in _ (by omega)
    have x2 : IntKind.i64.wrap a8 = a8 := IntWalk.i64_in _ (by omega)
    refine wp_region_flow (fun w' => ∀ k o, k ≠ BC → k ≠ BD → Blk W7 k o → Blk w' k o) (by kernel_rfl) (by kernel_rfl) (fun k o _ _ hk => hk) ?_
    repeat (first | (apply wpS_on; rfl; rfl; (intro w' hS K hK; have hc0 := (hS _ _ (Ne.symm n2) (Ne.symm n4) k17).c5; have hc1 := (hS _ _ (Ne.symm n3) (Ne.symm n5) k27).c5; go_simp; exact hK.out); simp only [Act.put, List.setIfInBounds_toArray, List.set_cons_succ, List.set_cons_zero]) | (apply wpS_off; rfl; rfl; simp only [Act.put, List.setIfInBounds_toArray, List.set_cons_succ, List.set_cons_zero]) | (apply wpS_store; rfl; rfl; (intro K hK; go_simp; exact hK.out); (intro k o h1 h2 hk; repeat (first | (with_reducible exact hk) | (with_reducible apply Blk.drewd) | (with_reducible refine Blk.other (hne := h1) ?_ _) | (with_reducible refine Blk.other (hne := h2) ?_ _))); simp only [Act.put, List.setIfInBounds_toArray, List.set_cons_succ, List.set_cons_zero]))
    apply wpS_nil
    clear x0 x1 x2
    go_wp2_with fail
    clear c3 c4
    refine callGen (fun W8 hW8 => ?_)
    have kc8 : Blk W8 BC (.cells #[.int .i64 (a0 + a4), .int .i64 (a1 + a5), .int .i64 0, .int .i64 0, .int .i64 (a6 + a8)] 28 (0, 0)) := by
      rw [hW8]; exact ((kc7.set1 4 _ (by simp) rfl).other n1 _).drewd
    have kd8 : Blk W8 BD (.cells #[.int .i64 (a2 + a4), .int .i64 (a3 + a5), .int .i64 0, .int .i64 0, .int .i64 (a6 + a7 + a8)] 28 (0, 0)) := by
      rw [hW8]; exact ((kd7.other n1' _).set1 4 _ (by simp) rfl).drewd
    have k18 : Blk W8 w.heap.size (.cells #[.int .i64 a0, .int .i64 a1, .int .i64 0, .int .i64 0, .int .i64 a6] 28 (0, 0)) := by
      rw [hW8]; exact ((k17.other (Ne.symm n2) _).other (Ne.symm n4) _).drewd
    have k28 : Blk W8 (w.heap.size + 1) (.cells #[.int .i64 a2, .int .i64 a3, .int .i64 0, .int .i64 0, .int .i64 (a6 + a7)] 28 (0, 0)) := by
      rw [hW8]; exact ((k27.other (Ne.symm n3) _).other (Ne.symm n5) _).drewd
    have hb8 : Below w.heap.size w W8 := by
      rw [hW8]; exact ((hb7.setCell n6 _).setCell n7 _).drew
    clear hW8 kc7 kd7 k17 k27 hb7
    refine (speed_any _ _ _ _ _ _ _ _ _ _ _).mono ?_
    rintro e W9 ⟨rfl, hS⟩
    rw [spd_move a0 a1 a6 a2 a3 (a6 + a7) a4 a5 a8 h0 h1 h2 h3 h4 h5 h6 (by omega) h8]
    go_wp2_with fail
    go_ret
    exact ⟨ret_bool (by simp), hb8.trans (hS.mono hb8.size)⟩


set_option maxRecDepth 100000 in
theorem lifted (os : Os) (started : os.Started) (H : Type) (enc : TypeId × Value → H) :
    ReturnsInHanded {} Try.checked os 9 .any (Rows.dynamicsMovesSpec.pre6 enc Try.prog Try.f9 Rows.dynamicsMovesRow.domain false) (Rows.dynamicsMovesSpec.post enc Try.prog Try.f9 false true false false) := by
  refine returnsInHanded_of_change_sized (C := Try.checked) ownK started (by kernel_rfl) Try.func9
    (ChangeSpec.witness6 (enc := enc) (C := Try.checked) false ⟨#[], #[.int .i16 0, .int .i16 0, .int .i16 0, .int .i16 0, .int .i16 0, .int .i16 0, .int .u16 0, .int .u16 0, .int .u16 0], []⟩ 8 (by kernel_rfl) (by kernel_rfl) (by kernel_rfl) (by kernel_rfl)) ?_
  intro W base args ds gs before hval0 hW hcnd hsz0 _
  have hval : ∀ (j : Nat) t v, Try.f9.params[j]? = some t → args[j]? = some v → Value.okWide Try.prog W .any base t v := hval0
  have hW' := hW
  obtain ⟨p, q, hA0, hV, rfl, hfz, hnd⟩ := hW
  have hA : DataW.TrodAll enc Try.prog W 0 (fun _ => true) true Try.f9.params.toList args.toList ds p := hA0
  rw [Try.params9] at hA hval
  have hAll := hA
  obtain ⟨v0, vs0, d0, ds0, p0, q0, hargs, rfl, rfl, h0, r0⟩ := trodAll_cons hA
  obtain ⟨v1, vs1, d1, ds1, p1, q1, rfl, rfl, rfl, h1, r1⟩ := trodAll_cons r0
  obtain ⟨v2, vs2, d2, ds2, p2, q2, rfl, rfl, rfl, h2, r2⟩ := trodAll_cons r1
  obtain ⟨v3, vs3, d3, ds3, p3, q3, rfl, rfl, rfl, h3, r3⟩ := trodAll_cons r2
  obtain ⟨v4, vs4, d4, ds4, p4, q4, rfl, rfl, rfl, h4, r4⟩ := trodAll_cons r3
  obtain ⟨v5, vs5, d5, ds5, p5, q5, rfl, rfl, rfl, h5, r5⟩ := trodAll_cons r4
  obtain ⟨v6, vs6, d6, ds6, p6, q6, rfl, rfl, rfl, h6, r6⟩ := trodAll_cons r5
  obtain ⟨v7, vs7, d7, ds7, p7, q7, rfl, rfl, rfl, h7, r7⟩ := trodAll_cons r6
  obtain ⟨v8, vs8, d8, ds8, p8, q8, rfl, rfl, rfl, h8, r8⟩ := trodAll_cons r7
  obtain ⟨rfl, rfl, rfl⟩ := trodAll_nil r8
  obtain rfl : args = #[v0, v1, v2, v3, v4, v5, v6, v7, v8] := by cases args; simp_all
  obtain ⟨rfl, rfl⟩ := trodVars_none hV
  have hsz : (DataW.weightsEach Try.prog [44, 44, 44, 44, 44, 44, 45, 45, 45] [d0, d1, d2, d3, d4, d5, d6, d7, d8]).all (· ≤ reachBytes) = true := hsz0
  clear hA0 hval0 hsz0
  have hAll' : DataW.TrodAll enc Try.prog W 0 (fun _ => true) true [44, 44, 44, 44, 44, 44, 45, 45, 45] [v0, v1, v2, v3, v4, v5, v6, v7, v8] [d0, d1, d2, d3, d4, d5, d6, d7, d8] _ := hAll
  clear hAll
  have hargsBack : ∀ W' : World, Below W.heap.size W W' → DataW.TrodAll enc Try.prog W' 0 (fun b => decide (b < W.heap.size)) true [44, 44, 44, 44, 44, 44, 45, 45, 45] [v0, v1, v2, v3, v4, v5, v6, v7, v8] [d0, d1, d2, d3, d4, d5, d6, d7, d8] _ := fun W' bel => belowTrodAll laidK bel _ _ _ _ (by kernel_rfl) hAll'
  have hc : Calls Try.prog 9 #[v0, v1, v2, v3, v4, v5, v6, v7, v8] W fun e w' => e = .returned (.bool true) ∧ Below W.heap.size W w' := by
    clear hargsBack hAll' hW'
    obtain ⟨a0, rfl, rfl, rfl, w0⟩ := open_int Try.underlying44 (hval 0 44 v0 rfl rfl) h0
    obtain ⟨a1, rfl, rfl, rfl, w1⟩ := open_int Try.underlying44 (hval 1 44 v1 rfl rfl) h1
    obtain ⟨a2, rfl, rfl, rfl, w2⟩ := open_int Try.underlying44 (hval 2 44 v2 rfl rfl) h2
    obtain ⟨a3, rfl, rfl, rfl, w3⟩ := open_int Try.underlying44 (hval 3 44 v3 rfl rfl) h3
    obtain ⟨a4, rfl, rfl, rfl, w4⟩ := open_int Try.underlying44 (hval 4 44 v4 rfl rfl) h4
    obtain ⟨a5, rfl, rfl, rfl, w5⟩ := open_int Try.underlying44 (hval 5 44 v5 rfl rfl) h5
    obtain ⟨a6, rfl, rfl, rfl, w6⟩ := open_int Try.underlying45 (hval 6 45 v6 rfl rfl) h6
    obtain ⟨a7, rfl, rfl, rfl, w7⟩ := open_int Try.underlying45 (hval 7 45 v7 rfl rfl) h7
    obtain ⟨a8, rfl, rfl, rfl, w8⟩ := open_int Try.underlying45 (hval 8 45 v8 rfl rfl) h8
    exact walk a0 a1 a2 a3 a4 a5 a6 a7 a8 W w0 w1 w2 w3 w4 w5 w6 w7 w8
  refine hc.mono fun e W' ⟨he, bel⟩ => ?_
  subst he
  exact ⟨_, rfl, _, _, _, [], _, [], hW', trodAll_mk1 (shut_bool Try.underlying4 _), hargsBack W' bel, rfl, bel.frame _, fun h => by cases h⟩

theorem over : Rows.dynamicsMovesRow.holds Try.pinned (OpenSpec.ofChange Rows.dynamicsMovesSpec) :=
  OpenClaim.holds_of_wide 9 Try.f9 rfl rfl rfl rfl rfl rfl rfl ⟨rfl, rfl, rfl, rfl, rfl⟩ rfl rfl rfl rfl rfl (by kernel_rfl) Try.func9 (by kernel_rfl)
    (of_decide_eq_true (by kernel_rfl)) (by unfold Func.isWrapper; first | (rw [if_pos (by decide +kernel)]; kernel_rfl) | (rw [if_neg (by decide +kernel)]; exact ⟨rfl, rfl⟩))
    (fun os started H enc _ => lifted os started H enc)

theorem proved : Rows.DynamicsMovesSaid := over

end Go.Proofs.Ytnnginappckfcaa.dynamicsMoves
