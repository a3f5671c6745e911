/- dab.Tip, where it makes a mask (printed by gentip.py). -/
import Derived.Test.YtieacbccadbdbaaGreatDoorLDab
import Derived.Test.YtieacbccadbdbaaGreatDoorLKit
namespace Go.Proofs.YtieacbccadbdbaaGreatDoor
open Go.RowKit
set_option linter.unusedVariables false
attribute [local go_sem] Oper.gAt gUponK Oper.sAt stilK

set_option maxHeartbeats 16000000 in
set_option maxRecDepth 20000 in
theorem tip_own (B : Bru) (d : Dab) (X Y : Int) (W H : Nat) (u : Value) (w : World) (hs : Sines w) (h : Dn w u B.ds) (h0 : bchk B = 0) (hd : dOk d = true) (hv : rValid X Y W H = true) (hW : 0 < W ∧ W ≤ 256) (hH : 0 < H ∧ H ≤ 256) :
    Calls Tryz.prog 34 #[brv B u, dbv d, .agg #[.int .i64 X, .int .i64 Y, .int .i64 W, .int .i64 H]] w fun e w' => ∃ g n c, e = .returned (.tuple #[.agg #[.int .i64 W, .int .i64 H, .slice (some ⟨g, 0, none⟩) n c], .int .i64 0]) ∧ w.heap.size ≤ g ∧ Nn w' (.slice (some ⟨g, 0, none⟩) n c) (tipOut B d X Y W H) ∧ Below w.heap.size w w' := by
  have hb2 := hv
  unfold rValid at hb2
  rw [Bool.and_eq_true] at hb2
  have hx := rSpan_true' hb2.1
  have hy := rSpan_true' hb2.2
  have HD := Lib.hid h
  have HSn := Lib.hid hs
  obtain ⟨a, cap, rfl, _, _⟩ := h
  have CK := Lib.hid (fun w h => dabCheck_any B (.slice a B.ds.length cap) w h)
  rw [h0] at CK
  have VD := Lib.hid (fun w => dvalid_any d w)
  rw [hd] at VD
  have RV := Lib.hid (fun w => rvalid_any X Y W H w)
  have RE := Lib.hid (fun w => rempty_any X Y W H w hv)
  have hl := dOk_lim hd
  have CV := Lib.hid (fun x y w hs hx hy => covered_any B d x y a B.ds.length cap w hs (bbd_of h0) (hl ▸ lim_bd d) hx hy)
  have PX := Lib.hid (fun k j hj => tipAt_eq B d X Y W k j hj)
  have OL := Lib.hid (tipOut_len B d X Y W H)
  have OA := Lib.hid (tipOut_at B d X Y W H)
  have bE : ((W : Int) == 0 || (H : Int) == 0) = false := by simp; omega
  rw [hv] at RV
  rw [bE] at RE
  clear hs h0 hd hv bE hb2 hl
  have hWH : W * H ≤ 65536 := Nat.mul_le_mul hW.2 hH.2
  obtain ⟨n0, hn0⟩ : ∃ n0, W * H = n0 := ⟨_, rfl⟩
  rw [hn0] at hWH OL OA
  have hmul : (W : Int) * (H : Int) = (n0 : Int) := by rw [← hn0]; exact (Int.natCast_mul W H).symm
  have mk := fun w => makeInt n0 hWH w
  have hwr : IntKind.i64.wrap ((W : Int) * (H : Int)) = (n0 : Int) := by rw [hmul]; exact IntWalk.i64_in _ (by omega)
  have HN0 := Lib.hid hn0
  clear hmul hn0
  generalize tipOut B d X Y W H = out at *
  generalize tipAt B d X Y W = res at *
  generalize B.ds.length = nd at *
  simp only [rv] at *
  go_enter Tryz.func34, Tryz.ntmps34
  go_upto_region 1 with (fail)
  refine name4 (fun W1 k1 k2 k3 k4 hb => ?_)
  have c1 := k1.c16
  go_wp2_with fail
  clear c1
  refine (CK.out _ (HD.out.kept hb)).mono ?_
  rintro e W2 ⟨rfl, hS⟩
  replace k1 := k1.kept hS
  replace k2 := k2.kept hS
  replace k3 := k3.kept hS
  replace k4 := k4.kept hS
  replace hb := hb.trans (hS.mono hb.size)
  clear hS
  have c2 := k2.c5
  go_wp2_with fail
  clear c2
  refine (VD.out _).mono ?_
  rintro e W3 ⟨rfl, hS⟩
  replace k1 := k1.kept hS
  replace k2 := k2.kept hS
  replace k3 := k3.kept hS
  replace k4 := k4.kept hS
  replace hb := hb.trans (hS.mono hb.size)
  clear hS
  have c3 := k3.c4
  go_wp2_with fail
  clear c3
  refine (RV.out _).mono ?_
  rintro e W4 ⟨rfl, hS⟩
  replace k1 := k1.kept hS
  replace k2 := k2.kept hS
  replace k3 := k3.kept hS
  replace k4 := k4.kept hS
  replace hb := hb.trans (hS.mono hb.size)
  clear hS
  have c3 := k3.c4
  have w1 : ¬ (256 : Int) < (W : Int) := by omega
  have w2 : ¬ (256 : Int) < (H : Int) := by omega
  go_wp2_with fail
  clear c3
  refine (RE.out _).mono ?_
  rintro e W5 ⟨rfl, hS⟩
  replace k1 := k1.kept hS
  replace k2 := k2.kept hS
  replace k3 := k3.kept hS
  replace k4 := k4.kept hS
  replace hb := hb.trans (hS.mono hb.size)
  clear hS
  have c3 := k3.c4
  have hl3 := k3.lt
  have hl2 := k2.lt
  have hl1 := k1.lt
  have hl3b : w.heap.size + 1 + 1 < W5.heap.size + 1 := by omega
  have hl4 := k4.lt
  go_wp2_with fail
  go_region
  all_goals go_upto_region 11 with (fail)
  all_goals clear c3 mk
  · refine name2d (fun W6 kr ko hS => ?_)
    replace k1 := k1.kept hS
    replace k2 := k2.kept hS
    replace k3 := k3.kept hS
    replace k4 := k4.kept hS
    replace hb := hb.trans (hS.mono hb.size)
    clear hS
    have row := rowI_start (r := res) kr
    clear kr
    obtain ⟨g, hg⟩ : ∃ g, g = W5.heap.size := ⟨_, rfl⟩
    obtain ⟨x, hx0⟩ : ∃ x, x = W5.heap.size + 1 := ⟨_, rfl⟩
    rw [← hg] at row
    rw [← hx0, ← hg] at ko
    rw [← hx0, ← hg]
    have g0 : w.heap.size + 1 + 1 + 1 < g := by omega
    have g5 : w.heap.size + 1 + 1 + 1 < x := by omega
    have g2 : x ≠ g := by omega
    clear hg hx0 hl1 hl2 hl3 hl3b hl4 CK VD RV RE
    have c3 := k3.c4
    go_wp2_with fail
    clear c3
    go_loopw [52] (fun i wr => ∃ k : Nat, k ≤ H ∧ i = .int .i64 k ∧ RowI wr g n0 (fun i => if i < k * W then res i else 0) ∧ Blk wr x (.cells #[.int .i64 W, .int .i64 H, .slice (some ⟨g, 0, none⟩) n0 n0] 35 (0, 0)) ∧ Blk wr w.heap.size (.cells #[.int .i64 B.sz, .int .i64 B.hd, .int .i64 B.rn, .int .i64 B.fl, .int .i64 B.op, .int .i64 B.sp, .int .i64 B.an, .int .i64 B.sc, .int .i64 B.md, .int .i64 B.r, .int .i64 B.g, .int .i64 B.b, .int .i64 B.a, .int .i64 B.sd, .slice a nd cap, .bool B.er] 29 (0, 0)) ∧ Blk wr (w.heap.size + 1) (.cells #[.int .i64 d.x, .int .i64 d.y, .int .i64 d.sz, .int .i64 d.fl, .int .i64 d.an] 64 (0, 0)) ∧ Blk wr (w.heap.size + 1 + 1) (.cells #[.int .i64 X, .int .i64 Y, .int .i64 W, .int .i64 H] 45 (0, 0)) ∧ Blk wr (w.heap.size + 1 + 1 + 1) (.cells #[.int .i64 0, .int .i64 0, .slice none 0 0] 35 (0, 0)) ∧ Below w.heap.size w wr) (fun i _ => H - (intOf i).toNat)
    case atStart => exact ⟨0, Nat.zero_le _, rfl, by rw [Nat.zero_mul]; exact row, ko, k1, k2, k3, k4, hb⟩
    case round =>
      clear row ko k1 k2 k3 k4 hb
      obtain ⟨k, hk, rfl, row, ko, k1, k2, k3, k4, hb⟩ := hrel
      by_cases hlt : k < H
      · have c3 := k3.c4
        go_wp2_with fail
        clear c3
        obtain ⟨wo, hwo⟩ : ∃ wo, wo = wr := ⟨_, rfl⟩
        have hkW : k * W + W ≤ n0 := by
          have := Nat.mul_le_mul_right W (show k + 1 ≤ H by omega)
          rw [Nat.add_mul, Nat.one_mul, Nat.mul_comm H W, HN0.out] at this
          exact this
        go_loopw [57] (fun i wr => ∃ j : Nat, j ≤ W ∧ i = .int .i64 j ∧ RowI wr g n0 (fun i => if i < k * W + j then res i else 0) ∧ Blk wr x (.cells #[.int .i64 W, .int .i64 H, .slice (some ⟨g, 0, none⟩) n0 n0] 35 (0, 0)) ∧ Blk wr w.heap.size (.cells #[.int .i64 B.sz, .int .i64 B.hd, .int .i64 B.rn, .int .i64 B.fl, .int .i64 B.op, .int .i64 B.sp, .int .i64 B.an, .int .i64 B.sc, .int .i64 B.md, .int .i64 B.r, .int .i64 B.g, .int .i64 B.b, .int .i64 B.a, .int .i64 B.sd, .slice a nd cap, .bool B.er] 29 (0, 0)) ∧ Blk wr (w.heap.size + 1) (.cells #[.int .i64 d.x, .int .i64 d.y, .int .i64 d.sz, .int .i64 d.fl, .int .i64 d.an] 64 (0, 0)) ∧ Blk wr (w.heap.size + 1 + 1) (.cells #[.int .i64 X, .int .i64 Y, .int .i64 W, .int .i64 H] 45 (0, 0)) ∧ Blk wr (w.heap.size + 1 + 1 + 1) (.cells #[.int .i64 0, .int .i64 0, .slice none 0 0] 35 (0, 0)) ∧ Below w.heap.size w wr) (fun i _ => W - (intOf i).toNat)
        case atStart => exact ⟨0, Nat.zero_le _, rfl, row, ko, k1, k2, k3, k4, hb⟩
        case round =>
          clear row ko k1 k2 k3 k4 hb hwo
          obtain ⟨j, hj, rfl, row, ko, k1, k2, k3, k4, hb⟩ := hrel
          by_cases hjl : j < W
          · have C1 := Lib.hid (fun w h => CV.out (X + (j : Int)) (Y + (k : Int)) w h (by omega) (by omega))
            have HP := Lib.hid (PX.out k j hjl)
            generalize cvr B d (X + (j : Int)) (Y + (k : Int)) = T at *
            obtain ⟨kw, hkw⟩ : ∃ kw, k * W = kw := ⟨_, rfl⟩
            obtain ⟨idx, hie⟩ : ∃ idx, kw + j = idx := ⟨_, rfl⟩
            rw [hkw, hie] at HP
            rw [hkw] at hkW row
            rw [hie] at row
            have hidx : idx < n0 := by omega
            have RN := Lib.hid (fun w (h : RowI w g n0 (fun i => if i < idx then res i else 0)) => h.next hidx)
            rw [HP.out] at RN
            have RC := Lib.hid (fun w (h : RowI w g n0 (fun i => if i < idx then res i else 0)) => h.c idx hidx)
            simp only [Nat.lt_irrefl, if_false] at RC
            have m1 : IntKind.i64.wrap ((k : Int) * (W : Int)) = (kw : Int) := by rw [← hkw, ← Int.natCast_mul]; exact IntWalk.i64_in _ (by omega)
            have m2 : IntKind.i64.wrap ((kw : Int) + (j : Int)) = (idx : Int) := by rw [← hie, Int.natCast_add]; exact IntWalk.i64_in _ (by omega)
            have m3 : IntKind.i64.wrap (X + (j : Int)) = X + (j : Int) := IntWalk.i64_in _ (by omega)
            have m4 : IntKind.i64.wrap (Y + (k : Int)) = Y + (k : Int) := IntWalk.i64_in _ (by omega)
            have i1 : (0 : Int) ≤ (idx : Int) := by omega
            have i2 : (idx : Int) < (n0 : Int) := by omega
            have HKW := Lib.hid hkw
            have HIE := Lib.hid hie
            clear hkw hie
            go_upto_region 17 with (fail)
            refine wp_region_grow 19 (fun w' => Below (World.heap wr).size wr w') (by kernel_rfl) (by kernel_rfl) (Below.refl _ _).drew ?_
            simp only [List.take_succ_cons, List.take_zero, List.drop_succ_cons, List.drop_zero]
            repeat (first | (apply wpG_on; rfl; (intro w' hS K hK; have hc0 := (ko.kept hS).c3; have hc1 := (k1.kept hS).c16; have hc2 := (k2.kept hS).c5; have hc3 := (k3.kept hS).c4; have hc4 := (k4.kept hS).c3; have hc5 := (row.kept hS).lt; go_simp; (first | exact hK.out _ hS | (go_at_call 78; (with_reducible refine (C1.out _ (HSn.out.kept (hb.trans (hS.mono hb.size)))).mono ?_); rintro e w'' ⟨rfl, hbb⟩; exact ⟨_, rfl, hK.out _ (hS.trans (hbb.mono hS.size))⟩))); simp only [Act.put, List.setIfInBounds_toArray, List.set_cons_succ, List.set_cons_zero]) | (apply wpG_off; rfl; simp only [Act.put, List.setIfInBounds_toArray, List.set_cons_succ, List.set_cons_zero]))
            apply wpG_nil
            intro W7 hS
            replace ko := ko.kept hS
            replace k1 := k1.kept hS
            replace k2 := k2.kept hS
            replace k3 := k3.kept hS
            replace k4 := k4.kept hS
            replace row := row.kept hS
            replace hb := hb.trans (hS.mono hb.size)
            clear hS
            clear m1 m2 m3 m4
            have cr := RC.out _ row
            go_wp2_with fail
            go_roundw
            case rel => exact ⟨j + 1, by omega, by go_num, (by have := RN.out _ row; rw [← HIE.out, ← HKW.out] at this ⊢; exact this), ko.other g2 _, k1.other (by simp; omega) _, k2.other (by simp; omega) _, k3.other (by simp; omega) _, k4.other (by simp; omega) _, hb.setCell (by simp; omega) _⟩
            case measure => simp only [intOf]; omega
          · obtain rfl : j = W := by omega
            go_wp2_with fail
            go_roundw
            case rel => exact ⟨k + 1, by omega, by go_num, by rw [Nat.add_mul, Nat.one_mul]; exact row, ko, k1, k2, k3, k4, hb⟩
            case measure => simp only [intOf]; omega
      · obtain rfl : k = H := by omega
        have co := ko.c3
        have c4 := k4.c3
        go_wp2_with fail
        clear co
        have PN : Hid (∀ w', RowI w' g n0 (fun i => if i < k * W then res i else 0) → Nn w' (.slice (some ⟨g, 0, none⟩) n0 n0) out) := fun w' h => h.nn OL.out (by omega) (fun i hi => by rw [OA.out i hi, if_pos (by rw [Nat.mul_comm, HN0.out]; exact hi)])
        refine bodyPost_ret (v := .tuple #[.agg #[.int .i64 W, .int .i64 k, .slice (some ⟨g, 0, none⟩) n0 n0], .int .i64 0]) (by simp [results, Tryz.results34, go_sem, c4]) rfl ⟨g, n0, n0, rfl, by omega, PN.out _ (((row.other (by simp; omega) _).other (by simp; omega) _).other (by simp; omega) _), ((hb.setCell (by simp; omega) _).setCell (by simp; omega) _).setCell (by simp; omega) _⟩
  · refine name2d (fun W6 ko kr hS => ?_)
    replace k1 := k1.kept hS
    replace k2 := k2.kept hS
    replace k3 := k3.kept hS
    replace k4 := k4.kept hS
    replace hb := hb.trans (hS.mono hb.size)
    clear hS
    have row := rowI_start (r := res) kr
    clear kr
    obtain ⟨g, hg⟩ : ∃ g, g = W5.heap.size + 1 := ⟨_, rfl⟩
    obtain ⟨x, hx0⟩ : ∃ x, x = W5.heap.size := ⟨_, rfl⟩
    rw [← hg] at row
    rw [← hg, ← hx0] at ko
    rw [← hg, ← hx0]
    have g0 : w.heap.size + 1 + 1 + 1 < g := by omega
    have g5 : w.heap.size + 1 + 1 + 1 < x := by omega
    have g2 : x ≠ g := by omega
    clear hg hx0 hl1 hl2 hl3 hl3b hl4 CK VD RV RE
    have c3 := k3.c4
    go_wp2_with fail
    clear c3
    go_loopw [52] (fun i wr => ∃ k : Nat, k ≤ H ∧ i = .int .i64 k ∧ RowI wr g n0 (fun i => if i < k * W then res i else 0) ∧ Blk wr x (.cells #[.int .i64 W, .int .i64 H, .slice (some ⟨g, 0, none⟩) n0 n0] 35 (0, 0)) ∧ Blk wr w.heap.size (.cells #[.int .i64 B.sz, .int .i64 B.hd, .int .i64 B.rn, .int .i64 B.fl, .int .i64 B.op, .int .i64 B.sp, .int .i64 B.an, .int .i64 B.sc, .int .i64 B.md, .int .i64 B.r, .int .i64 B.g, .int .i64 B.b, .int .i64 B.a, .int .i64 B.sd, .slice a nd cap, .bool B.er] 29 (0, 0)) ∧ Blk wr (w.heap.size + 1) (.cells #[.int .i64 d.x, .int .i64 d.y, .int .i64 d.sz, .int .i64 d.fl, .int .i64 d.an] 64 (0, 0)) ∧ Blk wr (w.heap.size + 1 + 1) (.cells #[.int .i64 X, .int .i64 Y, .int .i64 W, .int .i64 H] 45 (0, 0)) ∧ Blk wr (w.heap.size + 1 + 1 + 1) (.cells #[.int .i64 0, .int .i64 0, .slice none 0 0] 35 (0, 0)) ∧ Below w.heap.size w wr) (fun i _ => H - (intOf i).toNat)
    case atStart => exact ⟨0, Nat.zero_le _, rfl, by rw [Nat.zero_mul]; exact row, ko, k1, k2, k3, k4, hb⟩
    case round =>
      clear row ko k1 k2 k3 k4 hb
      obtain ⟨k, hk, rfl, row, ko, k1, k2, k3, k4, hb⟩ := hrel
      by_cases hlt : k < H
      · have c3 := k3.c4
        go_wp2_with fail
        clear c3
        obtain ⟨wo, hwo⟩ : ∃ wo, wo = wr := ⟨_, rfl⟩
        have hkW : k * W + W ≤ n0 := by
          have := Nat.mul_le_mul_right W (show k + 1 ≤ H by omega)
          rw [Nat.add_mul, Nat.one_mul, Nat.mul_comm H W, HN0.out] at this
          exact this
        go_loopw [57] (fun i wr => ∃ j : Nat, j ≤ W ∧ i = .int .i64 j ∧ RowI wr g n0 (fun i => if i < k * W + j then res i else 0) ∧ Blk wr x (.cells #[.int .i64 W, .int .i64 H, .slice (some ⟨g, 0, none⟩) n0 n0] 35 (0, 0)) ∧ Blk wr w.heap.size (.cells #[.int .i64 B.sz, .int .i64 B.hd, .int .i64 B.rn, .int .i64 B.fl, .int .i64 B.op, .int .i64 B.sp, .int .i64 B.an, .int .i64 B.sc, .int .i64 B.md, .int .i64 B.r, .int .i64 B.g, .int .i64 B.b, .int .i64 B.a, .int .i64 B.sd, .slice a nd cap, .bool B.er] 29 (0, 0)) ∧ Blk wr (w.heap.size + 1) (.cells #[.int .i64 d.x, .int .i64 d.y, .int .i64 d.sz, .int .i64 d.fl, .int .i64 d.an] 64 (0, 0)) ∧ Blk wr (w.heap.size + 1 + 1) (.cells #[.int .i64 X, .int .i64 Y, .int .i64 W, .int .i64 H] 45 (0, 0)) ∧ Blk wr (w.heap.size + 1 + 1 + 1) (.cells #[.int .i64 0, .int .i64 0, .slice none 0 0] 35 (0, 0)) ∧ Below w.heap.size w wr) (fun i _ => W - (intOf i).toNat)
        case atStart => exact ⟨0, Nat.zero_le _, rfl, row, ko, k1, k2, k3, k4, hb⟩
        case round =>
          clear row ko k1 k2 k3 k4 hb hwo
          obtain ⟨j, hj, rfl, row, ko, k1, k2, k3, k4, hb⟩ := hrel
          by_cases hjl : j < W
          · have C1 := Lib.hid (fun w h => CV.out (X + (j : Int)) (Y + (k : Int)) w h (by omega) (by omega))
            have HP := Lib.hid (PX.out k j hjl)
            generalize cvr B d (X + (j : Int)) (Y + (k : Int)) = T at *
            obtain ⟨kw, hkw⟩ : ∃ kw, k * W = kw := ⟨_, rfl⟩
            obtain ⟨idx, hie⟩ : ∃ idx, kw + j = idx := ⟨_, rfl⟩
            rw [hkw, hie] at HP
            rw [hkw] at hkW row
            rw [hie] at row
            have hidx : idx < n0 := by omega
            have RN := Lib.hid (fun w (h : RowI w g n0 (fun i => if i < idx then res i else 0)) => h.next hidx)
            rw [HP.out] at RN
            have RC := Lib.hid (fun w (h : RowI w g n0 (fun i => if i < idx then res i else 0)) => h.c idx hidx)
            simp only [Nat.lt_irrefl, if_false] at RC
            have m1 : IntKind.i64.wrap ((k : Int) * (W : Int)) = (kw : Int) := by rw [← hkw, ← Int.natCast_mul]; exact IntWalk.i64_in _ (by omega)
            have m2 : IntKind.i64.wrap ((kw : Int) + (j : Int)) = (idx : Int) := by rw [← hie, Int.natCast_add]; exact IntWalk.i64_in _ (by omega)
            have m3 : IntKind.i64.wrap (X + (j : Int)) = X + (j : Int) := IntWalk.i64_in _ (by omega)
            have m4 : IntKind.i64.wrap (Y + (k : Int)) = Y + (k : Int) := IntWalk.i64_in _ (by omega)
            have i1 : (0 : Int) ≤ (idx : Int) := by omega
            have i2 : (idx : Int) < (n0 : Int) := by omega
            have HKW := Lib.hid hkw
            have HIE := Lib.hid hie
            clear hkw hie
            go_upto_region 17 with (fail)
            refine wp_region_grow 19 (fun w' => Below (World.heap wr).size wr w') (by kernel_rfl) (by kernel_rfl) (Below.refl _ _).drew ?_
            simp only [List.take_succ_cons, List.take_zero, List.drop_succ_cons, List.drop_zero]
            repeat (first | (apply wpG_on; rfl; (intro w' hS K hK; have hc0 := (ko.kept hS).c3; have hc1 := (k1.kept hS).c16; have hc2 := (k2.kept hS).c5; have hc3 := (k3.kept hS).c4; have hc4 := (k4.kept hS).c3; have hc5 := (row.kept hS).lt; go_simp; (first | exact hK.out _ hS | (go_at_call 78; (with_reducible refine (C1.out _ (HSn.out.kept (hb.trans (hS.mono hb.size)))).mono ?_); rintro e w'' ⟨rfl, hbb⟩; exact ⟨_, rfl, hK.out _ (hS.trans (hbb.mono hS.size))⟩))); simp only [Act.put, List.setIfInBounds_toArray, List.set_cons_succ, List.set_cons_zero]) | (apply wpG_off; rfl; simp only [Act.put, List.setIfInBounds_toArray, List.set_cons_succ, List.set_cons_zero]))
            apply wpG_nil
            intro W7 hS
            replace ko := ko.kept hS
            replace k1 := k1.kept hS
            replace k2 := k2.kept hS
            replace k3 := k3.kept hS
            replace k4 := k4.kept hS
            replace row := row.kept hS
            replace hb := hb.trans (hS.mono hb.size)
            clear hS
            clear m1 m2 m3 m4
            have cr := RC.out _ row
            go_wp2_with fail
            go_roundw
            case rel => exact ⟨j + 1, by omega, by go_num, (by have := RN.out _ row; rw [← HIE.out, ← HKW.out] at this ⊢; exact this), ko.other g2 _, k1.other (by simp; omega) _, k2.other (by simp; omega) _, k3.other (by simp; omega) _, k4.other (by simp; omega) _, hb.setCell (by simp; omega) _⟩
            case measure => simp only [intOf]; omega
          · obtain rfl : j = W := by omega
            go_wp2_with fail
            go_roundw
            case rel => exact ⟨k + 1, by omega, by go_num, by rw [Nat.add_mul, Nat.one_mul]; exact row, ko, k1, k2, k3, k4, hb⟩
            case measure => simp only [intOf]; omega
      · obtain rfl : k = H := by omega
        have co := ko.c3
        have c4 := k4.c3
        go_wp2_with fail
        clear co
        have PN : Hid (∀ w', RowI w' g n0 (fun i => if i < k * W then res i else 0) → Nn w' (.slice (some ⟨g, 0, none⟩) n0 n0) out) := fun w' h => h.nn OL.out (by omega) (fun i hi => by rw [OA.out i hi, if_pos (by rw [Nat.mul_comm, HN0.out]; exact hi)])
        refine bodyPost_ret (v := .tuple #[.agg #[.int .i64 W, .int .i64 k, .slice (some ⟨g, 0, none⟩) n0 n0], .int .i64 0]) (by simp [results, Tryz.results34, go_sem, c4]) rfl ⟨g, n0, n0, rfl, by omega, PN.out _ (((row.other (by simp; omega) _).other (by simp; omega) _).other (by simp; omega) _), ((hb.setCell (by simp; omega) _).setCell (by simp; omega) _).setCell (by simp; omega) _⟩

theorem tip_good (B : Bru) (d : Dab) (X Y : Int) (W H : Nat) (u : Value) (w : World) (hs : Sines w) (h : Dn w u B.ds) (h0 : bchk B = 0) (hd : dOk d = true) (hv : rValid X Y W H = true) (hW : 0 < W ∧ W ≤ 256) (hH : 0 < H ∧ H ≤ 256) :
    Calls Tryz.prog 34 #[brv B u, dbv d, .agg #[.int .i64 X, .int .i64 Y, .int .i64 W, .int .i64 H]] w fun e w' => ∃ q, e = .returned (.tuple #[.agg #[.int .i64 W, .int .i64 H, q], .int .i64 0]) ∧ Nn w' q (tipOut B d X Y W H) ∧ Below w.heap.size w w' := by
  refine (tip_own B d X Y W H u w hs h h0 hd hv hW hH).mono ?_
  rintro e w' ⟨g, n, c, rfl, _, hq, hb⟩
  exact ⟨_, rfl, hq, hb⟩
end Go.Proofs.YtieacbccadbdbaaGreatDoor

