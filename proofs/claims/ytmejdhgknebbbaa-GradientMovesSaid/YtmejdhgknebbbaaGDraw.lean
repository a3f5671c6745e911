/- gradient.Draw, where it draws (printed by gengdraw.py). -/
import Derived.Test.YtmejdhgknebbbaaGColorR
import Derived.Test.YtmejdhgknebbbaaGRect
import Derived.Test.YtmejdhgknebbbaaRow
namespace Go.Proofs.Ytmejdhgknebbbaa
open Go.RowKit
set_option linter.unusedVariables false
attribute [local go_sem] Oper.gAt gUponK Oper.sAt stilK

/-- A pixel of the drawn image. -/
def drPx (kind : Int) (zs : List Int) (spread : Int) (ss : List St) (X Y : Int) (W : Nat) (i : Nat) : Px := gcol ss (gPlace kind zs spread (X + ((i % W : Nat) : Int)) (Y + ((i / W : Nat) : Int)))
def drOut (kind : Int) (zs : List Int) (spread : Int) (ss : List St) (X Y : Int) (W H : Nat) : List Px := (List.range (W * H)).map (drPx kind zs spread ss X Y W)
theorem drOut_len (kind : Int) (zs : List Int) (spread : Int) (ss : List St) (X Y : Int) (W H : Nat) : (drOut kind zs spread ss X Y W H).length = W * H := by simp [drOut]
theorem drOut_at (kind : Int) (zs : List Int) (spread : Int) (ss : List St) (X Y : Int) (W H : Nat) (i : Nat) (hi : i < W * H) : pxAt (drOut kind zs spread ss X Y W H) i = drPx kind zs spread ss X Y W i := by
  simp [pxAt, drOut, List.getD, hi]
theorem gChk_zero {kind spread : Int} {zs : List Int} {ss : List St} (h : gChk kind zs spread ss = 0) : gOk kind zs spread = true ∧ gStops ss = 0 ∧ 0 < ss.length ∧ sStops ss = 0 := by
  unfold gChk at h
  split at h
  · rename_i h0; exact absurd h h0
  · rename_i h0
    split at h
    · cases h
    · rename_i n0
      split at h
      · cases h
      · rename_i n1
        split at h
        · rename_i h1; exact absurd h h1
        · rename_i h1
          have e0 : gHead kind zs.length spread = 0 := by simpa using h0
          have e1 : gNum kind zs = 0 := by simpa using h1
          refine ⟨by unfold gOk; simp [e0, e1], by unfold gStops; rw [if_neg n0, if_neg n1]; exact h, by omega, h⟩
theorem rSpan_true {x w : Int} (h : rSpan x w = true) : -1048576 ≤ x ∧ x ≤ 1048576 ∧ 0 ≤ w ∧ w ≤ 1048576 - x := of_decide_eq_true h
theorem cc_id (x : Int) (h : -1048576 ≤ x ∧ x ≤ 1048576) : cc x = x := by unfold cc; omega
/-- What the program computes for one pixel. -/
theorem drPx_eq {kind spread : Int} {zs : List Int} {ss : List St} (hok : gOk kind zs spread = true) (hs : gStops ss = 0) (X Y : Int) (W k j : Nat) (hj : j < W) (hx : -1048576 ≤ X + (j : Int) ∧ X + (j : Int) ≤ 1048576) (hy : -1048576 ≤ Y + (k : Int) ∧ Y + (k : Int) ≤ 1048576) :
    drPx kind zs spread ss X Y W (k * W + j) = colF (sc ss (fol spread (gRaw kind zs (X + (j : Int)) (Y + (k : Int)))) ss.length) := by
  have e1 : (k * W + j) % W = j := by rw [Nat.mul_comm, Nat.mul_add_mod]; exact Nat.mod_eq_of_lt hj
  have e2 : (k * W + j) / W = k := by rw [Nat.mul_comm, Nat.mul_add_div (by omega)]; rw [Nat.div_eq_of_lt hj]; omega
  unfold drPx
  rw [e1, e2]
  have e3 : gPlace kind zs spread (X + (j : Int)) (Y + (k : Int)) = fol spread (gRaw kind zs (X + (j : Int)) (Y + (k : Int))) := by
    unfold gPlace
    rw [if_pos hok, cc_id _ hx, cc_id _ hy]
  rw [e3]
  have hb := fol_bd spread (gRaw kind zs (X + (j : Int)) (Y + (k : Int)))
  unfold gcol
  rw [if_pos hs, cl_id _ hb.1 hb.2]

set_option maxHeartbeats 16000000 in
set_option maxRecDepth 20000 in
theorem draw_good (kind spread X Y : Int) (W H : Nat) (v u : Value) (zs : List Int) (ss : List St) (w : World) (h : Nn w v zs) (hs : Sn w u ss) (h0 : gChk kind zs spread ss = 0) (hv : rValid X Y W H = true) (hW : 0 < W ∧ W ≤ 256) (hH : 0 < H ∧ H ≤ 256) :
    Calls Try.prog 18 #[.int .i64 kind, v, .int .i64 spread, u, rv X Y W H] w fun e w' => ∃ q, e = .returned (.tuple #[.agg #[.int .i64 W, .int .i64 H, q], .int .i64 0]) ∧ Pn w' q (drOut kind zs spread ss X Y W H) ∧ Below w.heap.size w w' := by
  obtain ⟨g1, g2, g3, g4⟩ := gChk_zero h0
  have hb2 := hv
  unfold rValid at hb2
  rw [Bool.and_eq_true] at hb2
  have hx := rSpan_true hb2.1
  have hy := rSpan_true hb2.2
  have CK := Lib.hid (fun w h hs => Check_any kind spread v u zs ss w h hs)
  have RV := Lib.hid (fun w => rvalid_any X Y W H w)
  have RE := Lib.hid (fun w => rempty_any X Y W H w hv)
  have PL := Lib.hid (fun x y w h hx hy => place_any kind spread x y v zs w h g1 hx hy)
  have CL := Lib.hid (fun t w h ht => color_any u ss t w h g4 g3 ht)
  have FB := Lib.hid (fun t => fol_bd spread t)
  have PX := Lib.hid (fun k j hj hx hy => drPx_eq g1 g2 X Y W k j hj hx hy)
  have HN := Lib.hid h
  have HS := Lib.hid hs
  have OL := Lib.hid (drOut_len kind zs spread ss X Y W H)
  have OA := Lib.hid (drOut_at kind zs spread ss X Y W H)
  have H0 := Lib.hid h0
  have bE : ((W : Int) == 0 || (H : Int) == 0) = false := by simp; omega
  rw [hv] at RV
  rw [bE] at RE
  clear h hs h0 hv bE g1 g2 g4 hb2
  obtain ⟨a, cap, rfl, hlen⟩ := HN.out.slice
  obtain ⟨a', cap', rfl, hlen'⟩ := HS.out.slice
  have hWH : W * H ≤ 65536 := Nat.mul_le_mul hW.2 hH.2
  obtain ⟨n0, hn0⟩ : ∃ n0, W * H = n0 := ⟨_, rfl⟩
  rw [hn0] at hWH OL OA
  have hmul : (W : Int) * (H : Int) = (n0 : Int) := by rw [← hn0]; exact (Int.natCast_mul W H).symm
  have mk := fun w => makePix n0 hWH w
  have hwr : IntKind.i64.wrap ((W : Int) * (H : Int)) = (n0 : Int) := by rw [hmul]; exact IntWalk.i64_in _ (by omega)
  have HN0 := Lib.hid hn0
  clear hmul hn0
  generalize drOut kind zs spread ss X Y W H = out at *
  generalize drPx kind zs spread ss X Y W = res at *
  generalize zs.length = n1 at *
  generalize ss.length = n2 at *
  simp only [rv] at *
  go_enter Try.func18, Try.ntmps18
  go_upto_region 1 with (fail)
  refine name2 (fun W1 k9 k10 hb => ?_)
  go_wp2_with fail
  refine (CK.out _ (HN.out.kept hb) (HS.out.kept hb)).mono ?_
  rintro e W2 ⟨rfl, hS⟩
  rw [H0.out]
  replace k9 := k9.kept hS
  replace k10 := k10.kept hS
  replace hb := hb.trans (hS.mono hb.size)
  clear hS
  have c9 := k9.c4
  go_wp2_with fail
  clear c9
  refine (RV.out _).mono ?_
  rintro e W3 ⟨rfl, hS⟩
  replace k9 := k9.kept hS
  replace k10 := k10.kept hS
  replace hb := hb.trans (hS.mono hb.size)
  clear hS
  have c9 := k9.c4
  have w1 : ¬ (256 : Int) < (W : Int) := by omega
  have w2 : ¬ (256 : Int) < (H : Int) := by omega
  go_wp2_with fail
  clear c9
  refine (RE.out _).mono ?_
  rintro e W4 ⟨rfl, hS⟩
  replace k9 := k9.kept hS
  replace k10 := k10.kept hS
  replace hb := hb.trans (hS.mono hb.size)
  clear hS
  have c9 := k9.c4
  have hl9 := k9.lt
  have hl10 := k10.lt
  go_wp2_with fail
  go_region
  all_goals go_upto_region 11 with (fail)
  all_goals clear c9 mk
  · refine name2d (fun W5 kr ko hS => ?_)
    replace k9 := k9.kept hS
    replace k10 := k10.kept hS
    replace hb := hb.trans (hS.mono hb.size)
    have row := row_start (r := res) kr
    clear hS kr H0
    obtain ⟨g, hg⟩ : ∃ g, g = W4.heap.size := ⟨_, rfl⟩
    obtain ⟨x, hx0⟩ : ∃ x, x = W4.heap.size + 1 := ⟨_, rfl⟩
    rw [← hg] at row
    rw [← hx0, ← hg] at ko
    rw [← hx0, ← hg]
    have g0 : w.heap.size + 1 < g := by omega
    have g5 : w.heap.size + 1 < x := by omega
    have g2 : x ≠ g := by omega
    clear hg hx0 hl9 hl10
    have c9 := k9.c4
    go_wp2_with fail
    clear c9
    go_loopw [55] (fun i wr => ∃ k : Nat, k ≤ H ∧ i = .int .i64 k ∧ Row wr g n0 (fun i => if i < k * W then res i else (0, 0, 0, 0)) ∧ Blk wr x (.cells #[.int .i64 W, .int .i64 H, .slice (some ⟨g, 0, none⟩) n0 n0] 37 (0, 0)) ∧ Blk wr w.heap.size (.cells #[.int .i64 X, .int .i64 Y, .int .i64 W, .int .i64 H] 34 (0, 0)) ∧ Blk wr (w.heap.size + 1) (.cells #[.int .i64 0, .int .i64 0, .slice none 0 0] 37 (0, 0)) ∧ Below w.heap.size w wr) (fun i _ => H - (intOf i).toNat)
    case atStart => exact ⟨0, Nat.zero_le _, rfl, by rw [Nat.zero_mul]; exact row, ko, k9, k10, hb⟩
    case round =>
      clear row ko k9 k10 hb
      obtain ⟨k, hk, rfl, row, ko, k9, k10, hb⟩ := hrel
      by_cases hlt : k < H
      · have c9 := k9.c4
        go_wp2_with fail
        clear c9
        obtain ⟨wo, hwo⟩ : ∃ wo, wo = wr := ⟨_, rfl⟩
        have hkW : k * W + W ≤ n0 := by
          have := Nat.mul_le_mul_right W (show k + 1 ≤ H by omega)
          rw [Nat.add_mul, Nat.one_mul, Nat.mul_comm H W, HN0.out] at this
          exact this
        go_loopw [60] (fun i wr => ∃ j : Nat, j ≤ W ∧ i = .int .i64 j ∧ Row wr g n0 (fun i => if i < k * W + j then res i else (0, 0, 0, 0)) ∧ Blk wr x (.cells #[.int .i64 W, .int .i64 H, .slice (some ⟨g, 0, none⟩) n0 n0] 37 (0, 0)) ∧ Blk wr w.heap.size (.cells #[.int .i64 X, .int .i64 Y, .int .i64 W, .int .i64 H] 34 (0, 0)) ∧ Blk wr (w.heap.size + 1) (.cells #[.int .i64 0, .int .i64 0, .slice none 0 0] 37 (0, 0)) ∧ Below w.heap.size w wr) (fun i _ => W - (intOf i).toNat)
        case atStart => exact ⟨0, Nat.zero_le _, rfl, row, ko, k9, k10, hb⟩
        case round =>
          clear row ko k9 k10 hb hwo
          obtain ⟨j, hj, rfl, row, ko, k9, k10, hb⟩ := hrel
          by_cases hjl : j < W
          · have rx : -1048576 ≤ X + (j : Int) ∧ X + (j : Int) ≤ 1048576 := by omega
            have ry : -1048576 ≤ Y + (k : Int) ∧ Y + (k : Int) ≤ 1048576 := by omega
            have P1 := Lib.hid (fun w h => PL.out (X + (j : Int)) (Y + (k : Int)) w h rx ry)
            have HP := Lib.hid (PX.out k j hjl rx ry)
            have fb := FB.out (gRaw kind zs (X + (j : Int)) (Y + (k : Int)))
            generalize fol spread (gRaw kind zs (X + (j : Int)) (Y + (k : Int))) = T at *
            have C1 := Lib.hid (fun w h => CL.out T w h fb)
            generalize colF (sc ss T n2) = q at *
            obtain ⟨q0, q1, q2, q3⟩ := q
            replace C1 : Hid (∀ w, Sn w (.slice a' n2 cap') ss → Calls Try.prog 27 #[.slice a' n2 cap', .int .i64 T] w fun e w' => e = .returned (pv q0 q1 q2 q3) ∧ Below w.heap.size w w') := C1
            obtain ⟨kw, hkw⟩ : ∃ kw, k * W = kw := ⟨_, rfl⟩
            obtain ⟨idx, hie⟩ : ∃ idx, kw + j = idx := ⟨_, rfl⟩
            rw [hkw, hie] at HP
            rw [hkw] at hkW row
            rw [hie] at row
            have hidx : idx < n0 := by omega
            have RN := Lib.hid (fun w (h : Row w g n0 (fun i => if i < idx then res i else (0, 0, 0, 0))) => h.next hidx)
            rw [HP.out] at RN
            have RC := Lib.hid (fun w (h : Row w g n0 (fun i => if i < idx then res i else (0, 0, 0, 0))) => h.c idx hidx)
            simp only [Nat.lt_irrefl, if_false] at RC
            have m1 : IntKind.i64.wrap ((k : Int) * (W : Int)) = (kw : Int) := by rw [← hkw, ← Int.natCast_mul]; exact IntWalk.i64_in _ (by omega)
            have m2 : IntKind.i64.wrap ((kw : Int) + (j : Int)) = (idx : Int) := by rw [← hie, Int.natCast_add]; exact IntWalk.i64_in _ (by omega)
            have i1 : (0 : Int) ≤ (idx : Int) := by omega
            have i2 : (idx : Int) < (n0 : Int) := by omega
            have HKW := Lib.hid hkw
            have HIE := Lib.hid hie
            clear hkw hie
            have c9 := k9.c4
            go_wp2_with fail
            clear c9
            refine (P1.out _ (HN.out.kept hb)).mono ?_
            rintro e W6 ⟨rfl, hS⟩
            replace row := row.kept hS
            replace ko := ko.kept hS
            replace k9 := k9.kept hS
            replace k10 := k10.kept hS
            replace hb := hb.trans (hS.mono hb.size)
            clear hS
            go_wp2_with fail
            refine wp_region_grow 12 (fun w' => Below (World.heap W6).size W6 w') (by kernel_rfl) (by kernel_rfl) (Below.refl _ _).drew ?_
            simp only [List.take_succ_cons, List.take_zero, List.drop_succ_cons, List.drop_zero]
            repeat (first | (apply wpG_on; rfl; (intro w' hS K hK; have hc0 := (ko.kept hS).c3; have hc1 := (k9.kept hS).c4; have hc2 := (k10.kept hS).c3; have hc3 := (row.kept hS).lt; go_simp; (first | exact hK.out _ hS | (go_at_call 27; (with_reducible refine (C1.out _ (HS.out.kept (hb.trans (hS.mono hb.size)))).mono ?_); rintro e w'' ⟨rfl, hbb⟩; exact ⟨_, rfl, hK.out _ (hS.trans (hbb.mono hS.size))⟩))); simp only [Act.put, List.setIfInBounds_toArray, List.set_cons_succ, List.set_cons_zero]) | (apply wpG_off; rfl; simp only [Act.put, List.setIfInBounds_toArray, List.set_cons_succ, List.set_cons_zero]))
            apply wpG_nil
            intro W7 hS
            replace ko := ko.kept hS
            replace k9 := k9.kept hS
            replace k10 := k10.kept hS
            replace row := row.kept hS
            replace hb := hb.trans (hS.mono hb.size)
            clear hS
            clear m1 m2
            have cr := RC.out _ row
            go_wp2_with fail
            go_roundw
            case rel => exact ⟨j + 1, by omega, by go_num, (by have := RN.out _ row; rw [← HIE.out, ← HKW.out] at this ⊢; exact this), ko.other4 g2 _ _ _ _ _ _ _ _, k9.other4 (by omega) _ _ _ _ _ _ _ _, k10.other4 (by omega) _ _ _ _ _ _ _ _, below4g hb (by omega) _ _ _ _ _ _ _ _⟩
            case measure => simp only [intOf]; omega
          · obtain rfl : j = W := by omega
            go_wp2_with fail
            go_roundw
            case rel => exact ⟨k + 1, by omega, by go_num, by rw [Nat.add_mul, Nat.one_mul]; exact row, ko, k9, k10, hb⟩
            case measure => simp only [intOf]; omega
      · obtain rfl : k = H := by omega
        have co := ko.c3
        have c10 := k10.c3
        go_wp2_with fail
        clear co
        have PN : Hid (∀ w', Row w' g n0 (fun i => if i < k * W then res i else (0, 0, 0, 0)) → Pn w' (.slice (some ⟨g, 0, none⟩) n0 n0) out) := fun w' h => h.pn OL.out (by omega) (fun i hi => by rw [OA.out i hi, if_pos (by rw [Nat.mul_comm, HN0.out]; exact hi)])
        refine bodyPost_ret (v := .tuple #[.agg #[.int .i64 W, .int .i64 k, .slice (some ⟨g, 0, none⟩) n0 n0], .int .i64 0]) (by simp [results, Try.results18, go_sem, c10]) rfl ⟨_, rfl, PN.out _ (((row.other (by simp; omega) _).other (by simp; omega) _).other (by simp; omega) _), ((hb.setCell (by simp) _).setCell (by simp) _).setCell (by simp) _⟩
  · refine name2d (fun W5 ko kr hS => ?_)
    replace k9 := k9.kept hS
    replace k10 := k10.kept hS
    replace hb := hb.trans (hS.mono hb.size)
    have row := row_start (r := res) kr
    clear hS kr H0
    obtain ⟨g, hg⟩ : ∃ g, g = W4.heap.size + 1 := ⟨_, rfl⟩
    obtain ⟨x, hx0⟩ : ∃ x, x = W4.heap.size := ⟨_, rfl⟩
    rw [← hg] at row
    rw [← hg, ← hx0] at ko
    rw [← hg, ← hx0]
    have g0 : w.heap.size + 1 < g := by omega
    have g5 : w.heap.size + 1 < x := by omega
    have g2 : x ≠ g := by omega
    clear hg hx0 hl9 hl10
    have c9 := k9.c4
    go_wp2_with fail
    clear c9
    go_loopw [55] (fun i wr => ∃ k : Nat, k ≤ H ∧ i = .int .i64 k ∧ Row wr g n0 (fun i => if i < k * W then res i else (0, 0, 0, 0)) ∧ Blk wr x (.cells #[.int .i64 W, .int .i64 H, .slice (some ⟨g, 0, none⟩) n0 n0] 37 (0, 0)) ∧ Blk wr w.heap.size (.cells #[.int .i64 X, .int .i64 Y, .int .i64 W, .int .i64 H] 34 (0, 0)) ∧ Blk wr (w.heap.size + 1) (.cells #[.int .i64 0, .int .i64 0, .slice none 0 0] 37 (0, 0)) ∧ Below w.heap.size w wr) (fun i _ => H - (intOf i).toNat)
    case atStart => exact ⟨0, Nat.zero_le _, rfl, by rw [Nat.zero_mul]; exact row, ko, k9, k10, hb⟩
    case round =>
      clear row ko k9 k10 hb
      obtain ⟨k, hk, rfl, row, ko, k9, k10, hb⟩ := hrel
      by_cases hlt : k < H
      · have c9 := k9.c4
        go_wp2_with fail
        clear c9
        obtain ⟨wo, hwo⟩ : ∃ wo, wo = wr := ⟨_, rfl⟩
        have hkW : k * W + W ≤ n0 := by
          have := Nat.mul_le_mul_right W (show k + 1 ≤ H by omega)
          rw [Nat.add_mul, Nat.one_mul, Nat.mul_comm H W, HN0.out] at this
          exact this
        go_loopw [60] (fun i wr => ∃ j : Nat, j ≤ W ∧ i = .int .i64 j ∧ Row wr g n0 (fun i => if i < k * W + j then res i else (0, 0, 0, 0)) ∧ Blk wr x (.cells #[.int .i64 W, .int .i64 H, .slice (some ⟨g, 0, none⟩) n0 n0] 37 (0, 0)) ∧ Blk wr w.heap.size (.cells #[.int .i64 X, .int .i64 Y, .int .i64 W, .int .i64 H] 34 (0, 0)) ∧ Blk wr (w.heap.size + 1) (.cells #[.int .i64 0, .int .i64 0, .slice none 0 0] 37 (0, 0)) ∧ Below w.heap.size w wr) (fun i _ => W - (intOf i).toNat)
        case atStart => exact ⟨0, Nat.zero_le _, rfl, row, ko, k9, k10, hb⟩
        case round =>
          clear row ko k9 k10 hb hwo
          obtain ⟨j, hj, rfl, row, ko, k9, k10, hb⟩ := hrel
          by_cases hjl : j < W
          · have rx : -1048576 ≤ X + (j : Int) ∧ X + (j : Int) ≤ 1048576 := by omega
            have ry : -1048576 ≤ Y + (k : Int) ∧ Y + (k : Int) ≤ 1048576 := by omega
            have P1 := Lib.hid (fun w h => PL.out (X + (j : Int)) (Y + (k : Int)) w h rx ry)
            have HP := Lib.hid (PX.out k j hjl rx ry)
            have fb := FB.out (gRaw kind zs (X + (j : Int)) (Y + (k : Int)))
            generalize fol spread (gRaw kind zs (X + (j : Int)) (Y + (k : Int))) = T at *
            have C1 := Lib.hid (fun w h => CL.out T w h fb)
            generalize colF (sc ss T n2) = q at *
            obtain ⟨q0, q1, q2, q3⟩ := q
            replace C1 : Hid (∀ w, Sn w (.slice a' n2 cap') ss → Calls Try.prog 27 #[.slice a' n2 cap', .int .i64 T] w fun e w' => e = .returned (pv q0 q1 q2 q3) ∧ Below w.heap.size w w') := C1
            obtain ⟨kw, hkw⟩ : ∃ kw, k * W = kw := ⟨_, rfl⟩
            obtain ⟨idx, hie⟩ : ∃ idx, kw + j = idx := ⟨_, rfl⟩
            rw [hkw, hie] at HP
            rw [hkw] at hkW row
            rw [hie] at row
            have hidx : idx < n0 := by omega
            have RN := Lib.hid (fun w (h : Row w g n0 (fun i => if i < idx then res i else (0, 0, 0, 0))) => h.next hidx)
            rw [HP.out] at RN
            have RC := Lib.hid (fun w (h : Row w g n0 (fun i => if i < idx then res i else (0, 0, 0, 0))) => h.c idx hidx)
            simp only [Nat.lt_irrefl, if_false] at RC
            have m1 : IntKind.i64.wrap ((k : Int) * (W : Int)) = (kw : Int) := by rw [← hkw, ← Int.natCast_mul]; exact IntWalk.i64_in _ (by omega)
            have m2 : IntKind.i64.wrap ((kw : Int) + (j : Int)) = (idx : Int) := by rw [← hie, Int.natCast_add]; exact IntWalk.i64_in _ (by omega)
            have i1 : (0 : Int) ≤ (idx : Int) := by omega
            have i2 : (idx : Int) < (n0 : Int) := by omega
            have HKW := Lib.hid hkw
            have HIE := Lib.hid hie
            clear hkw hie
            have c9 := k9.c4
            go_wp2_with fail
            clear c9
            refine (P1.out _ (HN.out.kept hb)).mono ?_
            rintro e W6 ⟨rfl, hS⟩
            replace row := row.kept hS
            replace ko := ko.kept hS
            replace k9 := k9.kept hS
            replace k10 := k10.kept hS
            replace hb := hb.trans (hS.mono hb.size)
            clear hS
            go_wp2_with fail
            refine wp_region_grow 12 (fun w' => Below (World.heap W6).size W6 w') (by kernel_rfl) (by kernel_rfl) (Below.refl _ _).drew ?_
            simp only [List.take_succ_cons, List.take_zero, List.drop_succ_cons, List.drop_zero]
            repeat (first | (apply wpG_on; rfl; (intro w' hS K hK; have hc0 := (ko.kept hS).c3; have hc1 := (k9.kept hS).c4; have hc2 := (k10.kept hS).c3; have hc3 := (row.kept hS).lt; go_simp; (first | exact hK.out _ hS | (go_at_call 27; (with_reducible refine (C1.out _ (HS.out.kept (hb.trans (hS.mono hb.size)))).mono ?_); rintro e w'' ⟨rfl, hbb⟩; exact ⟨_, rfl, hK.out _ (hS.trans (hbb.mono hS.size))⟩))); simp only [Act.put, List.setIfInBounds_toArray, List.set_cons_succ, List.set_cons_zero]) | (apply wpG_off; rfl; simp only [Act.put, List.setIfInBounds_toArray, List.set_cons_succ, List.set_cons_zero]))
            apply wpG_nil
            intro W7 hS
            replace ko := ko.kept hS
            replace k9 := k9.kept hS
            replace k10 := k10.kept hS
            replace row := row.kept hS
            replace hb := hb.trans (hS.mono hb.size)
            clear hS
            clear m1 m2
            have cr := RC.out _ row
            go_wp2_with fail
            go_roundw
            case rel => exact ⟨j + 1, by omega, by go_num, (by have := RN.out _ row; rw [← HIE.out, ← HKW.out] at this ⊢; exact this), ko.other4 g2 _ _ _ _ _ _ _ _, k9.other4 (by omega) _ _ _ _ _ _ _ _, k10.other4 (by omega) _ _ _ _ _ _ _ _, below4g hb (by omega) _ _ _ _ _ _ _ _⟩
            case measure => simp only [intOf]; omega
          · obtain rfl : j = W := by omega
            go_wp2_with fail
            go_roundw
            case rel => exact ⟨k + 1, by omega, by go_num, by rw [Nat.add_mul, Nat.one_mul]; exact row, ko, k9, k10, hb⟩
            case measure => simp only [intOf]; omega
      · obtain rfl : k = H := by omega
        have co := ko.c3
        have c10 := k10.c3
        go_wp2_with fail
        clear co
        have PN : Hid (∀ w', Row w' g n0 (fun i => if i < k * W then res i else (0, 0, 0, 0)) → Pn w' (.slice (some ⟨g, 0, none⟩) n0 n0) out) := fun w' h => h.pn OL.out (by omega) (fun i hi => by rw [OA.out i hi, if_pos (by rw [Nat.mul_comm, HN0.out]; exact hi)])
        refine bodyPost_ret (v := .tuple #[.agg #[.int .i64 W, .int .i64 k, .slice (some ⟨g, 0, none⟩) n0 n0], .int .i64 0]) (by simp [results, Try.results18, go_sem, c10]) rfl ⟨_, rfl, PN.out _ (((row.other (by simp; omega) _).other (by simp; omega) _).other (by simp; omega) _), ((hb.setCell (by simp) _).setCell (by simp) _).setCell (by simp) _⟩
end Go.Proofs.Ytmejdhgknebbbaa
