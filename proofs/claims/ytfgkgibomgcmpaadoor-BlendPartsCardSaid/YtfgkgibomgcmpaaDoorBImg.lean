/- blend.Image (printed by genbimg.py). -/
import Derived.Test.YtfgkgibomgcmpaaDoorImg
import Derived.Test.YtfgkgibomgcmpaaDoorOvp
import Derived.Test.YtfgkgibomgcmpaaDoorOrd
import Derived.Test.YtfgkgibomgcmpaaDoorRow
import Derived.Test.YtfgkgibomgcmpaaDoorBlendName
namespace Go.Proofs.YtfgkgibomgcmpaaDoor
open Go.RowKit
set_option linter.unusedVariables false
attribute [local go_sem] Oper.gAt gUponK Oper.sAt stilK

/-- One pixel of the image composited over another one. -/
def imgPx (m o : Int) (bs ss : List Px) (i : Nat) : Px := ovP m (pxAt bs i) (fdP (pxAt ss i) o)
def imgOut (m o : Int) (bs ss : List Px) : List Px := (List.range bs.length).map (imgPx m o bs ss)
theorem imgOut_len (m o : Int) (bs ss : List Px) : (imgOut m o bs ss).length = bs.length := by simp [imgOut]
theorem imgOut_at (m o : Int) (bs ss : List Px) (i : Nat) (hi : i < bs.length) : pxAt (imgOut m o bs ss) i = imgPx m o bs ss i := by
  simp [pxAt, imgOut, List.getD, hi]

set_option maxHeartbeats 8000000 in
theorem image_good (m o W H : Int) (vb vs : Value) (bs ss : List Px) (w : World) (hb0 : Pn w vb bs) (hs0 : Pn w vs ss) (h1 : 0 ≤ m ∧ m ≤ 17) (h2 : 0 ≤ o ∧ o ≤ 65535) (h3 : ichk W H bs = 0) (h4 : ichk W H ss = 0) :
    Calls Tryd.prog 19 #[.int .i64 m, .int .i64 o, .agg #[.int .i64 W, .int .i64 H, vb], .agg #[.int .i64 W, .int .i64 H, vs]] w fun e w' => ∃ v, e = .returned (.tuple #[.agg #[.int .i64 W, .int .i64 H, v], .int .i64 0]) ∧ Pn w' v (imgOut m o bs ss) ∧ Below w.heap.size w w' := by
  have l1 := ichk_len h3
  have l2 := ichk_len h4
  have hll : ss.length = bs.length := by omega
  have HB := Lib.hid hb0
  have HS := Lib.hid hs0
  obtain ⟨a, cap, rfl⟩ := hb0.slice
  obtain ⟨a', cap', rfl⟩ := hs0.slice
  rw [hll] at HS ⊢
  have H3 := Lib.hid h3
  have H4 := Lib.hid h4
  have hlen : bs.length ≤ 65536 := l1.1
  have hv : decide (0 ≤ m ∧ m ≤ 17) = true := decide_eq_true h1
  have OL := Lib.hid (imgOut_len m o bs ss)
  have OA := Lib.hid (imgOut_at m o bs ss)
  have OP : Hid (∀ i, imgPx m o bs ss i = ovP m (pxAt bs i) (fdP (pxAt ss i) o)) := fun i => rfl
  clear hb0 hs0 h1 h3 h4 l1 l2 hll
  generalize bs.length = n at *
  generalize imgOut m o bs ss = out at *
  generalize imgPx m o bs ss = res at *
  go_enter Tryd.func19, Tryd.ntmps19
  go_upto_region 1 with (fail)
  refine name3 (fun W1 k1 k2 k3 hb => ?_)
  go_wp2_with fail
  refine (bValid_any _ _).mono ?_
  rintro e w' ⟨rfl, rfl⟩
  rw [hv]
  have c1 := k1.c3
  have c2 := k2.c3
  go_wp2_with fail
  clear c1 c2
  refine (check_any _ _ _ _ _ (HB.out.kept hb)).mono ?_
  rintro e W2 ⟨rfl, hS⟩
  rw [H3.out]
  replace k1 := k1.kept hS
  replace k2 := k2.kept hS
  replace k3 := k3.kept hS
  replace hb := hb.trans (hS.mono hb.size)
  clear hS
  have c1 := k1.c3
  have c2 := k2.c3
  go_wp2_with fail
  clear c1 c2
  refine (check_any _ _ _ _ _ (HS.out.kept hb)).mono ?_
  rintro e W3 ⟨rfl, hS⟩
  rw [H4.out]
  replace k1 := k1.kept hS
  replace k2 := k2.kept hS
  replace k3 := k3.kept hS
  replace hb := hb.trans (hS.mono hb.size)
  clear hS
  have c1 := k1.c3
  have c2 := k2.c3
  go_wp2_with fail
  have hl1 := k1.lt
  have hl2 := k2.lt
  have hl3 := k3.lt
  have mk := fun w => makePix n hlen w
  go_region
  all_goals go_upto_region 14 with (fail)
  all_goals clear c1 c2 mk
  · refine name2d (fun W4 kr ko hS => ?_)
    replace k1 := k1.kept hS
    replace k2 := k2.kept hS
    replace k3 := k3.kept hS
    replace hb := hb.trans (hS.mono hb.size)
    have row := row_start (r := res) kr
    clear hS kr H3 H4
    obtain ⟨g, hg⟩ : ∃ g, g = W3.heap.size := ⟨_, rfl⟩
    obtain ⟨x, hx⟩ : ∃ x, x = W3.heap.size + 1 := ⟨_, rfl⟩
    rw [← hg] at row
    rw [← hx, ← hg] at ko
    rw [← hx, ← hg]
    have g0 : w.heap.size + 1 + 1 < g := by omega
    have g1 : w.heap.size + 1 + 1 < x := by omega
    have g2 : x ≠ g := by omega
    clear hg hx hl1 hl2 hl3
    have c1 := k1.c3
    go_wp2_with fail
    clear c1
    go_loopw [63] (fun i wr => ∃ k : Nat, k ≤ n ∧ i = .int .i64 k ∧ Row wr g n (fun i => if i < k then res i else (0, 0, 0, 0)) ∧ Blk wr x (.cells #[.int .i64 W, .int .i64 H, .slice (some ⟨g, 0, none⟩) n n] 31 (0, 0)) ∧ Blk wr (w.heap.size + 1) (.cells #[.int .i64 W, .int .i64 H, .slice a' n cap'] 31 (0, 0)) ∧ Blk wr (w.heap.size + 1 + 1) (.cells #[.int .i64 0, .int .i64 0, .slice none 0 0] 31 (0, 0)) ∧ Below w.heap.size w wr) (fun i _ => n - (intOf i).toNat)
    case atStart => exact ⟨0, Nat.zero_le _, rfl, row, ko, k2, k3, hb⟩
    case round =>
      clear row ko k1 k2 k3 hb
      obtain ⟨k, hk, rfl, row, ko, k2, k3, hb⟩ := hrel
      by_cases hlt : k < n
      · obtain ⟨b1, off1, rfl, hbl1, hcell1⟩ := HB.out.at k hlt
        obtain ⟨b2, off2, rfl, hbl2, hcell2⟩ := HS.out.at k hlt
        have hc := hcell1 wr hb
        have F1 := Lib.hid (fun w => fade_any (pxAt ss k) o w)
        have O1 := Lib.hid (fun w => over_any m (pxAt bs k) (fdP (pxAt ss k) o) w)
        have RN := Lib.hid (fun w (h : Row w g n (fun i => if i < k then res i else (0, 0, 0, 0))) => h.next hlt)
        rw [OP.out k] at RN
        have RC := Lib.hid (fun w (h : Row w g n (fun i => if i < k then res i else (0, 0, 0, 0))) => h.c k hlt)
        simp only [Nat.lt_irrefl, if_false] at RC
        clear hcell1 OP
        generalize ovP m (pxAt bs k) (fdP (pxAt ss k) o) = q at *
        generalize fdP (pxAt ss k) o = f at *
        generalize pxAt ss k = s at *
        generalize pxAt bs k = p at *
        obtain ⟨q0, q1, q2, q3⟩ := q
        obtain ⟨f0, f1, f2, f3⟩ := f
        obtain ⟨s0, s1, s2, s3⟩ := s
        obtain ⟨p0, p1, p2, p3⟩ := p
        replace F1 : Hid (∀ w, Calls Tryd.prog 51 #[pv s0 s1 s2 s3, .int .i64 o] w fun e w' => e = .returned (pv f0 f1 f2 f3) ∧ Below w.heap.size w w') := F1
        replace O1 : Hid (∀ w, Calls Tryd.prog 17 #[.int .i64 m, pv p0 p1 p2 p3, pv f0 f1 f2 f3] w fun e w' => e = .returned (pv q0 q1 q2 q3) ∧ Below w.heap.size w w') := O1
        simp only at hc hcell2
        have HC2 := Lib.hid hcell2
        clear hcell2
        go_upto_region 17 with (fail)
        clear hc
        refine name1 (fun W5 k14 hS => ?_)
        replace row := row.kept hS
        replace ko := ko.kept hS
        replace k2 := k2.kept hS
        replace k3 := k3.kept hS
        replace hb := hb.trans (hS.mono hb.size)
        clear hS
        have i1 : (0 : Int) ≤ (k : Int) := by omega
        have i2 : (k : Int) < (n : Int) := by omega
        refine wp_region_grow 14 (fun w' => Below (World.heap W5).size W5 w') (by kernel_rfl) (by kernel_rfl) (Below.refl _ _).drew ?_
        simp only [List.take_succ_cons, List.take_zero, List.drop_succ_cons, List.drop_zero]
        repeat (first | (apply wpG_on; rfl; (intro w' hS K hK; have hc0 := (ko.kept hS).c3; have hc1 := (k2.kept hS).c3; have hc2 := (k3.kept hS).c3; have hc3 := (k14.kept hS).c4; have hc4 := (row.kept hS).lt; have hr0 := HC2.out _ (hb.trans (hS.mono hb.size)); go_simp; (first | exact hK.out _ hS | (go_at_call 51; (with_reducible refine (F1.out _).mono ?_); rintro e w'' ⟨rfl, hbb⟩; exact ⟨_, rfl, hK.out _ (hS.trans (hbb.mono hS.size))⟩) | (go_at_call 17; (with_reducible refine (O1.out _).mono ?_); rintro e w'' ⟨rfl, hbb⟩; exact ⟨_, rfl, hK.out _ (hS.trans (hbb.mono hS.size))⟩))); simp only [Act.put, List.setIfInBounds_toArray, List.set_cons_succ, List.set_cons_zero]) | (apply wpG_off; rfl; simp only [Act.put, List.setIfInBounds_toArray, List.set_cons_succ, List.set_cons_zero]))
        apply wpG_nil
        intro W6 hS
        replace ko := ko.kept hS
        replace k2 := k2.kept hS
        replace k3 := k3.kept hS
        replace k14 := k14.kept hS
        replace row := row.kept hS
        replace hb := hb.trans (hS.mono hb.size)
        clear hS
        have cr := RC.out _ row
        go_wp2_with fail
        go_roundw
        case rel => exact ⟨k + 1, by omega, by go_num, RN.out _ row, ko.other4 g2 _ _ _ _ _ _ _ _, k2.other4 (by omega) _ _ _ _ _ _ _ _, k3.other4 (by omega) _ _ _ _ _ _ _ _, below4g hb (by omega) _ _ _ _ _ _ _ _⟩
        case measure => simp [intOf]; omega
      · obtain rfl : k = n := by omega
        have co := ko.c3
        have c3 := k3.c3
        go_wp2_with fail
        clear co
        have PN : Hid (∀ w, Row w g k (fun i => if i < k then res i else (0, 0, 0, 0)) → Pn w (.slice (some ⟨g, 0, none⟩) k k) out) := fun w h => h.pn OL.out (by omega) (fun i hi => by rw [OA.out i hi, if_pos hi])
        refine bodyPost_ret (v := .tuple #[.agg #[.int .i64 W, .int .i64 H, .slice (some ⟨g, 0, none⟩) k k], .int .i64 0]) (by simp [results, Tryd.results19, go_sem, c3]) rfl ⟨_, rfl, PN.out _ (((row.other (by simp; omega) _).other (by simp; omega) _).other (by simp; omega) _), ((hb.setCell (by simp; omega) _).setCell (by simp; omega) _).setCell (by simp; omega) _⟩
  · refine name2d (fun W4 ko kr hS => ?_)
    replace k1 := k1.kept hS
    replace k2 := k2.kept hS
    replace k3 := k3.kept hS
    replace hb := hb.trans (hS.mono hb.size)
    have row := row_start (r := res) kr
    clear hS kr H3 H4
    obtain ⟨g, hg⟩ : ∃ g, g = W3.heap.size + 1 := ⟨_, rfl⟩
    obtain ⟨x, hx⟩ : ∃ x, x = W3.heap.size := ⟨_, rfl⟩
    rw [← hg] at row
    rw [← hg, ← hx] at ko
    rw [← hg, ← hx]
    have g0 : w.heap.size + 1 + 1 < g := by omega
    have g1 : w.heap.size + 1 + 1 < x := by omega
    have g2 : x ≠ g := by omega
    clear hg hx hl1 hl2 hl3
    have c1 := k1.c3
    go_wp2_with fail
    clear c1
    go_loopw [63] (fun i wr => ∃ k : Nat, k ≤ n ∧ i = .int .i64 k ∧ Row wr g n (fun i => if i < k then res i else (0, 0, 0, 0)) ∧ Blk wr x (.cells #[.int .i64 W, .int .i64 H, .slice (some ⟨g, 0, none⟩) n n] 31 (0, 0)) ∧ Blk wr (w.heap.size + 1) (.cells #[.int .i64 W, .int .i64 H, .slice a' n cap'] 31 (0, 0)) ∧ Blk wr (w.heap.size + 1 + 1) (.cells #[.int .i64 0, .int .i64 0, .slice none 0 0] 31 (0, 0)) ∧ Below w.heap.size w wr) (fun i _ => n - (intOf i).toNat)
    case atStart => exact ⟨0, Nat.zero_le _, rfl, row, ko, k2, k3, hb⟩
    case round =>
      clear row ko k1 k2 k3 hb
      obtain ⟨k, hk, rfl, row, ko, k2, k3, hb⟩ := hrel
      by_cases hlt : k < n
      · obtain ⟨b1, off1, rfl, hbl1, hcell1⟩ := HB.out.at k hlt
        obtain ⟨b2, off2, rfl, hbl2, hcell2⟩ := HS.out.at k hlt
        have hc := hcell1 wr hb
        have F1 := Lib.hid (fun w => fade_any (pxAt ss k) o w)
        have O1 := Lib.hid (fun w => over_any m (pxAt bs k) (fdP (pxAt ss k) o) w)
        have RN := Lib.hid (fun w (h : Row w g n (fun i => if i < k then res i else (0, 0, 0, 0))) => h.next hlt)
        rw [OP.out k] at RN
        have RC := Lib.hid (fun w (h : Row w g n (fun i => if i < k then res i else (0, 0, 0, 0))) => h.c k hlt)
        simp only [Nat.lt_irrefl, if_false] at RC
        clear hcell1 OP
        generalize ovP m (pxAt bs k) (fdP (pxAt ss k) o) = q at *
        generalize fdP (pxAt ss k) o = f at *
        generalize pxAt ss k = s at *
        generalize pxAt bs k = p at *
        obtain ⟨q0, q1, q2, q3⟩ := q
        obtain ⟨f0, f1, f2, f3⟩ := f
        obtain ⟨s0, s1, s2, s3⟩ := s
        obtain ⟨p0, p1, p2, p3⟩ := p
        replace F1 : Hid (∀ w, Calls Tryd.prog 51 #[pv s0 s1 s2 s3, .int .i64 o] w fun e w' => e = .returned (pv f0 f1 f2 f3) ∧ Below w.heap.size w w') := F1
        replace O1 : Hid (∀ w, Calls Tryd.prog 17 #[.int .i64 m, pv p0 p1 p2 p3, pv f0 f1 f2 f3] w fun e w' => e = .returned (pv q0 q1 q2 q3) ∧ Below w.heap.size w w') := O1
        simp only at hc hcell2
        have HC2 := Lib.hid hcell2
        clear hcell2
        go_upto_region 17 with (fail)
        clear hc
        refine name1 (fun W5 k14 hS => ?_)
        replace row := row.kept hS
        replace ko := ko.kept hS
        replace k2 := k2.kept hS
        replace k3 := k3.kept hS
        replace hb := hb.trans (hS.mono hb.size)
        clear hS
        have i1 : (0 : Int) ≤ (k : Int) := by omega
        have i2 : (k : Int) < (n : Int) := by omega
        refine wp_region_grow 14 (fun w' => Below (World.heap W5).size W5 w') (by kernel_rfl) (by kernel_rfl) (Below.refl _ _).drew ?_
        simp only [List.take_succ_cons, List.take_zero, List.drop_succ_cons, List.drop_zero]
        repeat (first | (apply wpG_on; rfl; (intro w' hS K hK; have hc0 := (ko.kept hS).c3; have hc1 := (k2.kept hS).c3; have hc2 := (k3.kept hS).c3; have hc3 := (k14.kept hS).c4; have hc4 := (row.kept hS).lt; have hr0 := HC2.out _ (hb.trans (hS.mono hb.size)); go_simp; (first | exact hK.out _ hS | (go_at_call 51; (with_reducible refine (F1.out _).mono ?_); rintro e w'' ⟨rfl, hbb⟩; exact ⟨_, rfl, hK.out _ (hS.trans (hbb.mono hS.size))⟩) | (go_at_call 17; (with_reducible refine (O1.out _).mono ?_); rintro e w'' ⟨rfl, hbb⟩; exact ⟨_, rfl, hK.out _ (hS.trans (hbb.mono hS.size))⟩))); simp only [Act.put, List.setIfInBounds_toArray, List.set_cons_succ, List.set_cons_zero]) | (apply wpG_off; rfl; simp only [Act.put, List.setIfInBounds_toArray, List.set_cons_succ, List.set_cons_zero]))
        apply wpG_nil
        intro W6 hS
        replace ko := ko.kept hS
        replace k2 := k2.kept hS
        replace k3 := k3.kept hS
        replace k14 := k14.kept hS
        replace row := row.kept hS
        replace hb := hb.trans (hS.mono hb.size)
        clear hS
        have cr := RC.out _ row
        go_wp2_with fail
        go_roundw
        case rel => exact ⟨k + 1, by omega, by go_num, RN.out _ row, ko.other4 g2 _ _ _ _ _ _ _ _, k2.other4 (by omega) _ _ _ _ _ _ _ _, k3.other4 (by omega) _ _ _ _ _ _ _ _, below4g hb (by omega) _ _ _ _ _ _ _ _⟩
        case measure => simp [intOf]; omega
      · obtain rfl : k = n := by omega
        have co := ko.c3
        have c3 := k3.c3
        go_wp2_with fail
        clear co
        have PN : Hid (∀ w, Row w g k (fun i => if i < k then res i else (0, 0, 0, 0)) → Pn w (.slice (some ⟨g, 0, none⟩) k k) out) := fun w h => h.pn OL.out (by omega) (fun i hi => by rw [OA.out i hi, if_pos hi])
        refine bodyPost_ret (v := .tuple #[.agg #[.int .i64 W, .int .i64 H, .slice (some ⟨g, 0, none⟩) k k], .int .i64 0]) (by simp [results, Tryd.results19, go_sem, c3]) rfl ⟨_, rfl, PN.out _ (((row.other (by simp; omega) _).other (by simp; omega) _).other (by simp; omega) _), ((hb.setCell (by simp; omega) _).setCell (by simp; omega) _).setCell (by simp; omega) _⟩
end Go.Proofs.YtfgkgibomgcmpaaDoor
