/- selected, at, fits, duplicate, under (printed by genretb.py). -/
import Derived.Test.YtieacbccadbdbaaDoorRetA
import Derived.Test.YtieacbccadbdbaaDoorCopy
import Derived.Test.YtieacbccadbdbaaDoorLMask
import Derived.Test.YtieacbccadbdbaaDoorLNum
import Derived.Test.YtieacbccadbdbaaDoorLDyn
import Derived.Deep.Cut
namespace Go.Proofs.YtieacbccadbdbaaDoor
open Go.RowKit
set_option linter.unusedVariables false
attribute [local go_sem] Oper.gAt gUponK Oper.sAt stilK

set_option maxHeartbeats 2000000 in
theorem selected_any (sw sh : Int) (mv : Value) (zs : List Int) (k : Nat) (w : World) (hM : Nn w mv zs) (hk : sw ≠ 0 → k < zs.length) :
    Calls Tryd.prog 26 #[.agg #[.int .i64 sw, .int .i64 sh, mv], .int .i64 k] w fun e w' => e = .returned (.int .i64 (selK sw zs k)) ∧ Below w.heap.size w w' := by
  obtain ⟨am, cm, rfl, hl⟩ := hM.slice
  by_cases h0 : sw = 0
  · subst h0
    rw [show selK 0 zs k = 65535 from if_pos rfl]
    clear hM hk
    go_enter Tryd.func26, Tryd.ntmps26
    go_upto_region 1 with (fail)
    refine name1 (fun W k1 hb => ?_)
    have c1 := k1.c3
    go_wp2_with fail
    go_ret
    exact ⟨rfl, hb⟩
  · have hkl := hk h0
    rw [show selK sw zs k = zs.getD k 0 from if_neg h0]
    obtain ⟨b, off, rfl, hz⟩ := nnAtB hM k hkl
    have HZ := Lib.hid hz
    have b0 : (sw == 0) = false := by simpa using h0
    clear hz hM hk h0
    generalize zs.getD k 0 = z at *
    generalize zs.length = n at *
    have i1 : (0 : Int) ≤ (k : Int) := by omega
    have i2 : (k : Int) < (n : Int) := by omega
    go_enter Tryd.func26, Tryd.ntmps26
    go_upto_region 1 with (fail)
    refine name1 (fun W k1 hb => ?_)
    have c1 := k1.c3
    have hz := HZ.out _ hb
    go_wp2_with fail
    go_ret
    exact ⟨rfl, hb⟩

set_option maxHeartbeats 4000000 in
theorem retAt_any (W H : Nat) (iv : Value) (ps : List Px) (x y : Int) (w : World) (hI : Pn w iv ps) (hl : ps.length = W * H) (hW : W ≤ 256) (hH : H ≤ 256) :
    Calls Tryd.prog 27 #[.agg #[.int .i64 W, .int .i64 H, iv], .int .i64 x, .int .i64 y] w fun e w' => e = .returned (pvx (atP W H ps x y)) ∧ Below w.heap.size w w' := by
  obtain ⟨ai, ci, rfl⟩ := hI.slice
  have c : x < 0 ∨ (¬ x < 0 ∧ (W : Int) ≤ x) ∨ (¬ x < 0 ∧ ¬ (W : Int) ≤ x ∧ y < 0) ∨ (¬ x < 0 ∧ ¬ (W : Int) ≤ x ∧ ¬ y < 0 ∧ (H : Int) ≤ y) ∨ (0 ≤ x ∧ x < W ∧ 0 ≤ y ∧ y < H) := by omega
  rcases c with c1 | ⟨c1, c2⟩ | ⟨c1, c2, c3⟩ | ⟨c1, c2, c3, c4⟩ | ⟨c1, c2, c3, c4⟩
  case inr.inr.inr.inr =>
    rw [atP_in c1 c2 c3 c4]
    obtain ⟨j1, j2⟩ := atP_idx c1 c2 c3 c4
    have hm : (H : Int) * (W : Int) = (ps.length : Int) := by rw [hl, Int.natCast_mul, Int.mul_comm]
    have hWH : W * H ≤ 256 * 256 := Nat.mul_le_mul hW hH
    have hyw : 0 ≤ y * (W : Int) := Int.mul_nonneg c3 (by omega)
    obtain ⟨idx, hidx⟩ : ∃ idx : Nat, y * (W : Int) + x = idx := ⟨(y * (W : Int) + x).toNat, by omega⟩
    rw [hidx, show ((idx : Nat) : Int).toNat = idx from rfl]
    have hlt : idx < ps.length := by omega
    have hn : ps.length ≤ 65536 := by omega
    obtain ⟨b, off, rfl, hbl, hcell⟩ := hI.at idx hlt
    have HC := Lib.hid hcell
    obtain ⟨yw, hyw2⟩ : ∃ yw, y * (W : Int) = yw := ⟨_, rfl⟩
    rw [hyw2] at hidx hyw
    have e1 : IntKind.i64.wrap (y * (W : Int)) = yw := by rw [hyw2]; exact IntWalk.i64_in _ (by omega)
    have e2 : IntKind.i64.wrap (yw + x) = (idx : Int) := by rw [hidx]; exact IntWalk.i64_in _ (by omega)
    clear hI hcell hidx hl hm hWH j1 j2 hyw2
    generalize pxAt ps idx = p at *
    obtain ⟨p0, p1, p2, p3⟩ := p
    replace HC : Hid (∀ w', Below w.heap.size w w' → w'.cell? ⟨b, off + idx * 4, none⟩ = some (.int .i64 p0) ∧ w'.cell? ⟨b, off + idx * 4 + 1, none⟩ = some (.int .i64 p1) ∧ w'.cell? ⟨b, off + idx * 4 + 2, none⟩ = some (.int .i64 p2) ∧ w'.cell? ⟨b, off + idx * 4 + 3, none⟩ = some (.int .i64 p3)) := HC
    generalize ps.length = n at *
    have i1 : (0 : Int) ≤ (idx : Int) := by omega
    have i2 : (idx : Int) < (n : Int) := by omega
    have i3 : ¬ x < 0 := by omega
    have i4 : ¬ (W : Int) ≤ x := by omega
    have i5 : ¬ y < 0 := by omega
    have i6 : ¬ (H : Int) ≤ y := by omega
    go_enter Tryd.func27, Tryd.ntmps27
    go_upto_region 1 with (fail)
    refine name2 (fun W1 k1 k2 hb => ?_)
    have q1 := k1.c3
    have q2 := k2.c4
    have hc := HC.out _ hb
    go_wp2_with fail
    exact end4 hb k2 (by omega) (fun w3 c3 => by simp [results, Tryd.results27, go_sem, c3]) rfl (fun w3 hb3 => ⟨rfl, hb3⟩)
  all_goals
    rw [atP_out (by omega)]
    clear hI hl
    go_enter Tryd.func27, Tryd.ntmps27
    go_upto_region 1 with (fail)
    refine name2 (fun W1 k1 k2 hb => ?_)
    have q1 := k1.c3
    have q2 := k2.c4
    go_wp2_with fail
    exact end4 hb k2 (by omega) (fun w3 c3 => by simp [results, Tryd.results27, go_sem, c3]) rfl (fun w3 hb3 => ⟨rfl, hb3⟩)

theorem dOk_xy {d : Dab} (h : dOk d = true) : (-16777216 ≤ d.x ∧ d.x ≤ 16777216) ∧ (-16777216 ≤ d.y ∧ d.y ≤ 16777216) := by
  have h := of_decide_eq_true h
  have a := co_bd d.x
  have b := co_bd d.y
  omega

set_option maxHeartbeats 4000000 in
theorem under_any (W H : Nat) (iv : Value) (ps : List Px) (d : Dab) (w : World) (hI : Pn w iv ps) (hl : ps.length = W * H) (hW : W ≤ 256) (hH : H ≤ 256) (hd : dOk d = true) :
    Calls Tryd.prog 44 #[.agg #[.int .i64 W, .int .i64 H, iv], dbv d] w fun e w' => e = .returned (pvx (undP W H (pxAt ps) d)) ∧ Below w.heap.size w w' := by
  obtain ⟨hx, hy⟩ := dOk_xy hd
  have AP := Lib.hid (fun w h => retAt_any W H iv ps (d.x / 16) (d.y / 16) w h hl hW hH)
  rw [show atP W H ps (d.x / 16) (d.y / 16) = undP W H (pxAt ps) d from rfl] at AP
  have FX := Lib.hid (fun w => floor_any d.x 16 w (by omega) (by omega) (by omega) (by omega))
  have FY := Lib.hid (fun w => floor_any d.y 16 w (by omega) (by omega) (by omega) (by omega))
  have HI := Lib.hid hI
  obtain ⟨ai, ci, rfl⟩ := hI.slice
  generalize undP W H (pxAt ps) d = p at *
  obtain ⟨p0, p1, p2, p3⟩ := p
  replace AP : Hid (∀ w, Pn w (.slice ai ps.length ci) ps → Calls Tryd.prog 27 #[.agg #[.int .i64 W, .int .i64 H, .slice ai ps.length ci], .int .i64 (d.x / 16), .int .i64 (d.y / 16)] w fun e w' => e = .returned (pv p0 p1 p2 p3) ∧ Below w.heap.size w w') := AP
  clear hI hl hx hy hd
  generalize ps.length = n at *
  go_enter Tryd.func44, Tryd.ntmps44
  go_upto_region 1 with (fail)
  refine name3 (fun W1 k1 k2 k3 hb => ?_)
  refine wp_region_grow 8 (fun w' => Below (World.heap W1).size W1 w') (by kernel_rfl) (by kernel_rfl) (Below.refl _ _).drew ?_
  simp only [List.take_succ_cons, List.take_zero, List.drop_succ_cons, List.drop_zero]
  repeat (first | (apply wpG_on; rfl; (intro w' hS K hK; have hc0 := (k1.kept hS).c3; have hc1 := (k2.kept hS).c5; have hc2 := (k3.kept hS).c4; go_simp; (first | exact hK.out _ hS | (go_at_call 43; (with_reducible refine (FX.out _).mono ?_); rintro e w'' ⟨rfl, rfl⟩; exact ⟨_, rfl, hK.out _ hS⟩) | (go_at_call 43; (with_reducible refine (FY.out _).mono ?_); rintro e w'' ⟨rfl, rfl⟩; exact ⟨_, rfl, hK.out _ hS⟩) | (go_at_call 27; (with_reducible refine (AP.out _ (HI.out.kept (hb.trans (hS.mono hb.size)))).mono ?_); rintro e w'' ⟨rfl, hbb⟩; exact ⟨_, rfl, hK.out _ (hS.trans (hbb.mono hS.size))⟩))); simp only [Act.put, List.setIfInBounds_toArray, List.set_cons_succ, List.set_cons_zero]) | (apply wpG_off; rfl; simp only [Act.put, List.setIfInBounds_toArray, List.set_cons_succ, List.set_cons_zero]))
  apply wpG_nil
  intro W2 hS
  replace k1 := k1.kept hS
  replace k2 := k2.kept hS
  replace k3 := k3.kept hS
  replace hb := hb.trans (hS.mono hb.size)
  clear hS
  have c3 := k3.c4
  go_wp2_with fail
  exact end4 hb k3 (by omega) (fun w3 c3 => by simp [results, Tryd.results44, go_sem, c3]) rfl (fun w3 hb3 => ⟨rfl, hb3⟩)

def fitB (mw mh iw ih : Int) : Bool := decide (mw = 0 ∨ (mw = iw ∧ mh = ih))
set_option maxHeartbeats 2000000 in
theorem fits_any (mw mh iw ih : Int) (mv iv : Value) (w : World) :
    Calls Tryd.prog 35 #[.agg #[.int .i64 mw, .int .i64 mh, mv], .agg #[.int .i64 iw, .int .i64 ih, iv]] w fun e w' => e = .returned (.bool (fitB mw mh iw ih)) ∧ Below w.heap.size w w' := by
  by_cases h0 : mw = 0
  · have HE : Hid (fitB mw mh iw ih = true) := decide_eq_true (.inl h0)
    have b0 : (mw == 0) = true := by simpa using h0
    go_enter Tryd.func35, Tryd.ntmps35
    go_upto_region 1 with (fail)
    refine name2 (fun W1 k1 k2 hb => ?_)
    have q1 := k1.c3
    have q2 := k2.c3
    go_wp2_with fail
    go_ret
    exact ⟨ret_bool (by rw [HE.out]), hb⟩
  · have b0 : (mw == 0) = false := by simpa using h0
    by_cases h1 : mw = iw
    · have b1 : (mw == iw) = true := by simpa using h1
      have HB0 := Lib.hid b0
      have H01 := Lib.hid h1
      clear h1
      by_cases h2 : mh = ih
      · have HE : Hid (fitB mw mh iw ih = true) := decide_eq_true (.inr ⟨H01.out, h2⟩)
        have b2 : (mh == ih) = true := by simpa using h2
        go_enter Tryd.func35, Tryd.ntmps35
        go_upto_region 1 with (fail)
        refine name2 (fun W1 k1 k2 hb => ?_)
        have q1 := k1.c3
        have q2 := k2.c3
        go_wp2_with fail
        go_ret
        exact ⟨ret_bool (by rw [HE.out]), hb⟩
      · have HE : Hid (fitB mw mh iw ih = false) := decide_eq_false (by have := H01.out; omega)
        have b2 : (mh == ih) = false := by simpa using h2
        go_enter Tryd.func35, Tryd.ntmps35
        go_upto_region 1 with (fail)
        refine name2 (fun W1 k1 k2 hb => ?_)
        have q1 := k1.c3
        have q2 := k2.c3
        go_wp2_with fail
        go_ret
        exact ⟨ret_bool (by rw [HE.out]), hb⟩
    · have HE : Hid (fitB mw mh iw ih = false) := decide_eq_false (by omega)
      have b1 : (mw == iw) = false := by simpa using h1
      go_enter Tryd.func35, Tryd.ntmps35
      go_upto_region 1 with (fail)
      refine name2 (fun W1 k1 k2 hb => ?_)
      have q1 := k1.c3
      have q2 := k2.c3
      go_wp2_with fail
      go_ret
      exact ⟨ret_bool (by rw [HE.out]), hb⟩

theorem infoPx4 : (Tryd.prog.info? 26).map (·.size) = some 4 := by kernel_rfl
set_option maxHeartbeats 4000000 in
set_option maxRecDepth 100000 in
theorem duplicate_any (iw ih : Int) (iv : Value) (ps : List Px) (w : World) (hI : Pn w iv ps) (hn : ps.length ≤ 65536) :
    Calls Tryd.prog 24 #[.agg #[.int .i64 iw, .int .i64 ih, iv]] w fun e w' => ∃ g, e = .returned (.agg #[.int .i64 iw, .int .i64 ih, .slice (some ⟨g, 0, none⟩) ps.length ps.length]) ∧ w.heap.size ≤ g ∧ Row w' g ps.length (pxAt ps) ∧ Below w.heap.size w w' := by
  obtain ⟨ai, ci, rfl⟩ := hI.slice
  have SRC := Lib.hid (fun w (h : Pn w (.slice ai ps.length ci) ps) hn => h.src hn)
  have HI := Lib.hid hI
  clear hI
  generalize ps.length = n at *
  generalize pxAt ps = f at *
  have mk := fun w => makePix n hn w
  go_enter Tryd.func24, Tryd.ntmps24
  go_upto_region 1 with (fail)
  refine name2 (fun W1 k1 k2 hb => ?_)
  have c1 := k1.c3
  go_upto_region 2 with (fail)
  refine name1 (fun W2 kr hS => ?_)
  have hg : w.heap.size ≤ W1.heap.size := by have := k1.lt; omega
  have hgn : w.heap.size + 1 < W1.heap.size := k2.lt
  replace k1 := k1.kept hS
  replace k2 := k2.kept hS
  replace hb := hb.trans (hS.mono hb.size)
  clear hS mk c1
  generalize W1.heap.size = g at *
  have c1 := k1.c3
  have HK := Lib.hid kr
  have HW := Lib.hid (HI.out.kept hb)
  clear kr
  go_wp2_with (refine wpList_copy_all (o := ⟨some 11, _, _, _, _, _⟩) rfl _ _ 22 22 rfl 26 4 Tryd.underlying22 infoPx4 g n n ci ai rfl rfl _ _ HK.out (pcF f n) (pcF_len _ _) ?cs ?src (pcF_one _ _) w.heap.size w hb (by omega) ?_)
  case cs => rw [size_madeCells, pcF_len]
  case src => exact fun h => SRC.out _ HW.out h
  intro W3 hr hother hb3
  have row := row_of_cells hr.out
  replace k1 : Blk W3 _ _ := (hother _ (by omega)).trans k1
  replace k2 : Blk W3 _ _ := (hother _ (by omega)).trans k2
  clear hr hother hb c1
  have c1 := k1.c3
  have c2 := k2.c3
  go_wp2_with fail
  exact bodyPost_ret (v := .agg #[.int .i64 iw, .int .i64 ih, .slice (some ⟨g, 0, none⟩) n n]) (by simp [results, Tryd.results24, go_sem, c2]) rfl ⟨g, rfl, hg, ((row.other (by simp; omega) _).other (by simp; omega) _).other (by simp; omega) _, ((hb3.setCell (by simp) _).setCell (by simp) _).setCell (by simp) _⟩
end Go.Proofs.YtieacbccadbdbaaDoor

