/- retouch.Smudge (printed by gensmudge.py). -/
import Derived.Test.YtieacbccadbdbaaGreatDoorRetC
import Derived.Test.YtieacbccadbdbaaGreatDoorDabTip
import Derived.Test.YtieacbccadbdbaaGreatDoorLBrS
import Derived.Deep.DeepCutAuto
import Derived.Deep.Cut
namespace Go.Proofs.YtieacbccadbdbaaGreatDoor
open Go.RowKit
set_option linter.unusedVariables false
attribute [local go_sem] Oper.gAt gUponK Oper.sAt stilK

theorem undP_congr {W H : Nat} {f f' : Nat → Px} {d : Dab} (h : ∀ i, i < W * H → f i = f' i) : undP W H f d = undP W H f' d := by
  unfold undP
  split
  · rename_i c
    obtain ⟨c1, c2, c3, c4⟩ := c
    have := atP_idx c1 c2 c3 c4
    have e : (H : Int) * (W : Int) = ((W * H : Nat) : Int) := by rw [Int.natCast_mul, Int.mul_comm]
    exact h _ (by omega)
  · rfl
theorem under_row (W H : Nat) (g n : Nat) (f : Nat → Px) (d : Dab) (w : World) (h : Row w g n f) (hl : n = W * H) (hW : W ≤ 256) (hH : H ≤ 256) (hd : dOk d = true) :
    Calls Tryz.prog 31 #[.agg #[.int .i64 W, .int .i64 H, .slice (some ⟨g, 0, none⟩) n n], dbv d] w fun e w' => e = .returned (pvx (undP W H f d)) ∧ Below w.heap.size w w' := by
  have hWH : W * H ≤ 256 * 256 := Nat.mul_le_mul hW hH
  have hlen : ((List.range n).map f).length = n := by simp
  have hat : ∀ i, i < n → pxAt ((List.range n).map f) i = f i := fun i hi => by simp [pxAt, List.getD, hi]
  rw [show undP W H f d = undP W H (pxAt ((List.range n).map f)) d from undP_congr (fun i hi => (hat i (by omega)).symm)]
  exact under_any W H _ ((List.range n).map f) d w (h.pn hlen (by omega) hat) (by rw [hlen, hl]) hW hH hd
theorem smuF_take (B : Bru) (W H : Nat) (sw : Int) (zs : List Int) (ds : List Dab) (s : (Nat → Px) × Px) (k : Nat) (hk : k < ds.length) : smuF B W H sw zs (ds.take (k + 1)) s = smuS B W H sw zs (smuF B W H sw zs (ds.take k) s) (dbAt ds k) := by
  have e : ds.take (k + 1) = ds.take k ++ [dbAt ds k] := by
    rw [List.take_add_one, List.getElem?_eq_getElem hk]
    unfold dbAt
    rw [List.getD_eq_getElem?_getD, List.getElem?_eq_getElem hk]
    rfl
  rw [e, smuF_snoc]
theorem bchk_fl {B : Bru} (h : bchk B = 0) : 0 ≤ B.fl ∧ B.fl ≤ 65535 := by
  have := bchk_ok h
  omega

set_option maxHeartbeats 4000000 in
set_option maxRecDepth 100000 in
theorem smudge_bad (iw ih : Int) (iv : Value) (ps : List Px) (B : Bru) (u lv : Value) (ls : List Smp) (mw mh : Int) (mv : Value) (zs : List Int) (w : World) (hI : Pn w iv ps) (hD : Dn w u B.ds) (hL : Sm w lv ls) (hM : Nn w mv zs) (hE : prepE iw ih ps B ls mw mh zs ≠ 0) :
    Calls Tryz.prog 10 #[.agg #[.int .i64 iw, .int .i64 ih, iv], brv B u, lv, .agg #[.int .i64 mw, .int .i64 mh, mv]] w fun e w' => e = .returned (.tuple #[.agg #[.int .i64 0, .int .i64 0, .slice none 0 0], .int .i64 (prepE iw ih ps B ls mw mh zs)]) ∧ Below w.heap.size w w' := by
  have HI := Lib.hid hI
  have HD := Lib.hid hD
  have HL := Lib.hid hL
  have HM := Lib.hid hM
  obtain ⟨ai, ci, rfl⟩ := hI.slice
  obtain ⟨a, cap, rfl⟩ := Qn.slice hL
  obtain ⟨au, capu, rfl, _, _⟩ := hD
  obtain ⟨am, cm, rfl, _⟩ := hM.slice
  have PR : Hid (∀ w, Pn w (.slice ai ps.length ci) ps → Dn w (.slice au B.ds.length capu) B.ds → Sm w (.slice a ls.length cap) ls → Nn w (.slice am zs.length cm) zs → Calls Tryz.prog 14 #[.agg #[.int .i64 iw, .int .i64 ih, .slice ai ps.length ci], brv B (.slice au B.ds.length capu), .slice a ls.length cap, .agg #[.int .i64 mw, .int .i64 mh, .slice am zs.length cm]] w fun e w' => ∃ a1 n1 c1, e = .returned (.tuple #[.slice a1 n1 c1, .int .i64 (prepE iw ih ps B ls mw mh zs)]) ∧ Below w.heap.size w w') := fun w h1 h2 h3 h4 => by
    refine (prep_any iw ih (.slice ai ps.length ci) ps B (.slice au B.ds.length capu) (.slice a ls.length cap) ls mw mh (.slice am zs.length cm) zs w h1 h2 h3 h4).mono ?_
    rintro e w' ⟨q, rfl, _, ⟨a1, n1, c1, rfl⟩, hb⟩
    exact ⟨a1, n1, c1, rfl, hb⟩
  have be : (prepE iw ih ps B ls mw mh zs != 0) = true := by simpa using hE
  clear hI hL hM hE
  generalize prepE iw ih ps B ls mw mh zs = E at *
  generalize ps.length = ni at *
  generalize zs.length = nz at *
  generalize ls.length = nl at *
  generalize B.ds.length = nd at *
  go_enter Tryz.func10, Tryz.ntmps10
  go_upto_region 1 with (fail)
  refine name4 (fun W1 k1 k2 k3 k4 hb => ?_)
  have c1 := k1.c3
  have c2 := k2.c16
  have c3 := k3.c3
  go_wp2_with fail
  clear c1 c2 c3
  refine (PR.out _ (HI.out.kept hb) (HD.out.kept hb) (HL.out.kept hb) (HM.out.kept hb)).mono ?_
  rintro e W2 ⟨a1, n1, p1, rfl, hS⟩
  replace k1 := k1.kept hS
  replace k2 := k2.kept hS
  replace k3 := k3.kept hS
  replace k4 := k4.kept hS
  replace hb := hb.trans (hS.mono hb.size)
  clear hS PR
  have c4 := k4.c3
  go_wp2_with fail
  exact bodyPost_ret (v := .tuple #[.agg #[.int .i64 0, .int .i64 0, .slice none 0 0], .int .i64 E]) (by simp [results, Tryz.results10, go_sem, c4]) rfl ⟨rfl, ((hb.setCell (by simp; omega) _).setCell (by simp; omega) _).setCell (by simp; omega) _⟩

set_option maxHeartbeats 32000000 in
set_option maxRecDepth 100000 in
theorem smudge_good (W H : Nat) (iv : Value) (ps : List Px) (B : Bru) (u lv : Value) (ls : List Smp) (mw mh : Int) (mv : Value) (zs : List Int) (w : World) (hs : Sines w) (hI : Pn w iv ps) (hD : Dn w u B.ds) (hL : Sm w lv ls) (hM : Nn w mv zs) (hE : prepE W H ps B ls mw mh zs = 0) :
    Calls Tryz.prog 10 #[.agg #[.int .i64 W, .int .i64 H, iv], brv B u, lv, .agg #[.int .i64 mw, .int .i64 mh, mv]] w fun e w' => ∃ q, e = .returned (.tuple #[.agg #[.int .i64 W, .int .i64 H, q], .int .i64 0]) ∧ Pn w' q (smuds B (dabs B ls).1 W H mw zs ps) ∧ Below w.heap.size w w' := by
  obtain ⟨h1, h2, h3, h4⟩ := prep_ok hE
  obtain ⟨hn, _, hW, _, hH, hnl⟩ := ichk_len h1
  obtain ⟨_, _, _, _, _, _, hzl⟩ := mchk_len h2
  obtain ⟨h0, _, hds, l1, l2, _⟩ := dabs_ok h3
  have hfl := bchk_fl h0
  have hzn : mw ≠ 0 → zs.length = ps.length := fun h0 => by
    obtain ⟨h5, h6⟩ : mw = W ∧ mh = H := by omega
    rw [h5, h6] at hzl
    omega
  have hWH : ps.length = W * H := by have := Int.natCast_mul W H; omega
  have HI := Lib.hid hI
  have HD := Lib.hid hD
  have HL := Lib.hid hL
  have HM := Lib.hid hM
  obtain ⟨ai, ci, rfl⟩ := hI.slice
  obtain ⟨a, cap, rfl⟩ := Qn.slice hL
  obtain ⟨au, capu, rfl, _, _⟩ := hD
  obtain ⟨am, cm, rfl, _⟩ := hM.slice
  have PR : Hid (∀ w, Pn w (.slice ai ps.length ci) ps → Dn w (.slice au B.ds.length capu) B.ds → Sm w (.slice a ls.length cap) ls → Nn w (.slice am zs.length cm) zs → Calls Tryz.prog 14 #[.agg #[.int .i64 W, .int .i64 H, .slice ai ps.length ci], brv B (.slice au B.ds.length capu), .slice a ls.length cap, .agg #[.int .i64 mw, .int .i64 mh, .slice am zs.length cm]] w fun e w' => ∃ a1 c1, e = .returned (.tuple #[.slice a1 (dabs B ls).1.length c1, .int .i64 0]) ∧ Bm w' (.slice a1 (dabs B ls).1.length c1) (dabs B ls).1 ∧ Below w.heap.size w w') := fun w h1 h2 h3 h4 => by
    refine (prep_any W H (.slice ai ps.length ci) ps B (.slice au B.ds.length capu) (.slice a ls.length cap) ls mw mh (.slice am zs.length cm) zs w h1 h2 h3 h4).mono ?_
    rintro e w' ⟨q, rfl, hq, _, hb⟩
    have hq := hq hE
    obtain ⟨a1, c1, rfl⟩ := Qn.slice hq
    exact ⟨a1, c1, by rw [hE], hq, hb⟩
  have HSn := Lib.hid hs
  have RN := Lib.hid (fun k c f (hk : k < (dabs B ls).1.length) => smu_round B (dbAt (dabs B ls).1 k) W H mw zs c f h0 (hds _ (dbAt_mem hk)) (by omega) (by omega))
  have TC := Lib.hid (fun d X Y TW TH zs w hs h hd hc => tip_cov B d X Y TW TH zs (.slice au B.ds.length capu) w hs h h0 hd hc)
  have DK := Lib.hid (fun k hk => hds (dbAt (dabs B ls).1 k) (dbAt_mem (k := k) hk))
  have DU := Lib.hid (fun w h => duplicate_any W H (.slice ai ps.length ci) ps w h hn)
  have UR := Lib.hid (fun g f d w h hd => under_row W H g ps.length f d w h hWH (by omega) (by omega) hd)
  have SE := Lib.hid (fun k w (hk : k < ps.length) h => selected_any mw mh (.slice am zs.length cm) zs k w h (fun h0 => by have := hzn h0; omega))
  have OL := Lib.hid (smuds_len B (dabs B ls).1 W H mw zs ps)
  obtain ⟨S, hS⟩ : ∃ S : Nat → (Nat → Px) × Px, S = fun k => smuF B W H mw zs ((dabs B ls).1.take k) (pxAt ps, undP W H (pxAt ps) (dbAt (dabs B ls).1 0)) := ⟨_, rfl⟩
  have S0 : Hid (S 0 = (pxAt ps, undP W H (pxAt ps) (dbAt (dabs B ls).1 0))) := by show _ = _; rw [hS]; rfl
  have SS : Hid (∀ k, k < (dabs B ls).1.length → S (k + 1) = (smuD B (dbAt (dabs B ls).1 k) W mw zs (S k).2 (S k).1, mxP (S k).2 (undP W H (S k).1 (dbAt (dabs B ls).1 k)) (65535 - B.fl))) := fun k hk => by rw [hS]; exact smuF_take B W H mw zs _ _ k hk
  have OA : Hid (∀ i, i < ps.length → pxAt (smuds B (dabs B ls).1 W H mw zs ps) i = (S (dabs B ls).1.length).1 i) := fun i hi => by rw [smuds_at _ _ _ _ _ _ _ _ hi, hS]; simp only [List.take_length]
  clear hI hL hM hE h1 h2 h3 h4 hnl hzl hs hzn h0 hds hS
  have hWn : ps.length = W * H := hWH
  clear hWH
  have DK0 := Lib.hid (DK.out 0 (by omega))
  generalize smuds B (dabs B ls).1 W H mw zs ps = out at *
  generalize (dabs B ls).1 = ds at *
  generalize hnn : ps.length = n at *
  generalize zs.length = nz at *
  generalize ls.length = nl at *
  generalize B.ds.length = nd at *
  have hWn2 := Lib.hid hWn
  clear hWn
  go_enter Tryz.func10, Tryz.ntmps10
  go_upto_region 1 with (fail)
  refine name4 (fun W1 k1 k2 k3 k4 hb => ?_)
  have c1 := k1.c3
  have c2 := k2.c16
  have c3 := k3.c3
  go_wp2_with fail
  clear c1 c2 c3
  refine (PR.out _ (HI.out.kept hb) (HD.out.kept hb) (HL.out.kept hb) (HM.out.kept hb)).mono ?_
  rintro e W2 ⟨a1, p1, rfl, hq1, hS⟩
  replace k1 := k1.kept hS
  replace k2 := k2.kept hS
  replace k3 := k3.kept hS
  replace k4 := k4.kept hS
  replace hb := hb.trans (hS.mono hb.size)
  clear hS PR
  have h0 := hb
  clear hb
  have hb := Below.refl W2.heap.size W2
  replace HI := Lib.hid (HI.out.kept h0)
  replace HD := Lib.hid (HD.out.kept h0)
  replace HM := Lib.hid (HM.out.kept h0)
  replace HSn := Lib.hid (HSn.out.kept h0)
  clear HL
  obtain ⟨bd, od, rfl, hbd, hall⟩ := Qn.all hq1 (by omega)
  have HA : Hid (∀ i, i < ds.length → ∀ w', Below W2.heap.size W2 w' → w'.cell? ⟨bd, od + i * 5, none⟩ = some (.int .i64 (dbAt ds i).x) ∧ w'.cell? ⟨bd, od + i * 5 + 1, none⟩ = some (.int .i64 (dbAt ds i).y) ∧ w'.cell? ⟨bd, od + i * 5 + 2, none⟩ = some (.int .i64 (dbAt ds i).sz) ∧ w'.cell? ⟨bd, od + i * 5 + 3, none⟩ = some (.int .i64 (dbAt ds i).fl) ∧ w'.cell? ⟨bd, od + i * 5 + 4, none⟩ = some (.int .i64 (dbAt ds i).an)) := fun i hi w' hw => hall i hi w' hw
  clear hq1 hall
  generalize hmm : ds.length = md at *
  clear hmm
  have HC0 := Lib.hid (HA.out 0 (by omega))
  simp only [Nat.zero_mul, Nat.add_zero] at HC0
  have c1 := k1.c3
  have l4 := k4.lt
  go_wp2_with fail
  clear c1
  refine (DU.out _ (HI.out.kept hb)).mono ?_
  rintro e W3 ⟨g, rfl, hg, row, hS⟩
  replace k1 := k1.kept hS
  replace k2 := k2.kept hS
  replace k3 := k3.kept hS
  replace k4 := k4.kept hS
  replace hb := hb.trans (hS.mono hb.size)
  have rl := row.lt
  clear hS DU
  go_upto_region 5 with (refine wpList_store_blk rfl _ _ _ rfl W3.heap.size #[.int .i64 W, .int .i64 H, .slice (some ⟨g, 0, none⟩) n n] rfl rfl (heap_alloc_new W3 _) infoImgR rfl (by simp [Value.oneCell']) (fun W4 ko hkx hbx => ?_))
  have hS : Below W3.heap.size W3 W4 := ((Below.refl _ _).alloc (Nat.le_refl _) _).trans hbx
  have hx0 : W2.heap.size ≤ W3.heap.size := hb.size
  replace k1 := k1.kept hS
  replace k2 := k2.kept hS
  replace k3 := k3.kept hS
  replace k4 := k4.kept hS
  replace hb := hb.trans (hS.mono hb.size)
  replace row := row.kept hS
  have lo := ko.lt
  clear hS hkx hbx
  generalize W3.heap.size = x at *
  have hgx : x ≠ g := by omega
  obtain ⟨s0, hs0⟩ : ∃ p, p = undP W H (pxAt ps) (dbAt ds 0) := ⟨_, rfl⟩
  have U0 := Lib.hid (fun w h => UR.out g (pxAt ps) (dbAt ds 0) w h DK0.out)
  rw [← hs0] at U0
  have S00 : Hid (S 0 = (pxAt ps, s0)) := by show _ = _; rw [S0.out, hs0]
  clear hs0 S0 DK0
  generalize dbAt ds 0 = d0 at *
  obtain ⟨s00, s01, s02, s03⟩ := s0
  replace U0 : Hid (∀ w, Row w g n (pxAt ps) → Calls Tryz.prog 31 #[.agg #[.int .i64 W, .int .i64 H, .slice (some ⟨g, 0, none⟩) n n], dbv d0] w fun e w' => e = .returned (pv s00 s01 s02 s03) ∧ Below w.heap.size w w') := U0
  have hr0 : (0 : Int) < (md : Int) := by omega
  have hr1 : 0 < md := by omega
  have lg := row.lt
  have hx4 : W2.heap.size ≤ W4.heap.size := hb.size
  refine wp_region_make 6 (by kernel_rfl) (by kernel_rfl) ?_
  simp only [makeOrder, numbered, mkB, List.take_succ_cons, List.take_zero, List.drop_succ_cons, List.drop_zero, List.filter_cons, List.filter_nil, Bool.not_true, Bool.not_false, Bool.false_eq_true, List.cons_append, List.nil_append, ↓reduceIte]
  repeat (first | (apply wpN_on; rfl; rfl; (intro w' hS K hK; have hc0 := (ko.kept hS).c3; have hc1 := (row.kept hS).lt; have hc2 := (k1.kept hS).lt; have hc3 := (k2.kept hS).lt; have hc4 := (k3.kept hS).lt; have hc5 := (k4.kept hS).lt; have hr0 := HC0.out _ (hb.trans (hS.mono hb.size)); go_simp; (first | exact hK.out _ (Below.refl _ _) | (go_at_call 31; (with_reducible refine (U0.out _ (row.kept hS)).mono ?_); rintro e w'' ⟨rfl, hbb⟩; exact ⟨_, rfl, hK.out _ hbb⟩))); simp only [Act.put, List.setIfInBounds_toArray, List.set_cons_succ, List.set_cons_zero]) | (apply wpN_off; rfl; rfl; simp only [Act.put, List.setIfInBounds_toArray, List.set_cons_succ, List.set_cons_zero]))
  apply wpN_new
  rfl
  rfl
  · intro w' hS K hK; have hc0 := (ko.kept hS).c3; have hc1 := (row.kept hS).lt; have hc2 := (k1.kept hS).lt; have hc3 := (k2.kept hS).lt; have hc4 := (k3.kept hS).lt; have hc5 := (k4.kept hS).lt; have hr0 := HC0.out _ (hb.trans (hS.mono hb.size)); go_simp; exact hK.out
  intro xc hxc nxc
  simp only [Act.put, mkOf, List.setIfInBounds_toArray, List.set_cons_succ, List.set_cons_zero]
  apply wpN_nil
  rintro W5 hS ⟨-, kxc⟩
  replace ko := ko.kept hS
  replace row := row.kept hS
  replace k1 := k1.kept hS
  replace k2 := k2.kept hS
  replace k3 := k3.kept hS
  replace k4 := k4.kept hS
  replace hb := hb.trans (hS.mono hb.size)
  have cxc := kxc.c4
  go_upto_region 6 with (fail)
  clear cxc hS nxc HC0 U0
  have hxc2 : W2.heap.size ≤ xc := by omega
  have hxg : xc ≠ g := by omega
  have hxo : xc ≠ x := by omega
  refine mid4q hb kxc hxc2 (fun W6 kc kk kn hb => ?_)
  replace k1 := kk _ _ (by omega) k1
  replace k2 := kk _ _ (by omega) k2
  replace k3 := kk _ _ (by omega) k3
  replace k4 := kk _ _ (by omega) k4
  replace ko := kk _ _ (by omega) ko
  replace row := row.via kk (by omega)
  clear kk kn kxc hxc lg
  replace row : Row W6 g n (S 0).1 := by rw [S00.out]; exact row
  replace kc : Blk W6 xc (.cells #[.int .i64 (S 0).2.1, .int .i64 (S 0).2.2.1, .int .i64 (S 0).2.2.2.1, .int .i64 (S 0).2.2.2.2] 26 (0, 0)) := by rw [S00.out]; exact kc
  clear S00
  go_wp2_with fail
  go_loopw [44] (fun i wr => ∃ k : Nat, k ≤ md ∧ i = .int .i64 k ∧ Row wr g n (S k).1 ∧ Blk wr xc (.cells #[.int .i64 (S k).2.1, .int .i64 (S k).2.2.1, .int .i64 (S k).2.2.2.1, .int .i64 (S k).2.2.2.2] 26 (0, 0)) ∧ Blk wr w.heap.size (.cells #[.int .i64 W, .int .i64 H, .slice ai n ci] 24 (0, 0)) ∧ Blk wr (w.heap.size + 1) (.cells #[.int .i64 B.sz, .int .i64 B.hd, .int .i64 B.rn, .int .i64 B.fl, .int .i64 B.op, .int .i64 B.sp, .int .i64 B.an, .int .i64 B.sc, .int .i64 B.md, .int .i64 B.r, .int .i64 B.g, .int .i64 B.b, .int .i64 B.a, .int .i64 B.sd, .slice au nd capu, .bool B.er] 29 (0, 0)) ∧ Blk wr (w.heap.size + 1 + 1) (.cells #[.int .i64 mw, .int .i64 mh, .slice am nz cm] 35 (0, 0)) ∧ Blk wr (w.heap.size + 1 + 1 + 1) (.cells #[.int .i64 0, .int .i64 0, .slice none 0 0] 24 (0, 0)) ∧ Blk wr x (.cells #[.int .i64 W, .int .i64 H, .slice (some ⟨g, 0, none⟩) n n] 24 (0, 0)) ∧ Below W2.heap.size W2 wr) (fun i _ => md - (intOf i).toNat)
  case atStart => exact ⟨0, Nat.zero_le _, rfl, row, kc, k1, k2, k3, k4, ko, hb⟩
  case round =>
    clear row kc k1 k2 k3 k4 ko hb
    obtain ⟨k, hk, rfl, row, kc, k1, k2, k3, k4, ko, hb⟩ := hrel
    by_cases hlt : k < md
    · obtain ⟨X, Y, TW, TH, ts, F, hr, hc, hzl, hzp, hzq, hF0, hF1, hF2⟩ := RN.out k (S k).2 (S k).1 hlt
      have hd := DK.out k hlt
      have hc5 := HA.out k hlt wr hb
      have SSk := Lib.hid (SS.out k hlt)
      have BX := Lib.hid (fun w => dabBox_any (dbAt ds k) w)
      have T1 := Lib.hid (fun w hs h => TC.out (dbAt ds k) X Y TW TH ts w hs h hd hc)
      have UK := Lib.hid (fun w h => UR.out g (S k).1 (dbAt ds k) w h hd)
      clear hc hd
      generalize smuD B (dbAt ds k) W mw zs (S k).2 (S k).1 = fD at *
      generalize undP W H (S k).1 (dbAt ds k) = un at *
      have M2 := Lib.hid (fun w => mixx_any (S k).2 un (65535 - B.fl) w)
      generalize mxP (S k).2 un (65535 - B.fl) = pD at *
      generalize dbAt ds k = d at *
      generalize (S k).1 = f at *
      generalize (S k).2 = c at *
      obtain ⟨c0, c1, c2, c3⟩ := c
      obtain ⟨u0, u1, u2, u3⟩ := un
      obtain ⟨p0, p1', p2, p3⟩ := pD
      simp only at kc
      replace M2 : Hid (∀ w, Calls Tryz.prog 35 #[pv c0 c1 c2 c3, pv u0 u1 u2 u3, .int .i64 (65535 - B.fl)] w fun e w' => e = .returned (pv p0 p1' p2 p3) ∧ Below w.heap.size w w') := M2
      replace UK : Hid (∀ w, Row w g n f → Calls Tryz.prog 31 #[.agg #[.int .i64 W, .int .i64 H, .slice (some ⟨g, 0, none⟩) n n], dbv d] w fun e w' => e = .returned (pv u0 u1 u2 u3) ∧ Below w.heap.size w w') := UK
      generalize dbox d = b at *
      obtain ⟨b0, b1, b2, b3⟩ := b
      replace BX : Hid (∀ w, Calls Tryz.prog 33 #[dbv d] w fun e w' => e = .returned (.agg #[.int .i64 b0, .int .i64 b1, .int .i64 b2, .int .i64 b3]) ∧ Below w.heap.size w w') := BX
      have RM := Lib.hid (fun w => rmeet_any b0 b1 b2 b3 0 0 W H w)
      rw [hr] at RM
      replace RM : Hid (∀ w, Calls Tryz.prog 32 #[.agg #[.int .i64 b0, .int .i64 b1, .int .i64 b2, .int .i64 b3], .agg #[.int .i64 0, .int .i64 0, .int .i64 W, .int .i64 H]] w fun e w' => e = .returned (.agg #[.int .i64 X, .int .i64 Y, .int .i64 TW, .int .i64 TH]) ∧ Below w.heap.size w w') := RM
      have HF0 := Lib.hid hF0
      have HF1 := Lib.hid hF1
      have HF2 := Lib.hid hF2
      have HZP := Lib.hid hzp
      have HZQ := Lib.hid hzq
      clear hr hF0 hF1 hF2 hzp hzq
      have i1 : (0 : Int) ≤ (k : Int) := by omega
      have i2 : (k : Int) < (md : Int) := by omega
      go_upto_region 9 with (fail)
      refine name1 (fun W7 kd hS => ?_)
      replace k1 := k1.kept hS
      replace k2 := k2.kept hS
      replace k3 := k3.kept hS
      replace k4 := k4.kept hS
      replace ko := ko.kept hS
      replace hb := hb.trans (hS.mono hb.size)
      replace row := row.kept hS
      replace kc := kc.kept hS
      clear hS hc5
      have co := ko.c3
      have c5 := kd.c5
      go_wp2_with fail
      clear co c5
      refine (UK.out _ row).mono ?_
      rintro e W8 ⟨rfl, hS⟩
      replace k1 := k1.kept hS
      replace k2 := k2.kept hS
      replace k3 := k3.kept hS
      replace k4 := k4.kept hS
      replace ko := ko.kept hS
      replace hb := hb.trans (hS.mono hb.size)
      replace row := row.kept hS
      replace kc := kc.kept hS
      replace kd := kd.kept hS
      clear hS UK
      have hqg0 := row.lt
      go_upto_region 10 with (fail)
      refine name1 (fun W9 kq hS => ?_)
      replace k1 := k1.kept hS
      replace k2 := k2.kept hS
      replace k3 := k3.kept hS
      replace k4 := k4.kept hS
      replace ko := ko.kept hS
      replace hb := hb.trans (hS.mono hb.size)
      replace row := row.kept hS
      replace kc := kc.kept hS
      replace kd := kd.kept hS
      clear hS
      have lq := kq.lt
      have l0 := row.lt
      have l1 := kc.lt
      have l2 := kd.lt
      have l3 := ko.lt
      have l5 := k4.lt
      have l6 : W2.heap.size ≤ W9.heap.size := hb.size
      refine wp_region_make 9 (by kernel_rfl) (by kernel_rfl) ?_
      simp only [makeOrder, numbered, mkB, List.take_succ_cons, List.take_zero, List.drop_succ_cons, List.drop_zero, List.filter_cons, List.filter_nil, Bool.not_true, Bool.not_false, Bool.false_eq_true, List.cons_append, List.nil_append, ↓reduceIte]
      repeat (first | (apply wpN_on; rfl; rfl; (intro w' hS K hK; have hc0 := (kd.kept hS).c5; have hc1 := (k1.kept hS).c3; have hc2 := (k2.kept hS).lt; have hc3 := (k3.kept hS).lt; have hc4 := (k4.kept hS).lt; have hc5 := (ko.kept hS).lt; have hc6 := (row.kept hS).lt; have hc7 := (kc.kept hS).lt; have hc8 := (kq.kept hS).lt; go_simp; (first | exact hK.out _ (Below.refl _ _) | (go_at_call 33; (with_reducible refine (BX.out _).mono ?_); rintro e w'' ⟨rfl, hbb⟩; exact ⟨_, rfl, hK.out _ hbb⟩) | (go_at_call 32; (with_reducible refine (RM.out _).mono ?_); rintro e w'' ⟨rfl, hbb⟩; exact ⟨_, rfl, hK.out _ hbb⟩))); simp only [Act.put, List.setIfInBounds_toArray, List.set_cons_succ, List.set_cons_zero]) | (apply wpN_off; rfl; rfl; simp only [Act.put, List.setIfInBounds_toArray, List.set_cons_succ, List.set_cons_zero]))
      apply wpN_new
      rfl
      rfl
      · intro w' hS K hK; have hc0 := (kd.kept hS).c5; have hc1 := (k1.kept hS).c3; have hc2 := (k2.kept hS).lt; have hc3 := (k3.kept hS).lt; have hc4 := (k4.kept hS).lt; have hc5 := (ko.kept hS).lt; have hc6 := (row.kept hS).lt; have hc7 := (kc.kept hS).lt; have hc8 := (kq.kept hS).lt; go_simp; exact hK.out
      intro xr hxr nxr
      simp only [Act.put, mkOf, List.setIfInBounds_toArray, List.set_cons_succ, List.set_cons_zero]
      apply wpN_nil
      rintro W10 hS ⟨-, kxr⟩
      replace kd := kd.kept hS
      replace k1 := k1.kept hS
      replace k2 := k2.kept hS
      replace k3 := k3.kept hS
      replace k4 := k4.kept hS
      replace ko := ko.kept hS
      replace row := row.kept hS
      replace kc := kc.kept hS
      replace kq := kq.kept hS
      replace hb := hb.trans (hS.mono hb.size)
      have cxr := kxr.c4
      go_upto_region 11 with (fail)
      clear cxr hS nxr BX RM
      refine mid4q hb kxr (by omega) (fun W11 kr kk kn hb => ?_)
      replace k1 := kk _ _ (by omega) k1
      replace k2 := kk _ _ (by omega) k2
      replace k3 := kk _ _ (by omega) k3
      replace k4 := kk _ _ (by omega) k4
      replace ko := kk _ _ (by omega) ko
      replace kc := kk _ _ (by omega) kc
      replace kd := kk _ _ (by omega) kd
      replace kq := kk _ _ (by omega) kq
      replace row := row.via kk (by omega)
      have hrg : xr ≠ g := by omega
      clear kk kn kxr lq l0 l1 l2 l3 l5 l6 hxr
      have cb := k2.c16
      have c5 := kd.c5
      have c4 := kr.c4
      have lg := row.lt
      go_wp2_with fail
      clear cb c5 c4
      refine (T1.out _ (HSn.out.kept hb) (HD.out.kept hb)).mono ?_
      rintro e W12 ⟨Wm, Hm, aq, nq, cq, rfl, hqb, hq, hS⟩
      replace k1 := k1.kept hS
      replace k2 := k2.kept hS
      replace k3 := k3.kept hS
      replace k4 := k4.kept hS
      replace ko := ko.kept hS
      replace hb := hb.trans (hS.mono hb.size)
      replace row := row.kept hS
      replace kc := kc.kept hS
      replace kq := kq.kept hS
      replace kr := kr.kept hS
      have HQB : Hid (∀ b o x, aq = some ⟨b, o, x⟩ → b ≠ g) := fun b o x h => by
        have := hqb b o x h
        omega
      obtain rfl := nn_len hq
      clear hS hqb T1 kd lg
      go_upto_region 12 with (refine wpList_store_blk rfl _ _ _ rfl W12.heap.size #[.int .i64 Wm, .int .i64 Hm, .slice aq ts.length cq] rfl rfl (heap_alloc_new W12 _) infoMask2 rfl (by simp [Value.oneCell']) (fun W13 km hkx hbx => ?_))
      have hS : Below W12.heap.size W12 W13 := ((Below.refl _ _).alloc (Nat.le_refl _) _).trans hbx
      replace hq := hq.kept hS
      replace k1 := k1.kept hS
      replace k2 := k2.kept hS
      replace k3 := k3.kept hS
      replace k4 := k4.kept hS
      replace ko := ko.kept hS
      replace hb := hb.trans (hS.mono hb.size)
      replace row := row.kept hS
      replace kc := kc.kept hS
      replace kq := kq.kept hS
      replace kr := kr.kept hS
      clear hS hkx hbx
      generalize hzM : ts.length = M at *
      clear hzM
      have cm2 := km.c3
      go_wp2_with fail
      clear cm2 km
      replace row := row.congr (f' := F 0) (fun i _ => (HF0.out i).symm)
      generalize W8.heap.size = xq at *
      have lr := kr.lt
      have lq := kq.lt
      have lc := kc.lt
      have hqg : xq ≠ g := by omega
      go_loopw [73] (fun i wr => ∃ m : Nat, m ≤ M ∧ i = .int .i64 m ∧ Row wr g n (F m) ∧ Nn wr (.slice aq M cq) ts ∧ Blk wr xr (.cells #[.int .i64 X, .int .i64 Y, .int .i64 TW, .int .i64 TH] 45 (0, 0)) ∧ Blk wr xq (.cells #[.int .i64 u0, .int .i64 u1, .int .i64 u2, .int .i64 u3] 26 (0, 0)) ∧ Blk wr xc (.cells #[.int .i64 c0, .int .i64 c1, .int .i64 c2, .int .i64 c3] 26 (0, 0)) ∧ Blk wr w.heap.size (.cells #[.int .i64 W, .int .i64 H, .slice ai n ci] 24 (0, 0)) ∧ Blk wr (w.heap.size + 1) (.cells #[.int .i64 B.sz, .int .i64 B.hd, .int .i64 B.rn, .int .i64 B.fl, .int .i64 B.op, .int .i64 B.sp, .int .i64 B.an, .int .i64 B.sc, .int .i64 B.md, .int .i64 B.r, .int .i64 B.g, .int .i64 B.b, .int .i64 B.a, .int .i64 B.sd, .slice au nd capu, .bool B.er] 29 (0, 0)) ∧ Blk wr (w.heap.size + 1 + 1) (.cells #[.int .i64 mw, .int .i64 mh, .slice am nz cm] 35 (0, 0)) ∧ Blk wr (w.heap.size + 1 + 1 + 1) (.cells #[.int .i64 0, .int .i64 0, .slice none 0 0] 24 (0, 0)) ∧ Blk wr x (.cells #[.int .i64 W, .int .i64 H, .slice (some ⟨g, 0, none⟩) n n] 24 (0, 0)) ∧ Below W2.heap.size W2 wr) (fun i _ => M - (intOf i).toNat)
      case atStart => exact ⟨0, Nat.zero_le _, rfl, row, hq, kr, kq, kc, k1, k2, k3, k4, ko, hb⟩
      case round =>
        clear row hq kr kq kc k1 k2 k3 k4 ko hb
        obtain ⟨m, hm, rfl, row, hq, kr, kq, kc, k1, k2, k3, k4, ko, hb⟩ := hrel
        by_cases hml : m < M
        · obtain ⟨bq, oq, rfl, hz⟩ := hq.at m hml
          obtain ⟨hidx, hFs⟩ := HF2.out m hml
          obtain ⟨q1, q2, q3, q4⟩ := HZP.out (by omega)
          have q5 := HZQ.out m hml
          have q6 : m % TW < TW := Nat.mod_lt _ q1
          rw [← hWn2.out] at hidx
          obtain ⟨idx, hix⟩ : ∃ idx, nIdx X Y TW W m = idx := ⟨_, rfl⟩
          rw [hix] at hidx hFs
          have t1 : ((m : Nat) : Int).tmod (TW : Int) = ((m % TW : Nat) : Int) := Int.tmod_eq_emod_of_nonneg (by omega)
          have t2 : ((m : Nat) : Int).tdiv (TW : Int) = ((m / TW : Nat) : Int) := Int.tdiv_eq_ediv_of_nonneg (by omega)
          unfold nIdx at hix
          generalize m / TW = qd at *
          generalize m % TW = rm at *
          obtain ⟨yq, hyq⟩ : ∃ yq, Y + qd = yq := ⟨_, rfl⟩
          rw [hyq] at hix
          obtain ⟨yw, hyw⟩ : ∃ yw, yq * W = yw := ⟨_, rfl⟩
          rw [hyw] at hix
          obtain ⟨yx, hyx⟩ : ∃ yx, yw + X = yx := ⟨_, rfl⟩
          have wz : ((TW : Int) == 0) = false := by simp; omega
          have wn : ¬ TW = 0 := by omega
          have e1 : IntKind.i64.wrap ((Y : Int) + (qd : Int)) = (yq : Int) := by rw [← hyq, ← Int.natCast_add]; exact IntWalk.i64_in _ (by omega)
          have e2 : IntKind.i64.wrap ((yq : Int) * (W : Int)) = (yw : Int) := by rw [← hyw, ← Int.natCast_mul]; exact IntWalk.i64_in _ (by omega)
          have e3 : IntKind.i64.wrap ((yw : Int) + (X : Int)) = (yx : Int) := by rw [← hyx, ← Int.natCast_add]; exact IntWalk.i64_in _ (by omega)
          have e4 : IntKind.i64.wrap ((yx : Int) + (rm : Int)) = (idx : Int) := by rw [show (yx : Int) + (rm : Int) = (idx : Int) by omega]; exact IntWalk.i64_in _ (by omega)
          have e5 : IntKind.i64.wrap (qd : Int) = (qd : Int) := IntWalk.i64_in _ (by omega)
          have e6 : IntKind.i64.wrap (rm : Int) = (rm : Int) := IntWalk.i64_in _ (by omega)
          clear hix hyq hyw hyx
          have SE1 := Lib.hid (fun w h => SE.out idx w hidx h)
          have MU := Lib.hid (fun w => mul_any (ts.getD m 0) (selK mw zs idx) w)
          have hV0 := mulU_bd' (ts.getD m 0) (selK mw zs idx)
          have RC := Lib.hid (fun w (h : Row w g n (F m)) => h.c idx hidx)
          have RZ : Hid (dv (cl (ts.getD m 0) * cl (selK mw zs idx)) 65535 = 0 → ∀ w, Row w g n (F m) → Row w g n (F (m + 1))) := fun h0 w h => h.congr (fun i _ => by
            rw [hFs i]
            by_cases hi : i = idx
            · rw [if_pos hi, hi]
              exact (if_pos h0).symm
            · rw [if_neg hi])
          have RS : Hid (dv (cl (ts.getD m 0) * cl (selK mw zs idx)) 65535 ≠ 0 → ∀ w, Row w g n (F m) → Row ((((w.setCell ⟨g, idx * 4, none⟩ (.int .i64 (mxP (F m idx) (c0, c1, c2, c3) (dv (cl (ts.getD m 0) * cl (selK mw zs idx)) 65535)).1)).setCell ⟨g, idx * 4 + 1, none⟩ (.int .i64 (mxP (F m idx) (c0, c1, c2, c3) (dv (cl (ts.getD m 0) * cl (selK mw zs idx)) 65535)).2.1)).setCell ⟨g, idx * 4 + 2, none⟩ (.int .i64 (mxP (F m idx) (c0, c1, c2, c3) (dv (cl (ts.getD m 0) * cl (selK mw zs idx)) 65535)).2.2.1)).setCell ⟨g, idx * 4 + 3, none⟩ (.int .i64 (mxP (F m idx) (c0, c1, c2, c3) (dv (cl (ts.getD m 0) * cl (selK mw zs idx)) 65535)).2.2.2)) g n (F (m + 1))) := fun h0 w h => (h.set idx hidx _).congr (fun i _ => by
            rw [hFs i]
            by_cases hi : i = idx
            · rw [if_pos hi, if_pos hi, hi]
              exact (if_neg h0).symm
            · rw [if_neg hi, if_neg hi])
          clear hFs
          generalize selK mw zs idx = sv at *
          generalize ts.getD m 0 = z at *
          generalize dv (cl z * cl sv) 65535 = V at *
          have MX := Lib.hid (fun w => mixx_any (F m idx) (c0, c1, c2, c3) V w)
          generalize mxP (F m idx) (c0, c1, c2, c3) V = np at *
          generalize F m idx = fp at *
          obtain ⟨f0, f1, f2, f3⟩ := fp
          obtain ⟨n0, n1, n2, n3⟩ := np
          simp only at RC RS
          replace MX : Hid (∀ w, Calls Tryz.prog 35 #[pv f0 f1 f2 f3, pv c0 c1 c2 c3, .int .i64 V] w fun e w' => e = .returned (pv n0 n1 n2 n3) ∧ Below w.heap.size w w') := MX
          have i1 : (0 : Int) ≤ (m : Int) := by omega
          have i2 : (m : Int) < (M : Int) := by omega
          have j1 : (0 : Int) ≤ (idx : Int) := by omega
          have j2 : (idx : Int) < (n : Int) := by omega
          go_upto_region 17 with (fail)
          clear hz
          refine wp_region_grow 18 (fun w' => Below (World.heap wr).size wr w') (by kernel_rfl) (by kernel_rfl) (Below.refl _ _).drew ?_
          simp only [List.take_succ_cons, List.take_zero, List.drop_succ_cons, List.drop_zero]
          repeat (first | (apply wpG_on; rfl; (intro w' hS K hK; have hc0 := (kr.kept hS).c4; have hc1 := (k1.kept hS).c3; have hc2 := (row.kept hS).lt; have hc3 := (hq.kept hS).slice; have hc4 := (kq.kept hS).lt; have hc5 := (kc.kept hS).lt; have hc6 := (k2.kept hS).lt; have hc7 := (k3.kept hS).lt; have hc8 := (k4.kept hS).lt; have hc9 := (ko.kept hS).lt; go_simp; (first | exact hK.out _ hS)); simp only [Act.put, List.setIfInBounds_toArray, List.set_cons_succ, List.set_cons_zero]) | (apply wpG_off; rfl; simp only [Act.put, List.setIfInBounds_toArray, List.set_cons_succ, List.set_cons_zero]))
          apply wpG_nil
          intro W14 hS
          replace kr := kr.kept hS
          replace k1 := k1.kept hS
          replace row := row.kept hS
          replace hq := hq.kept hS
          replace kq := kq.kept hS
          replace kc := kc.kept hS
          replace k2 := k2.kept hS
          replace k3 := k3.kept hS
          replace k4 := k4.kept hS
          replace ko := ko.kept hS
          replace hb := hb.trans (hS.mono hb.size)
          clear hS
          clear e1 e2 e3 e4 e5 e6 t1 t2 wz wn
          have cs := k3.c3
          go_wp2_with fail
          clear cs
          refine (SE1.out _ (HM.out.kept hb)).mono ?_
          rintro e W15 ⟨rfl, hS⟩
          replace k1 := k1.kept hS
          replace k2 := k2.kept hS
          replace k3 := k3.kept hS
          replace k4 := k4.kept hS
          replace ko := ko.kept hS
          replace hb := hb.trans (hS.mono hb.size)
          replace row := row.kept hS
          replace hq := hq.kept hS
          replace kr := kr.kept hS
          replace kq := kq.kept hS
          replace kc := kc.kept hS
          clear hS
          go_wp2_with fail
          refine (MU.out _).mono ?_
          rintro e w' ⟨rfl, rfl⟩
          by_cases hV : V = 0
          · replace RZ := Lib.hid (RZ.out hV)
            have bV : ¬ (0 : Int) < V := by omega
            go_wp2_with fail
            go_roundw
            case rel => exact ⟨m + 1, by omega, by go_num, RZ.out _ row, hq, kr, kq, kc, k1, k2, k3, k4, ko, hb⟩
            case measure => simp only [intOf]; omega
          · replace RS := Lib.hid (RS.out hV)
            have bV : (0 : Int) < V := by omega
            go_upto_region 20 with (fail)
            refine wp_region_grow 12 (fun w' => Below (World.heap W15).size W15 w') (by kernel_rfl) (by kernel_rfl) (Below.refl _ _).drew ?_
            simp only [List.take_succ_cons, List.take_zero, List.drop_succ_cons, List.drop_zero]
            repeat (first | (apply wpG_on; rfl; (intro w' hS K hK; have hc0 := (ko.kept hS).c3; have hc1 := (kc.kept hS).c4; have hc2 := (row.kept hS).lt; have hc3 := (hq.kept hS).slice; have hc4 := (kr.kept hS).lt; have hc5 := (kq.kept hS).lt; have hc6 := (k1.kept hS).lt; have hc7 := (k2.kept hS).lt; have hc8 := (k3.kept hS).lt; have hc9 := (k4.kept hS).lt; have hr0 := RC.out _ (row.kept hS); go_simp; (first | exact hK.out _ hS | (go_at_call 35; (with_reducible refine (MX.out _).mono ?_); rintro e w'' ⟨rfl, hbb⟩; exact ⟨_, rfl, hK.out _ (hS.trans (hbb.mono hS.size))⟩))); simp only [Act.put, List.setIfInBounds_toArray, List.set_cons_succ, List.set_cons_zero]) | (apply wpG_off; rfl; simp only [Act.put, List.setIfInBounds_toArray, List.set_cons_succ, List.set_cons_zero]))
            apply wpG_nil
            intro W16 hS
            replace ko := ko.kept hS
            replace kc := kc.kept hS
            replace row := row.kept hS
            replace hq := hq.kept hS
            replace kr := kr.kept hS
            replace kq := kq.kept hS
            replace k1 := k1.kept hS
            replace k2 := k2.kept hS
            replace k3 := k3.kept hS
            replace k4 := k4.kept hS
            replace hb := hb.trans (hS.mono hb.size)
            clear hS
            have cr := RC.out _ row
            go_wp2_with fail
            go_roundw
            case rel => exact ⟨m + 1, by omega, by go_num, RS.out _ row, nn_kept_set (nn_kept_set (nn_kept_set (nn_kept_set hq (fun b o x h => HQB.out b o x h) _) (fun b o x h => HQB.out b o x h) _) (fun b o x h => HQB.out b o x h) _) (fun b o x h => HQB.out b o x h) _, kr.other4 (by omega) _ _ _ _ _ _ _ _, kq.other4 (by omega) _ _ _ _ _ _ _ _, kc.other4 (by omega) _ _ _ _ _ _ _ _, k1.other4 (by omega) _ _ _ _ _ _ _ _, k2.other4 (by omega) _ _ _ _ _ _ _ _, k3.other4 (by omega) _ _ _ _ _ _ _ _, k4.other4 (by omega) _ _ _ _ _ _ _ _, ko.other4 (by omega) _ _ _ _ _ _ _ _, below4g hb (by omega) _ _ _ _ _ _ _ _⟩
            case measure => simp only [intOf]; omega
        · obtain rfl : m = M := by omega
          replace row := row.congr (f' := fD) (fun i hi => HF1.out i (by rw [← hWn2.out]; exact hi))
          have cc := kc.c4
          have cq2 := kq.c4
          have cb := k2.c16
          have e9 : IntKind.i64.wrap (65535 - B.fl) = 65535 - B.fl := IntWalk.i64_in _ (by omega)
          go_wp2_with fail
          clear cc cq2 cb
          refine (M2.out _).mono ?_
          rintro e W17 ⟨rfl, hS⟩
          replace k1 := k1.kept hS
          replace k2 := k2.kept hS
          replace k3 := k3.kept hS
          replace k4 := k4.kept hS
          replace ko := ko.kept hS
          replace hb := hb.trans (hS.mono hb.size)
          replace row := row.kept hS
          replace kc := kc.kept hS
          clear hS e9
          have cc := kc.c4
          go_upto_region 23 with (fail)
          clear cc
          refine mid4q hb kc (by omega) (fun W18 kc' kk kn hb => ?_)
          replace k1 := kk _ _ (by omega) k1
          replace k2 := kk _ _ (by omega) k2
          replace k3 := kk _ _ (by omega) k3
          replace k4 := kk _ _ (by omega) k4
          replace ko := kk _ _ (by omega) ko
          replace row := row.via kk (by omega)
          go_wp2_with fail
          go_roundw
          case rel => exact ⟨k + 1, by omega, by go_num, (by rw [SSk.out]; exact row), (by rw [SSk.out]; exact kc'), k1, k2, k3, k4, ko, hb⟩
          case measure => simp only [intOf]; omega
    · obtain rfl : k = md := by omega
      have co := ko.c3
      have c4 := k4.c3
      go_wp2_with fail
      clear co
      have PN : Hid (∀ w', Row w' g n (S k).1 → Pn w' (.slice (some ⟨g, 0, none⟩) n n) out) := fun w' h => h.pn OL.out (by omega) (fun i hi => OA.out i hi)
      have hbb := h0.trans (hb.mono h0.size)
      refine bodyPost_ret (v := .tuple #[.agg #[.int .i64 W, .int .i64 H, .slice (some ⟨g, 0, none⟩) n n], .int .i64 0]) (by simp [results, Tryz.results10, go_sem, c4]) rfl ⟨_, rfl, PN.out _ (((row.other (by simp; omega) _).other (by simp; omega) _).other (by simp; omega) _), ((hbb.setCell (by simp; omega) _).setCell (by simp; omega) _).setCell (by simp; omega) _⟩

/-- What imageeditor/retouch.Smudge gives. -/
theorem smudge_any (iw ih : Int) (iv : Value) (ps : List Px) (B : Bru) (u lv : Value) (ls : List Smp) (mw mh : Int) (mv : Value) (zs : List Int) (Wm Hm E : Int) (qs : List Px) (w : World) (hs : Sines w) (hI : Pn w iv ps) (hD : Dn w u B.ds) (hL : Sm w lv ls) (hM : Nn w mv zs) (ho : SmudOut iw ih ps B ls mw mh zs Wm Hm E qs) :
    Calls Tryz.prog 10 #[.agg #[.int .i64 iw, .int .i64 ih, iv], brv B u, lv, .agg #[.int .i64 mw, .int .i64 mh, mv]] w fun e w' => ∃ q, e = .returned (.tuple #[.agg #[.int .i64 Wm, .int .i64 Hm, q], .int .i64 E]) ∧ Pn w' q qs ∧ Below w.heap.size w w' := by
  rcases ho with ⟨h1, rfl, rfl, rfl, rfl⟩ | ⟨h1, rfl, rfl, rfl, rfl⟩
  · refine (smudge_bad iw ih iv ps B u lv ls mw mh mv zs w hI hD hL hM h1).mono ?_
    rintro e w' ⟨rfl, hb⟩
    exact ⟨_, rfl, Pn.nil _, hb⟩
  · obtain ⟨hi, _, _, _⟩ := prep_ok h1
    obtain ⟨_, a1, _, a3, _, a5⟩ := ichk_len hi
    obtain ⟨W, rfl⟩ : ∃ n : Nat, Wm = n := ⟨Wm.toNat, by omega⟩
    obtain ⟨H, rfl⟩ : ∃ n : Nat, Hm = n := ⟨Hm.toNat, by omega⟩
    exact smudge_good W H iv ps B u lv ls mw mh mv zs w hs hI hD hL hM h1
end Go.Proofs.YtieacbccadbdbaaGreatDoor

