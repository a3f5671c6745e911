/- imageeditorref29.Smudge (printed by gensmudr.py). -/
import Derived.Test.YtieacbccadbdbaaGreatDoorRetS
import Derived.Test.YtieacbccadbdbaaGreatDoorRetAk
import Derived.Test.YtieacbccadbdbaaGreatDoorRetPrR
import Derived.Test.YtieacbccadbdbaaGreatDoorLDabR
import Derived.Test.YtieacbccadbdbaaGreatDoorLRow
import Derived.Test.YtieacbccadbdbaaGreatDoorLKit
import Derived.Test.YtieacbccadbdbaaGreatDoorBrDabsI
import Derived.Deep.DeepCutAuto
import Derived.Deep.Cut
namespace Go.Proofs.YtieacbccadbdbaaGreatDoor
open Go.RowKit
set_option linter.unusedVariables false
attribute [local go_sem] Oper.gAt gUponK Oper.sAt stilK

/-- A slice of pixels stays where a newer block is stored. -/
theorem pn_new {w w1 w2 : World} {a : Option Addr} {n cap x : Nat} {ps : List Px} (h : Pn w (.slice a n cap) ps) (hb : Below w.heap.size w w1) (hx : w.heap.size ≤ x) (kk : ∀ i o, i ≠ x → Blk w1 i o → Blk w2 i o) : Pn w2 (.slice a n cap) ps := by
  have h1 := h.kept hb
  obtain ⟨a', cap', hv, hl, hr⟩ := h
  simp only [Value.slice.injEq] at hv
  rcases hr with h0 | ⟨b', off, ha, hlt, _⟩
  · exact ⟨a', cap', by rw [hv.1, hv.2.1, hv.2.2], hl, .inl h0⟩
  · refine pn_via h1 (fun b o y e => ?_) kk
    rw [hv.1, ha] at e
    simp only [Option.some.injEq, Addr.mk.injEq] at e
    omega
/-- A slice of pixels that stays, whatever is stored into the blocks x and y. -/
def PnX (x y : Nat) (w : World) (v : Value) (ps : List Px) : Prop := ∀ w' : World, (∀ i o, i ≠ x → i ≠ y → Blk w i o → Blk w' i o) → Pn w' v ps
theorem PnX.pn {x y : Nat} {w : World} {v : Value} {ps : List Px} (h : PnX x y w v ps) : Pn w v ps := h w (fun _ _ _ _ h => h)
theorem PnX.kept {x y : Nat} {w w1 : World} {v : Value} {ps : List Px} (h : PnX x y w v ps) (hb : Below w.heap.size w w1) : PnX x y w1 v ps := fun w' k => h w' (fun i o h1 h2 hB => k i o h1 h2 (hB.kept hb))
theorem PnX.via {x y : Nat} {w w1 : World} {v : Value} {ps : List Px} (h : PnX x y w v ps) (kk : ∀ i o, i ≠ x → Blk w i o → Blk w1 i o) : PnX x y w1 v ps := fun w' k => h w' (fun i o h1 h2 hB => k i o h1 h2 (kk i o h1 hB))
theorem PnX.new {x y z : Nat} {w w1 w2 : World} {v : Value} {ps : List Px} (h : PnX x y w v ps) (hb : Below w.heap.size w w1) (hz : w.heap.size ≤ z) (kk : ∀ i o, i ≠ z → Blk w1 i o → Blk w2 i o) : PnX x y w2 v ps := fun w' k => h w' (fun i o h1 h2 hB => k i o h1 h2 (kk i o (by have := hB.lt; omega) (hB.kept hb)))
theorem pnX_of {x y : Nat} {w w1 : World} {a : Option Addr} {n cap : Nat} {ps : List Px} (h : Pn w (.slice a n cap) ps) (hb : Below w.heap.size w w1) (hx : w.heap.size ≤ x) (hy : w.heap.size ≤ y) : PnX x y w1 (.slice a n cap) ps := by
  intro w' kk
  obtain ⟨a', cap', hv, hl, hr⟩ := h
  refine ⟨a', cap', hv, hl, ?_⟩
  rcases hr with h0 | ⟨b, off, ha, hlt, hc⟩
  · exact .inl h0
  · right
    have hB : Blk w b (w.heap[b]) := Array.getElem?_eq_getElem hlt
    have hB' := kk _ _ (by omega) (by omega) (hB.kept hb)
    refine ⟨b, off, ha, hB'.lt, fun i hi => ?_⟩
    have e : ∀ o, w'.cell? ⟨b, o, none⟩ = w.cell? ⟨b, o, none⟩ := fun o => by
      unfold World.cell?
      rw [show w'.heap[b]? = w.heap[b]? from Eq.trans hB' (Eq.symm hB)]
    rw [e, e, e, e]
    exact hc i hi
/-- The pixels as a list. -/
def lstP (n : Nat) (f : Nat → Px) : List Px := (List.range n).map f
theorem lstP_len (n : Nat) (f : Nat → Px) : (lstP n f).length = n := by simp [lstP]
theorem lstP_at (n : Nat) (f : Nat → Px) (i : Nat) (hi : i < n) : pxAt (lstP n f) i = f i := by simp [lstP, pxAt, List.getD, hi]
theorem pnX_own {x y : Nat} {w : World} {base n : Nat} {v : Value} {r : Nat → Px} (h : w.ownsRow base 26 4 v n (pcF r n)) (hx : x < base) (hy : y < base) (hn : n ≤ 65536) : PnX x y w v (lstP n r) := by
  intro w' kk
  refine pn_of_own (base := base) (n := n) (r := r) (e := 26) ?_ (lstP_len _ _) (by omega) (fun i hi => lstP_at _ _ _ hi)
  obtain ⟨h1, h2⟩ := h
  refine ⟨h1, ?_⟩
  rcases h2 with h2 | ⟨g, cap, cur, rfl, hb, hg, r⟩
  · exact .inl h2
  · exact .inr ⟨g, cap, cur, rfl, hb, kk _ _ (by omega) (by omega) hg, r⟩
theorem refUnder_lst (W H n : Nat) (f : Nat → Px) (v : Value) (d : Dab) (w : World) (h : Pn w v (lstP n f)) (hl : n = W * H) (hW : W ≤ 256) (hH : H ≤ 256) (hd : dOk d = true) :
    Calls Tryz.prog 36 #[.agg #[.int .i64 W, .int .i64 H, v], dbv d] w fun e w' => e = .returned (pvx (undP W H f d)) ∧ Below w.heap.size w w' := by
  rw [show undP W H f d = undP W H (pxAt (lstP n f)) d from undP_congr (fun i hi => (lstP_at n f i (by omega)).symm)]
  exact refUnder_any W H v (lstP n f) d w h (by rw [lstP_len, hl]) hW hH hd

set_option maxHeartbeats 4000000 in
set_option maxRecDepth 100000 in
theorem refSmudge_bad (iw ih : Int) (iv : Value) (ps : List Px) (B : Bru) (u lv : Value) (ls : List Smp) (mw mh : Int) (mv : Value) (zs : List Int) (w : World) (hI : Pn w iv ps) (hD : Dn w u B.ds) (hL : Sm w lv ls) (hM : Nn w mv zs) (hE : prepE iw ih ps B ls mw mh zs ≠ 0) :
    Calls Tryz.prog 11 #[.agg #[.int .i64 iw, .int .i64 ih, iv], brv B u, lv, .agg #[.int .i64 mw, .int .i64 mh, mv]] w fun e w' => e = .returned (.tuple #[.agg #[.int .i64 0, .int .i64 0, .slice none 0 0], .int .i64 (prepE iw ih ps B ls mw mh zs)]) ∧ Below w.heap.size w w' := by
  have HI := Lib.hid hI
  have HD := Lib.hid hD
  have HL := Lib.hid hL
  have HM := Lib.hid hM
  obtain ⟨ai, ci, rfl⟩ := hI.slice
  obtain ⟨a, cap, rfl⟩ := Qn.slice hL
  obtain ⟨au, capu, rfl, _, _⟩ := hD
  obtain ⟨am, cm, rfl, _⟩ := hM.slice
  have PR : Hid (∀ w, Pn w (.slice ai ps.length ci) ps → Dn w (.slice au B.ds.length capu) B.ds → Sm w (.slice a ls.length cap) ls → Nn w (.slice am zs.length cm) zs → Calls Tryz.prog 22 #[.agg #[.int .i64 iw, .int .i64 ih, .slice ai ps.length ci], brv B (.slice au B.ds.length capu), .slice a ls.length cap, .agg #[.int .i64 mw, .int .i64 mh, .slice am zs.length cm]] w fun e w' => ∃ a1 n1 c1, e = .returned (.tuple #[.slice a1 n1 c1, .int .i64 (prepE iw ih ps B ls mw mh zs)]) ∧ Below w.heap.size w w') := fun w h1 h2 h3 h4 => by
    refine (errors_any iw ih (.slice ai ps.length ci) ps B (.slice au B.ds.length capu) (.slice a ls.length cap) ls mw mh (.slice am zs.length cm) zs w h1 h2 h3 h4).mono ?_
    rintro e w' ⟨q, rfl, _, ⟨a1, n1, c1, rfl⟩, hb⟩
    exact ⟨a1, n1, c1, rfl, hb⟩
  have be : (prepE iw ih ps B ls mw mh zs != 0) = true := by simpa using hE
  clear hI hL hM hE
  generalize prepE iw ih ps B ls mw mh zs = E at *
  generalize ps.length = ni at *
  generalize zs.length = nz at *
  generalize ls.length = nl at *
  generalize B.ds.length = nd at *
  go_enter Tryz.func11, Tryz.ntmps11
  go_upto_region 1 with (fail)
  refine name4 (fun W1 k1 k2 k3 k4 hb => ?_)
  have c1 := k1.c3
  have c2 := k2.c16
  have c3 := k3.c3
  go_wp2_with fail
  clear c1 c2 c3
  refine (PR.out _ (HI.out.kept hb) (HD.out.kept hb) (HL.out.kept hb) (HM.out.kept hb)).mono ?_
  rintro e W2 ⟨a1, n1, p1, rfl, hS⟩
  replace k1 := k1.kept hS
  replace k2 := k2.kept hS
  replace k3 := k3.kept hS
  replace k4 := k4.kept hS
  replace hb := hb.trans (hS.mono hb.size)
  clear hS PR
  have c4 := k4.c3
  go_wp2_with fail
  exact bodyPost_ret (v := .tuple #[.agg #[.int .i64 0, .int .i64 0, .slice none 0 0], .int .i64 E]) (by simp [results, Tryz.results11, go_sem, c4]) rfl ⟨rfl, ((hb.setCell (by simp; omega) _).setCell (by simp; omega) _).setCell (by simp; omega) _⟩

set_option maxHeartbeats 32000000 in
set_option maxRecDepth 100000 in
theorem refSmudge_good (W H : Nat) (iv : Value) (ps : List Px) (B : Bru) (u lv : Value) (ls : List Smp) (mw mh : Int) (mv : Value) (zs : List Int) (w : World) (hI : Pn w iv ps) (hD : Dn w u B.ds) (hL : Sm w lv ls) (hM : Nn w mv zs) (hE : prepE W H ps B ls mw mh zs = 0) :
    Calls Tryz.prog 11 #[.agg #[.int .i64 W, .int .i64 H, iv], brv B u, lv, .agg #[.int .i64 mw, .int .i64 mh, mv]] w fun e w' => ∃ q, e = .returned (.tuple #[.agg #[.int .i64 W, .int .i64 H, q], .int .i64 0]) ∧ Pn w' q (smuds B (dabs B ls).1 W H mw zs ps) ∧ Below w.heap.size w w' := by
  obtain ⟨h1, h2, h3, h4⟩ := prep_ok hE
  obtain ⟨hn, _, hW, _, hH, hnl⟩ := ichk_len h1
  obtain ⟨_, _, _, _, _, _, hzl⟩ := mchk_len h2
  obtain ⟨h0, _, hds, l1, l2, _⟩ := dabs_ok h3
  have hfl := bchk_fl h0
  have hzn : mw ≠ 0 → zs.length = ps.length := fun h0 => by
    obtain ⟨h5, h6⟩ : mw = W ∧ mh = H := by omega
    rw [h5, h6] at hzl
    omega
  have hWH : ps.length = W * H := by have := Int.natCast_mul W H; omega
  have HI := Lib.hid hI
  have HD := Lib.hid hD
  have HL := Lib.hid hL
  have HM := Lib.hid hM
  obtain ⟨ai, ci, rfl⟩ := hI.slice
  obtain ⟨a, cap, rfl⟩ := Qn.slice hL
  obtain ⟨au, capu, rfl, _, _⟩ := hD
  obtain ⟨am, cm, rfl, _⟩ := hM.slice
  have PR : Hid (∀ w, Pn w (.slice ai ps.length ci) ps → Dn w (.slice au B.ds.length capu) B.ds → Sm w (.slice a ls.length cap) ls → Nn w (.slice am zs.length cm) zs → Calls Tryz.prog 22 #[.agg #[.int .i64 W, .int .i64 H, .slice ai ps.length ci], brv B (.slice au B.ds.length capu), .slice a ls.length cap, .agg #[.int .i64 mw, .int .i64 mh, .slice am zs.length cm]] w fun e w' => ∃ a1 c1, e = .returned (.tuple #[.slice a1 (dabs B ls).1.length c1, .int .i64 0]) ∧ Bm w' (.slice a1 (dabs B ls).1.length c1) (dabs B ls).1 ∧ Below w.heap.size w w') := fun w h1 h2 h3 h4 => by
    refine (errors_any W H (.slice ai ps.length ci) ps B (.slice au B.ds.length capu) (.slice a ls.length cap) ls mw mh (.slice am zs.length cm) zs w h1 h2 h3 h4).mono ?_
    rintro e w' ⟨q, rfl, hq, _, hb⟩
    have hq := hq hE
    obtain ⟨a1, c1, rfl⟩ := Qn.slice hq
    exact ⟨a1, c1, by rw [hE], hq, hb⟩
  have CV := Lib.hid (fun d x y w h => refCover_any B d x y (.slice au B.ds.length capu) w h)
  have DK := Lib.hid (fun k hk => hds (dbAt (dabs B ls).1 k) (dbAt_mem (k := k) hk))
  have UR := Lib.hid (fun f v d w h hd => refUnder_lst W H ps.length f v d w h hWH (by omega) (by omega) hd)
  have LP : Hid (lstP ps.length (pxAt ps) = ps) := List.ext_getElem (lstP_len _ _) (fun k h1 h2 => by
    simp [lstP, pxAt, h2])
  have SE := Lib.hid (fun k w (hk : k < ps.length) h => chosen_any mw mh (.slice am zs.length cm) zs k w h (fun h0 => by have := hzn h0; omega))
  have OL := Lib.hid (smuds_len B (dabs B ls).1 W H mw zs ps)
  obtain ⟨S, hS⟩ : ∃ S : Nat → (Nat → Px) × Px, S = fun k => smuF B W H mw zs ((dabs B ls).1.take k) (pxAt ps, undP W H (pxAt ps) (dbAt (dabs B ls).1 0)) := ⟨_, rfl⟩
  have S0 : Hid (S 0 = (pxAt ps, undP W H (pxAt ps) (dbAt (dabs B ls).1 0))) := by show _ = _; rw [hS]; rfl
  have SS : Hid (∀ k, k < (dabs B ls).1.length → S (k + 1) = (smuD B (dbAt (dabs B ls).1 k) W mw zs (S k).2 (S k).1, mxP (S k).2 (undP W H (S k).1 (dbAt (dabs B ls).1 k)) (65535 - B.fl))) := fun k hk => by rw [hS]; exact smuF_take B W H mw zs _ _ k hk
  have OA : Hid (∀ i, i < ps.length → pxAt (smuds B (dabs B ls).1 W H mw zs ps) i = (S (dabs B ls).1.length).1 i) := fun i hi => by rw [smuds_at _ _ _ _ _ _ _ _ hi, hS]; simp only [List.take_length]
  have OS : Hid (S (dabs B ls).1.length = smuF B W H mw zs (dabs B ls).1 (pxAt ps, undP W H (pxAt ps) (dbAt (dabs B ls).1 0))) := by show _ = _; rw [hS]; simp only [List.take_length]
  clear hI hL hM hE h1 h2 h3 h4 hnl hzl hzn h0 hds hS
  have hWn : ps.length = W * H := hWH
  clear hWH
  have RV : Hid (∀ B' d c f j, smuD B' d W mw zs c f j = if dv (cl (dcov B' d ((j % W : Nat) : Int) ((j / W : Nat) : Int)) * cl (selK mw zs j)) 65535 = 0 then f j else mxP (f j) c (dv (cl (dcov B' d ((j % W : Nat) : Int) ((j / W : Nat) : Int)) * cl (selK mw zs j)) 65535)) := fun _ _ _ _ _ => rfl
  have OQ : Hid (smuds B (dabs B ls).1 W H mw zs ps = lstP ps.length (smuF B W H mw zs (dabs B ls).1 (pxAt ps, undP W H (pxAt ps) (dbAt (dabs B ls).1 0))).1) := rfl
  rw [← OS.out] at OQ
  generalize smuds B (dabs B ls).1 W H mw zs ps = out at *
  generalize (dabs B ls).1 = ds at *
  generalize hnn : ps.length = n at *
  generalize zs.length = nz at *
  generalize ls.length = nl at *
  generalize B.ds.length = nd at *
  have hWn2 := Lib.hid hWn
  clear hWn
  go_enter Tryz.func11, Tryz.ntmps11
  go_upto_region 1 with (fail)
  refine name4 (fun W1 k1 k2 k3 k4 hb => ?_)
  have c1 := k1.c3
  have c2 := k2.c16
  have c3 := k3.c3
  go_wp2_with fail
  clear c1 c2 c3
  refine (PR.out _ (HI.out.kept hb) (HD.out.kept hb) (HL.out.kept hb) (HM.out.kept hb)).mono ?_
  rintro e W2 ⟨a1, p1, rfl, hq1, hS⟩
  replace k1 := k1.kept hS
  replace k2 := k2.kept hS
  replace k3 := k3.kept hS
  replace k4 := k4.kept hS
  replace hb := hb.trans (hS.mono hb.size)
  clear hS PR
  have h0 := hb
  clear hb
  have hb := Below.refl W2.heap.size W2
  have HI0 := HI
  replace HI := Lib.hid (HI.out.kept h0)
  replace HD := Lib.hid (HD.out.kept h0)
  replace HM := Lib.hid (HM.out.kept h0)
  clear HL
  obtain ⟨bd, od, rfl, hbd, hall⟩ := Qn.all hq1 (by omega)
  have HA : Hid (∀ i, i < ds.length → ∀ w', Below W2.heap.size W2 w' → w'.cell? ⟨bd, od + i * 5, none⟩ = some (.int .i64 (dbAt ds i).x) ∧ w'.cell? ⟨bd, od + i * 5 + 1, none⟩ = some (.int .i64 (dbAt ds i).y) ∧ w'.cell? ⟨bd, od + i * 5 + 2, none⟩ = some (.int .i64 (dbAt ds i).sz) ∧ w'.cell? ⟨bd, od + i * 5 + 3, none⟩ = some (.int .i64 (dbAt ds i).fl) ∧ w'.cell? ⟨bd, od + i * 5 + 4, none⟩ = some (.int .i64 (dbAt ds i).an)) := fun i hi w' hw => hall i hi w' hw
  clear hq1 hall
  generalize hmm : ds.length = md at *
  clear hmm
  have l4 := k4.lt
  have c1 := k1.c3
  go_upto_region 5 with (refine wpList_store_blk rfl _ _ _ rfl W2.heap.size #[.int .i64 W, .int .i64 H, .slice ai n ci] rfl rfl (heap_alloc_new W2 _) infoImgR rfl (by simp [Value.oneCell']) (fun W4 kt hkx hbx => ?_))
  clear c1
  have hS : Below W2.heap.size W2 W4 := ((Below.refl _ _).alloc (Nat.le_refl _) _).trans hbx
  replace k1 := k1.kept hS
  replace k2 := k2.kept hS
  replace k3 := k3.kept hS
  replace k4 := k4.kept hS
  replace hb := hb.trans (hS.mono hb.size)
  clear hS hkx hbx
  obtain ⟨xt, hxt⟩ : ∃ x, x = W2.heap.size := ⟨_, rfl⟩
  rw [← hxt] at kt ⊢
  have hxt1 : W2.heap.size ≤ xt := by omega
  have lt := kt.lt
  clear hxt
  go_upto_region 6 with (fail)
  refine name1 (fun W5 kc hS => ?_)
  replace k1 := k1.kept hS
  replace k2 := k2.kept hS
  replace k3 := k3.kept hS
  replace k4 := k4.kept hS
  replace kt := kt.kept hS
  replace hb := hb.trans (hS.mono hb.size)
  clear hS
  generalize W4.heap.size = xc at *
  have hct : xc ≠ xt := by omega
  have hxc1 : W2.heap.size ≤ xc := by omega
  have PT : PnX xc (w.heap.size + 1 + 1 + 1) W5 (.slice ai n ci) (lstP n (S 0).1) := by
    rw [S0.out]
    show PnX xc (w.heap.size + 1 + 1 + 1) W5 (.slice ai n ci) (lstP n (pxAt ps))
    rw [LP.out]
    exact pnX_of HI0.out (h0.trans (hb.mono h0.size)) (by have := h0.size; omega) (by omega)
  obtain ⟨cK, hcK0, hcK1⟩ : ∃ cK : Nat → Px, cK 0 = (0, 0, 0, 0) ∧ ∀ k, cK (k + 1) = (S (k + 1)).2 := ⟨fun k => if k = 0 then (0, 0, 0, 0) else (S k).2, rfl, fun k => if_neg (by omega)⟩
  have CK1 := Lib.hid hcK1
  have CK0 := Lib.hid hcK0
  have CK2 : Hid (∀ k, k ≠ 0 → cK k = (S k).2) := fun k hk => by
    obtain ⟨m, rfl⟩ : ∃ m, k = m + 1 := ⟨k - 1, by omega⟩
    exact hcK1 m
  have SU : Hid ((S 0).2 = undP W H (S 0).1 (dbAt ds 0)) := by show _ = _; rw [S0.out]
  replace kc : Blk W5 xc (.cells #[.int .i64 (cK 0).1, .int .i64 (cK 0).2.1, .int .i64 (cK 0).2.2.1, .int .i64 (cK 0).2.2.2] 26 (0, 0)) := by rw [hcK0]; exact kc
  clear hcK0 hcK1 S0 LP HI0
  go_wp2_with fail
  go_loopw [14] (fun i wr => ∃ (k : Nat) (tv : Value), k ≤ md ∧ i = .int .i64 k ∧ PnX xc (w.heap.size + 1 + 1 + 1) wr tv (lstP n (S k).1) ∧ Blk wr xt (.cells #[.int .i64 W, .int .i64 H, tv] 24 (0, 0)) ∧ Blk wr xc (.cells #[.int .i64 (cK k).1, .int .i64 (cK k).2.1, .int .i64 (cK k).2.2.1, .int .i64 (cK k).2.2.2] 26 (0, 0)) ∧ Blk wr w.heap.size (.cells #[.int .i64 W, .int .i64 H, .slice ai n ci] 24 (0, 0)) ∧ Blk wr (w.heap.size + 1) (.cells #[.int .i64 B.sz, .int .i64 B.hd, .int .i64 B.rn, .int .i64 B.fl, .int .i64 B.op, .int .i64 B.sp, .int .i64 B.an, .int .i64 B.sc, .int .i64 B.md, .int .i64 B.r, .int .i64 B.g, .int .i64 B.b, .int .i64 B.a, .int .i64 B.sd, .slice au nd capu, .bool B.er] 29 (0, 0)) ∧ Blk wr (w.heap.size + 1 + 1) (.cells #[.int .i64 mw, .int .i64 mh, .slice am nz cm] 35 (0, 0)) ∧ Blk wr (w.heap.size + 1 + 1 + 1) (.cells #[.int .i64 0, .int .i64 0, .slice none 0 0] 24 (0, 0)) ∧ Below W2.heap.size W2 wr) (fun i _ => md - (intOf i).toNat)
  case atStart => exact ⟨0, _, Nat.zero_le _, rfl, PT, kt, kc, k1, k2, k3, k4, hb⟩
  case round =>
    clear PT kt kc k1 k2 k3 k4 hb
    obtain ⟨k, tv, hk, rfl, PT, kt, kc, k1, k2, k3, k4, hb⟩ := hrel
    obtain ⟨at0, ct, rfl⟩ := PT.pn.slice
    rw [lstP_len] at PT kt
    by_cases hlt : k < md
    · have hd := DK.out k hlt
      have HD5 := Lib.hid (HA.out k hlt)
      have SSk := Lib.hid (SS.out k hlt)
      have CKk := Lib.hid (CK1.out k)
      rw [SSk.out] at CKk
      have UK := Lib.hid (fun w h => UR.out (S k).1 (.slice at0 n ct) (dbAt ds k) w h hd)
      have CVk := Lib.hid (fun x y w h => CV.out (dbAt ds k) x y w h)
      have RVk := Lib.hid (RV.out B (dbAt ds k) (S k).2 (S k).1)
      have KZ : Hid ((k = 0 ∧ cK k = (0, 0, 0, 0) ∧ (S k).2 = undP W H (S k).1 (dbAt ds k)) ∨ (k ≠ 0 ∧ cK k = (S k).2)) := by
        by_cases h : k = 0
        · subst h; exact .inl ⟨rfl, CK0.out, SU.out⟩
        · exact .inr ⟨h, CK2.out k h⟩
      clear hd
      generalize smuD B (dbAt ds k) W mw zs (S k).2 (S k).1 = fD at *
      generalize undP W H (S k).1 (dbAt ds k) = un at *
      have M2 := Lib.hid (fun w => refMixx_any (S k).2 un (65535 - B.fl) w)
      generalize mxP (S k).2 un (65535 - B.fl) = pD at *
      generalize dbAt ds k = d at *
      generalize (S k).1 = f at *
      generalize (S k).2 = c at *
      generalize cK k = c' at *
      obtain ⟨c0, c1', c2', c3'⟩ := c
      obtain ⟨z0, z1, z2, z3⟩ := c'
      obtain ⟨u0, u1, u2, u3⟩ := un
      obtain ⟨p0, p1', p2, p3⟩ := pD
      simp only at kc
      replace M2 : Hid (∀ w, Calls Tryz.prog 38 #[pv c0 c1' c2' c3', pv u0 u1 u2 u3, .int .i64 (65535 - B.fl)] w fun e w' => e = .returned (pv p0 p1' p2 p3) ∧ Below w.heap.size w w') := M2
      replace UK : Hid (∀ w, Pn w (.slice at0 n ct) (lstP n f) → Calls Tryz.prog 36 #[.agg #[.int .i64 W, .int .i64 H, .slice at0 n ct], dbv d] w fun e w' => e = .returned (pv u0 u1 u2 u3) ∧ Below w.heap.size w w') := UK
      have i1 : (0 : Int) ≤ (k : Int) := by omega
      have i2 : (k : Int) < (md : Int) := by omega
      have i3 : k < md := hlt
      have l1 := k4.lt
      have l2 := kt.lt
      have l3 := kc.lt
      have l5 := hb.size
      have PTH := Lib.hid PT
      go_upto_region 9 with (fail)
      refine wp_region_make 7 (by kernel_rfl) (by kernel_rfl) ?_
      simp only [makeOrder, numbered, mkB, List.take_succ_cons, List.take_zero, List.drop_succ_cons, List.drop_zero, List.filter_cons, List.filter_nil, Bool.not_true, Bool.not_false, Bool.false_eq_true, List.cons_append, List.nil_append, ↓reduceIte]
      repeat (first | (apply wpN_on; rfl; rfl; (intro w' hS K hK; have hc0 := (kt.kept hS).c3; have hc1 := (kc.kept hS).lt; have hc2 := (k1.kept hS).lt; have hc3 := (k2.kept hS).lt; have hc4 := (k3.kept hS).lt; have hc5 := (k4.kept hS).lt; have hr0 := HD5.out _ (hb.trans (hS.mono hb.size)); go_simp; (first | exact hK.out _ (Below.refl _ _) | (go_at_call 36; (with_reducible refine (UK.out _ (PTH.out.pn.kept hS)).mono ?_); rintro e w'' ⟨rfl, hbb⟩; exact ⟨_, rfl, hK.out _ hbb⟩))); simp only [Act.put, List.setIfInBounds_toArray, List.set_cons_succ, List.set_cons_zero]) | (apply wpN_off; rfl; rfl; simp only [Act.put, List.setIfInBounds_toArray, List.set_cons_succ, List.set_cons_zero]))
      apply wpN_new
      rfl
      rfl
      · intro w' hS K hK; have hc0 := (kt.kept hS).c3; have hc1 := (kc.kept hS).lt; have hc2 := (k1.kept hS).lt; have hc3 := (k2.kept hS).lt; have hc4 := (k3.kept hS).lt; have hc5 := (k4.kept hS).lt; have hr0 := HD5.out _ (hb.trans (hS.mono hb.size)); go_simp; exact hK.out
      intro xq hxq nxq
      simp only [Act.put, mkOf, List.setIfInBounds_toArray, List.set_cons_succ, List.set_cons_zero]
      apply wpN_nil
      rintro W6 hS ⟨-, kxq⟩
      replace kt := kt.kept hS
      replace kc := kc.kept hS
      replace k1 := k1.kept hS
      replace k2 := k2.kept hS
      replace k3 := k3.kept hS
      replace k4 := k4.kept hS
      replace hb := hb.trans (hS.mono hb.size)
      have cq := kxq.c4
      go_step
      go_step
      go_step
      go_step
      go_step
      go_step
      go_step
      clear cq nxq UK
      refine mid4q hb kxq (by omega) (fun W7 kq kk kn hb => ?_)
      replace PT := PT.new hS hxq kk
      replace k1 := kk _ _ (by omega) k1
      replace k2 := kk _ _ (by omega) k2
      replace k3 := kk _ _ (by omega) k3
      replace k4 := kk _ _ (by omega) k4
      replace kt := kk _ _ (by omega) kt
      replace kc := kk _ _ (by omega) kc
      clear kk kn kxq hS PTH
      have hqc : xq ≠ xc := by omega
      have hqt : xq ≠ xt := by omega
      have hq4 : W2.heap.size ≤ xq := by omega
      go_cut [15] (fun s15 wx => s15 = .pointer (some ⟨xq, 0, none⟩) ∧ PnX xc (w.heap.size + 1 + 1 + 1) wx (.slice at0 n ct) (lstP n f) ∧ Blk wx xc (.cells #[.int .i64 c0, .int .i64 c1', .int .i64 c2', .int .i64 c3'] 26 (0, 0)) ∧ Blk wx xq (.cells #[.int .i64 u0, .int .i64 u1, .int .i64 u2, .int .i64 u3] 26 (0, 0)) ∧ Blk wx w.heap.size (.cells #[.int .i64 W, .int .i64 H, .slice ai n ci] 24 (0, 0)) ∧ Blk wx (w.heap.size + 1) (.cells #[.int .i64 B.sz, .int .i64 B.hd, .int .i64 B.rn, .int .i64 B.fl, .int .i64 B.op, .int .i64 B.sp, .int .i64 B.an, .int .i64 B.sc, .int .i64 B.md, .int .i64 B.r, .int .i64 B.g, .int .i64 B.b, .int .i64 B.a, .int .i64 B.sd, .slice au nd capu, .bool B.er] 29 (0, 0)) ∧ Blk wx (w.heap.size + 1 + 1) (.cells #[.int .i64 mw, .int .i64 mh, .slice am nz cm] 35 (0, 0)) ∧ Blk wx (w.heap.size + 1 + 1 + 1) (.cells #[.int .i64 0, .int .i64 0, .slice none 0 0] 24 (0, 0)) ∧ Blk wx xt (.cells #[.int .i64 W, .int .i64 H, .slice at0 n ct] 24 (0, 0)) ∧ Below W2.heap.size W2 wx)
      case first =>
        rcases KZ.out with ⟨hk0, e1, e2⟩ | ⟨hkn, e1⟩
        · simp only [Prod.mk.injEq] at e1 e2
          obtain ⟨rfl, rfl, rfl, rfl⟩ := e1
          obtain ⟨rfl, rfl, rfl, rfl⟩ := e2
          have ck : ((k : Int) == 0) = true := by simp; omega
          have ck3 : decide ((k : Int) = 0) = true := by simp; omega
          have ck4 : (k == 0) = true := by simp; omega
          have ck5 : decide (k = 0) = true := by simp; omega
          have HK0 := Lib.hid hk0
          clear hk0
          have cq := kq.c4
          have cc := kc.c4
          go_wp2_with fail
          clear cq cc
          go_meet
          first | (have ch := set4 kc (.int .i64 c0) (.int .i64 c1') (.int .i64 c2') (.int .i64 c3'); exact ⟨rfl, PT.via (fun i o h hB => ch.keeps i o h hB), ch.blk, ch.keeps _ _ (by omega) kq, ch.keeps _ _ (by omega) k1, ch.keeps _ _ (by omega) k2, ch.keeps _ _ (by omega) k3, ch.keeps _ _ (by omega) k4, ch.keeps _ _ (by omega) kt, hb.trans (ch.below hxc1)⟩) | (have ch := set4 kc (.int .i64 u0) (.int .i64 u1) (.int .i64 u2) (.int .i64 u3); exact ⟨rfl, PT.via (fun i o h hB => ch.keeps i o h hB), ch.blk, ch.keeps _ _ (by omega) kq, ch.keeps _ _ (by omega) k1, ch.keeps _ _ (by omega) k2, ch.keeps _ _ (by omega) k3, ch.keeps _ _ (by omega) k4, ch.keeps _ _ (by omega) kt, hb.trans (ch.below hxc1)⟩)
        · simp only [Prod.mk.injEq] at e1
          obtain ⟨rfl, rfl, rfl, rfl⟩ := e1
          have ck : ((k : Int) == 0) = false := by simp; omega
          have ck2 : ¬ (k : Int) = 0 := by omega
          go_wp2_with fail
          go_meet
          exact ⟨rfl, PT, kc, kq, k1, k2, k3, k4, kt, hb⟩
      case rest =>
      clear PT kt kc kq k1 k2 k3 k4 hb KZ
      obtain ⟨rfl, PT, kc, kq, k1, k2, k3, k4, kt, hb⟩ := hcut
      obtain ⟨W8, hW8⟩ : ∃ W8, W8 = wc := ⟨_, rfl⟩
      rw [← hW8] at PT kc kq k1 k2 k3 k4 kt hb ⊢
      clear hW8
      have h8 := hb
      clear hb
      have lq := kq.lt
      have lc := kc.lt
      have l4w := k4.lt
      have ltt := kt.lt
      have l8 : W2.heap.size ≤ W8.heap.size := h8.size
      have K1 := Lib.hid k1
      have K2 := Lib.hid k2
      have K3 := Lib.hid k3
      have K4 := Lib.hid k4
      have KT := Lib.hid kt
      have KC := Lib.hid kc
      have KQ := Lib.hid kq
      have PN := Lib.hid PT.pn
      have PTH2 := Lib.hid PT
      have c1 := k1.c3
      go_upto_region 13 with (fail)
      clear c1 k1 k2 k3 k4 kt kc kq PT PTH2
      refine name1 (fun W9 kn hb => ?_)
      obtain ⟨xn, hxn⟩ : ∃ x, x = W8.heap.size := ⟨_, rfl⟩
      rw [← hxn] at kn ⊢
      have hx1 : W8.heap.size ≤ xn := by omega
      have oxl := kn.lt
      clear hxn
      obtain ⟨base, hbase⟩ : ∃ base, base = W9.heap.size := ⟨_, rfl⟩
      have own := own_nil W9 base 26 fD
      have hbs : base ≤ W9.heap.size := by omega
      rw [← hbase] at oxl
      clear hbase
      have ct := (KT.out.kept hb).c3
      go_wp2_with fail
      clear ct
      go_loopw [17] (fun i wr => ∃ (j : Nat) (q : Value), j ≤ n ∧ i = .int .i64 j ∧ wr.ownsRow base 26 4 q j (pcF fD j) ∧ base ≤ wr.heap.size ∧ Blk wr xn (.cells #[.int .i64 W, .int .i64 H, q] 24 (0, 0)) ∧ Below W8.heap.size W8 wr) (fun i _ => n - (intOf i).toNat)
      case atStart => exact ⟨0, _, Nat.zero_le _, rfl, own, hbs, kn, hb⟩
      case round =>
        clear own kn hb hbs
        obtain ⟨j, q, hj, rfl, own, hbs, kn, hb⟩ := hrel
        have ct := (KT.out.kept hb).c3
        by_cases hlt2 : j < n
        · obtain ⟨b1, off1, rfl, hbl1, hcell1⟩ := PN.out.at j hlt2
          have hc := hcell1 wr hb
          clear hcell1
          rw [lstP_at n f j hlt2] at hc
          have SE1 := Lib.hid (fun w h => SE.out j w hlt2 h)
          have RK := Lib.hid (RVk.out j)
          have PS := Lib.hid (pcF_succ fD j)
          have t1 : ((j : Nat) : Int).tmod (W : Int) = ((j % W : Nat) : Int) := Int.tmod_eq_emod_of_nonneg (by omega)
          have t2 : ((j : Nat) : Int).tdiv (W : Int) = ((j / W : Nat) : Int) := Int.tdiv_eq_ediv_of_nonneg (by omega)
          have r1 : j % W ≤ j := Nat.mod_le _ _
          have r2 : j / W ≤ j := Nat.div_le_self _ _
          generalize j % W = rm at *
          generalize j / W = qd at *
          have CV1 := Lib.hid (fun w h => CVk.out (rm : Int) (qd : Int) w h)
          generalize dcov B d (rm : Int) (qd : Int) = cv at *
          have MU := Lib.hid (fun w => refMul_any cv (selK mw zs j) w)
          have wn : ¬ W = 0 := fun h => by
            have := hWn2.out
            rw [h, Nat.zero_mul] at this
            omega
          have wz : ((W : Int) == 0) = false := by simp; omega
          have e5 : IntKind.i64.wrap (qd : Int) = (qd : Int) := IntWalk.i64_in _ (by omega)
          have e6 : IntKind.i64.wrap (rm : Int) = (rm : Int) := IntWalk.i64_in _ (by omega)
          generalize dv (cl cv * cl (selK mw zs j)) 65535 = V at *
          generalize selK mw zs j = sv at *
          have MX := Lib.hid (fun w => refMixx_any (f j) (c0, c1', c2', c3') V w)
          generalize mxP (f j) (c0, c1', c2', c3') V = op at *
          generalize f j = p at *
          obtain ⟨m0, m1, m2, m3⟩ := p
          obtain ⟨o0, o1, o2, o3⟩ := op
          simp only at hc
          replace MX : Hid (∀ w, Calls Tryz.prog 38 #[pv m0 m1 m2 m3, pv c0 c1' c2' c3', .int .i64 V] w fun e w' => e = .returned (pv o0 o1 o2 o3) ∧ Below w.heap.size w w') := MX
          obtain ⟨aq0, cq0, rfl⟩ := own_slice own
          have HO := Lib.hid own
          have ol := own.lt
          clear own
          have j1 : (0 : Int) ≤ (j : Int) := by omega
          have j2 : (j : Int) < (n : Int) := by omega
          have d1 := HD5.out wr (h8.trans (hb.mono h8.size))
          go_upto_region 17 with (fail)
          clear hc ct d1
          refine name1 (fun W10 kp hS => ?_)
          generalize hpp : wr.heap.size = xp at *
          have hxb : base ≤ xp := hbs
          have hxp : W8.heap.size ≤ xp := by have := hb.size; omega
          have hpo : (Value.slice aq0 j cq0).ownBlock ≠ some xp := fun h => by have := (ol _ h).2; omega
          replace kn := kn.kept (by rw [hpp]; exact hS)
          replace hb : Below W8.heap.size W8 W10 := hb.trans (by rw [← hpp] at hS hxp; exact hS.mono hxp)
          have own := ownsKept HO.out (by rw [hpp]; exact hS)
          replace hbs : base ≤ W10.heap.size := by have := hS.size; omega
          clear hS HO ol
          have G := Lib.hid h8
          refine wp_region_grow 19 (fun w' => Below (World.heap W10).size W10 w') (by kernel_rfl) (by kernel_rfl) (Below.refl _ _).drew ?_
          simp only [List.take_succ_cons, List.take_zero, List.drop_succ_cons, List.drop_zero]
          repeat (first | (apply wpG_on; rfl; (intro w' hS K hK; have hc0 := (kp.kept hS).lt; have hc1 := (kn.kept hS).lt; have hr0 := (K1.out.kept (hb.trans (hS.mono hb.size))).c3; have hr1 := (K2.out.kept (hb.trans (hS.mono hb.size))).c16; have hr2 := (K3.out.kept (hb.trans (hS.mono hb.size))).c3; have hr3 := HD5.out _ (G.out.trans ((hb.trans (hS.mono hb.size)).mono G.out.size)); go_simp; (first | exact hK.out _ hS | (go_at_call 37; (with_reducible refine (CV1.out _ (HD.out.kept (G.out.trans ((hb.trans (hS.mono hb.size)).mono G.out.size)))).mono ?_); rintro e w'' ⟨rfl, hbb⟩; exact ⟨_, rfl, hK.out _ (hS.trans (hbb.mono hS.size))⟩) | (go_at_call 25; (with_reducible refine (SE1.out _ (HM.out.kept (G.out.trans ((hb.trans (hS.mono hb.size)).mono G.out.size)))).mono ?_); rintro e w'' ⟨rfl, hbb⟩; exact ⟨_, rfl, hK.out _ (hS.trans (hbb.mono hS.size))⟩) | (go_at_call 24; (with_reducible refine (MU.out _).mono ?_); rintro e w'' ⟨rfl, nn, rfl⟩; exact ⟨_, rfl, hK.out _ (belowN hS nn)⟩))); simp only [Act.put, List.setIfInBounds_toArray, List.set_cons_succ, List.set_cons_zero]) | (apply wpG_off; rfl; simp only [Act.put, List.setIfInBounds_toArray, List.set_cons_succ, List.set_cons_zero]))
          apply wpG_nil
          intro W11 hS
          replace kp := kp.kept hS
          replace kn := kn.kept hS
          replace hb := hb.trans (hS.mono hb.size)
          replace own := ownsKept own hS
          replace hbs : base ≤ W11.heap.size := Nat.le_trans hbs hS.size
          clear hS
          by_cases hV : V = 0
          · subst hV
            replace RK := Lib.hid (RK.out.trans (if_pos rfl))
            rw [RK.out] at PS
            clear t1 t2 e5 e6 wz wn
            replace PS : Hid (pcF fD (j + 1) = pcF fD j ++ [.int .i64 m0, .int .i64 m1, .int .i64 m2, .int .i64 m3]) := PS
            have cn := kn.c3
            have cp := kp.c4
            obtain ⟨i0, hi, hz0, hz1, hz2⟩ := info_parts infoPx
            have hbs2 : base ≤ (World.alloc W11 (.cells #[.int .i64 m0, .int .i64 m1, .int .i64 m2, .int .i64 m3] 26 (0, 0))).heap.size := by simp; omega
            go_wp2_with (at_builtin; refine wpList_append_own _ rfl _ _ 22 rfl base 26 i0 (pv 0 0 0 0) 4 32 Tryz.underlying22 hi hz0 hz1 hz2 rfl (by decide) _ _ _ rfl (own.alloc _) ⟨World.heap W11 |>.size, 0, none⟩ 1 1 [.int .i64 m0, .int .i64 m1, .int .i64 m2, .int .i64 m3] rfl rfl ?ca1 ?ca2 ?ca3 ?ca4 ?ca5 ?_)
            case ca1 => exact World.news_of_block (cs := #[.int .i64 m0, .int .i64 m1, .int .i64 m2, .int .i64 m3]) (t := 26) (fr := (0, 0)) (heap_alloc_new W11 _)
            case ca2 => simp [Value.oneCell']
            case ca3 => unfold maxLen; omega
            case ca4 => omega
            case ca5 => exact hbs2
            intro v' w7 own' grow' _
            have hno : ∀ b, b < base → (Value.slice aq0 j cq0).ownBlock ≠ some b := fun b hb' h => by have := (own.lt _ h).1; omega
            have hW8 := hb.size
            replace kn := (kn.alloc _).grown grow' (hno _ (by omega))
            replace hb : Below W8.heap.size W8 w7 := (hb.alloc hb.size _).grown grow' (by simp; omega) (fun b hb' => by have := (own.lt _ hb').1; omega)
            have hb7 : base ≤ w7.heap.size := Nat.le_trans hbs2 grow'.size
            obtain ⟨av', cv', rfl⟩ := own_slice own'
            clear cn cp
            have cn := kn.c3
            go_wp2_with fail
            go_roundw
            case rel =>
              refine ⟨j + 1, _, by omega, by go_num, ?_, by simpa using hb7, kn.set1 2 _ (by simp) rfl, hb.setCell (p := ⟨xn, 2, none⟩) (by show W8.heap.size ≤ xn; omega) _⟩
              rw [PS.out]
              exact own'.kept (row := some xn) ⟨rfl, rfl, rfl, by simp, fun j hj hne => Below.heap_setCell _ _ _ _ (fun h => hne (by rw [h]))⟩ (.inr (fun h => by have := (own'.lt _ h).1; omega))
            case measure => simp [intOf]; omega
          · replace RK := Lib.hid (RK.out.trans (if_neg hV))
            rw [RK.out] at PS
            clear t1 t2 e5 e6 wz wn
            replace PS : Hid (pcF fD (j + 1) = pcF fD j ++ [.int .i64 o0, .int .i64 o1, .int .i64 o2, .int .i64 o3]) := PS
            have bV : (V != 0) = true := by simpa using hV
            have cp := kp.c4
            have cc := (KC.out.kept hb).c4
            go_wp2_with fail
            clear cp cc
            refine (MX.out _).mono ?_
            rintro e W12 ⟨rfl, hS⟩
            replace kp := kp.kept hS
            replace kn := kn.kept hS
            replace own := ownsKept own hS
            replace hbs : base ≤ W12.heap.size := Nat.le_trans hbs hS.size
            replace hb := hb.trans (hS.mono hb.size)
            clear hS
            have cp := kp.c4
            go_upto_region 20 with (fail)
            clear cp
            refine mid4q hb kp hxp (fun W13 kp2 kk kn2 hb => ?_)
            replace kn := kk _ _ (by omega) kn
            replace own := ownsOther own kk hpo
            replace hbs : base ≤ W13.heap.size := by have := kp2.lt; omega
            clear kk kn2 kp
            have kp := kp2
            have cn := kn.c3
            have cp := kp.c4
            obtain ⟨i0, hi, hz0, hz1, hz2⟩ := info_parts infoPx
            have hbs2 : base ≤ (World.alloc W13 (.cells #[.int .i64 o0, .int .i64 o1, .int .i64 o2, .int .i64 o3] 26 (0, 0))).heap.size := by simp; omega
            go_wp2_with (at_builtin; refine wpList_append_own _ rfl _ _ 22 rfl base 26 i0 (pv 0 0 0 0) 4 32 Tryz.underlying22 hi hz0 hz1 hz2 rfl (by decide) _ _ _ rfl (own.alloc _) ⟨World.heap W13 |>.size, 0, none⟩ 1 1 [.int .i64 o0, .int .i64 o1, .int .i64 o2, .int .i64 o3] rfl rfl ?ca1 ?ca2 ?ca3 ?ca4 ?ca5 ?_)
            case ca1 => exact World.news_of_block (cs := #[.int .i64 o0, .int .i64 o1, .int .i64 o2, .int .i64 o3]) (t := 26) (fr := (0, 0)) (heap_alloc_new W13 _)
            case ca2 => simp [Value.oneCell']
            case ca3 => unfold maxLen; omega
            case ca4 => omega
            case ca5 => exact hbs2
            intro v' w7 own' grow' _
            have hno : ∀ b, b < base → (Value.slice aq0 j cq0).ownBlock ≠ some b := fun b hb' h => by have := (own.lt _ h).1; omega
            have hW8 := hb.size
            replace kn := (kn.alloc _).grown grow' (hno _ (by omega))
            replace hb : Below W8.heap.size W8 w7 := (hb.alloc hb.size _).grown grow' (by simp; omega) (fun b hb' => by have := (own.lt _ hb').1; omega)
            have hb7 : base ≤ w7.heap.size := Nat.le_trans hbs2 grow'.size
            obtain ⟨av', cv', rfl⟩ := own_slice own'
            clear cn cp
            have cn := kn.c3
            go_wp2_with fail
            go_roundw
            case rel =>
              refine ⟨j + 1, _, by omega, by go_num, ?_, by simpa using hb7, kn.set1 2 _ (by simp) rfl, hb.setCell (p := ⟨xn, 2, none⟩) (by show W8.heap.size ≤ xn; omega) _⟩
              rw [PS.out]
              exact own'.kept (row := some xn) ⟨rfl, rfl, rfl, by simp, fun j hj hne => Below.heap_setCell _ _ _ _ (fun h => hne (by rw [h]))⟩ (.inr (fun h => by have := (own'.lt _ h).1; omega))
            case measure => simp [intOf]; omega
        · obtain rfl : j = n := by omega
          obtain ⟨av, cv', rfl⟩ := own_slice own
          have cn := kn.c3
          have HKT := Lib.hid (KT.out.kept hb)
          have K1' := Lib.hid (K1.out.kept hb)
          have K2' := Lib.hid (K2.out.kept hb)
          have K3' := Lib.hid (K3.out.kept hb)
          have K4' := Lib.hid (K4.out.kept hb)
          have KC' := Lib.hid (KC.out.kept hb)
          have KQ' := Lib.hid (KQ.out.kept hb)
          go_upto_region 22 with (refine wpList_store_blk rfl _ _ _ rfl xt #[.int .i64 W, .int .i64 H, .slice av j cv'] rfl rfl HKT.out infoImgR rfl (by simp [Value.oneCell']) (fun WA kt hkx hbx => ?_))
          clear cn ct
          have own2 := ownsOther own hkx (fun h => by have := (own.lt _ h).1; omega)
          have PX : PnX xc (w.heap.size + 1 + 1 + 1) WA (.slice av j cv') (lstP j fD) := pnX_own own2 (by omega) (by omega) hn
          have k1 := hkx _ _ (by omega) K1'.out
          have k2 := hkx _ _ (by omega) K2'.out
          have k3 := hkx _ _ (by omega) K3'.out
          have k4 := hkx _ _ (by omega) K4'.out
          have kc := hkx _ _ (by omega) KC'.out
          have kq := hkx _ _ (by omega) KQ'.out
          have hb2 : Below W2.heap.size W2 WA := (h8.trans (hb.mono h8.size)).trans (hbx.mono hxt1)
          clear hb hkx hbx own own2 kn hbs HKT K1' K2' K3' K4' KC' KQ'
          have hb := hb2
          clear hb2
          have cc := kc.c4
          have cq2 := kq.c4
          have cb := k2.c16
          have e9 : IntKind.i64.wrap (65535 - B.fl) = 65535 - B.fl := IntWalk.i64_in _ (by omega)
          go_wp2_with fail
          clear cc cq2 cb
          refine (M2.out _).mono ?_
          rintro e WB ⟨rfl, hS⟩
          replace k1 := k1.kept hS
          replace k2 := k2.kept hS
          replace k3 := k3.kept hS
          replace k4 := k4.kept hS
          replace hb := hb.trans (hS.mono hb.size)
          replace kt := kt.kept hS
          replace PX := PX.kept hS
          replace kc := kc.kept hS
          clear hS e9
          have cc := kc.c4
          go_upto_region 8 with (fail)
          clear cc
          refine mid4q hb kc hxc1 (fun WC kc' kk kn hb => ?_)
          replace PX := PX.via kk
          replace k1 := kk _ _ (by omega) k1
          replace k2 := kk _ _ (by omega) k2
          replace k3 := kk _ _ (by omega) k3
          replace k4 := kk _ _ (by omega) k4
          replace kt := kk _ _ (by omega) kt
          go_wp2_with fail
          go_roundw
          case rel => exact ⟨k + 1, _, by omega, by go_num, (by rw [SSk.out]; exact PX), kt, (by rw [CKk.out]; exact kc'), k1, k2, k3, k4, hb⟩
          case measure => simp only [intOf]; omega
    · obtain rfl : k = md := by omega
      have ctt := kt.c3
      have c4 := k4.c3
      have l4w := k4.lt
      go_wp2_with fail
      clear ctt
      have hbb := h0.trans (hb.mono h0.size)
      refine bodyPost_ret (v := .tuple #[.agg #[.int .i64 W, .int .i64 H, .slice at0 n ct], .int .i64 0]) (by simp [results, Tryz.results11, go_sem, c4]) rfl ⟨_, rfl, (by rw [OQ.out]; exact PT _ (fun i o _ h hB => ((hB.other (by simpa using h) _).other (by simpa using h) _).other (by simpa using h) _)), ((hbb.setCell (by simp; omega) _).setCell (by simp; omega) _).setCell (by simp; omega) _⟩

/-- What imageeditor/imageeditorref29.Smudge gives. -/
theorem refSmudge_any (iw ih : Int) (iv : Value) (ps : List Px) (B : Bru) (u lv : Value) (ls : List Smp) (mw mh : Int) (mv : Value) (zs : List Int) (Wm Hm E : Int) (qs : List Px) (w : World) (hI : Pn w iv ps) (hD : Dn w u B.ds) (hL : Sm w lv ls) (hM : Nn w mv zs) (ho : SmudOut iw ih ps B ls mw mh zs Wm Hm E qs) :
    Calls Tryz.prog 11 #[.agg #[.int .i64 iw, .int .i64 ih, iv], brv B u, lv, .agg #[.int .i64 mw, .int .i64 mh, mv]] w fun e w' => ∃ q, e = .returned (.tuple #[.agg #[.int .i64 Wm, .int .i64 Hm, q], .int .i64 E]) ∧ Pn w' q qs ∧ Below w.heap.size w w' := by
  rcases ho with ⟨h1, rfl, rfl, rfl, rfl⟩ | ⟨h1, rfl, rfl, rfl, rfl⟩
  · refine (refSmudge_bad iw ih iv ps B u lv ls mw mh mv zs w hI hD hL hM h1).mono ?_
    rintro e w' ⟨rfl, hb⟩
    exact ⟨_, rfl, Pn.nil _, hb⟩
  · obtain ⟨hi, _, _, _⟩ := prep_ok h1
    obtain ⟨_, a1, _, a3, _, a5⟩ := ichk_len hi
    obtain ⟨W, rfl⟩ : ∃ n : Nat, Wm = n := ⟨Wm.toNat, by omega⟩
    obtain ⟨H, rfl⟩ : ∃ n : Nat, Hm = n := ⟨Hm.toNat, by omega⟩
    exact refSmudge_good W H iv ps B u lv ls mw mh mv zs w hI hD hL hM h1
end Go.Proofs.YtieacbccadbdbaaGreatDoor

