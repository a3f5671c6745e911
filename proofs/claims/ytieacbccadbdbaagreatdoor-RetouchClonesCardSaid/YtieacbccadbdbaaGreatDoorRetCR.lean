/- imageeditorref29.Clone (printed by genclonr.py). -/
import Derived.Test.YtieacbccadbdbaaGreatDoorRetC
import Derived.Test.YtieacbccadbdbaaGreatDoorRetPrR
import Derived.Test.YtieacbccadbdbaaGreatDoorBrStrokeR
import Derived.Test.YtieacbccadbdbaaGreatDoorLOver
import Derived.Test.YtieacbccadbdbaaGreatDoorLRow
import Derived.Test.YtieacbccadbdbaaGreatDoorLKit
import Derived.Test.YtieacbccadbdbaaGreatDoorBrDabsI
import Derived.Deep.DeepCutAuto
import Derived.Deep.Cut
namespace Go.Proofs.YtieacbccadbdbaaGreatDoor
open Go.RowKit
set_option linter.unusedVariables false
attribute [local go_sem] Oper.gAt gUponK Oper.sAt stilK

set_option maxHeartbeats 4000000 in
set_option maxRecDepth 100000 in
theorem refClone_bad1 (iw ih : Int) (iv : Value) (ps : List Px) (B : Bru) (u lv : Value) (ls : List Smp) (ox oy mw mh : Int) (mv : Value) (zs : List Int) (w : World) (hI : Pn w iv ps) (hD : Dn w u B.ds) (hL : Sm w lv ls) (hM : Nn w mv zs) (hE : prepE iw ih ps B ls mw mh zs ≠ 0) :
    Calls Tryz.prog 7 #[.agg #[.int .i64 iw, .int .i64 ih, iv], brv B u, lv, .agg #[.int .i64 ox, .int .i64 oy], .agg #[.int .i64 mw, .int .i64 mh, mv]] w fun e w' => e = .returned (.tuple #[.agg #[.int .i64 0, .int .i64 0, .slice none 0 0], .int .i64 (prepE iw ih ps B ls mw mh zs)]) ∧ Below w.heap.size w w' := by
  have HI := Lib.hid hI
  have HD := Lib.hid hD
  have HL := Lib.hid hL
  have HM := Lib.hid hM
  obtain ⟨ai, ci, rfl⟩ := hI.slice
  obtain ⟨a, cap, rfl⟩ := Qn.slice hL
  obtain ⟨au, capu, rfl, _, _⟩ := hD
  obtain ⟨am, cm, rfl, _⟩ := hM.slice
  have PR : Hid (∀ w, Pn w (.slice ai ps.length ci) ps → Dn w (.slice au B.ds.length capu) B.ds → Sm w (.slice a ls.length cap) ls → Nn w (.slice am zs.length cm) zs → Calls Tryz.prog 22 #[.agg #[.int .i64 iw, .int .i64 ih, .slice ai ps.length ci], brv B (.slice au B.ds.length capu), .slice a ls.length cap, .agg #[.int .i64 mw, .int .i64 mh, .slice am zs.length cm]] w fun e w' => ∃ a1 n1 c1, e = .returned (.tuple #[.slice a1 n1 c1, .int .i64 (prepE iw ih ps B ls mw mh zs)]) ∧ Below w.heap.size w w') := fun w h1 h2 h3 h4 => by
    refine (errors_any iw ih (.slice ai ps.length ci) ps B (.slice au B.ds.length capu) (.slice a ls.length cap) ls mw mh (.slice am zs.length cm) zs w h1 h2 h3 h4).mono ?_
    rintro e w' ⟨q, rfl, _, ⟨a1, n1, c1, rfl⟩, hb⟩
    exact ⟨a1, n1, c1, rfl, hb⟩
  have be : (prepE iw ih ps B ls mw mh zs != 0) = true := by simpa using hE
  clear hI hL hM hE
  generalize prepE iw ih ps B ls mw mh zs = E at *
  generalize ps.length = ni at *
  generalize zs.length = nz at *
  generalize ls.length = nl at *
  generalize B.ds.length = nd at *
  go_enter Tryz.func7, Tryz.ntmps7
  go_upto_region 1 with (fail)
  refine name5 (fun W1 k1 k2 k3 k4 k5 hb => ?_)
  have c1 := k1.c3
  have c2 := k2.c16
  have c4 := k4.c3
  go_wp2_with fail
  clear c1 c2 c4
  refine (PR.out _ (HI.out.kept hb) (HD.out.kept hb) (HL.out.kept hb) (HM.out.kept hb)).mono ?_
  rintro e W2 ⟨a1, n1, p1, rfl, hS⟩
  replace k1 := k1.kept hS
  replace k2 := k2.kept hS
  replace k3 := k3.kept hS
  replace k4 := k4.kept hS
  replace k5 := k5.kept hS
  replace hb := hb.trans (hS.mono hb.size)
  clear hS PR
  have c5 := k5.c3
  go_wp2_with fail
  exact bodyPost_ret (v := .tuple #[.agg #[.int .i64 0, .int .i64 0, .slice none 0 0], .int .i64 E]) (by simp [results, Tryz.results7, go_sem, c5]) rfl ⟨rfl, ((hb.setCell (by simp; omega) _).setCell (by simp; omega) _).setCell (by simp; omega) _⟩

set_option maxHeartbeats 4000000 in
set_option maxRecDepth 100000 in
theorem refClone_bad2 (iw ih : Int) (iv : Value) (ps : List Px) (B : Bru) (u lv : Value) (ls : List Smp) (ox oy mw mh : Int) (mv : Value) (zs : List Int) (w : World) (hI : Pn w iv ps) (hD : Dn w u B.ds) (hL : Sm w lv ls) (hM : Nn w mv zs) (hE : prepE iw ih ps B ls mw mh zs = 0) (ho : ¬ cOff ox oy) :
    Calls Tryz.prog 7 #[.agg #[.int .i64 iw, .int .i64 ih, iv], brv B u, lv, .agg #[.int .i64 ox, .int .i64 oy], .agg #[.int .i64 mw, .int .i64 mh, mv]] w fun e w' => e = .returned (.tuple #[.agg #[.int .i64 0, .int .i64 0, .slice none 0 0], .int .i64 2]) ∧ Below w.heap.size w w' := by
  have HI := Lib.hid hI
  have HD := Lib.hid hD
  have HL := Lib.hid hL
  have HM := Lib.hid hM
  obtain ⟨ai, ci, rfl⟩ := hI.slice
  obtain ⟨a, cap, rfl⟩ := Qn.slice hL
  obtain ⟨au, capu, rfl, _, _⟩ := hD
  obtain ⟨am, cm, rfl, _⟩ := hM.slice
  have PR : Hid (∀ w, Pn w (.slice ai ps.length ci) ps → Dn w (.slice au B.ds.length capu) B.ds → Sm w (.slice a ls.length cap) ls → Nn w (.slice am zs.length cm) zs → Calls Tryz.prog 22 #[.agg #[.int .i64 iw, .int .i64 ih, .slice ai ps.length ci], brv B (.slice au B.ds.length capu), .slice a ls.length cap, .agg #[.int .i64 mw, .int .i64 mh, .slice am zs.length cm]] w fun e w' => ∃ a1 n1 c1, e = .returned (.tuple #[.slice a1 n1 c1, .int .i64 0]) ∧ Below w.heap.size w w') := fun w h1 h2 h3 h4 => by
    refine (errors_any iw ih (.slice ai ps.length ci) ps B (.slice au B.ds.length capu) (.slice a ls.length cap) ls mw mh (.slice am zs.length cm) zs w h1 h2 h3 h4).mono ?_
    rintro e w' ⟨q, rfl, _, ⟨a1, n1, c1, rfl⟩, hb⟩
    exact ⟨a1, n1, c1, by rw [hE], hb⟩
  unfold cOff at ho
  have c : ox < -256 ∨ (¬ ox < -256 ∧ 256 < ox) ∨ (¬ ox < -256 ∧ ¬ 256 < ox ∧ oy < -256) ∨ (¬ ox < -256 ∧ ¬ 256 < ox ∧ ¬ oy < -256 ∧ 256 < oy) := by omega
  clear hI hL hM hE ho
  generalize ps.length = ni at *
  generalize zs.length = nz at *
  generalize ls.length = nl at *
  generalize B.ds.length = nd at *
  go_enter Tryz.func7, Tryz.ntmps7
  go_upto_region 1 with (fail)
  refine name5 (fun W1 k1 k2 k3 k4 k5 hb => ?_)
  have c1 := k1.c3
  have c2 := k2.c16
  have c4 := k4.c3
  go_wp2_with fail
  clear c1 c2 c4
  refine (PR.out _ (HI.out.kept hb) (HD.out.kept hb) (HL.out.kept hb) (HM.out.kept hb)).mono ?_
  rintro e W2 ⟨a1, n1, p1, rfl, hS⟩
  replace k1 := k1.kept hS
  replace k2 := k2.kept hS
  replace k3 := k3.kept hS
  replace k4 := k4.kept hS
  replace k5 := k5.kept hS
  replace hb := hb.trans (hS.mono hb.size)
  clear hS PR
  have c3 := k3.c2
  rcases c with d1 | ⟨d1, d2⟩ | ⟨d1, d2, d3⟩ | ⟨d1, d2, d3, d4⟩
  · have c5 := k5.c3
    go_wp2_with fail
    exact bodyPost_ret (v := .tuple #[.agg #[.int .i64 0, .int .i64 0, .slice none 0 0], .int .i64 2]) (by simp [results, Tryz.results7, go_sem, c5]) rfl ⟨rfl, ((hb.setCell (by simp; omega) _).setCell (by simp; omega) _).setCell (by simp; omega) _⟩
  · have c5 := k5.c3
    go_wp2_with fail
    exact bodyPost_ret (v := .tuple #[.agg #[.int .i64 0, .int .i64 0, .slice none 0 0], .int .i64 2]) (by simp [results, Tryz.results7, go_sem, c5]) rfl ⟨rfl, ((hb.setCell (by simp; omega) _).setCell (by simp; omega) _).setCell (by simp; omega) _⟩
  · have c5 := k5.c3
    go_wp2_with fail
    exact bodyPost_ret (v := .tuple #[.agg #[.int .i64 0, .int .i64 0, .slice none 0 0], .int .i64 2]) (by simp [results, Tryz.results7, go_sem, c5]) rfl ⟨rfl, ((hb.setCell (by simp; omega) _).setCell (by simp; omega) _).setCell (by simp; omega) _⟩
  · have c5 := k5.c3
    go_wp2_with fail
    exact bodyPost_ret (v := .tuple #[.agg #[.int .i64 0, .int .i64 0, .slice none 0 0], .int .i64 2]) (by simp [results, Tryz.results7, go_sem, c5]) rfl ⟨rfl, ((hb.setCell (by simp; omega) _).setCell (by simp; omega) _).setCell (by simp; omega) _⟩

set_option maxHeartbeats 4000000 in
set_option maxRecDepth 100000 in
theorem refClone_zero (ih : Int) (iv : Value) (ps : List Px) (B : Bru) (u lv : Value) (ls : List Smp) (ox oy mw mh : Int) (mv : Value) (zs : List Int) (w : World) (hI : Pn w iv ps) (hD : Dn w u B.ds) (hL : Sm w lv ls) (hM : Nn w mv zs) (hE : prepE 0 ih ps B ls mw mh zs = 0) (ho : cOff ox oy) :
    Calls Tryz.prog 7 #[.agg #[.int .i64 0, .int .i64 ih, iv], brv B u, lv, .agg #[.int .i64 ox, .int .i64 oy], .agg #[.int .i64 mw, .int .i64 mh, mv]] w fun e w' => e = .returned (.tuple #[.agg #[.int .i64 0, .int .i64 0, .slice none 0 0], .int .i64 0]) ∧ Below w.heap.size w w' := by
  have HI := Lib.hid hI
  have HD := Lib.hid hD
  have HL := Lib.hid hL
  have HM := Lib.hid hM
  obtain ⟨ai, ci, rfl⟩ := hI.slice
  obtain ⟨a, cap, rfl⟩ := Qn.slice hL
  obtain ⟨au, capu, rfl, _, _⟩ := hD
  obtain ⟨am, cm, rfl, _⟩ := hM.slice
  have PR : Hid (∀ w, Pn w (.slice ai ps.length ci) ps → Dn w (.slice au B.ds.length capu) B.ds → Sm w (.slice a ls.length cap) ls → Nn w (.slice am zs.length cm) zs → Calls Tryz.prog 22 #[.agg #[.int .i64 0, .int .i64 ih, .slice ai ps.length ci], brv B (.slice au B.ds.length capu), .slice a ls.length cap, .agg #[.int .i64 mw, .int .i64 mh, .slice am zs.length cm]] w fun e w' => ∃ a1 n1 c1, e = .returned (.tuple #[.slice a1 n1 c1, .int .i64 0]) ∧ Below w.heap.size w w') := fun w h1 h2 h3 h4 => by
    refine (errors_any 0 ih (.slice ai ps.length ci) ps B (.slice au B.ds.length capu) (.slice a ls.length cap) ls mw mh (.slice am zs.length cm) zs w h1 h2 h3 h4).mono ?_
    rintro e w' ⟨q, rfl, _, ⟨a1, n1, c1, rfl⟩, hb⟩
    exact ⟨a1, n1, c1, by rw [hE], hb⟩
  unfold cOff at ho
  have d1 : ¬ ox < -256 := by omega
  have d2 : ¬ 256 < ox := by omega
  have d3 : ¬ oy < -256 := by omega
  have d4 : ¬ 256 < oy := by omega
  clear hI hL hM hE ho
  generalize ps.length = ni at *
  generalize zs.length = nz at *
  generalize ls.length = nl at *
  generalize B.ds.length = nd at *
  go_enter Tryz.func7, Tryz.ntmps7
  go_upto_region 1 with (fail)
  refine name5 (fun W1 k1 k2 k3 k4 k5 hb => ?_)
  have c1 := k1.c3
  have c2 := k2.c16
  have c4 := k4.c3
  go_wp2_with fail
  clear c1 c2 c4
  refine (PR.out _ (HI.out.kept hb) (HD.out.kept hb) (HL.out.kept hb) (HM.out.kept hb)).mono ?_
  rintro e W2 ⟨a1, n1, p1, rfl, hS⟩
  replace k1 := k1.kept hS
  replace k2 := k2.kept hS
  replace k3 := k3.kept hS
  replace k4 := k4.kept hS
  replace k5 := k5.kept hS
  replace hb := hb.trans (hS.mono hb.size)
  clear hS PR
  have c3 := k3.c2
  have c1 := k1.c3
  have c5 := k5.c3
  go_wp2_with fail
  exact bodyPost_ret (v := .tuple #[.agg #[.int .i64 0, .int .i64 0, .slice none 0 0], .int .i64 0]) (by simp [results, Tryz.results7, go_sem, c5]) rfl ⟨rfl, ((hb.setCell (by simp; omega) _).setCell (by simp; omega) _).setCell (by simp; omega) _⟩

set_option maxHeartbeats 16000000 in
set_option maxRecDepth 100000 in
theorem refClone_good (W H : Nat) (iv : Value) (ps : List Px) (B : Bru) (u lv : Value) (ls : List Smp) (ox oy mw mh : Int) (mv : Value) (zs : List Int) (w : World) (hI : Pn w iv ps) (hD : Dn w u B.ds) (hL : Sm w lv ls) (hM : Nn w mv zs) (hE : prepE W H ps B ls mw mh zs = 0) (ho : cOff ox oy) (hW1 : 1 ≤ W) :
    Calls Tryz.prog 7 #[.agg #[.int .i64 W, .int .i64 H, iv], brv B u, lv, .agg #[.int .i64 ox, .int .i64 oy], .agg #[.int .i64 mw, .int .i64 mh, mv]] w fun e w' => ∃ q, e = .returned (.tuple #[.agg #[.int .i64 W, .int .i64 H, q], .int .i64 0]) ∧ Pn w' q (clones B (dabs B ls).1 W H mw zs ps ox oy) ∧ Below w.heap.size w w' := by
  obtain ⟨h1, h2, h3, h4⟩ := prep_ok hE
  obtain ⟨hn, _, hW, _, hH, hnl⟩ := ichk_len h1
  have hwh := (ichk_px h1).1
  obtain ⟨_, _, _, _, _, _, hzl⟩ := mchk_len h2
  have hzn : mw ≠ 0 → zs.length = ps.length := fun h0 => by
    obtain ⟨h5, h6⟩ : mw = W ∧ mh = H := by omega
    rw [h5, h6] at hzl
    omega
  have hWH : ps.length = W * H := by have := Int.natCast_mul W H; omega
  have hpos : 0 < ps.length := by
    have hH1 : 1 ≤ H := by omega
    have := Nat.mul_le_mul hW1 hH1
    omega
  have HI := Lib.hid hI
  have HD := Lib.hid hD
  have HL := Lib.hid hL
  have HM := Lib.hid hM
  obtain ⟨ai, ci, rfl⟩ := hI.slice
  obtain ⟨a, cap, rfl⟩ := Qn.slice hL
  obtain ⟨au, capu, rfl, _, _⟩ := hD
  obtain ⟨am, cm, rfl, _⟩ := hM.slice
  have PR : Hid (∀ w, Pn w (.slice ai ps.length ci) ps → Dn w (.slice au B.ds.length capu) B.ds → Sm w (.slice a ls.length cap) ls → Nn w (.slice am zs.length cm) zs → Calls Tryz.prog 22 #[.agg #[.int .i64 W, .int .i64 H, .slice ai ps.length ci], brv B (.slice au B.ds.length capu), .slice a ls.length cap, .agg #[.int .i64 mw, .int .i64 mh, .slice am zs.length cm]] w fun e w' => ∃ a1 n1 c1, e = .returned (.tuple #[.slice a1 n1 c1, .int .i64 0]) ∧ Below w.heap.size w w') := fun w h1 h2 h3 h4 => by
    refine (errors_any W H (.slice ai ps.length ci) ps B (.slice au B.ds.length capu) (.slice a ls.length cap) ls mw mh (.slice am zs.length cm) zs w h1 h2 h3 h4).mono ?_
    rintro e w' ⟨q, rfl, _, ⟨a1, n1, c1, rfl⟩, hb⟩
    exact ⟨a1, n1, c1, by rw [hE], hb⟩
  have SO := Lib.hid (fun w h h' => refStroke_good B (.slice au B.ds.length capu) (.slice a ls.length cap) ls W H w h h' h3 (by omega) (by omega))
  have CL : Hid ((couts B (dabs B ls).1 W H).length = ps.length) := by
    show _ = _
    rw [couts_len, hWH]
  have CA := Lib.hid (fun i (hi : i < ps.length) => couts_at B (dabs B ls).1 W H i (by omega))
  have CB := Lib.hid (fun i => cout_bd B (dabs B ls).1 W i)
  have SE := Lib.hid (fun k w (hk : k < ps.length) h => chosen_any mw mh (.slice am zs.length cm) zs k w h (fun h0 => by have := hzn h0; omega))
  have AT := Lib.hid (fun x y w h => pick_any W H (.slice ai ps.length ci) ps x y w h hWH (by omega) (by omega))
  have OL := Lib.hid (clones_len B (dabs B ls).1 W H mw zs ps ox oy)
  have OA := Lib.hid (fun i hi => clones_at B (dabs B ls).1 W H mw zs ps ox oy i hi)
  have RES : Hid (∀ k, cloneAt B (dabs B ls).1 W H mw zs ps ox oy k = if dv (cl (cout B (dabs B ls).1 W k) * cl (selK mw zs k)) 65535 = 0 then pxAt ps k else ovP B.md (pxAt ps k) (fdP (atP W H ps (((k % W : Nat) : Int) + ox) (((k / W : Nat) : Int) + oy)) (dv (cl (cout B (dabs B ls).1 W k) * cl (selK mw zs k)) 65535))) := fun k => rfl
  unfold cOff at ho
  have d1 : ¬ ox < -256 := by omega
  have d2 : ¬ 256 < ox := by omega
  have d3 : ¬ oy < -256 := by omega
  have d4 : ¬ 256 < oy := by omega
  have bW : ((W : Int) == 0) = false := by simp; omega
  clear hI hL hM hE ho h1 h2 h3 h4 hnl hwh hzl hzn hWH
  generalize couts B (dabs B ls).1 W H = cs at *
  generalize cout B (dabs B ls).1 W = cv at *
  generalize clones B (dabs B ls).1 W H mw zs ps ox oy = out at *
  generalize cloneAt B (dabs B ls).1 W H mw zs ps ox oy = res at *
  generalize (dabs B ls).1 = ds at *
  generalize hnn : ps.length = n at *
  generalize zs.length = nz at *
  generalize ls.length = nl at *
  generalize B.ds.length = nd at *
  go_enter Tryz.func7, Tryz.ntmps7
  go_upto_region 1 with (fail)
  refine name5 (fun W1 k1 k2 k3 k4 k5 hb => ?_)
  have c1 := k1.c3
  have c2 := k2.c16
  have c4 := k4.c3
  go_wp2_with fail
  clear c1 c2 c4
  refine (PR.out _ (HI.out.kept hb) (HD.out.kept hb) (HL.out.kept hb) (HM.out.kept hb)).mono ?_
  rintro e W2 ⟨a1, n1, p1, rfl, hS⟩
  replace k1 := k1.kept hS
  replace k2 := k2.kept hS
  replace k3 := k3.kept hS
  replace k4 := k4.kept hS
  replace k5 := k5.kept hS
  replace hb := hb.trans (hS.mono hb.size)
  clear hS PR
  have c1 := k1.c3
  have c2 := k2.c16
  have c3 := k3.c2
  go_wp2_with fail
  clear c1 c2 c3
  refine (SO.out _ (HD.out.kept hb) (HL.out.kept hb)).mono ?_
  rintro e W3 ⟨q, rfl, hq, hS⟩
  replace k1 := k1.kept hS
  replace k2 := k2.kept hS
  replace k3 := k3.kept hS
  replace k4 := k4.kept hS
  replace k5 := k5.kept hS
  replace hb := hb.trans (hS.mono hb.size)
  obtain ⟨aq, cq, rfl, _⟩ := hq.slice
  rw [CL.out] at hq ⊢
  clear hS SO
  go_upto_region 9 with (refine wpList_store_blk rfl _ _ _ rfl W3.heap.size #[.int .i64 W, .int .i64 H, .slice aq n cq] rfl rfl (heap_alloc_new W3 _) infoMask2 rfl (by simp [Value.oneCell']) (fun W4 km hkx hbx => ?_))
  have hS : Below W3.heap.size W3 W4 := ((Below.refl _ _).alloc (Nat.le_refl _) _).trans hbx
  replace k1 := k1.kept hS
  replace k2 := k2.kept hS
  replace k3 := k3.kept hS
  replace k4 := k4.kept hS
  replace k5 := k5.kept hS
  replace hb := hb.trans (hS.mono hb.size)
  have HQ := Lib.hid (hq.kept hS)
  have h0 := hb
  have lm := km.lt
  have l5 := k5.lt
  clear hS hkx hbx hb hq
  generalize W3.heap.size = xm at *
  have c1 := k1.c3
  go_upto_region 12 with (fail)
  clear c1
  refine name1 (fun W5 ko hb => ?_)
  replace k1 := k1.kept hb
  replace k2 := k2.kept hb
  replace k3 := k3.kept hb
  replace k4 := k4.kept hb
  replace k5 := k5.kept hb
  replace km := km.kept hb
  obtain ⟨x, hx0⟩ : ∃ x, x = W4.heap.size := ⟨_, rfl⟩
  rw [← hx0] at ko ⊢
  have hx1 : W4.heap.size ≤ x := by omega
  have hx2 : xm < x := by omega
  have hx5 : w.heap.size + 1 + 1 + 1 + 1 < x := by omega
  clear hx0 lm l5
  have oxl := ko.lt
  obtain ⟨base, hbase⟩ : ∃ base, base = W5.heap.size := ⟨_, rfl⟩
  have own := own_nil W5 base 26 res
  have hbs : base ≤ W5.heap.size := by omega
  rw [← hbase] at oxl
  clear hbase
  go_wp2_with fail
  go_loopw [16] (fun i wr => ∃ (k : Nat) (q : Value), k ≤ n ∧ i = .int .i64 k ∧ wr.ownsRow base 26 4 q k (pcF res k) ∧ base ≤ wr.heap.size ∧ Blk wr x (.cells #[.int .i64 W, .int .i64 H, q] 24 (0, 0)) ∧ Blk wr w.heap.size (.cells #[.int .i64 W, .int .i64 H, .slice ai n ci] 24 (0, 0)) ∧ Blk wr (w.heap.size + 1) (.cells #[.int .i64 B.sz, .int .i64 B.hd, .int .i64 B.rn, .int .i64 B.fl, .int .i64 B.op, .int .i64 B.sp, .int .i64 B.an, .int .i64 B.sc, .int .i64 B.md, .int .i64 B.r, .int .i64 B.g, .int .i64 B.b, .int .i64 B.a, .int .i64 B.sd, .slice au nd capu, .bool B.er] 29 (0, 0)) ∧ Blk wr (w.heap.size + 1 + 1) (.cells #[.int .i64 ox, .int .i64 oy] 32 (0, 0)) ∧ Blk wr (w.heap.size + 1 + 1 + 1) (.cells #[.int .i64 mw, .int .i64 mh, .slice am nz cm] 35 (0, 0)) ∧ Blk wr (w.heap.size + 1 + 1 + 1 + 1) (.cells #[.int .i64 0, .int .i64 0, .slice none 0 0] 24 (0, 0)) ∧ Blk wr xm (.cells #[.int .i64 W, .int .i64 H, .slice aq n cq] 35 (0, 0)) ∧ Below W4.heap.size W4 wr) (fun i _ => n - (intOf i).toNat)
  case atStart => exact ⟨0, _, Nat.zero_le _, rfl, own, hbs, ko, k1, k2, k3, k4, k5, km, hb⟩
  case round =>
    clear own ko k1 k2 k3 k4 k5 km hb hbs
    obtain ⟨k, q, hk, rfl, own, hbs, ko, k1, k2, k3, k4, k5, km, hb⟩ := hrel
    have c1 := k1.c3
    by_cases hlt : k < n
    · obtain ⟨b1, off1, rfl, hbl1, hcell1⟩ := HI.out.at k hlt
      have hc := hcell1 wr (h0.trans (hb.mono h0.size))
      clear hcell1
      obtain ⟨bq, oq, rfl, hcq⟩ := nnAtB HQ.out k hlt
      have CK : Hid (∀ w, Below W4.heap.size W4 w → w.cell? ⟨bq, oq + k, none⟩ = some (.int .i64 (cv k))) := fun w h => by
        rw [hcq w h]
        exact congrArg (fun t => some (Value.int .i64 t)) (CA.out k hlt)
      clear hcq
      have SE1 := Lib.hid (fun w h => SE.out k w hlt h)
      have MU := Lib.hid (fun w => refMul_any (cv k) (selK mw zs k) w)
      have RK := Lib.hid (RES.out k)
      have PS := Lib.hid (pcF_succ res k)
      have t1 : ((k : Nat) : Int).tmod (W : Int) = ((k % W : Nat) : Int) := Int.tmod_eq_emod_of_nonneg (by omega)
      have t2 : ((k : Nat) : Int).tdiv (W : Int) = ((k / W : Nat) : Int) := Int.tdiv_eq_ediv_of_nonneg (by omega)
      have r1 : k % W < W := Nat.mod_lt _ (by omega)
      have r2 : k / W ≤ k := Nat.div_le_self _ _
      generalize k % W = rm at *
      generalize k / W = qd at *
      have AT1 := Lib.hid (fun w h => AT.out (↑rm + ox) (↑qd + oy) w h)
      have wz : ((W : Int) == 0) = false := by simp; omega
      have wn : ¬ W = 0 := by omega
      have e5 : IntKind.i64.wrap (qd : Int) = (qd : Int) := IntWalk.i64_in _ (by omega)
      have e6 : IntKind.i64.wrap (rm : Int) = (rm : Int) := IntWalk.i64_in _ (by omega)
      have e7 : IntKind.i64.wrap ((rm : Int) + ox) = (rm : Int) + ox := IntWalk.i64_in _ (by omega)
      have e8 : IntKind.i64.wrap ((qd : Int) + oy) = (qd : Int) + oy := IntWalk.i64_in _ (by omega)
      generalize atP W H ps (↑rm + ox) (↑qd + oy) = cp at *
      generalize dv (cl (cv k) * cl (selK mw zs k)) 65535 = K at *
      have FD := Lib.hid (fun w => refFade_any cp K w)
      generalize fdP cp K = fp at *
      have OV := Lib.hid (fun w => refOver_any B.md (pxAt ps k) fp w)
      generalize ovP B.md (pxAt ps k) fp = op at *
      generalize selK mw zs k = sv at *
      generalize cv k = ck at *
      generalize pxAt ps k = p at *
      obtain ⟨p0, p1, p2, p3⟩ := p
      obtain ⟨q0, q1, q2, q3⟩ := cp
      obtain ⟨f0, f1, f2, f3⟩ := fp
      obtain ⟨o0, o1, o2, o3⟩ := op
      simp only at hc
      replace AT1 : Hid (∀ w, Pn w (.slice (some ⟨b1, off1, none⟩) n ci) ps → Calls Tryz.prog 26 #[.agg #[.int .i64 W, .int .i64 H, .slice (some ⟨b1, off1, none⟩) n ci], .int .i64 (↑rm + ox), .int .i64 (↑qd + oy)] w fun e w' => e = .returned (pv q0 q1 q2 q3) ∧ Below w.heap.size w w') := AT1
      replace FD : Hid (∀ w, Calls Tryz.prog 28 #[pv q0 q1 q2 q3, .int .i64 K] w fun e w' => e = .returned (pv f0 f1 f2 f3) ∧ Below w.heap.size w w') := FD
      replace OV : Hid (∀ w, Calls Tryz.prog 27 #[.int .i64 B.md, pv p0 p1 p2 p3, pv f0 f1 f2 f3] w fun e w' => e = .returned (pv o0 o1 o2 o3) ∧ Below w.heap.size w w') := OV
      obtain ⟨aq0, cq0, rfl⟩ := own_slice own
      have HO := Lib.hid own
      have ol := own.lt
      clear own
      have i1 : (0 : Int) ≤ (k : Int) := by omega
      have i2 : (k : Int) < (n : Int) := by omega
      go_upto_region 16 with (fail)
      clear hc c1
      refine name1 (fun W7 kp hS => ?_)
      generalize hpp : wr.heap.size = xp at *
      have hxb : base ≤ xp := hbs
      have hxp : W4.heap.size ≤ xp := by have := hb.size; omega
      have hpo : (Value.slice aq0 k cq0).ownBlock ≠ some xp := fun h => by have := (ol _ h).2; omega
      replace ko := ko.kept (by rw [hpp]; exact hS)
      replace k1 := k1.kept (by rw [hpp]; exact hS)
      replace k2 := k2.kept (by rw [hpp]; exact hS)
      replace k3 := k3.kept (by rw [hpp]; exact hS)
      replace k4 := k4.kept (by rw [hpp]; exact hS)
      replace k5 := k5.kept (by rw [hpp]; exact hS)
      replace km := km.kept (by rw [hpp]; exact hS)
      replace hb : Below W4.heap.size W4 W7 := hb.trans (by rw [← hpp] at hS hxp; exact hS.mono hxp)
      have own := ownsKept HO.out (by rw [hpp]; exact hS)
      replace hbs : base ≤ W7.heap.size := by have := hS.size; omega
      clear hS HO ol
      refine wp_region_grow 10 (fun w' => Below (World.heap W7).size W7 w') (by kernel_rfl) (by kernel_rfl) (Below.refl _ _).drew ?_
      simp only [List.take_succ_cons, List.take_zero, List.drop_succ_cons, List.drop_zero]
      repeat (first | (apply wpG_on; rfl; (intro w' hS K hK; have hc0 := (km.kept hS).c3; have hc1 := (k4.kept hS).c3; have hc2 := (kp.kept hS).lt; have hc3 := (ko.kept hS).lt; have hc4 := (k1.kept hS).lt; have hc5 := (k2.kept hS).lt; have hc6 := (k3.kept hS).lt; have hc7 := (k5.kept hS).lt; have hr0 := CK.out _ (hb.trans (hS.mono hb.size)); go_simp; (first | exact hK.out _ hS | (go_at_call 25; (with_reducible refine (SE1.out _ (HM.out.kept (h0.trans ((hb.trans (hS.mono hb.size)).mono h0.size)))).mono ?_); rintro e w'' ⟨rfl, hbb⟩; exact ⟨_, rfl, hK.out _ (hS.trans (hbb.mono hS.size))⟩) | (go_at_call 24; (with_reducible refine (MU.out _).mono ?_); rintro e w'' ⟨rfl, nn, rfl⟩; exact ⟨_, rfl, hK.out _ (belowN hS nn)⟩))); simp only [Act.put, List.setIfInBounds_toArray, List.set_cons_succ, List.set_cons_zero]) | (apply wpG_off; rfl; simp only [Act.put, List.setIfInBounds_toArray, List.set_cons_succ, List.set_cons_zero]))
      apply wpG_nil
      intro W8 hS
      replace km := km.kept hS
      replace k4 := k4.kept hS
      replace kp := kp.kept hS
      replace ko := ko.kept hS
      replace k1 := k1.kept hS
      replace k2 := k2.kept hS
      replace k3 := k3.kept hS
      replace k5 := k5.kept hS
      replace hb := hb.trans (hS.mono hb.size)
      replace own := ownsKept own hS
      replace hbs : base ≤ W8.heap.size := Nat.le_trans hbs hS.size
      clear hS
      by_cases hK : K = 0
      · subst hK
        replace RK := Lib.hid (RK.out.trans (if_pos rfl))
        rw [RK.out] at PS
        clear t1 t2 e5 e6 e7 e8 wz wn
        replace PS : Hid (pcF res (k + 1) = pcF res k ++ [.int .i64 p0, .int .i64 p1, .int .i64 p2, .int .i64 p3]) := PS
        have co := ko.c3
        have cp := kp.c4
        obtain ⟨i0, hi, hz0, hz1, hz2⟩ := info_parts infoPx
        have hbs2 : base ≤ (World.alloc W8 (.cells #[.int .i64 p0, .int .i64 p1, .int .i64 p2, .int .i64 p3] 26 (0, 0))).heap.size := by simp; omega
        go_wp2_with (at_builtin; refine wpList_append_own _ rfl _ _ 22 rfl base 26 i0 (pv 0 0 0 0) 4 32 Tryz.underlying22 hi hz0 hz1 hz2 rfl (by decide) _ _ _ rfl (own.alloc _) ⟨World.heap W8 |>.size, 0, none⟩ 1 1 [.int .i64 p0, .int .i64 p1, .int .i64 p2, .int .i64 p3] rfl rfl ?ca1 ?ca2 ?ca3 ?ca4 ?ca5 ?_)
        case ca1 => exact World.news_of_block (cs := #[.int .i64 p0, .int .i64 p1, .int .i64 p2, .int .i64 p3]) (t := 26) (fr := (0, 0)) (heap_alloc_new W8 _)
        case ca2 => simp [Value.oneCell']
        case ca3 => unfold maxLen; omega
        case ca4 => omega
        case ca5 => exact hbs2
        intro v' w7 own' grow' _
        have hno : ∀ b, b < base → (Value.slice aq0 k cq0).ownBlock ≠ some b := fun b hb' h => by have := (own.lt _ h).1; omega
        have hW8 := hb.size
        replace ko := (ko.alloc _).grown grow' (hno _ (by omega))
        replace k1 := (k1.alloc _).grown grow' (hno _ (by omega))
        replace k2 := (k2.alloc _).grown grow' (hno _ (by omega))
        replace k3 := (k3.alloc _).grown grow' (hno _ (by omega))
        replace k4 := (k4.alloc _).grown grow' (hno _ (by omega))
        replace k5 := (k5.alloc _).grown grow' (hno _ (by omega))
        replace km := (km.alloc _).grown grow' (hno _ (by omega))
        replace hb : Below W4.heap.size W4 w7 := (hb.alloc hb.size _).grown grow' (by simp; omega) (fun b hb' => by have := (own.lt _ hb').1; omega)
        have hb7 : base ≤ w7.heap.size := Nat.le_trans hbs2 grow'.size
        obtain ⟨av', cv', rfl⟩ := own_slice own'
        clear co cp
        have co := ko.c3
        go_wp2_with fail
        go_roundw
        case rel =>
          refine ⟨k + 1, _, by omega, by go_num, ?_, by simpa using hb7, ko.set1 2 _ (by simp) rfl, k1.other (by simp; omega) _, k2.other (by simp; omega) _, k3.other (by simp; omega) _, k4.other (by simp; omega) _, k5.other (by simp; omega) _, km.other (by simp; omega) _, hb.setCell (by simp; omega) _⟩
          rw [PS.out]
          exact own'.kept (row := some x) ⟨rfl, rfl, rfl, by simp, fun j hj hne => Below.heap_setCell _ _ _ _ (fun h => hne (by rw [h]))⟩ (.inr (fun h => by have := (own'.lt _ h).1; omega))
        case measure => simp [intOf]; omega
      · replace RK := Lib.hid (RK.out.trans (if_neg hK))
        rw [RK.out] at PS
        replace PS : Hid (pcF res (k + 1) = pcF res k ++ [.int .i64 o0, .int .i64 o1, .int .i64 o2, .int .i64 o3]) := PS
        have bK : (K != 0) = true := by simpa using hK
        go_upto_region 18 with (fail)
        have lk := kp.lt
        have lo := ko.lt
        have ol := own.lt
        refine wp_region_make 17 (by kernel_rfl) (by kernel_rfl) ?_
        simp only [makeOrder, numbered, mkB, List.take_succ_cons, List.take_zero, List.drop_succ_cons, List.drop_zero, List.filter_cons, List.filter_nil, Bool.not_true, Bool.not_false, Bool.false_eq_true, List.cons_append, List.nil_append, ↓reduceIte]
        repeat (first | (apply wpN_on; rfl; rfl; (intro w' hS K hK; have hc0 := (k1.kept hS).c3; have hc1 := (k3.kept hS).c2; have hc2 := (kp.kept hS).lt; have hc3 := (ko.kept hS).lt; have hc4 := (km.kept hS).lt; have hc5 := (k2.kept hS).lt; have hc6 := (k4.kept hS).lt; have hc7 := (k5.kept hS).lt; go_simp; (first | exact hK.out _ (Below.refl _ _) | (go_at_call 26; (with_reducible refine (AT1.out _ (HI.out.kept (h0.trans ((hb.trans (hS.mono hb.size)).mono h0.size)))).mono ?_); rintro e w'' ⟨rfl, hbb⟩; exact ⟨_, rfl, hK.out _ hbb⟩))); simp only [Act.put, List.setIfInBounds_toArray, List.set_cons_succ, List.set_cons_zero]) | (apply wpN_off; rfl; rfl; simp only [Act.put, List.setIfInBounds_toArray, List.set_cons_succ, List.set_cons_zero]))
        apply wpN_new
        rfl
        rfl
        · intro w' hS K hK; have hc0 := (k1.kept hS).c3; have hc1 := (k3.kept hS).c2; have hc2 := (kp.kept hS).lt; have hc3 := (ko.kept hS).lt; have hc4 := (km.kept hS).lt; have hc5 := (k2.kept hS).lt; have hc6 := (k4.kept hS).lt; have hc7 := (k5.kept hS).lt; go_simp; exact hK.out
        intro xc hxc nxc
        simp only [Act.put, mkOf, List.setIfInBounds_toArray, List.set_cons_succ, List.set_cons_zero]
        apply wpN_nil
        rintro W9 hS ⟨-, kxc⟩
        replace k1 := k1.kept hS
        replace k3 := k3.kept hS
        replace kp := kp.kept hS
        replace ko := ko.kept hS
        replace km := km.kept hS
        replace k2 := k2.kept hS
        replace k4 := k4.kept hS
        replace k5 := k5.kept hS
        replace hb := hb.trans (hS.mono hb.size)
        replace own := ownsKept own hS
        replace hbs : base ≤ W9.heap.size := Nat.le_trans hbs hS.size
        have hco : (Value.slice aq0 k cq0).ownBlock ≠ some xc := fun h => by have := (ol _ h).2; omega
        have cxc := kxc.c4
        go_upto_region 19 with (fail)
        clear cxc hS nxc t1 t2 e5 e6 e7 e8 wz wn
        refine mid4q hb kxc (by have := hb.size; omega) (fun W10 kc kk kn hb => ?_)
        replace k1 := kk _ _ (by omega) k1
        replace k2 := kk _ _ (by omega) k2
        replace k3 := kk _ _ (by omega) k3
        replace k4 := kk _ _ (by omega) k4
        replace k5 := kk _ _ (by omega) k5
        replace km := kk _ _ (by omega) km
        replace ko := kk _ _ (by omega) ko
        replace kp := kk _ _ (by omega) kp
        replace own := ownsOther own kk hco
        replace hbs : base ≤ W10.heap.size := by have := kp.lt; omega
        clear kk kn kxc lk hxc hco ol lo
        refine wp_region_grow 7 (fun w' => Below (World.heap W10).size W10 w') (by kernel_rfl) (by kernel_rfl) (Below.refl _ _).drew ?_
        simp only [List.take_succ_cons, List.take_zero, List.drop_succ_cons, List.drop_zero]
        repeat (first | (apply wpG_on; rfl; (intro w' hS K hK; have hc0 := (k2.kept hS).c16; have hc1 := (kp.kept hS).c4; have hc2 := (kc.kept hS).c4; have hc3 := (ko.kept hS).lt; have hc4 := (km.kept hS).lt; have hc5 := (k1.kept hS).lt; have hc6 := (k3.kept hS).lt; have hc7 := (k4.kept hS).lt; have hc8 := (k5.kept hS).lt; go_simp; (first | exact hK.out _ hS | (go_at_call 28; (with_reducible refine (FD.out _).mono ?_); rintro e w'' ⟨rfl, hbb⟩; exact ⟨_, rfl, hK.out _ (hS.trans (hbb.mono hS.size))⟩) | (go_at_call 27; (with_reducible refine (OV.out _).mono ?_); rintro e w'' ⟨rfl, hbb⟩; exact ⟨_, rfl, hK.out _ (hS.trans (hbb.mono hS.size))⟩))); simp only [Act.put, List.setIfInBounds_toArray, List.set_cons_succ, List.set_cons_zero]) | (apply wpG_off; rfl; simp only [Act.put, List.setIfInBounds_toArray, List.set_cons_succ, List.set_cons_zero]))
        apply wpG_nil
        intro W11 hS
        replace k2 := k2.kept hS
        replace kp := kp.kept hS
        replace kc := kc.kept hS
        replace ko := ko.kept hS
        replace km := km.kept hS
        replace k1 := k1.kept hS
        replace k3 := k3.kept hS
        replace k4 := k4.kept hS
        replace k5 := k5.kept hS
        replace hb := hb.trans (hS.mono hb.size)
        replace own := ownsKept own hS
        replace hbs : base ≤ W11.heap.size := Nat.le_trans hbs hS.size
        clear hS kc
        have cp := kp.c4
        go_upto_region 20 with (fail)
        clear cp
        refine mid4q hb kp hxp (fun W12 kp2 kk kn hb => ?_)
        replace k1 := kk _ _ (by omega) k1
        replace k2 := kk _ _ (by omega) k2
        replace k3 := kk _ _ (by omega) k3
        replace k4 := kk _ _ (by omega) k4
        replace k5 := kk _ _ (by omega) k5
        replace km := kk _ _ (by omega) km
        replace ko := kk _ _ (by omega) ko
        replace own := ownsOther own kk hpo
        replace hbs : base ≤ W12.heap.size := by have := kp2.lt; omega
        clear kk kn kp
        have kp := kp2
        have co := ko.c3
        have cp := kp.c4
        obtain ⟨i0, hi, hz0, hz1, hz2⟩ := info_parts infoPx
        have hbs2 : base ≤ (World.alloc W12 (.cells #[.int .i64 o0, .int .i64 o1, .int .i64 o2, .int .i64 o3] 26 (0, 0))).heap.size := by simp; omega
        go_wp2_with (at_builtin; refine wpList_append_own _ rfl _ _ 22 rfl base 26 i0 (pv 0 0 0 0) 4 32 Tryz.underlying22 hi hz0 hz1 hz2 rfl (by decide) _ _ _ rfl (own.alloc _) ⟨World.heap W12 |>.size, 0, none⟩ 1 1 [.int .i64 o0, .int .i64 o1, .int .i64 o2, .int .i64 o3] rfl rfl ?ca1 ?ca2 ?ca3 ?ca4 ?ca5 ?_)
        case ca1 => exact World.news_of_block (cs := #[.int .i64 o0, .int .i64 o1, .int .i64 o2, .int .i64 o3]) (t := 26) (fr := (0, 0)) (heap_alloc_new W12 _)
        case ca2 => simp [Value.oneCell']
        case ca3 => unfold maxLen; omega
        case ca4 => omega
        case ca5 => exact hbs2
        intro v' w7 own' grow' _
        have hno : ∀ b, b < base → (Value.slice aq0 k cq0).ownBlock ≠ some b := fun b hb' h => by have := (own.lt _ h).1; omega
        have hW8 := hb.size
        replace ko := (ko.alloc _).grown grow' (hno _ (by omega))
        replace k1 := (k1.alloc _).grown grow' (hno _ (by omega))
        replace k2 := (k2.alloc _).grown grow' (hno _ (by omega))
        replace k3 := (k3.alloc _).grown grow' (hno _ (by omega))
        replace k4 := (k4.alloc _).grown grow' (hno _ (by omega))
        replace k5 := (k5.alloc _).grown grow' (hno _ (by omega))
        replace km := (km.alloc _).grown grow' (hno _ (by omega))
        replace hb : Below W4.heap.size W4 w7 := (hb.alloc hb.size _).grown grow' (by simp; omega) (fun b hb' => by have := (own.lt _ hb').1; omega)
        have hb7 : base ≤ w7.heap.size := Nat.le_trans hbs2 grow'.size
        obtain ⟨av', cv', rfl⟩ := own_slice own'
        clear co cp
        have co := ko.c3
        go_wp2_with fail
        go_roundw
        case rel =>
          refine ⟨k + 1, _, by omega, by go_num, ?_, by simpa using hb7, ko.set1 2 _ (by simp) rfl, k1.other (by simp; omega) _, k2.other (by simp; omega) _, k3.other (by simp; omega) _, k4.other (by simp; omega) _, k5.other (by simp; omega) _, km.other (by simp; omega) _, hb.setCell (by simp; omega) _⟩
          rw [PS.out]
          exact own'.kept (row := some x) ⟨rfl, rfl, rfl, by simp, fun j hj hne => Below.heap_setCell _ _ _ _ (fun h => hne (by rw [h]))⟩ (.inr (fun h => by have := (own'.lt _ h).1; omega))
        case measure => simp [intOf]; omega
    · obtain rfl : k = n := by omega
      obtain ⟨av, cv', rfl⟩ := own_slice own
      have co := ko.c3
      have c5 := k5.c3
      replace hb := h0.trans (hb.mono h0.size)
      go_wp2_with fail
      clear co c1
      have PN : Hid (∀ w', w'.ownsRow base 26 4 (.slice av k cv') k (pcF res k) → Pn w' (.slice av k cv') out) := fun w' h => pn_of_own h OL.out (by omega) (fun i hi => OA.out i hi)
      have KK : ∀ (w' : World) (j : Nat) (u : Value), w'.ownsRow base 26 4 (.slice av k cv') k (pcF res k) → (w'.setCell ⟨w.heap.size + 1 + 1 + 1 + 1, j, none⟩ u).ownsRow base 26 4 (.slice av k cv') k (pcF res k) := fun w' j u h =>
        h.kept (row := some (w.heap.size + 1 + 1 + 1 + 1)) ⟨rfl, rfl, rfl, by simp, fun j hj hne => Below.heap_setCell _ _ _ _ (fun h => hne (by rw [h]))⟩ (.inr (fun h' => by have := (h.lt _ h').1; omega))
      refine bodyPost_ret (v := .tuple #[.agg #[.int .i64 W, .int .i64 H, .slice av k cv'], .int .i64 0]) (by simp [results, Tryz.results7, go_sem, c5]) rfl ⟨_, rfl, PN.out _ (KK _ _ _ (KK _ _ _ (KK _ _ _ own))), ((hb.setCell (by simp; omega) _).setCell (by simp; omega) _).setCell (by simp; omega) _⟩

/-- What imageeditor/imageeditorref29.Clone gives. -/
theorem refClone_any (iw ih : Int) (iv : Value) (ps : List Px) (B : Bru) (u lv : Value) (ls : List Smp) (ox oy mw mh : Int) (mv : Value) (zs : List Int) (Wm Hm E : Int) (qs : List Px) (w : World) (hI : Pn w iv ps) (hD : Dn w u B.ds) (hL : Sm w lv ls) (hM : Nn w mv zs) (ho : CloneOut iw ih ps B ls ox oy mw mh zs Wm Hm E qs) :
    Calls Tryz.prog 7 #[.agg #[.int .i64 iw, .int .i64 ih, iv], brv B u, lv, .agg #[.int .i64 ox, .int .i64 oy], .agg #[.int .i64 mw, .int .i64 mh, mv]] w fun e w' => ∃ q, e = .returned (.tuple #[.agg #[.int .i64 Wm, .int .i64 Hm, q], .int .i64 E]) ∧ Pn w' q qs ∧ Below w.heap.size w w' := by
  rcases ho with ⟨h1, rfl, rfl, rfl, rfl⟩ | ⟨h1, h2, rfl, rfl, rfl, rfl⟩ | ⟨h1, h2, rfl, rfl, rfl, rfl⟩
  · refine (refClone_bad1 iw ih iv ps B u lv ls ox oy mw mh mv zs w hI hD hL hM h1).mono ?_
    rintro e w' ⟨rfl, hb⟩
    exact ⟨_, rfl, Pn.nil _, hb⟩
  · refine (refClone_bad2 iw ih iv ps B u lv ls ox oy mw mh mv zs w hI hD hL hM h1 h2).mono ?_
    rintro e w' ⟨rfl, hb⟩
    exact ⟨_, rfl, Pn.nil _, hb⟩
  · obtain ⟨hi, _, _, _⟩ := prep_ok h1
    obtain ⟨_, a1, _, a3, _, a5⟩ := ichk_len hi
    have hwh := (ichk_px hi).1
    by_cases h0 : Wm = 0
    · subst h0
      obtain rfl : Hm = 0 := by omega
      have hp : ps = [] := List.eq_nil_of_length_eq_zero (by omega)
      refine (refClone_zero 0 iv ps B u lv ls ox oy mw mh mv zs w hI hD hL hM h1 h2).mono ?_
      rintro e w' ⟨rfl, hb⟩
      subst hp
      exact ⟨_, rfl, Pn.nil _, hb⟩
    · obtain ⟨W, rfl⟩ : ∃ n : Nat, Wm = n := ⟨Wm.toNat, by omega⟩
      obtain ⟨H, rfl⟩ : ∃ n : Nat, Hm = n := ⟨Hm.toNat, by omega⟩
      exact refClone_good W H iv ps B u lv ls ox oy mw mh mv zs w hI hD hL hM h1 h2 (by omega)
end Go.Proofs.YtieacbccadbdbaaGreatDoor

