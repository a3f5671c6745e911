/- brush.Paint (printed by genpaint.py). -/
import Derived.Test.YtjaidcdkkgnfoaaGreatDoorLPaint
import Derived.Test.YtjaidcdkkgnfoaaGreatDoorLMask
import Derived.Test.YtjaidcdkkgnfoaaGreatDoorLRow
import Derived.Test.YtjaidcdkkgnfoaaGreatDoorLRow
import Derived.Test.YtjaidcdkkgnfoaaGreatDoorLDab
import Derived.Test.YtjaidcdkkgnfoaaGreatDoorBrSame
import Derived.Test.YtjaidcdkkgnfoaaGreatDoorLMask
import Derived.Test.YtjaidcdkkgnfoaaGreatDoorBrCov
import Derived.Test.YtjaidcdkkgnfoaaGreatDoorBrDabs
import Derived.Deep.DeepCutAuto
import Derived.Deep.CutBlock
import Derived.Deep.Cut
namespace Go.Proofs.YtjaidcdkkgnfoaaGreatDoor
open Go.RowKit
set_option linter.unusedVariables false
attribute [local go_sem] Oper.gAt gUponK Oper.sAt stilK

theorem nn_at0 {w : World} {g n c : Nat} {zs : List Int} (h : Nn w (.slice (some ⟨g, 0, none⟩) n c) zs) (i : Nat) (hi : i < n) : w.cell? ⟨g, i, none⟩ = some (.int .i64 (zs.getD i 0)) := by
  obtain ⟨b, off, e, hc⟩ := h.at i hi
  injection e with e
  injection e with e1 e2
  subst e1 e2
  simpa using hc
theorem nn_kept4 {w : World} {gc g n c : Nat} {zs : List Int} (h : Nn w (.slice (some ⟨gc, 0, none⟩) n c) zs) (hne : gc ≠ g) (o0 o1 o2 o3 : Nat) (v0 v1 v2 v3 : Value) : Nn ((((w.setCell ⟨g, o0, none⟩ v0).setCell ⟨g, o1, none⟩ v1).setCell ⟨g, o2, none⟩ v2).setCell ⟨g, o3, none⟩ v3) (.slice (some ⟨gc, 0, none⟩) n c) zs := by
  have hx : ∀ b o x, some (⟨gc, 0, none⟩ : Addr) = some ⟨b, o, x⟩ → b ≠ g := fun b o x h => by
    injection h with h
    injection h with h
    omega
  exact nn_kept_set (nn_kept_set (nn_kept_set (nn_kept_set h hx _) hx _) hx _) hx _

set_option maxHeartbeats 4000000 in
theorem paint_bad1 (iw ih : Int) (iv : Value) (ps : List Px) (B : Bru) (u lv : Value) (ls : List Smp) (mw mh : Int) (mv : Value) (zs : List Int) (w : World) (hI : Pn w iv ps) (hD : Dn w u B.ds) (hL : Sm w lv ls) (hM : Nn w mv zs) (h1 : ichk iw ih ps ≠ 0) :
    Calls Tryz.prog 7 #[.agg #[.int .i64 iw, .int .i64 ih, iv], brv B u, lv, .agg #[.int .i64 mw, .int .i64 mh, mv]] w fun e w' => e = .returned (.tuple #[.agg #[.int .i64 0, .int .i64 0, .slice none 0 0], .int .i64 (ichk iw ih ps)]) ∧ Below w.heap.size w w' := by
  have HI := Lib.hid hI
  have HD := Lib.hid hD
  have HL := Lib.hid hL
  have HM := Lib.hid hM
  obtain ⟨ai, ci, rfl⟩ := hI.slice
  obtain ⟨a, cap, rfl⟩ := Qn.slice hL
  obtain ⟨au, capu, rfl, _, _⟩ := hD
  obtain ⟨am, cm, rfl, _⟩ := hM.slice
  have IC := Lib.hid (fun w h => rasterCheck_any iw ih (.slice ai ps.length ci) ps w h)
  have MC := Lib.hid (fun w h => maskCheck_any mw mh (.slice am zs.length cm) zs w h)
  have DB := Lib.hid (fun w h h' => dabs_any B (.slice au B.ds.length capu) (.slice a ls.length cap) ls w h h')
  have be : (ichk iw ih ps != 0) = true := by simpa using h1
  clear hI hL hM h1
  generalize ichk iw ih ps = E at *
  generalize (dabs B ls).1 = ds at *
  generalize ps.length = ni at *
  generalize zs.length = nz at *
  generalize ls.length = nl at *
  generalize B.ds.length = nd at *
  go_enter Tryz.func7, Tryz.ntmps7
  go_upto_region 1 with (fail)
  refine name4 (fun W1 k1 k2 k3 k4 hb => ?_)
  have c1 := k1.c3
  go_wp2_with fail
  clear c1
  refine (IC.out _ (HI.out.kept hb)).mono ?_
  rintro e W2 ⟨rfl, hS⟩
  replace k1 := k1.kept hS
  replace k2 := k2.kept hS
  replace k3 := k3.kept hS
  replace k4 := k4.kept hS
  replace hb := hb.trans (hS.mono hb.size)
  clear hS IC
  have c4 := k4.c3
  go_wp2_with fail
  exact bodyPost_ret (v := .tuple #[.agg #[.int .i64 0, .int .i64 0, .slice none 0 0], .int .i64 E]) (by simp [results, Tryz.results7, go_sem, c4]) rfl ⟨rfl, ((hb.setCell (by simp; omega) _).setCell (by simp; omega) _).setCell (by simp; omega) _⟩

set_option maxHeartbeats 4000000 in
theorem paint_bad2 (iw ih : Int) (iv : Value) (ps : List Px) (B : Bru) (u lv : Value) (ls : List Smp) (mw mh : Int) (mv : Value) (zs : List Int) (w : World) (hI : Pn w iv ps) (hD : Dn w u B.ds) (hL : Sm w lv ls) (hM : Nn w mv zs) (h1 : ichk iw ih ps = 0) (h2 : mchk mw mh zs ≠ 0) :
    Calls Tryz.prog 7 #[.agg #[.int .i64 iw, .int .i64 ih, iv], brv B u, lv, .agg #[.int .i64 mw, .int .i64 mh, mv]] w fun e w' => e = .returned (.tuple #[.agg #[.int .i64 0, .int .i64 0, .slice none 0 0], .int .i64 (mchk mw mh zs)]) ∧ Below w.heap.size w w' := by
  have HI := Lib.hid hI
  have HD := Lib.hid hD
  have HL := Lib.hid hL
  have HM := Lib.hid hM
  obtain ⟨ai, ci, rfl⟩ := hI.slice
  obtain ⟨a, cap, rfl⟩ := Qn.slice hL
  obtain ⟨au, capu, rfl, _, _⟩ := hD
  obtain ⟨am, cm, rfl, _⟩ := hM.slice
  have IC := Lib.hid (fun w h => rasterCheck_any iw ih (.slice ai ps.length ci) ps w h)
  have MC := Lib.hid (fun w h => maskCheck_any mw mh (.slice am zs.length cm) zs w h)
  have DB := Lib.hid (fun w h h' => dabs_any B (.slice au B.ds.length capu) (.slice a ls.length cap) ls w h h')
  rw [h1] at IC
  have be : (mchk mw mh zs != 0) = true := by simpa using h2
  clear hI hL hM h1 h2
  generalize mchk mw mh zs = E at *
  generalize (dabs B ls).1 = ds at *
  generalize ps.length = ni at *
  generalize zs.length = nz at *
  generalize ls.length = nl at *
  generalize B.ds.length = nd at *
  go_enter Tryz.func7, Tryz.ntmps7
  go_upto_region 1 with (fail)
  refine name4 (fun W1 k1 k2 k3 k4 hb => ?_)
  have c1 := k1.c3
  go_wp2_with fail
  clear c1
  refine (IC.out _ (HI.out.kept hb)).mono ?_
  rintro e W2 ⟨rfl, hS⟩
  replace k1 := k1.kept hS
  replace k2 := k2.kept hS
  replace k3 := k3.kept hS
  replace k4 := k4.kept hS
  replace hb := hb.trans (hS.mono hb.size)
  clear hS IC
  have c3 := k3.c3
  go_wp2_with fail
  clear c3
  refine (MC.out _ (HM.out.kept hb)).mono ?_
  rintro e W3 ⟨rfl, hS⟩
  replace k1 := k1.kept hS
  replace k2 := k2.kept hS
  replace k3 := k3.kept hS
  replace k4 := k4.kept hS
  replace hb := hb.trans (hS.mono hb.size)
  clear hS MC
  have c4 := k4.c3
  go_wp2_with fail
  exact bodyPost_ret (v := .tuple #[.agg #[.int .i64 0, .int .i64 0, .slice none 0 0], .int .i64 E]) (by simp [results, Tryz.results7, go_sem, c4]) rfl ⟨rfl, ((hb.setCell (by simp; omega) _).setCell (by simp; omega) _).setCell (by simp; omega) _⟩

set_option maxHeartbeats 4000000 in
theorem paint_bad3 (iw ih : Int) (iv : Value) (ps : List Px) (B : Bru) (u lv : Value) (ls : List Smp) (mw mh : Int) (mv : Value) (zs : List Int) (w : World) (hI : Pn w iv ps) (hD : Dn w u B.ds) (hL : Sm w lv ls) (hM : Nn w mv zs) (h1 : ichk iw ih ps = 0) (h2 : mchk mw mh zs = 0) (h3 : (dabs B ls).2 ≠ 0) :
    Calls Tryz.prog 7 #[.agg #[.int .i64 iw, .int .i64 ih, iv], brv B u, lv, .agg #[.int .i64 mw, .int .i64 mh, mv]] w fun e w' => e = .returned (.tuple #[.agg #[.int .i64 0, .int .i64 0, .slice none 0 0], .int .i64 (dabs B ls).2]) ∧ Below w.heap.size w w' := by
  have HI := Lib.hid hI
  have HD := Lib.hid hD
  have HL := Lib.hid hL
  have HM := Lib.hid hM
  obtain ⟨ai, ci, rfl⟩ := hI.slice
  obtain ⟨a, cap, rfl⟩ := Qn.slice hL
  obtain ⟨au, capu, rfl, _, _⟩ := hD
  obtain ⟨am, cm, rfl, _⟩ := hM.slice
  have IC := Lib.hid (fun w h => rasterCheck_any iw ih (.slice ai ps.length ci) ps w h)
  have MC := Lib.hid (fun w h => maskCheck_any mw mh (.slice am zs.length cm) zs w h)
  have DB := Lib.hid (fun w h h' => dabs_any B (.slice au B.ds.length capu) (.slice a ls.length cap) ls w h h')
  rw [h1] at IC
  rw [h2] at MC
  have be : ((dabs B ls).2 != 0) = true := by simpa using h3
  clear hI hL hM h1 h2 h3
  generalize (dabs B ls).2 = E at *
  generalize (dabs B ls).1 = ds at *
  generalize ps.length = ni at *
  generalize zs.length = nz at *
  generalize ls.length = nl at *
  generalize B.ds.length = nd at *
  go_enter Tryz.func7, Tryz.ntmps7
  go_upto_region 1 with (fail)
  refine name4 (fun W1 k1 k2 k3 k4 hb => ?_)
  have c1 := k1.c3
  go_wp2_with fail
  clear c1
  refine (IC.out _ (HI.out.kept hb)).mono ?_
  rintro e W2 ⟨rfl, hS⟩
  replace k1 := k1.kept hS
  replace k2 := k2.kept hS
  replace k3 := k3.kept hS
  replace k4 := k4.kept hS
  replace hb := hb.trans (hS.mono hb.size)
  clear hS IC
  have c3 := k3.c3
  go_wp2_with fail
  clear c3
  refine (MC.out _ (HM.out.kept hb)).mono ?_
  rintro e W3 ⟨rfl, hS⟩
  replace k1 := k1.kept hS
  replace k2 := k2.kept hS
  replace k3 := k3.kept hS
  replace k4 := k4.kept hS
  replace hb := hb.trans (hS.mono hb.size)
  clear hS MC
  have c2 := k2.c16
  go_wp2_with fail
  clear c2
  refine (DB.out _ (HD.out.kept hb) (HL.out.kept hb)).mono ?_
  rintro e W4 ⟨q1, rfl, h1, hS⟩
  replace k1 := k1.kept hS
  replace k2 := k2.kept hS
  replace k3 := k3.kept hS
  replace k4 := k4.kept hS
  replace hb := hb.trans (hS.mono hb.size)
  clear hS DB
  have H1 := Lib.hid h1
  obtain ⟨a1, p1, rfl⟩ := Qn.slice h1
  clear h1
  have c4 := k4.c3
  go_wp2_with fail
  exact bodyPost_ret (v := .tuple #[.agg #[.int .i64 0, .int .i64 0, .slice none 0 0], .int .i64 E]) (by simp [results, Tryz.results7, go_sem, c4]) rfl ⟨rfl, ((hb.setCell (by simp; omega) _).setCell (by simp; omega) _).setCell (by simp; omega) _⟩

set_option maxHeartbeats 4000000 in
theorem paint_bad4 (iw ih : Int) (iv : Value) (ps : List Px) (B : Bru) (u lv : Value) (ls : List Smp) (mw mh : Int) (mv : Value) (zs : List Int) (w : World) (hI : Pn w iv ps) (hD : Dn w u B.ds) (hL : Sm w lv ls) (hM : Nn w mv zs) (h1 : ichk iw ih ps = 0) (h2 : mchk mw mh zs = 0) (h3 : (dabs B ls).2 = 0) (h4 : mw ≠ 0 ∧ (mw ≠ iw ∨ mh ≠ ih)) :
    Calls Tryz.prog 7 #[.agg #[.int .i64 iw, .int .i64 ih, iv], brv B u, lv, .agg #[.int .i64 mw, .int .i64 mh, mv]] w fun e w' => e = .returned (.tuple #[.agg #[.int .i64 0, .int .i64 0, .slice none 0 0], .int .i64 15]) ∧ Below w.heap.size w w' := by
  have HI := Lib.hid hI
  have HD := Lib.hid hD
  have HL := Lib.hid hL
  have HM := Lib.hid hM
  obtain ⟨ai, ci, rfl⟩ := hI.slice
  obtain ⟨a, cap, rfl⟩ := Qn.slice hL
  obtain ⟨au, capu, rfl, _, _⟩ := hD
  obtain ⟨am, cm, rfl, _⟩ := hM.slice
  have IC := Lib.hid (fun w h => rasterCheck_any iw ih (.slice ai ps.length ci) ps w h)
  have MC := Lib.hid (fun w h => maskCheck_any mw mh (.slice am zs.length cm) zs w h)
  have DB := Lib.hid (fun w h h' => dabs_any B (.slice au B.ds.length capu) (.slice a ls.length cap) ls w h h')
  rw [h1] at IC
  rw [h2] at MC
  rw [h3] at DB
  clear hI hL hM h1 h2 h3
  generalize (dabs B ls).1 = ds at *
  generalize ps.length = ni at *
  generalize zs.length = nz at *
  generalize ls.length = nl at *
  generalize B.ds.length = nd at *
  go_enter Tryz.func7, Tryz.ntmps7
  go_upto_region 1 with (fail)
  refine name4 (fun W1 k1 k2 k3 k4 hb => ?_)
  have c1 := k1.c3
  go_wp2_with fail
  clear c1
  refine (IC.out _ (HI.out.kept hb)).mono ?_
  rintro e W2 ⟨rfl, hS⟩
  replace k1 := k1.kept hS
  replace k2 := k2.kept hS
  replace k3 := k3.kept hS
  replace k4 := k4.kept hS
  replace hb := hb.trans (hS.mono hb.size)
  clear hS IC
  have c3 := k3.c3
  go_wp2_with fail
  clear c3
  refine (MC.out _ (HM.out.kept hb)).mono ?_
  rintro e W3 ⟨rfl, hS⟩
  replace k1 := k1.kept hS
  replace k2 := k2.kept hS
  replace k3 := k3.kept hS
  replace k4 := k4.kept hS
  replace hb := hb.trans (hS.mono hb.size)
  clear hS MC
  have c2 := k2.c16
  go_wp2_with fail
  clear c2
  refine (DB.out _ (HD.out.kept hb) (HL.out.kept hb)).mono ?_
  rintro e W4 ⟨q1, rfl, h1, hS⟩
  replace k1 := k1.kept hS
  replace k2 := k2.kept hS
  replace k3 := k3.kept hS
  replace k4 := k4.kept hS
  replace hb := hb.trans (hS.mono hb.size)
  clear hS DB
  have H1 := Lib.hid h1
  obtain ⟨a1, p1, rfl⟩ := Qn.slice h1
  clear h1
  have c1 := k1.c3
  have c3 := k3.c3
  have b1 : (mw != 0) = true := by simpa using h4.1
  by_cases h5 : mw = iw
  · have b2 : (mw != iw) = false := by simpa using h5
    have b3 : (mh != ih) = true := by simp; omega
    have c4 := k4.c3
    go_wp2_with fail
    exact bodyPost_ret (v := .tuple #[.agg #[.int .i64 0, .int .i64 0, .slice none 0 0], .int .i64 15]) (by simp [results, Tryz.results7, go_sem, c4]) rfl ⟨rfl, ((hb.setCell (by simp; omega) _).setCell (by simp; omega) _).setCell (by simp; omega) _⟩
  · have b2 : (mw != iw) = true := by simpa using h5
    have c4 := k4.c3
    go_wp2_with fail
    exact bodyPost_ret (v := .tuple #[.agg #[.int .i64 0, .int .i64 0, .slice none 0 0], .int .i64 15]) (by simp [results, Tryz.results7, go_sem, c4]) rfl ⟨rfl, ((hb.setCell (by simp; omega) _).setCell (by simp; omega) _).setCell (by simp; omega) _⟩

set_option maxHeartbeats 16000000 in
set_option maxRecDepth 20000 in
theorem paint_no (W H : Nat) (iv : Value) (ps : List Px) (B : Bru) (u lv : Value) (ls : List Smp) (mh : Int) (mv : Value) (zs : List Int) (w : World) (hs : Sines w) (hI : Pn w iv ps) (hD : Dn w u B.ds) (hL : Sm w lv ls) (hM : Nn w mv zs) (h1 : ichk W H ps = 0) (h2 : mchk 0 mh zs = 0) (h3 : (dabs B ls).2 = 0) :
    Calls Tryz.prog 7 #[.agg #[.int .i64 W, .int .i64 H, iv], brv B u, lv, .agg #[.int .i64 0, .int .i64 mh, mv]] w fun e w' => ∃ q, e = .returned (.tuple #[.agg #[.int .i64 W, .int .i64 H, q], .int .i64 0]) ∧ Pn w' q (pouts B (dabs B ls).1 W 0 zs ps) ∧ Below w.heap.size w w' := by
  obtain ⟨hn, _, hW, _, hH, hnl⟩ := ichk_len h1
  obtain ⟨hwh, hpx⟩ := ichk_px h1
  obtain ⟨h0, _, hok, l1, l2, _⟩ := dabs_ok h3
  have HI := Lib.hid hI
  have HD := Lib.hid hD
  have HL := Lib.hid hL
  have HM := Lib.hid hM
  obtain ⟨ai, ci, rfl⟩ := hI.slice
  obtain ⟨a, cap, rfl⟩ := Qn.slice hL
  obtain ⟨au, capu, rfl, _, _⟩ := hD
  obtain ⟨am, cm, rfl, _⟩ := hM.slice
  have IC := Lib.hid (fun w h => rasterCheck_any W H (.slice ai ps.length ci) ps w h)
  have MC := Lib.hid (fun w h => maskCheck_any 0 mh (.slice am zs.length cm) zs w h)
  have DB := Lib.hid (fun w h h' => dabs_any B (.slice au B.ds.length capu) (.slice a ls.length cap) ls w h h')
  rw [h1] at IC
  rw [h2] at MC
  rw [h3] at DB
  have hWH : W * H = ps.length := by have := Int.natCast_mul W H; omega
  have HSn := Lib.hid hs
  have CO := Lib.hid (fun v w hs h h' => coverage_any B (dabs B ls).1 W H (.slice au B.ds.length capu) v w hs h h' h0 hok l2 (by omega) (by omega))
  have CA := Lib.hid (fun i (hi : i < ps.length) => (couts_at B (dabs B ls).1 W H i (by omega)))
  have CL : Hid ((couts B (dabs B ls).1 W H).length = ps.length) := by
    show _ = _
    rw [couts_len, hWH]
  have OP : Hid (∀ i, pxOut B (dabs B ls).1 W 0 zs ps i = painted B (pxAt ps i) (cout B (dabs B ls).1 W i)) := fun i => by
    show painted _ _ (kAt _ _ _ _ _ _) = _
    rw [kAt_no B (dabs B ls).1 W zs i]
  have OL := Lib.hid (pouts_len B (dabs B ls).1 W 0 zs ps)
  have OA := Lib.hid (fun i hi => pouts_at B (dabs B ls).1 W 0 zs ps i hi)
  have CB := Lib.hid (fun i => cout_bd B (dabs B ls).1 W i)
  have PD := Lib.hid (fun p k w hk => painted_any B au B.ds.length capu p k w hk)
  clear hI hL hM h1 h2 h3 h0 hok l1 l2 hnl hwh hpx hs
  generalize couts B (dabs B ls).1 W H = cs at *
  generalize pouts B (dabs B ls).1 W 0 zs ps = out at *
  generalize pxOut B (dabs B ls).1 W 0 zs ps = res at *
  generalize cout B (dabs B ls).1 W = cv at *
  generalize (dabs B ls).1 = ds at *
  generalize ps.length = n at *
  generalize zs.length = nz at *
  generalize ls.length = nl at *
  generalize B.ds.length = nd at *
  clear hWH
  go_enter Tryz.func7, Tryz.ntmps7
  go_upto_region 1 with (fail)
  refine name4 (fun W1 k1 k2 k3 k4 hb => ?_)
  have c1 := k1.c3
  go_wp2_with fail
  clear c1
  refine (IC.out _ (HI.out.kept hb)).mono ?_
  rintro e W2 ⟨rfl, hS⟩
  replace k1 := k1.kept hS
  replace k2 := k2.kept hS
  replace k3 := k3.kept hS
  replace k4 := k4.kept hS
  replace hb := hb.trans (hS.mono hb.size)
  clear hS IC
  have c3 := k3.c3
  go_wp2_with fail
  clear c3
  refine (MC.out _ (HM.out.kept hb)).mono ?_
  rintro e W3 ⟨rfl, hS⟩
  replace k1 := k1.kept hS
  replace k2 := k2.kept hS
  replace k3 := k3.kept hS
  replace k4 := k4.kept hS
  replace hb := hb.trans (hS.mono hb.size)
  clear hS MC
  have c2 := k2.c16
  go_wp2_with fail
  clear c2
  refine (DB.out _ (HD.out.kept hb) (HL.out.kept hb)).mono ?_
  rintro e W4 ⟨q1, rfl, h1, hS⟩
  replace k1 := k1.kept hS
  replace k2 := k2.kept hS
  replace k3 := k3.kept hS
  replace k4 := k4.kept hS
  replace hb := hb.trans (hS.mono hb.size)
  clear hS DB
  have H1 := Lib.hid h1
  obtain ⟨a1, p1, rfl⟩ := Qn.slice h1
  clear h1
  generalize ds.length = md at *
  have c1 := k1.c3
  have c2 := k2.c16
  have c3 := k3.c3
  go_wp2_with fail
  clear c1 c2 c3
  refine (CO.out _ _ (HSn.out.kept hb) (HD.out.kept hb) H1.out).mono ?_
  rintro e W5 ⟨gc, nc, cc, rfl, hgc, lq, hq, hS⟩
  have ll4 := k4.lt
  replace k1 := k1.kept hS
  replace k2 := k2.kept hS
  replace k3 := k3.kept hS
  replace k4 := k4.kept hS
  replace hb := hb.trans (hS.mono hb.size)
  obtain rfl : nc = n := (nn_len hq).trans CL.out
  clear hS CO H1
  have c1 := k1.c3
  have hl1 := k1.lt
  have hl1b : w.heap.size < W5.heap.size + 1 := by omega
  go_upto_region 15 with (fail)
  go_cut [15] (fun s15 wx => ∃ x g : Nat, s15 = .pointer (some ⟨x, 0, none⟩) ∧ Blk wx x (.cells #[.int .i64 W, .int .i64 H, .slice (some ⟨g, 0, none⟩) nc nc] 24 (0, 0)) ∧ Blk wx g (zPix nc) ∧ x ≠ g ∧ W5.heap.size ≤ x ∧ W5.heap.size ≤ g ∧ Below W5.heap.size W5 wx)
  case first =>
    have mk := fun w => makePix nc hn w
    go_region
    all_goals
      go_wp2_with fail
      go_meet
      first
      | exact ⟨_, _, rfl, (alloc2 W5 _ _).2.1.drewd, (alloc2 W5 _ _).1.drewd, by omega, by omega, by omega, (alloc2 W5 _ _).2.2.drew⟩
      | exact ⟨_, _, rfl, (alloc2 W5 _ _).1.drewd, (alloc2 W5 _ _).2.1.drewd, by omega, by omega, by omega, (alloc2 W5 _ _).2.2.drew⟩
  case rest =>
    obtain ⟨x, g, rfl, ko, kr, g2, hx, hg, hS⟩ := hcut
    have l4 := k4.lt
    replace k2 := k2.kept hS
    replace k3 := k3.kept hS
    replace k4 := k4.kept hS
    replace hq := hq.kept hS
    have row := row_start (r := res) kr
    have c1' := k1.kept hS
    replace hb := hb.trans (hS.mono hb.size)
    have gq : gc ≠ g := by omega
    have g5 : w.heap.size + 1 + 1 + 1 < g := by omega
    clear hS kr lq l4 c1 k1 hl1 hl1b
    have c1 := c1'.c3
    go_wp2_with fail
    clear c1 c1'
    go_loopw [85] (fun i wr => ∃ k : Nat, k ≤ nc ∧ i = .int .i64 k ∧ Row wr g nc (fun i => if i < k then res i else (0, 0, 0, 0)) ∧ Nn wr (.slice (some ⟨gc, 0, none⟩) nc cc) cs ∧ Blk wr x (.cells #[.int .i64 W, .int .i64 H, .slice (some ⟨g, 0, none⟩) nc nc] 24 (0, 0)) ∧ Blk wr (w.heap.size + 1) (.cells #[.int .i64 B.sz, .int .i64 B.hd, .int .i64 B.rn, .int .i64 B.fl, .int .i64 B.op, .int .i64 B.sp, .int .i64 B.an, .int .i64 B.sc, .int .i64 B.md, .int .i64 B.r, .int .i64 B.g, .int .i64 B.b, .int .i64 B.a, .int .i64 B.sd, .slice au nd capu, .bool B.er] 29 (0, 0)) ∧ Blk wr (w.heap.size + 1 + 1) (.cells #[.int .i64 0, .int .i64 mh, .slice am nz cm] 33 (0, 0)) ∧ Blk wr (w.heap.size + 1 + 1 + 1) (.cells #[.int .i64 0, .int .i64 0, .slice none 0 0] 24 (0, 0)) ∧ Below w.heap.size w wr) (fun i _ => nc - (intOf i).toNat)
    case atStart => exact ⟨0, Nat.zero_le _, rfl, row, hq, ko, k2, k3, k4, hb⟩
    case round =>
      clear row hq ko k2 k3 k4 hb
      obtain ⟨k, hk, rfl, row, hq, ko, k2, k3, k4, hb⟩ := hrel
      by_cases hlt : k < nc
      · obtain ⟨b1, off1, rfl, hbl1, hcell1⟩ := HI.out.at k hlt
        have hc := hcell1 wr hb
        clear hcell1
        have P1 := Lib.hid (fun w => PD.out (pxAt ps k) (cv k) w (CB.out k))
        have OP1 := Lib.hid (OP.out k)
        have CK := Lib.hid (CA.out k hlt)
        have RN := Lib.hid (fun w (h : Row w g nc (fun i => if i < k then res i else (0, 0, 0, 0))) => h.next hlt)
        rw [OP1.out] at RN
        have RC := Lib.hid (fun w (h : Row w g nc (fun i => if i < k then res i else (0, 0, 0, 0))) => h.c k hlt)
        simp only [Nat.lt_irrefl, if_false] at RC
        clear OP1
        generalize painted B (pxAt ps k) (cv k) = q at *
        generalize pxAt ps k = p at *
        obtain ⟨q0, q1, q2, q3⟩ := q
        obtain ⟨p0, p1, p2, p3⟩ := p
        simp only at hc
        replace P1 : Hid (∀ w, Calls Tryz.prog 20 #[brv B (.slice au nd capu), pv p0 p1 p2 p3, .int .i64 (cv k)] w fun e w' => e = .returned (pv q0 q1 q2 q3) ∧ Below w.heap.size w w') := P1
        generalize cv k = K at *
        have i1 : (0 : Int) ≤ (k : Int) := by omega
        have i2 : (k : Int) < (nc : Int) := by omega
        go_upto_region 19 with (fail)
        clear hc
        refine name1 (fun W7 kp hS => ?_)
        replace row := row.kept hS
        replace hq := hq.kept hS
        replace ko := ko.kept hS
        replace k2 := k2.kept hS
        replace k3 := k3.kept hS
        replace k4 := k4.kept hS
        replace hb := hb.trans (hS.mono hb.size)
        clear hS
        have hck := nn_at0 hq k hlt
        rw [CK.out] at hck
        have c3 := k3.c3
        go_upto_region 22 with (fail)
        clear hck c3
        refine wp_region_grow 7 (fun w' => Below (World.heap W7).size W7 w') (by kernel_rfl) (by kernel_rfl) (Below.refl _ _).drew ?_
        simp only [List.take_succ_cons, List.take_zero, List.drop_succ_cons, List.drop_zero]
        repeat (first | (apply wpG_on; rfl; (intro w' hS K hK; have hc0 := (ko.kept hS).c3; have hc1 := (k2.kept hS).c16; have hc2 := (kp.kept hS).c4; have hc3 := (row.kept hS).lt; have hc4 := (hq.kept hS).slice; have hc5 := (k3.kept hS).lt; have hc6 := (k4.kept hS).lt; go_simp; (first | exact hK.out _ hS | (go_at_call 20; (with_reducible refine (P1.out _).mono ?_); rintro e w'' ⟨rfl, hbb⟩; exact ⟨_, rfl, hK.out _ (hS.trans (hbb.mono hS.size))⟩))); simp only [Act.put, List.setIfInBounds_toArray, List.set_cons_succ, List.set_cons_zero]) | (apply wpG_off; rfl; simp only [Act.put, List.setIfInBounds_toArray, List.set_cons_succ, List.set_cons_zero]))
        apply wpG_nil
        intro W8 hS
        replace ko := ko.kept hS
        replace k2 := k2.kept hS
        replace kp := kp.kept hS
        replace row := row.kept hS
        replace hq := hq.kept hS
        replace k3 := k3.kept hS
        replace k4 := k4.kept hS
        replace hb := hb.trans (hS.mono hb.size)
        clear hS
        have cr := RC.out _ row
        go_wp2_with fail
        go_roundw
        case rel => exact ⟨k + 1, by omega, by go_num, RN.out _ row, nn_kept4 hq gq _ _ _ _ _ _ _ _, ko.other4 g2 _ _ _ _ _ _ _ _, k2.other4 (by omega) _ _ _ _ _ _ _ _, k3.other4 (by omega) _ _ _ _ _ _ _ _, k4.other4 (by omega) _ _ _ _ _ _ _ _, below4g hb (by omega) _ _ _ _ _ _ _ _⟩
        case measure => simp [intOf]; omega
      · obtain rfl : k = nc := by omega
        have co := ko.c3
        have c4 := k4.c3
        go_wp2_with fail
        clear co
        have PN : Hid (∀ w', Row w' g k (fun i => if i < k then res i else (0, 0, 0, 0)) → Pn w' (.slice (some ⟨g, 0, none⟩) k k) out) := fun w' h => h.pn OL.out (by omega) (fun i hi => by rw [OA.out i hi, if_pos hi])
        refine bodyPost_ret (v := .tuple #[.agg #[.int .i64 W, .int .i64 H, .slice (some ⟨g, 0, none⟩) k k], .int .i64 0]) (by simp [results, Tryz.results7, go_sem, c4]) rfl ⟨_, rfl, PN.out _ (((row.other (by simp; omega) _).other (by simp; omega) _).other (by simp; omega) _), ((hb.setCell (by simp; omega) _).setCell (by simp; omega) _).setCell (by simp; omega) _⟩

set_option maxHeartbeats 16000000 in
set_option maxRecDepth 20000 in
theorem paint_sel (W H : Nat) (iv : Value) (ps : List Px) (B : Bru) (u lv : Value) (ls : List Smp) (mv : Value) (zs : List Int) (w : World) (hs : Sines w) (hI : Pn w iv ps) (hD : Dn w u B.ds) (hL : Sm w lv ls) (hM : Nn w mv zs) (h1 : ichk W H ps = 0) (h2 : mchk W H zs = 0) (h3 : (dabs B ls).2 = 0) (hW1 : 1 ≤ W) :
    Calls Tryz.prog 7 #[.agg #[.int .i64 W, .int .i64 H, iv], brv B u, lv, .agg #[.int .i64 W, .int .i64 H, mv]] w fun e w' => ∃ q, e = .returned (.tuple #[.agg #[.int .i64 W, .int .i64 H, q], .int .i64 0]) ∧ Pn w' q (pouts B (dabs B ls).1 W W zs ps) ∧ Below w.heap.size w w' := by
  obtain ⟨hn, _, hW, _, hH, hnl⟩ := ichk_len h1
  obtain ⟨hwh, hpx⟩ := ichk_px h1
  obtain ⟨_, _, _, _, _, _, hzl⟩ := mchk_len h2
  obtain ⟨h0, _, hok, l1, l2, _⟩ := dabs_ok h3
  have HI := Lib.hid hI
  have HD := Lib.hid hD
  have HL := Lib.hid hL
  have HM := Lib.hid hM
  obtain ⟨ai, ci, rfl⟩ := hI.slice
  obtain ⟨a, cap, rfl⟩ := Qn.slice hL
  obtain ⟨au, capu, rfl, _, _⟩ := hD
  obtain ⟨am, cm, rfl, _⟩ := hM.slice
  have IC := Lib.hid (fun w h => rasterCheck_any W H (.slice ai ps.length ci) ps w h)
  have MC := Lib.hid (fun w h => maskCheck_any W H (.slice am zs.length cm) zs w h)
  have DB := Lib.hid (fun w h h' => dabs_any B (.slice au B.ds.length capu) (.slice a ls.length cap) ls w h h')
  rw [h1] at IC
  rw [h2] at MC
  rw [h3] at DB
  have hWH : W * H = ps.length := by have := Int.natCast_mul W H; omega
  have HSn := Lib.hid hs
  have CO := Lib.hid (fun v w hs h h' => coverage_any B (dabs B ls).1 W H (.slice au B.ds.length capu) v w hs h h' h0 hok l2 (by omega) (by omega))
  have CA := Lib.hid (fun i (hi : i < ps.length) => (couts_at B (dabs B ls).1 W H i (by omega)))
  have CL : Hid ((couts B (dabs B ls).1 W H).length = ps.length) := by
    show _ = _
    rw [couts_len, hWH]
  have OP : Hid (∀ i, pxOut B (dabs B ls).1 W W zs ps i = painted B (pxAt ps i) (dv (cl (cout B (dabs B ls).1 W i) * cl (zs.getD i 0)) 65535)) := fun i => by
    show painted _ _ (kAt _ _ _ _ _ _) = _
    rw [kAt_sel B (dabs B ls).1 W zs i (sw := (W : Int)) (by omega)]
  have OL := Lib.hid (pouts_len B (dabs B ls).1 W W zs ps)
  have OA := Lib.hid (fun i hi => pouts_at B (dabs B ls).1 W W zs ps i hi)
  have CB := Lib.hid (fun i => cout_bd B (dabs B ls).1 W i)
  have PD := Lib.hid (fun p k w hk => painted_any B au B.ds.length capu p k w hk)
  have hzn : zs.length = ps.length := by omega
  clear hI hL hM h1 h2 h3 h0 hok l1 l2 hnl hwh hpx hs hzl
  generalize couts B (dabs B ls).1 W H = cs at *
  generalize pouts B (dabs B ls).1 W W zs ps = out at *
  generalize pxOut B (dabs B ls).1 W W zs ps = res at *
  generalize cout B (dabs B ls).1 W = cv at *
  generalize (dabs B ls).1 = ds at *
  generalize zs.length = nz at *
  subst hzn
  generalize ps.length = n at *
  generalize ls.length = nl at *
  generalize B.ds.length = nd at *
  clear hWH
  have bW : ((W : Int) != 0) = true := by simp; omega
  have bW2 : ((W : Int) == 0) = false := by simp; omega
  go_enter Tryz.func7, Tryz.ntmps7
  go_upto_region 1 with (fail)
  refine name4 (fun W1 k1 k2 k3 k4 hb => ?_)
  have c1 := k1.c3
  go_wp2_with fail
  clear c1
  refine (IC.out _ (HI.out.kept hb)).mono ?_
  rintro e W2 ⟨rfl, hS⟩
  replace k1 := k1.kept hS
  replace k2 := k2.kept hS
  replace k3 := k3.kept hS
  replace k4 := k4.kept hS
  replace hb := hb.trans (hS.mono hb.size)
  clear hS IC
  have c3 := k3.c3
  go_wp2_with fail
  clear c3
  refine (MC.out _ (HM.out.kept hb)).mono ?_
  rintro e W3 ⟨rfl, hS⟩
  replace k1 := k1.kept hS
  replace k2 := k2.kept hS
  replace k3 := k3.kept hS
  replace k4 := k4.kept hS
  replace hb := hb.trans (hS.mono hb.size)
  clear hS MC
  have c2 := k2.c16
  go_wp2_with fail
  clear c2
  refine (DB.out _ (HD.out.kept hb) (HL.out.kept hb)).mono ?_
  rintro e W4 ⟨q1, rfl, h1, hS⟩
  replace k1 := k1.kept hS
  replace k2 := k2.kept hS
  replace k3 := k3.kept hS
  replace k4 := k4.kept hS
  replace hb := hb.trans (hS.mono hb.size)
  clear hS DB
  have H1 := Lib.hid h1
  obtain ⟨a1, p1, rfl⟩ := Qn.slice h1
  clear h1
  generalize ds.length = md at *
  have c1 := k1.c3
  have c2 := k2.c16
  have c3 := k3.c3
  go_wp2_with fail
  clear c1 c2 c3
  refine (CO.out _ _ (HSn.out.kept hb) (HD.out.kept hb) H1.out).mono ?_
  rintro e W5 ⟨gc, nc, cc, rfl, hgc, lq, hq, hS⟩
  have ll4 := k4.lt
  replace k1 := k1.kept hS
  replace k2 := k2.kept hS
  replace k3 := k3.kept hS
  replace k4 := k4.kept hS
  replace hb := hb.trans (hS.mono hb.size)
  obtain rfl : nc = n := (nn_len hq).trans CL.out
  clear hS CO H1
  have c1 := k1.c3
  have hl1 := k1.lt
  have hl1b : w.heap.size < W5.heap.size + 1 := by omega
  go_upto_region 15 with (fail)
  go_cut [15] (fun s15 wx => ∃ x g : Nat, s15 = .pointer (some ⟨x, 0, none⟩) ∧ Blk wx x (.cells #[.int .i64 W, .int .i64 H, .slice (some ⟨g, 0, none⟩) nc nc] 24 (0, 0)) ∧ Blk wx g (zPix nc) ∧ x ≠ g ∧ W5.heap.size ≤ x ∧ W5.heap.size ≤ g ∧ Below W5.heap.size W5 wx)
  case first =>
    have mk := fun w => makePix nc hn w
    go_region
    all_goals
      go_wp2_with fail
      go_meet
      first
      | exact ⟨_, _, rfl, (alloc2 W5 _ _).2.1.drewd, (alloc2 W5 _ _).1.drewd, by omega, by omega, by omega, (alloc2 W5 _ _).2.2.drew⟩
      | exact ⟨_, _, rfl, (alloc2 W5 _ _).1.drewd, (alloc2 W5 _ _).2.1.drewd, by omega, by omega, by omega, (alloc2 W5 _ _).2.2.drew⟩
  case rest =>
    obtain ⟨x, g, rfl, ko, kr, g2, hx, hg, hS⟩ := hcut
    have l4 := k4.lt
    replace k2 := k2.kept hS
    replace k3 := k3.kept hS
    replace k4 := k4.kept hS
    replace hq := hq.kept hS
    have row := row_start (r := res) kr
    have c1' := k1.kept hS
    replace hb := hb.trans (hS.mono hb.size)
    have gq : gc ≠ g := by omega
    have g5 : w.heap.size + 1 + 1 + 1 < g := by omega
    clear hS kr lq l4 c1 k1 hl1 hl1b
    have c1 := c1'.c3
    go_wp2_with fail
    clear c1 c1'
    go_loopw [85] (fun i wr => ∃ k : Nat, k ≤ nc ∧ i = .int .i64 k ∧ Row wr g nc (fun i => if i < k then res i else (0, 0, 0, 0)) ∧ Nn wr (.slice (some ⟨gc, 0, none⟩) nc cc) cs ∧ Blk wr x (.cells #[.int .i64 W, .int .i64 H, .slice (some ⟨g, 0, none⟩) nc nc] 24 (0, 0)) ∧ Blk wr (w.heap.size + 1) (.cells #[.int .i64 B.sz, .int .i64 B.hd, .int .i64 B.rn, .int .i64 B.fl, .int .i64 B.op, .int .i64 B.sp, .int .i64 B.an, .int .i64 B.sc, .int .i64 B.md, .int .i64 B.r, .int .i64 B.g, .int .i64 B.b, .int .i64 B.a, .int .i64 B.sd, .slice au nd capu, .bool B.er] 29 (0, 0)) ∧ Blk wr (w.heap.size + 1 + 1) (.cells #[.int .i64 W, .int .i64 H, .slice am nc cm] 33 (0, 0)) ∧ Blk wr (w.heap.size + 1 + 1 + 1) (.cells #[.int .i64 0, .int .i64 0, .slice none 0 0] 24 (0, 0)) ∧ Below w.heap.size w wr) (fun i _ => nc - (intOf i).toNat)
    case atStart => exact ⟨0, Nat.zero_le _, rfl, row, hq, ko, k2, k3, k4, hb⟩
    case round =>
      clear row hq ko k2 k3 k4 hb
      obtain ⟨k, hk, rfl, row, hq, ko, k2, k3, k4, hb⟩ := hrel
      by_cases hlt : k < nc
      · obtain ⟨b1, off1, rfl, hbl1, hcell1⟩ := HI.out.at k hlt
        have hc := hcell1 wr hb
        clear hcell1
        obtain ⟨bz, oz, rfl, hz⟩ := nnAtS HM.out k hlt
        have HZ := Lib.hid hz
        clear hz
        have P1 := Lib.hid (fun w => PD.out (pxAt ps k) (dv (cl (cv k) * cl (zs.getD k 0)) 65535) w (mulU_bd' _ _))
        have OP1 := Lib.hid (OP.out k)
        have CK := Lib.hid (CA.out k hlt)
        have RN := Lib.hid (fun w (h : Row w g nc (fun i => if i < k then res i else (0, 0, 0, 0))) => h.next hlt)
        rw [OP1.out] at RN
        have RC := Lib.hid (fun w (h : Row w g nc (fun i => if i < k then res i else (0, 0, 0, 0))) => h.c k hlt)
        simp only [Nat.lt_irrefl, if_false] at RC
        clear OP1
        have MU := Lib.hid (fun w => mul_any (cv k) (zs.getD k 0) w)
        generalize painted B (pxAt ps k) (dv (cl (cv k) * cl (zs.getD k 0)) 65535) = q at *
        generalize pxAt ps k = p at *
        obtain ⟨q0, q1, q2, q3⟩ := q
        obtain ⟨p0, p1, p2, p3⟩ := p
        simp only at hc
        replace P1 : Hid (∀ w, Calls Tryz.prog 20 #[brv B (.slice au nd capu), pv p0 p1 p2 p3, .int .i64 (dv (cl (cv k) * cl (zs.getD k 0)) 65535)] w fun e w' => e = .returned (pv q0 q1 q2 q3) ∧ Below w.heap.size w w') := P1
        generalize dv (cl (cv k) * cl (zs.getD k 0)) 65535 = K at *
        generalize zs.getD k 0 = z at *
        generalize cv k = c at *
        have i1 : (0 : Int) ≤ (k : Int) := by omega
        have i2 : (k : Int) < (nc : Int) := by omega
        go_upto_region 19 with (fail)
        clear hc
        refine name1 (fun W7 kp hS => ?_)
        replace row := row.kept hS
        replace hq := hq.kept hS
        replace ko := ko.kept hS
        replace k2 := k2.kept hS
        replace k3 := k3.kept hS
        replace k4 := k4.kept hS
        replace hb := hb.trans (hS.mono hb.size)
        clear hS
        have hck := nn_at0 hq k hlt
        rw [CK.out] at hck
        have c3 := k3.c3
        have hz := HZ.out _ hb
        go_wp2_with fail
        refine (MU.out _).mono ?_
        rintro e w' ⟨rfl, rfl⟩
        go_upto_region 22 with (fail)
        clear hz
        clear hck c3
        refine wp_region_grow 7 (fun w' => Below (World.heap W7).size W7 w') (by kernel_rfl) (by kernel_rfl) (Below.refl _ _).drew ?_
        simp only [List.take_succ_cons, List.take_zero, List.drop_succ_cons, List.drop_zero]
        repeat (first | (apply wpG_on; rfl; (intro w' hS K hK; have hc0 := (ko.kept hS).c3; have hc1 := (k2.kept hS).c16; have hc2 := (kp.kept hS).c4; have hc3 := (row.kept hS).lt; have hc4 := (hq.kept hS).slice; have hc5 := (k3.kept hS).lt; have hc6 := (k4.kept hS).lt; go_simp; (first | exact hK.out _ hS | (go_at_call 20; (with_reducible refine (P1.out _).mono ?_); rintro e w'' ⟨rfl, hbb⟩; exact ⟨_, rfl, hK.out _ (hS.trans (hbb.mono hS.size))⟩))); simp only [Act.put, List.setIfInBounds_toArray, List.set_cons_succ, List.set_cons_zero]) | (apply wpG_off; rfl; simp only [Act.put, List.setIfInBounds_toArray, List.set_cons_succ, List.set_cons_zero]))
        apply wpG_nil
        intro W8 hS
        replace ko := ko.kept hS
        replace k2 := k2.kept hS
        replace kp := kp.kept hS
        replace row := row.kept hS
        replace hq := hq.kept hS
        replace k3 := k3.kept hS
        replace k4 := k4.kept hS
        replace hb := hb.trans (hS.mono hb.size)
        clear hS
        have cr := RC.out _ row
        go_wp2_with fail
        go_roundw
        case rel => exact ⟨k + 1, by omega, by go_num, RN.out _ row, nn_kept4 hq gq _ _ _ _ _ _ _ _, ko.other4 g2 _ _ _ _ _ _ _ _, k2.other4 (by omega) _ _ _ _ _ _ _ _, k3.other4 (by omega) _ _ _ _ _ _ _ _, k4.other4 (by omega) _ _ _ _ _ _ _ _, below4g hb (by omega) _ _ _ _ _ _ _ _⟩
        case measure => simp [intOf]; omega
      · obtain rfl : k = nc := by omega
        have co := ko.c3
        have c4 := k4.c3
        go_wp2_with fail
        clear co
        have PN : Hid (∀ w', Row w' g k (fun i => if i < k then res i else (0, 0, 0, 0)) → Pn w' (.slice (some ⟨g, 0, none⟩) k k) out) := fun w' h => h.pn OL.out (by omega) (fun i hi => by rw [OA.out i hi, if_pos hi])
        refine bodyPost_ret (v := .tuple #[.agg #[.int .i64 W, .int .i64 H, .slice (some ⟨g, 0, none⟩) k k], .int .i64 0]) (by simp [results, Tryz.results7, go_sem, c4]) rfl ⟨_, rfl, PN.out _ (((row.other (by simp; omega) _).other (by simp; omega) _).other (by simp; omega) _), ((hb.setCell (by simp; omega) _).setCell (by simp; omega) _).setCell (by simp; omega) _⟩

/-- What imageeditor/brush.Paint gives. -/
theorem paint_any (iw ih : Int) (iv : Value) (ps : List Px) (B : Bru) (u lv : Value) (ls : List Smp) (mw mh : Int) (mv : Value) (zs : List Int) (Wm Hm E : Int) (qs : List Px) (w : World) (hs : Sines w) (hI : Pn w iv ps) (hD : Dn w u B.ds) (hL : Sm w lv ls) (hM : Nn w mv zs) (ho : PaintOut iw ih ps B ls mw mh zs Wm Hm E qs) :
    Calls Tryz.prog 7 #[.agg #[.int .i64 iw, .int .i64 ih, iv], brv B u, lv, .agg #[.int .i64 mw, .int .i64 mh, mv]] w fun e w' => ∃ q, e = .returned (.tuple #[.agg #[.int .i64 Wm, .int .i64 Hm, q], .int .i64 E]) ∧ Pn w' q qs ∧ Below w.heap.size w w' := by
  rcases ho with ⟨h1, rfl, rfl, rfl, rfl⟩ | ⟨h1, h2, rfl, rfl, rfl, rfl⟩ | ⟨h1, h2, h3, rfl, rfl, rfl, rfl⟩ | ⟨h1, h2, h3, h4, rfl, rfl, rfl, rfl⟩ | ⟨h1, h2, h3, h4, rfl, rfl, rfl, rfl⟩
  · refine (paint_bad1 iw ih iv ps B u lv ls mw mh mv zs w hI hD hL hM h1).mono ?_
    rintro e w' ⟨rfl, hb⟩
    exact ⟨_, rfl, Pn.nil _, hb⟩
  · refine (paint_bad2 iw ih iv ps B u lv ls mw mh mv zs w hI hD hL hM h1 h2).mono ?_
    rintro e w' ⟨rfl, hb⟩
    exact ⟨_, rfl, Pn.nil _, hb⟩
  · refine (paint_bad3 iw ih iv ps B u lv ls mw mh mv zs w hI hD hL hM h1 h2 h3).mono ?_
    rintro e w' ⟨rfl, hb⟩
    exact ⟨_, rfl, Pn.nil _, hb⟩
  · refine (paint_bad4 iw ih iv ps B u lv ls mw mh mv zs w hI hD hL hM h1 h2 h3 h4).mono ?_
    rintro e w' ⟨rfl, hb⟩
    exact ⟨_, rfl, Pn.nil _, hb⟩
  · obtain ⟨_, a1, _, a3, _, a5⟩ := ichk_len h1
    have hwh := (ichk_px h1).1
    obtain ⟨W, rfl⟩ : ∃ n : Nat, Wm = n := ⟨Wm.toNat, by omega⟩
    obtain ⟨H, rfl⟩ : ∃ n : Nat, Hm = n := ⟨Hm.toNat, by omega⟩
    by_cases h5 : mw = 0
    · subst h5
      exact paint_no W H iv ps B u lv ls mh mv zs w hs hI hD hL hM h1 h2 h3
    · obtain rfl : mw = W := by omega
      obtain rfl : mh = H := by omega
      exact paint_sel W H iv ps B u lv ls mv zs w hs hI hD hL hM h1 h2 h3 (by omega)
end Go.Proofs.YtjaidcdkkgnfoaaGreatDoor

