/- imageeditorref28.Paint (printed by genpaint.py). -/
import Derived.Test.YtjaidcdkkgnfoaaGreatDoorLPaint
import Derived.Test.YtjaidcdkkgnfoaaGreatDoorLMask
import Derived.Test.YtjaidcdkkgnfoaaGreatDoorLRow
import Derived.Test.YtjaidcdkkgnfoaaGreatDoorLRow
import Derived.Test.YtjaidcdkkgnfoaaGreatDoorLDab
import Derived.Test.YtjaidcdkkgnfoaaGreatDoorBrSame
import Derived.Test.YtjaidcdkkgnfoaaGreatDoorLMask
import Derived.Test.YtjaidcdkkgnfoaaGreatDoorBrStrokeR
import Derived.Test.YtjaidcdkkgnfoaaGreatDoorLDyn
import Derived.Deep.Cut
namespace Go.Proofs.YtjaidcdkkgnfoaaGreatDoor
open Go.RowKit
set_option linter.unusedVariables false
attribute [local go_sem] Oper.gAt gUponK Oper.sAt stilK
theorem infoMask3 : (Tryz.prog.info? 33).map (·.size) = some 3 := by kernel_rfl
theorem mulU_all (v : Int) (h : 0 ≤ v ∧ v ≤ 65535) : dv (cl v * cl 65535) 65535 = v := by
  rw [Int.mul_comm]
  exact mulU_one v h

set_option maxHeartbeats 4000000 in
theorem refPaint_bad1 (iw ih : Int) (iv : Value) (ps : List Px) (B : Bru) (u lv : Value) (ls : List Smp) (mw mh : Int) (mv : Value) (zs : List Int) (w : World) (hI : Pn w iv ps) (hD : Dn w u B.ds) (hL : Sm w lv ls) (hM : Nn w mv zs) (h1 : ichk iw ih ps ≠ 0) :
    Calls Tryz.prog 8 #[.agg #[.int .i64 iw, .int .i64 ih, iv], brv B u, lv, .agg #[.int .i64 mw, .int .i64 mh, mv]] w fun e w' => e = .returned (.tuple #[.agg #[.int .i64 0, .int .i64 0, .slice none 0 0], .int .i64 (ichk iw ih ps)]) ∧ Below w.heap.size w w' := by
  have HI := Lib.hid hI
  have HD := Lib.hid hD
  have HL := Lib.hid hL
  have HM := Lib.hid hM
  obtain ⟨ai, ci, rfl⟩ := hI.slice
  obtain ⟨a, cap, rfl⟩ := Qn.slice hL
  obtain ⟨au, capu, rfl, _, _⟩ := hD
  obtain ⟨am, cm, rfl, _⟩ := hM.slice
  have IC := Lib.hid (fun w h => refRasterCheck_any iw ih (.slice ai ps.length ci) ps w h)
  have MC := Lib.hid (fun w h => refMaskCheck_any mw mh (.slice am zs.length cm) zs w h)
  have DB := Lib.hid (fun w h h' => refDabs_any B (.slice au B.ds.length capu) (.slice a ls.length cap) ls w h h')
  have be : (ichk iw ih ps != 0) = true := by simpa using h1
  clear hI hL hM h1
  generalize ichk iw ih ps = E at *
  generalize (dabs B ls).1 = ds at *
  generalize ps.length = ni at *
  generalize zs.length = nz at *
  generalize ls.length = nl at *
  generalize B.ds.length = nd at *
  go_enter Tryz.func8, Tryz.ntmps8
  go_upto_region 1 with (fail)
  refine name4 (fun W1 k1 k2 k3 k4 hb => ?_)
  have c1 := k1.c3
  go_wp2_with fail
  clear c1
  refine (IC.out _ (HI.out.kept hb)).mono ?_
  rintro e W2 ⟨rfl, hS⟩
  replace k1 := k1.kept hS
  replace k2 := k2.kept hS
  replace k3 := k3.kept hS
  replace k4 := k4.kept hS
  replace hb := hb.trans (hS.mono hb.size)
  clear hS IC
  have c4 := k4.c3
  go_wp2_with fail
  exact bodyPost_ret (v := .tuple #[.agg #[.int .i64 0, .int .i64 0, .slice none 0 0], .int .i64 E]) (by simp [results, Tryz.results8, go_sem, c4]) rfl ⟨rfl, ((hb.setCell (by simp; omega) _).setCell (by simp; omega) _).setCell (by simp; omega) _⟩

set_option maxHeartbeats 4000000 in
theorem refPaint_bad2 (iw ih : Int) (iv : Value) (ps : List Px) (B : Bru) (u lv : Value) (ls : List Smp) (mw mh : Int) (mv : Value) (zs : List Int) (w : World) (hI : Pn w iv ps) (hD : Dn w u B.ds) (hL : Sm w lv ls) (hM : Nn w mv zs) (h1 : ichk iw ih ps = 0) (h2 : mchk mw mh zs ≠ 0) :
    Calls Tryz.prog 8 #[.agg #[.int .i64 iw, .int .i64 ih, iv], brv B u, lv, .agg #[.int .i64 mw, .int .i64 mh, mv]] w fun e w' => e = .returned (.tuple #[.agg #[.int .i64 0, .int .i64 0, .slice none 0 0], .int .i64 (mchk mw mh zs)]) ∧ Below w.heap.size w w' := by
  have HI := Lib.hid hI
  have HD := Lib.hid hD
  have HL := Lib.hid hL
  have HM := Lib.hid hM
  obtain ⟨ai, ci, rfl⟩ := hI.slice
  obtain ⟨a, cap, rfl⟩ := Qn.slice hL
  obtain ⟨au, capu, rfl, _, _⟩ := hD
  obtain ⟨am, cm, rfl, _⟩ := hM.slice
  have IC := Lib.hid (fun w h => refRasterCheck_any iw ih (.slice ai ps.length ci) ps w h)
  have MC := Lib.hid (fun w h => refMaskCheck_any mw mh (.slice am zs.length cm) zs w h)
  have DB := Lib.hid (fun w h h' => refDabs_any B (.slice au B.ds.length capu) (.slice a ls.length cap) ls w h h')
  rw [h1] at IC
  have be : (mchk mw mh zs != 0) = true := by simpa using h2
  clear hI hL hM h1 h2
  generalize mchk mw mh zs = E at *
  generalize (dabs B ls).1 = ds at *
  generalize ps.length = ni at *
  generalize zs.length = nz at *
  generalize ls.length = nl at *
  generalize B.ds.length = nd at *
  go_enter Tryz.func8, Tryz.ntmps8
  go_upto_region 1 with (fail)
  refine name4 (fun W1 k1 k2 k3 k4 hb => ?_)
  have c1 := k1.c3
  go_wp2_with fail
  clear c1
  refine (IC.out _ (HI.out.kept hb)).mono ?_
  rintro e W2 ⟨rfl, hS⟩
  replace k1 := k1.kept hS
  replace k2 := k2.kept hS
  replace k3 := k3.kept hS
  replace k4 := k4.kept hS
  replace hb := hb.trans (hS.mono hb.size)
  clear hS IC
  have c3 := k3.c3
  go_wp2_with fail
  clear c3
  refine (MC.out _ (HM.out.kept hb)).mono ?_
  rintro e W3 ⟨rfl, hS⟩
  replace k1 := k1.kept hS
  replace k2 := k2.kept hS
  replace k3 := k3.kept hS
  replace k4 := k4.kept hS
  replace hb := hb.trans (hS.mono hb.size)
  clear hS MC
  have c4 := k4.c3
  go_wp2_with fail
  exact bodyPost_ret (v := .tuple #[.agg #[.int .i64 0, .int .i64 0, .slice none 0 0], .int .i64 E]) (by simp [results, Tryz.results8, go_sem, c4]) rfl ⟨rfl, ((hb.setCell (by simp; omega) _).setCell (by simp; omega) _).setCell (by simp; omega) _⟩

set_option maxHeartbeats 4000000 in
theorem refPaint_bad3 (iw ih : Int) (iv : Value) (ps : List Px) (B : Bru) (u lv : Value) (ls : List Smp) (mw mh : Int) (mv : Value) (zs : List Int) (w : World) (hI : Pn w iv ps) (hD : Dn w u B.ds) (hL : Sm w lv ls) (hM : Nn w mv zs) (h1 : ichk iw ih ps = 0) (h2 : mchk mw mh zs = 0) (h3 : (dabs B ls).2 ≠ 0) :
    Calls Tryz.prog 8 #[.agg #[.int .i64 iw, .int .i64 ih, iv], brv B u, lv, .agg #[.int .i64 mw, .int .i64 mh, mv]] w fun e w' => e = .returned (.tuple #[.agg #[.int .i64 0, .int .i64 0, .slice none 0 0], .int .i64 (dabs B ls).2]) ∧ Below w.heap.size w w' := by
  have HI := Lib.hid hI
  have HD := Lib.hid hD
  have HL := Lib.hid hL
  have HM := Lib.hid hM
  obtain ⟨ai, ci, rfl⟩ := hI.slice
  obtain ⟨a, cap, rfl⟩ := Qn.slice hL
  obtain ⟨au, capu, rfl, _, _⟩ := hD
  obtain ⟨am, cm, rfl, _⟩ := hM.slice
  have IC := Lib.hid (fun w h => refRasterCheck_any iw ih (.slice ai ps.length ci) ps w h)
  have MC := Lib.hid (fun w h => refMaskCheck_any mw mh (.slice am zs.length cm) zs w h)
  have DB := Lib.hid (fun w h h' => refDabs_any B (.slice au B.ds.length capu) (.slice a ls.length cap) ls w h h')
  rw [h1] at IC
  rw [h2] at MC
  have be : ((dabs B ls).2 != 0) = true := by simpa using h3
  clear hI hL hM h1 h2 h3
  generalize (dabs B ls).2 = E at *
  generalize (dabs B ls).1 = ds at *
  generalize ps.length = ni at *
  generalize zs.length = nz at *
  generalize ls.length = nl at *
  generalize B.ds.length = nd at *
  go_enter Tryz.func8, Tryz.ntmps8
  go_upto_region 1 with (fail)
  refine name4 (fun W1 k1 k2 k3 k4 hb => ?_)
  have c1 := k1.c3
  go_wp2_with fail
  clear c1
  refine (IC.out _ (HI.out.kept hb)).mono ?_
  rintro e W2 ⟨rfl, hS⟩
  replace k1 := k1.kept hS
  replace k2 := k2.kept hS
  replace k3 := k3.kept hS
  replace k4 := k4.kept hS
  replace hb := hb.trans (hS.mono hb.size)
  clear hS IC
  have c3 := k3.c3
  go_wp2_with fail
  clear c3
  refine (MC.out _ (HM.out.kept hb)).mono ?_
  rintro e W3 ⟨rfl, hS⟩
  replace k1 := k1.kept hS
  replace k2 := k2.kept hS
  replace k3 := k3.kept hS
  replace k4 := k4.kept hS
  replace hb := hb.trans (hS.mono hb.size)
  clear hS MC
  have c2 := k2.c16
  go_wp2_with fail
  clear c2
  refine (DB.out _ (HD.out.kept hb) (HL.out.kept hb)).mono ?_
  rintro e W4 ⟨q1, rfl, h1, hS⟩
  replace k1 := k1.kept hS
  replace k2 := k2.kept hS
  replace k3 := k3.kept hS
  replace k4 := k4.kept hS
  replace hb := hb.trans (hS.mono hb.size)
  clear hS DB
  have H1 := Lib.hid h1
  obtain ⟨a1, p1, rfl⟩ := Qn.slice h1
  clear h1
  have c4 := k4.c3
  go_wp2_with fail
  exact bodyPost_ret (v := .tuple #[.agg #[.int .i64 0, .int .i64 0, .slice none 0 0], .int .i64 E]) (by simp [results, Tryz.results8, go_sem, c4]) rfl ⟨rfl, ((hb.setCell (by simp; omega) _).setCell (by simp; omega) _).setCell (by simp; omega) _⟩

set_option maxHeartbeats 4000000 in
theorem refPaint_bad4 (iw ih : Int) (iv : Value) (ps : List Px) (B : Bru) (u lv : Value) (ls : List Smp) (mw mh : Int) (mv : Value) (zs : List Int) (w : World) (hI : Pn w iv ps) (hD : Dn w u B.ds) (hL : Sm w lv ls) (hM : Nn w mv zs) (h1 : ichk iw ih ps = 0) (h2 : mchk mw mh zs = 0) (h3 : (dabs B ls).2 = 0) (h4 : mw ≠ 0 ∧ (mw ≠ iw ∨ mh ≠ ih)) :
    Calls Tryz.prog 8 #[.agg #[.int .i64 iw, .int .i64 ih, iv], brv B u, lv, .agg #[.int .i64 mw, .int .i64 mh, mv]] w fun e w' => e = .returned (.tuple #[.agg #[.int .i64 0, .int .i64 0, .slice none 0 0], .int .i64 15]) ∧ Below w.heap.size w w' := by
  have HI := Lib.hid hI
  have HD := Lib.hid hD
  have HL := Lib.hid hL
  have HM := Lib.hid hM
  obtain ⟨ai, ci, rfl⟩ := hI.slice
  obtain ⟨a, cap, rfl⟩ := Qn.slice hL
  obtain ⟨au, capu, rfl, _, _⟩ := hD
  obtain ⟨am, cm, rfl, _⟩ := hM.slice
  have IC := Lib.hid (fun w h => refRasterCheck_any iw ih (.slice ai ps.length ci) ps w h)
  have MC := Lib.hid (fun w h => refMaskCheck_any mw mh (.slice am zs.length cm) zs w h)
  have DB := Lib.hid (fun w h h' => refDabs_any B (.slice au B.ds.length capu) (.slice a ls.length cap) ls w h h')
  rw [h1] at IC
  rw [h2] at MC
  rw [h3] at DB
  clear hI hL hM h1 h2 h3
  generalize (dabs B ls).1 = ds at *
  generalize ps.length = ni at *
  generalize zs.length = nz at *
  generalize ls.length = nl at *
  generalize B.ds.length = nd at *
  go_enter Tryz.func8, Tryz.ntmps8
  go_upto_region 1 with (fail)
  refine name4 (fun W1 k1 k2 k3 k4 hb => ?_)
  have c1 := k1.c3
  go_wp2_with fail
  clear c1
  refine (IC.out _ (HI.out.kept hb)).mono ?_
  rintro e W2 ⟨rfl, hS⟩
  replace k1 := k1.kept hS
  replace k2 := k2.kept hS
  replace k3 := k3.kept hS
  replace k4 := k4.kept hS
  replace hb := hb.trans (hS.mono hb.size)
  clear hS IC
  have c3 := k3.c3
  go_wp2_with fail
  clear c3
  refine (MC.out _ (HM.out.kept hb)).mono ?_
  rintro e W3 ⟨rfl, hS⟩
  replace k1 := k1.kept hS
  replace k2 := k2.kept hS
  replace k3 := k3.kept hS
  replace k4 := k4.kept hS
  replace hb := hb.trans (hS.mono hb.size)
  clear hS MC
  have c2 := k2.c16
  go_wp2_with fail
  clear c2
  refine (DB.out _ (HD.out.kept hb) (HL.out.kept hb)).mono ?_
  rintro e W4 ⟨q1, rfl, h1, hS⟩
  replace k1 := k1.kept hS
  replace k2 := k2.kept hS
  replace k3 := k3.kept hS
  replace k4 := k4.kept hS
  replace hb := hb.trans (hS.mono hb.size)
  clear hS DB
  have H1 := Lib.hid h1
  obtain ⟨a1, p1, rfl⟩ := Qn.slice h1
  clear h1
  have c1 := k1.c3
  have c3 := k3.c3
  have b1 : (mw != 0) = true := by simpa using h4.1
  by_cases h5 : mw = iw
  · have b2 : (mw != iw) = false := by simpa using h5
    have b3 : (mh != ih) = true := by simp; omega
    have c4 := k4.c3
    go_wp2_with fail
    exact bodyPost_ret (v := .tuple #[.agg #[.int .i64 0, .int .i64 0, .slice none 0 0], .int .i64 15]) (by simp [results, Tryz.results8, go_sem, c4]) rfl ⟨rfl, ((hb.setCell (by simp; omega) _).setCell (by simp; omega) _).setCell (by simp; omega) _⟩
  · have b2 : (mw != iw) = true := by simpa using h5
    have c4 := k4.c3
    go_wp2_with fail
    exact bodyPost_ret (v := .tuple #[.agg #[.int .i64 0, .int .i64 0, .slice none 0 0], .int .i64 15]) (by simp [results, Tryz.results8, go_sem, c4]) rfl ⟨rfl, ((hb.setCell (by simp; omega) _).setCell (by simp; omega) _).setCell (by simp; omega) _⟩

set_option maxHeartbeats 4000000 in
theorem refPaint_zero (iv : Value) (B : Bru) (u lv : Value) (ls : List Smp) (mh : Int) (mv : Value) (zs : List Int) (w : World) (hI : Pn w iv []) (hD : Dn w u B.ds) (hL : Sm w lv ls) (hM : Nn w mv zs) (h1 : ichk 0 0 [] = 0) (h2 : mchk 0 mh zs = 0) (h3 : (dabs B ls).2 = 0) :
    Calls Tryz.prog 8 #[.agg #[.int .i64 0, .int .i64 0, iv], brv B u, lv, .agg #[.int .i64 0, .int .i64 mh, mv]] w fun e w' => e = .returned (.tuple #[.agg #[.int .i64 0, .int .i64 0, .slice none 0 0], .int .i64 0]) ∧ Below w.heap.size w w' := by
  have HI := Lib.hid hI
  have HD := Lib.hid hD
  have HL := Lib.hid hL
  have HM := Lib.hid hM
  obtain ⟨ai, ci, rfl⟩ := hI.slice
  obtain ⟨a, cap, rfl⟩ := Qn.slice hL
  obtain ⟨au, capu, rfl, _, _⟩ := hD
  obtain ⟨am, cm, rfl, _⟩ := hM.slice
  have IC := Lib.hid (fun w h => refRasterCheck_any 0 0 (.slice ai 0 ci) [] w h)
  have MC := Lib.hid (fun w h => refMaskCheck_any 0 mh (.slice am zs.length cm) zs w h)
  have DB := Lib.hid (fun w h h' => refDabs_any B (.slice au B.ds.length capu) (.slice a ls.length cap) ls w h h')
  rw [h1] at IC
  rw [h2] at MC
  rw [h3] at DB
  clear hI hL hM h1 h2 h3
  generalize (dabs B ls).1 = ds at *
  generalize zs.length = nz at *
  generalize ls.length = nl at *
  generalize B.ds.length = nd at *
  go_enter Tryz.func8, Tryz.ntmps8
  go_upto_region 1 with (fail)
  refine name4 (fun W1 k1 k2 k3 k4 hb => ?_)
  have c1 := k1.c3
  go_wp2_with fail
  clear c1
  refine (IC.out _ (HI.out.kept hb)).mono ?_
  rintro e W2 ⟨rfl, hS⟩
  replace k1 := k1.kept hS
  replace k2 := k2.kept hS
  replace k3 := k3.kept hS
  replace k4 := k4.kept hS
  replace hb := hb.trans (hS.mono hb.size)
  clear hS IC
  have c3 := k3.c3
  go_wp2_with fail
  clear c3
  refine (MC.out _ (HM.out.kept hb)).mono ?_
  rintro e W3 ⟨rfl, hS⟩
  replace k1 := k1.kept hS
  replace k2 := k2.kept hS
  replace k3 := k3.kept hS
  replace k4 := k4.kept hS
  replace hb := hb.trans (hS.mono hb.size)
  clear hS MC
  have c2 := k2.c16
  go_wp2_with fail
  clear c2
  refine (DB.out _ (HD.out.kept hb) (HL.out.kept hb)).mono ?_
  rintro e W4 ⟨q1, rfl, h1, hS⟩
  replace k1 := k1.kept hS
  replace k2 := k2.kept hS
  replace k3 := k3.kept hS
  replace k4 := k4.kept hS
  replace hb := hb.trans (hS.mono hb.size)
  clear hS DB
  have H1 := Lib.hid h1
  obtain ⟨a1, p1, rfl⟩ := Qn.slice h1
  clear h1
  have c1 := k1.c3
  have c3 := k3.c3
  have c4 := k4.c3
  go_wp2_with fail
  exact bodyPost_ret (v := .tuple #[.agg #[.int .i64 0, .int .i64 0, .slice none 0 0], .int .i64 0]) (by simp [results, Tryz.results8, go_sem, c4]) rfl ⟨rfl, ((hb.setCell (by simp; omega) _).setCell (by simp; omega) _).setCell (by simp; omega) _⟩

set_option maxHeartbeats 16000000 in
set_option maxRecDepth 20000 in
theorem refPaint_no (W H : Nat) (iv : Value) (ps : List Px) (B : Bru) (u lv : Value) (ls : List Smp) (mh : Int) (mv : Value) (zs : List Int) (w : World) (hI : Pn w iv ps) (hD : Dn w u B.ds) (hL : Sm w lv ls) (hM : Nn w mv zs) (h1 : ichk W H ps = 0) (h2 : mchk 0 mh zs = 0) (h3 : (dabs B ls).2 = 0) (hW1 : 1 ≤ W) :
    Calls Tryz.prog 8 #[.agg #[.int .i64 W, .int .i64 H, iv], brv B u, lv, .agg #[.int .i64 0, .int .i64 mh, mv]] w fun e w' => ∃ q, e = .returned (.tuple #[.agg #[.int .i64 W, .int .i64 H, q], .int .i64 0]) ∧ Pn w' q (pouts B (dabs B ls).1 W 0 zs ps) ∧ Below w.heap.size w w' := by
  obtain ⟨hn, _, hW, _, hH, hnl⟩ := ichk_len h1
  obtain ⟨hwh, hpx⟩ := ichk_px h1
  obtain ⟨h0, _, hok, l1, l2, _⟩ := dabs_ok h3
  have HI := Lib.hid hI
  have HD := Lib.hid hD
  have HL := Lib.hid hL
  have HM := Lib.hid hM
  obtain ⟨ai, ci, rfl⟩ := hI.slice
  obtain ⟨a, cap, rfl⟩ := Qn.slice hL
  obtain ⟨au, capu, rfl, _, _⟩ := hD
  obtain ⟨am, cm, rfl, _⟩ := hM.slice
  have IC := Lib.hid (fun w h => refRasterCheck_any W H (.slice ai ps.length ci) ps w h)
  have MC := Lib.hid (fun w h => refMaskCheck_any 0 mh (.slice am zs.length cm) zs w h)
  have DB := Lib.hid (fun w h h' => refDabs_any B (.slice au B.ds.length capu) (.slice a ls.length cap) ls w h h')
  rw [h1] at IC
  rw [h2] at MC
  rw [h3] at DB
  have hWH : W * H = ps.length := by have := Int.natCast_mul W H; omega
  have ST := Lib.hid (fun w h h' => refStroke_good B (.slice au B.ds.length capu) (.slice a ls.length cap) ls W H w h h' h3 (by omega) (by omega))
  have CA := Lib.hid (fun i (hi : i < ps.length) => (couts_at B (dabs B ls).1 W H i (by omega)))
  have CL : Hid ((couts B (dabs B ls).1 W H).length = ps.length) := by
    show _ = _
    rw [couts_len, hWH]
  have OP : Hid (∀ i, pxOut B (dabs B ls).1 W 0 zs ps i = painted B (pxAt ps i) (cout B (dabs B ls).1 W i)) := fun i => by
    show painted _ _ (kAt _ _ _ _ _ _) = _
    rw [kAt_no B (dabs B ls).1 W zs i]
  have OL := Lib.hid (pouts_len B (dabs B ls).1 W 0 zs ps)
  have OA := Lib.hid (fun i hi => pouts_at B (dabs B ls).1 W 0 zs ps i hi)
  have CB := Lib.hid (fun i => cout_bd B (dabs B ls).1 W i)
  have PD := Lib.hid (fun p k w hk hp => refPainted_any B au B.ds.length capu p k w hk hp)
  have HPX := Lib.hid hpx
  clear hI hL hM h1 h2 h3 h0 hok l1 l2 hnl hwh hpx
  generalize couts B (dabs B ls).1 W H = cs at *
  generalize pouts B (dabs B ls).1 W 0 zs ps = out at *
  generalize pxOut B (dabs B ls).1 W 0 zs ps = res at *
  generalize cout B (dabs B ls).1 W = cv at *
  generalize (dabs B ls).1 = ds at *
  generalize ps.length = n at *
  generalize zs.length = nz at *
  generalize ls.length = nl at *
  generalize B.ds.length = nd at *
  clear hWH
  have bW : ((W : Int) != 0) = true := by simp; omega
  have bW2 : ((W : Int) == 0) = false := by simp; omega
  go_enter Tryz.func8, Tryz.ntmps8
  go_upto_region 1 with (fail)
  refine name4 (fun W1 k1 k2 k3 k4 hb => ?_)
  have c1 := k1.c3
  go_wp2_with fail
  clear c1
  refine (IC.out _ (HI.out.kept hb)).mono ?_
  rintro e W2 ⟨rfl, hS⟩
  replace k1 := k1.kept hS
  replace k2 := k2.kept hS
  replace k3 := k3.kept hS
  replace k4 := k4.kept hS
  replace hb := hb.trans (hS.mono hb.size)
  clear hS IC
  have c3 := k3.c3
  go_wp2_with fail
  clear c3
  refine (MC.out _ (HM.out.kept hb)).mono ?_
  rintro e W3 ⟨rfl, hS⟩
  replace k1 := k1.kept hS
  replace k2 := k2.kept hS
  replace k3 := k3.kept hS
  replace k4 := k4.kept hS
  replace hb := hb.trans (hS.mono hb.size)
  clear hS MC
  have c2 := k2.c16
  go_wp2_with fail
  clear c2
  refine (DB.out _ (HD.out.kept hb) (HL.out.kept hb)).mono ?_
  rintro e W4 ⟨q1, rfl, h1, hS⟩
  replace k1 := k1.kept hS
  replace k2 := k2.kept hS
  replace k3 := k3.kept hS
  replace k4 := k4.kept hS
  replace hb := hb.trans (hS.mono hb.size)
  clear hS DB
  have H1 := Lib.hid h1
  obtain ⟨a1, p1, rfl⟩ := Qn.slice h1
  clear h1
  generalize ds.length = md at *
  have c1 := k1.c3
  have c2 := k2.c16
  have c3 := k3.c3
  go_wp2_with fail
  clear c1 c2 c3 H1
  refine (ST.out _ (HD.out.kept hb) (HL.out.kept hb)).mono ?_
  rintro e W5 ⟨q, rfl, hq, hS⟩
  replace k1 := k1.kept hS
  replace k2 := k2.kept hS
  replace k3 := k3.kept hS
  replace k4 := k4.kept hS
  replace hb := hb.trans (hS.mono hb.size)
  obtain ⟨aq, cq, rfl, _⟩ := hq.slice
  rw [CL.out] at hq ⊢
  have HQ0 := Lib.hid hq
  clear hS hq ST
  go_upto_region 15 with (refine wpList_store_blk rfl _ _ _ rfl W5.heap.size #[.int .i64 W, .int .i64 H, .slice aq n cq] rfl rfl (heap_alloc_new W5 _) infoMask3 rfl (by simp [Value.oneCell']) (fun W6 km hkx hbx => ?_))
  have HQ := Lib.hid (HQ0.out.kept (((Below.refl _ _).alloc (Nat.le_refl _) _).trans hbx))
  have ll4 := k4.lt
  replace k1 := hkx _ _ (by have := k1.lt; omega) (k1.alloc _)
  replace k2 := hkx _ _ (by have := k2.lt; omega) (k2.alloc _)
  replace k3 := hkx _ _ (by have := k3.lt; omega) (k3.alloc _)
  replace k4 := hkx _ _ (by have := k4.lt; omega) (k4.alloc _)
  have h1b : Below w.heap.size w W6 := hb.trans ((((Below.refl _ _).alloc (Nat.le_refl _) _).trans hbx).mono hb.size)
  clear hkx hbx HQ0 hb
  generalize W5.heap.size = xm at *
  have lm := km.lt
  have c1 := k1.c3
  go_upto_region 16 with (fail)
  clear c1
  refine name1 (fun W7 ko hb => ?_)
  replace k1 := k1.kept hb
  replace k2 := k2.kept hb
  replace k3 := k3.kept hb
  replace k4 := k4.kept hb
  replace km := km.kept hb
  obtain ⟨x, hx0⟩ : ∃ x, x = W6.heap.size := ⟨_, rfl⟩
  rw [← hx0] at ko ⊢
  have hx1 : W6.heap.size ≤ x := by omega
  have hx2 : xm < x := by omega
  clear hx0 lm
  have ox := ko.lt
  obtain ⟨base, hbase⟩ : ∃ base, base = W7.heap.size := ⟨_, rfl⟩
  have own := own_nil W7 base 26 res
  have hbs : base ≤ W7.heap.size := by omega
  rw [← hbase] at ox
  clear hbase
  go_wp2_with fail
  go_loopw [17] (fun i wr => ∃ (k : Nat) (q : Value), k ≤ n ∧ i = .int .i64 k ∧ wr.ownsRow base 26 4 q k (pcF res k) ∧ base ≤ wr.heap.size ∧ Blk wr x (.cells #[.int .i64 W, .int .i64 H, q] 24 (0, 0)) ∧ Blk wr xm (.cells #[.int .i64 W, .int .i64 H, .slice aq n cq] 33 (0, 0)) ∧ Blk wr w.heap.size (.cells #[.int .i64 W, .int .i64 H, .slice ai n ci] 24 (0, 0)) ∧ Blk wr (w.heap.size + 1) (.cells #[.int .i64 B.sz, .int .i64 B.hd, .int .i64 B.rn, .int .i64 B.fl, .int .i64 B.op, .int .i64 B.sp, .int .i64 B.an, .int .i64 B.sc, .int .i64 B.md, .int .i64 B.r, .int .i64 B.g, .int .i64 B.b, .int .i64 B.a, .int .i64 B.sd, .slice au nd capu, .bool B.er] 29 (0, 0)) ∧ Blk wr (w.heap.size + 1 + 1) (.cells #[.int .i64 0, .int .i64 mh, .slice am nz cm] 33 (0, 0)) ∧ Blk wr (w.heap.size + 1 + 1 + 1) (.cells #[.int .i64 0, .int .i64 0, .slice none 0 0] 24 (0, 0)) ∧ Below W6.heap.size W6 wr) (fun i _ => n - (intOf i).toNat)
  case atStart => exact ⟨0, _, Nat.zero_le _, rfl, own, hbs, ko, km, k1, k2, k3, k4, hb⟩
  case round =>
    clear own ko km k1 k2 k3 k4 hb hbs
    obtain ⟨k, q, hk, rfl, own, hbs, ko, km, k1, k2, k3, k4, hb⟩ := hrel
    have c1 := k1.c3
    by_cases hlt : k < n
    · obtain ⟨b1, off1, rfl, hbl1, hcell1⟩ := HI.out.at k hlt
      obtain ⟨bq, oq, rfl, hcq⟩ := nnAtS HQ.out k hlt
      rw [CA.out k hlt] at hcq
      have P1 := Lib.hid (fun w => PD.out (pxAt ps k) (cv k) w (CB.out k) (HPX.out k hlt))
      have MU := Lib.hid (fun w => refMul_any (cv k) (65535) w)
      rw [mulU_all _ (CB.out k)] at MU
      have PS := Lib.hid (pcF_succ res k)
      rw [OP.out k] at PS
      generalize painted B (pxAt ps k) (cv k) = o at *
      generalize pxAt ps k = p at *
      obtain ⟨q0, q1, q2, q3⟩ := o
      obtain ⟨p0, p1, p2, p3⟩ := p
      simp only at hcell1
      replace P1 : Hid (∀ w, Calls Tryz.prog 23 #[brv B (.slice au nd capu), pv p0 p1 p2 p3, .int .i64 (cv k)] w fun e w' => e = .returned (pv q0 q1 q2 q3) ∧ Below w.heap.size w w') := P1
      generalize cv k = c at *
      have HC1 := Lib.hid hcell1
      have HC2 := Lib.hid hcq
      have HO := Lib.hid own
      clear hcell1 hcq own
      obtain ⟨aq0, cq0, rfl⟩ := own_slice HO.out
      have c3 := k3.c3
      have i1 : (0 : Int) ≤ (k : Int) := by omega
      have i2 : (k : Int) < (n : Int) := by omega
      go_upto_region 22 with (fail)
      clear c1 c3
      refine wp_region_ord [] [0, 1, 2, 3, 4, 5, 6, 7, 8, 9, 10, 11, 12, 13, 14, 15, 16] [17, 18, 19] (fun h => absurd rfl h) (by kernel_rfl) (by kernel_rfl) ?_
      simp only [picked, opsAt, List.getElem?_cons_succ, List.getElem?_cons_zero]
      apply wpFl_nil
      repeat (first | (apply wpN_on; rfl; rfl; (intro w' hS K hK; have hc0 := (ko.kept hS).c3; have hc1 := (km.kept hS).c3; have hc2 := (k1.kept hS).c3; have hc3 := (k2.kept hS).c16; have hc4 := (k3.kept hS).c3; have hc5 := (k4.kept hS).c3; have hr0 := HC1.out _ (h1b.trans ((hb.trans (hS.mono hb.size)).mono h1b.size)); have hr1 := HC2.out _ (hb.trans (hS.mono hb.size)); go_simp; (first | exact hK.out _ (Below.refl _ _) | (go_at_call 24; (with_reducible refine (MU.out _).mono ?_); rintro e w'' ⟨rfl, nn, rfl⟩; exact ⟨_, rfl, hK.out _ (belowN (Below.refl _ _) nn)⟩) | (go_at_call 23; (with_reducible refine (P1.out _).mono ?_); rintro e w'' ⟨rfl, hbb⟩; exact ⟨_, rfl, hK.out _ hbb⟩))); simp only [Act.put, List.setIfInBounds_toArray, List.set_cons_succ, List.set_cons_zero]) | (apply wpN_off; rfl; rfl; simp only [Act.put, List.setIfInBounds_toArray, List.set_cons_succ, List.set_cons_zero]))
      apply wpN_new
      rfl
      rfl
      · intro w' hS K hK; have hc0 := (ko.kept hS).c3; have hc1 := (km.kept hS).c3; have hc2 := (k1.kept hS).c3; have hc3 := (k2.kept hS).c16; have hc4 := (k3.kept hS).c3; have hc5 := (k4.kept hS).c3; have hr0 := HC1.out _ (h1b.trans ((hb.trans (hS.mono hb.size)).mono h1b.size)); have hr1 := HC2.out _ (hb.trans (hS.mono hb.size)); go_simp; exact hK.out
      intro x16 hx16 nx16
      simp only [Act.put, mkOf, List.setIfInBounds_toArray, List.set_cons_succ, List.set_cons_zero]
      apply wpN_nil
      rintro W8 hS ⟨-, kx16⟩
      replace ko := ko.kept hS
      replace km := km.kept hS
      replace k1 := k1.kept hS
      replace k2 := k2.kept hS
      replace k3 := k3.kept hS
      replace k4 := k4.kept hS
      replace hb := hb.trans (hS.mono hb.size)
      have own := ownsKept HO.out hS
      replace hbs : base ≤ W8.heap.size := Nat.le_trans hbs hS.size
      clear hS nx16
      obtain ⟨i0, hi, hz0, hz1, hz2⟩ := info_parts infoPx
      go_wp2_with (at_builtin; refine wpList_append_own _ rfl _ _ 22 rfl base 26 i0 (pv 0 0 0 0) 4 32 Tryz.underlying22 hi hz0 hz1 hz2 rfl (by decide) _ _ _ rfl own ⟨x16, 0, none⟩ 1 1 [.int .i64 q0, .int .i64 q1, .int .i64 q2, .int .i64 q3] rfl rfl ?ca1 ?ca2 ?ca3 ?ca4 ?ca5 ?_)
      case ca1 => exact World.news_of_block (cs := #[.int .i64 q0, .int .i64 q1, .int .i64 q2, .int .i64 q3]) (t := 26) (fr := (0, 0)) kx16
      case ca2 => simp [Value.oneCell']
      case ca3 => unfold maxLen; omega
      case ca4 => omega
      case ca5 => exact hbs
      intro v' w7 own' grow' _
      have hno : ∀ b, b < base → (Value.slice aq0 k cq0).ownBlock ≠ some b := fun b hb' h => by have := (own.lt _ h).1; omega
      have hW8 := hb.size
      replace ko := ko.grown grow' (hno _ (by omega))
      replace km := km.grown grow' (hno _ (by omega))
      replace k1 := k1.grown grow' (hno _ (by omega))
      replace k2 := k2.grown grow' (hno _ (by omega))
      replace k3 := k3.grown grow' (hno _ (by omega))
      replace k4 := k4.grown grow' (hno _ (by omega))
      replace hb : Below W6.heap.size W6 w7 := hb.grown grow' (by omega) (fun b hb' => by have := (own.lt _ hb').1; omega)
      have hb7 : base ≤ w7.heap.size := Nat.le_trans hbs grow'.size
      obtain ⟨av', cv', rfl⟩ := own_slice own'
      have co := ko.c3
      go_wp2_with fail
      go_roundw
      case rel =>
        refine ⟨k + 1, _, by omega, by go_num, ?_, by simpa using hb7, ko.set1 2 _ (by simp) rfl, km.other (by simp; omega) _, k1.other (by simp; omega) _, k2.other (by simp; omega) _, k3.other (by simp; omega) _, k4.other (by simp; omega) _, hb.setCell (by simp; omega) _⟩
        rw [PS.out]
        exact own'.kept (row := some x) ⟨rfl, rfl, rfl, by simp, fun j hj hne => Below.heap_setCell _ _ _ _ (fun h => hne (by rw [h]))⟩ (.inr (fun h => by have := (own'.lt _ h).1; omega))
      case measure => simp [intOf]; omega
    · obtain rfl : k = n := by omega
      obtain ⟨av, cv', rfl⟩ := own_slice own
      have co := ko.c3
      have c4 := k4.c3
      replace hb := h1b.trans (hb.mono h1b.size)
      go_wp2_with fail
      clear co c1
      have PN : Hid (∀ w', w'.ownsRow base 26 4 (.slice av k cv') k (pcF res k) → Pn w' (.slice av k cv') out) := fun w' h => pn_of_own h OL.out (by omega) (fun i hi => OA.out i hi)
      have KK : ∀ (w' : World) (j : Nat) (u : Value), w'.ownsRow base 26 4 (.slice av k cv') k (pcF res k) → (w'.setCell ⟨w.heap.size + 1 + 1 + 1, j, none⟩ u).ownsRow base 26 4 (.slice av k cv') k (pcF res k) := fun w' j u h =>
        h.kept (row := some (w.heap.size + 1 + 1 + 1)) ⟨rfl, rfl, rfl, by simp, fun j hj hne => Below.heap_setCell _ _ _ _ (fun h => hne (by rw [h]))⟩ (.inr (fun h' => by have := (h.lt _ h').1; omega))
      refine bodyPost_ret (v := .tuple #[.agg #[.int .i64 W, .int .i64 H, .slice av k cv'], .int .i64 0]) (by simp [results, Tryz.results8, go_sem, c4]) rfl ⟨_, rfl, PN.out _ (KK _ _ _ (KK _ _ _ (KK _ _ _ own))), ((hb.setCell (by simp; omega) _).setCell (by simp; omega) _).setCell (by simp; omega) _⟩

set_option maxHeartbeats 16000000 in
set_option maxRecDepth 20000 in
theorem refPaint_sel (W H : Nat) (iv : Value) (ps : List Px) (B : Bru) (u lv : Value) (ls : List Smp) (mv : Value) (zs : List Int) (w : World) (hI : Pn w iv ps) (hD : Dn w u B.ds) (hL : Sm w lv ls) (hM : Nn w mv zs) (h1 : ichk W H ps = 0) (h2 : mchk W H zs = 0) (h3 : (dabs B ls).2 = 0) (hW1 : 1 ≤ W) :
    Calls Tryz.prog 8 #[.agg #[.int .i64 W, .int .i64 H, iv], brv B u, lv, .agg #[.int .i64 W, .int .i64 H, mv]] w fun e w' => ∃ q, e = .returned (.tuple #[.agg #[.int .i64 W, .int .i64 H, q], .int .i64 0]) ∧ Pn w' q (pouts B (dabs B ls).1 W W zs ps) ∧ Below w.heap.size w w' := by
  obtain ⟨hn, _, hW, _, hH, hnl⟩ := ichk_len h1
  obtain ⟨hwh, hpx⟩ := ichk_px h1
  obtain ⟨_, _, _, _, _, _, hzl⟩ := mchk_len h2
  obtain ⟨h0, _, hok, l1, l2, _⟩ := dabs_ok h3
  have HI := Lib.hid hI
  have HD := Lib.hid hD
  have HL := Lib.hid hL
  have HM := Lib.hid hM
  obtain ⟨ai, ci, rfl⟩ := hI.slice
  obtain ⟨a, cap, rfl⟩ := Qn.slice hL
  obtain ⟨au, capu, rfl, _, _⟩ := hD
  obtain ⟨am, cm, rfl, _⟩ := hM.slice
  have IC := Lib.hid (fun w h => refRasterCheck_any W H (.slice ai ps.length ci) ps w h)
  have MC := Lib.hid (fun w h => refMaskCheck_any W H (.slice am zs.length cm) zs w h)
  have DB := Lib.hid (fun w h h' => refDabs_any B (.slice au B.ds.length capu) (.slice a ls.length cap) ls w h h')
  rw [h1] at IC
  rw [h2] at MC
  rw [h3] at DB
  have hWH : W * H = ps.length := by have := Int.natCast_mul W H; omega
  have ST := Lib.hid (fun w h h' => refStroke_good B (.slice au B.ds.length capu) (.slice a ls.length cap) ls W H w h h' h3 (by omega) (by omega))
  have CA := Lib.hid (fun i (hi : i < ps.length) => (couts_at B (dabs B ls).1 W H i (by omega)))
  have CL : Hid ((couts B (dabs B ls).1 W H).length = ps.length) := by
    show _ = _
    rw [couts_len, hWH]
  have OP : Hid (∀ i, pxOut B (dabs B ls).1 W W zs ps i = painted B (pxAt ps i) (dv (cl (cout B (dabs B ls).1 W i) * cl (zs.getD i 0)) 65535)) := fun i => by
    show painted _ _ (kAt _ _ _ _ _ _) = _
    rw [kAt_sel B (dabs B ls).1 W zs i (sw := (W : Int)) (by omega)]
  have OL := Lib.hid (pouts_len B (dabs B ls).1 W W zs ps)
  have OA := Lib.hid (fun i hi => pouts_at B (dabs B ls).1 W W zs ps i hi)
  have CB := Lib.hid (fun i => cout_bd B (dabs B ls).1 W i)
  have PD := Lib.hid (fun p k w hk hp => refPainted_any B au B.ds.length capu p k w hk hp)
  have HPX := Lib.hid hpx
  have hzn : zs.length = ps.length := by omega
  clear hI hL hM h1 h2 h3 h0 hok l1 l2 hnl hwh hpx hzl
  generalize couts B (dabs B ls).1 W H = cs at *
  generalize pouts B (dabs B ls).1 W W zs ps = out at *
  generalize pxOut B (dabs B ls).1 W W zs ps = res at *
  generalize cout B (dabs B ls).1 W = cv at *
  generalize (dabs B ls).1 = ds at *
  generalize zs.length = nz at *
  subst hzn
  generalize ps.length = n at *
  generalize ls.length = nl at *
  generalize B.ds.length = nd at *
  clear hWH
  have bW : ((W : Int) != 0) = true := by simp; omega
  have bW2 : ((W : Int) == 0) = false := by simp; omega
  go_enter Tryz.func8, Tryz.ntmps8
  go_upto_region 1 with (fail)
  refine name4 (fun W1 k1 k2 k3 k4 hb => ?_)
  have c1 := k1.c3
  go_wp2_with fail
  clear c1
  refine (IC.out _ (HI.out.kept hb)).mono ?_
  rintro e W2 ⟨rfl, hS⟩
  replace k1 := k1.kept hS
  replace k2 := k2.kept hS
  replace k3 := k3.kept hS
  replace k4 := k4.kept hS
  replace hb := hb.trans (hS.mono hb.size)
  clear hS IC
  have c3 := k3.c3
  go_wp2_with fail
  clear c3
  refine (MC.out _ (HM.out.kept hb)).mono ?_
  rintro e W3 ⟨rfl, hS⟩
  replace k1 := k1.kept hS
  replace k2 := k2.kept hS
  replace k3 := k3.kept hS
  replace k4 := k4.kept hS
  replace hb := hb.trans (hS.mono hb.size)
  clear hS MC
  have c2 := k2.c16
  go_wp2_with fail
  clear c2
  refine (DB.out _ (HD.out.kept hb) (HL.out.kept hb)).mono ?_
  rintro e W4 ⟨q1, rfl, h1, hS⟩
  replace k1 := k1.kept hS
  replace k2 := k2.kept hS
  replace k3 := k3.kept hS
  replace k4 := k4.kept hS
  replace hb := hb.trans (hS.mono hb.size)
  clear hS DB
  have H1 := Lib.hid h1
  obtain ⟨a1, p1, rfl⟩ := Qn.slice h1
  clear h1
  generalize ds.length = md at *
  have c1 := k1.c3
  have c2 := k2.c16
  have c3 := k3.c3
  go_wp2_with fail
  clear c1 c2 c3 H1
  refine (ST.out _ (HD.out.kept hb) (HL.out.kept hb)).mono ?_
  rintro e W5 ⟨q, rfl, hq, hS⟩
  replace k1 := k1.kept hS
  replace k2 := k2.kept hS
  replace k3 := k3.kept hS
  replace k4 := k4.kept hS
  replace hb := hb.trans (hS.mono hb.size)
  obtain ⟨aq, cq, rfl, _⟩ := hq.slice
  rw [CL.out] at hq ⊢
  have HQ0 := Lib.hid hq
  clear hS hq ST
  go_upto_region 15 with (refine wpList_store_blk rfl _ _ _ rfl W5.heap.size #[.int .i64 W, .int .i64 H, .slice aq n cq] rfl rfl (heap_alloc_new W5 _) infoMask3 rfl (by simp [Value.oneCell']) (fun W6 km hkx hbx => ?_))
  have HQ := Lib.hid (HQ0.out.kept (((Below.refl _ _).alloc (Nat.le_refl _) _).trans hbx))
  have ll4 := k4.lt
  replace k1 := hkx _ _ (by have := k1.lt; omega) (k1.alloc _)
  replace k2 := hkx _ _ (by have := k2.lt; omega) (k2.alloc _)
  replace k3 := hkx _ _ (by have := k3.lt; omega) (k3.alloc _)
  replace k4 := hkx _ _ (by have := k4.lt; omega) (k4.alloc _)
  have h1b : Below w.heap.size w W6 := hb.trans ((((Below.refl _ _).alloc (Nat.le_refl _) _).trans hbx).mono hb.size)
  clear hkx hbx HQ0 hb
  generalize W5.heap.size = xm at *
  have lm := km.lt
  have c1 := k1.c3
  go_upto_region 16 with (fail)
  clear c1
  refine name1 (fun W7 ko hb => ?_)
  replace k1 := k1.kept hb
  replace k2 := k2.kept hb
  replace k3 := k3.kept hb
  replace k4 := k4.kept hb
  replace km := km.kept hb
  obtain ⟨x, hx0⟩ : ∃ x, x = W6.heap.size := ⟨_, rfl⟩
  rw [← hx0] at ko ⊢
  have hx1 : W6.heap.size ≤ x := by omega
  have hx2 : xm < x := by omega
  clear hx0 lm
  have ox := ko.lt
  obtain ⟨base, hbase⟩ : ∃ base, base = W7.heap.size := ⟨_, rfl⟩
  have own := own_nil W7 base 26 res
  have hbs : base ≤ W7.heap.size := by omega
  rw [← hbase] at ox
  clear hbase
  go_wp2_with fail
  go_loopw [17] (fun i wr => ∃ (k : Nat) (q : Value), k ≤ n ∧ i = .int .i64 k ∧ wr.ownsRow base 26 4 q k (pcF res k) ∧ base ≤ wr.heap.size ∧ Blk wr x (.cells #[.int .i64 W, .int .i64 H, q] 24 (0, 0)) ∧ Blk wr xm (.cells #[.int .i64 W, .int .i64 H, .slice aq n cq] 33 (0, 0)) ∧ Blk wr w.heap.size (.cells #[.int .i64 W, .int .i64 H, .slice ai n ci] 24 (0, 0)) ∧ Blk wr (w.heap.size + 1) (.cells #[.int .i64 B.sz, .int .i64 B.hd, .int .i64 B.rn, .int .i64 B.fl, .int .i64 B.op, .int .i64 B.sp, .int .i64 B.an, .int .i64 B.sc, .int .i64 B.md, .int .i64 B.r, .int .i64 B.g, .int .i64 B.b, .int .i64 B.a, .int .i64 B.sd, .slice au nd capu, .bool B.er] 29 (0, 0)) ∧ Blk wr (w.heap.size + 1 + 1) (.cells #[.int .i64 W, .int .i64 H, .slice am n cm] 33 (0, 0)) ∧ Blk wr (w.heap.size + 1 + 1 + 1) (.cells #[.int .i64 0, .int .i64 0, .slice none 0 0] 24 (0, 0)) ∧ Below W6.heap.size W6 wr) (fun i _ => n - (intOf i).toNat)
  case atStart => exact ⟨0, _, Nat.zero_le _, rfl, own, hbs, ko, km, k1, k2, k3, k4, hb⟩
  case round =>
    clear own ko km k1 k2 k3 k4 hb hbs
    obtain ⟨k, q, hk, rfl, own, hbs, ko, km, k1, k2, k3, k4, hb⟩ := hrel
    have c1 := k1.c3
    by_cases hlt : k < n
    · obtain ⟨b1, off1, rfl, hbl1, hcell1⟩ := HI.out.at k hlt
      obtain ⟨bq, oq, rfl, hcq⟩ := nnAtS HQ.out k hlt
      rw [CA.out k hlt] at hcq
      obtain ⟨bz, oz, rfl, hz⟩ := nnAtS HM.out k hlt
      have HZ := Lib.hid hz
      clear hz
      have P1 := Lib.hid (fun w => PD.out (pxAt ps k) (dv (cl (cv k) * cl (zs.getD k 0)) 65535) w (mulU_bd' _ _) (HPX.out k hlt))
      have MU := Lib.hid (fun w => refMul_any (cv k) (zs.getD k 0) w)
      have PS := Lib.hid (pcF_succ res k)
      rw [OP.out k] at PS
      generalize painted B (pxAt ps k) (dv (cl (cv k) * cl (zs.getD k 0)) 65535) = o at *
      generalize pxAt ps k = p at *
      obtain ⟨q0, q1, q2, q3⟩ := o
      obtain ⟨p0, p1, p2, p3⟩ := p
      simp only at hcell1
      replace P1 : Hid (∀ w, Calls Tryz.prog 23 #[brv B (.slice au nd capu), pv p0 p1 p2 p3, .int .i64 (dv (cl (cv k) * cl (zs.getD k 0)) 65535)] w fun e w' => e = .returned (pv q0 q1 q2 q3) ∧ Below w.heap.size w w') := P1
      generalize dv (cl (cv k) * cl (zs.getD k 0)) 65535 = K at *
      generalize zs.getD k 0 = z at *
      generalize cv k = c at *
      have HC1 := Lib.hid hcell1
      have HC2 := Lib.hid hcq
      have HO := Lib.hid own
      clear hcell1 hcq own
      obtain ⟨aq0, cq0, rfl⟩ := own_slice HO.out
      have c3 := k3.c3
      have i1 : (0 : Int) ≤ (k : Int) := by omega
      have i2 : (k : Int) < (n : Int) := by omega
      have hz := HZ.out _ (h1b.trans (hb.mono h1b.size))
      go_upto_region 22 with (fail)
      clear hz
      clear c1 c3
      refine wp_region_ord [] [0, 1, 2, 3, 4, 5, 6, 7, 8, 9, 10, 11, 12, 13, 14, 15, 16] [17, 18, 19] (fun h => absurd rfl h) (by kernel_rfl) (by kernel_rfl) ?_
      simp only [picked, opsAt, List.getElem?_cons_succ, List.getElem?_cons_zero]
      apply wpFl_nil
      repeat (first | (apply wpN_on; rfl; rfl; (intro w' hS K hK; have hc0 := (ko.kept hS).c3; have hc1 := (km.kept hS).c3; have hc2 := (k1.kept hS).c3; have hc3 := (k2.kept hS).c16; have hc4 := (k3.kept hS).c3; have hc5 := (k4.kept hS).c3; have hr0 := HC1.out _ (h1b.trans ((hb.trans (hS.mono hb.size)).mono h1b.size)); have hr1 := HC2.out _ (hb.trans (hS.mono hb.size)); go_simp; (first | exact hK.out _ (Below.refl _ _) | (go_at_call 24; (with_reducible refine (MU.out _).mono ?_); rintro e w'' ⟨rfl, nn, rfl⟩; exact ⟨_, rfl, hK.out _ (belowN (Below.refl _ _) nn)⟩) | (go_at_call 23; (with_reducible refine (P1.out _).mono ?_); rintro e w'' ⟨rfl, hbb⟩; exact ⟨_, rfl, hK.out _ hbb⟩))); simp only [Act.put, List.setIfInBounds_toArray, List.set_cons_succ, List.set_cons_zero]) | (apply wpN_off; rfl; rfl; simp only [Act.put, List.setIfInBounds_toArray, List.set_cons_succ, List.set_cons_zero]))
      apply wpN_new
      rfl
      rfl
      · intro w' hS K hK; have hc0 := (ko.kept hS).c3; have hc1 := (km.kept hS).c3; have hc2 := (k1.kept hS).c3; have hc3 := (k2.kept hS).c16; have hc4 := (k3.kept hS).c3; have hc5 := (k4.kept hS).c3; have hr0 := HC1.out _ (h1b.trans ((hb.trans (hS.mono hb.size)).mono h1b.size)); have hr1 := HC2.out _ (hb.trans (hS.mono hb.size)); go_simp; exact hK.out
      intro x16 hx16 nx16
      simp only [Act.put, mkOf, List.setIfInBounds_toArray, List.set_cons_succ, List.set_cons_zero]
      apply wpN_nil
      rintro W8 hS ⟨-, kx16⟩
      replace ko := ko.kept hS
      replace km := km.kept hS
      replace k1 := k1.kept hS
      replace k2 := k2.kept hS
      replace k3 := k3.kept hS
      replace k4 := k4.kept hS
      replace hb := hb.trans (hS.mono hb.size)
      have own := ownsKept HO.out hS
      replace hbs : base ≤ W8.heap.size := Nat.le_trans hbs hS.size
      clear hS nx16
      obtain ⟨i0, hi, hz0, hz1, hz2⟩ := info_parts infoPx
      go_wp2_with (at_builtin; refine wpList_append_own _ rfl _ _ 22 rfl base 26 i0 (pv 0 0 0 0) 4 32 Tryz.underlying22 hi hz0 hz1 hz2 rfl (by decide) _ _ _ rfl own ⟨x16, 0, none⟩ 1 1 [.int .i64 q0, .int .i64 q1, .int .i64 q2, .int .i64 q3] rfl rfl ?ca1 ?ca2 ?ca3 ?ca4 ?ca5 ?_)
      case ca1 => exact World.news_of_block (cs := #[.int .i64 q0, .int .i64 q1, .int .i64 q2, .int .i64 q3]) (t := 26) (fr := (0, 0)) kx16
      case ca2 => simp [Value.oneCell']
      case ca3 => unfold maxLen; omega
      case ca4 => omega
      case ca5 => exact hbs
      intro v' w7 own' grow' _
      have hno : ∀ b, b < base → (Value.slice aq0 k cq0).ownBlock ≠ some b := fun b hb' h => by have := (own.lt _ h).1; omega
      have hW8 := hb.size
      replace ko := ko.grown grow' (hno _ (by omega))
      replace km := km.grown grow' (hno _ (by omega))
      replace k1 := k1.grown grow' (hno _ (by omega))
      replace k2 := k2.grown grow' (hno _ (by omega))
      replace k3 := k3.grown grow' (hno _ (by omega))
      replace k4 := k4.grown grow' (hno _ (by omega))
      replace hb : Below W6.heap.size W6 w7 := hb.grown grow' (by omega) (fun b hb' => by have := (own.lt _ hb').1; omega)
      have hb7 : base ≤ w7.heap.size := Nat.le_trans hbs grow'.size
      obtain ⟨av', cv', rfl⟩ := own_slice own'
      have co := ko.c3
      go_wp2_with fail
      go_roundw
      case rel =>
        refine ⟨k + 1, _, by omega, by go_num, ?_, by simpa using hb7, ko.set1 2 _ (by simp) rfl, km.other (by simp; omega) _, k1.other (by simp; omega) _, k2.other (by simp; omega) _, k3.other (by simp; omega) _, k4.other (by simp; omega) _, hb.setCell (by simp; omega) _⟩
        rw [PS.out]
        exact own'.kept (row := some x) ⟨rfl, rfl, rfl, by simp, fun j hj hne => Below.heap_setCell _ _ _ _ (fun h => hne (by rw [h]))⟩ (.inr (fun h => by have := (own'.lt _ h).1; omega))
      case measure => simp [intOf]; omega
    · obtain rfl : k = n := by omega
      obtain ⟨av, cv', rfl⟩ := own_slice own
      have co := ko.c3
      have c4 := k4.c3
      replace hb := h1b.trans (hb.mono h1b.size)
      go_wp2_with fail
      clear co c1
      have PN : Hid (∀ w', w'.ownsRow base 26 4 (.slice av k cv') k (pcF res k) → Pn w' (.slice av k cv') out) := fun w' h => pn_of_own h OL.out (by omega) (fun i hi => OA.out i hi)
      have KK : ∀ (w' : World) (j : Nat) (u : Value), w'.ownsRow base 26 4 (.slice av k cv') k (pcF res k) → (w'.setCell ⟨w.heap.size + 1 + 1 + 1, j, none⟩ u).ownsRow base 26 4 (.slice av k cv') k (pcF res k) := fun w' j u h =>
        h.kept (row := some (w.heap.size + 1 + 1 + 1)) ⟨rfl, rfl, rfl, by simp, fun j hj hne => Below.heap_setCell _ _ _ _ (fun h => hne (by rw [h]))⟩ (.inr (fun h' => by have := (h.lt _ h').1; omega))
      refine bodyPost_ret (v := .tuple #[.agg #[.int .i64 W, .int .i64 H, .slice av k cv'], .int .i64 0]) (by simp [results, Tryz.results8, go_sem, c4]) rfl ⟨_, rfl, PN.out _ (KK _ _ _ (KK _ _ _ (KK _ _ _ own))), ((hb.setCell (by simp; omega) _).setCell (by simp; omega) _).setCell (by simp; omega) _⟩

/-- What imageeditor/imageeditorref28.Paint gives. -/
theorem refPaint_any (iw ih : Int) (iv : Value) (ps : List Px) (B : Bru) (u lv : Value) (ls : List Smp) (mw mh : Int) (mv : Value) (zs : List Int) (Wm Hm E : Int) (qs : List Px) (w : World) (hI : Pn w iv ps) (hD : Dn w u B.ds) (hL : Sm w lv ls) (hM : Nn w mv zs) (ho : PaintOut iw ih ps B ls mw mh zs Wm Hm E qs) :
    Calls Tryz.prog 8 #[.agg #[.int .i64 iw, .int .i64 ih, iv], brv B u, lv, .agg #[.int .i64 mw, .int .i64 mh, mv]] w fun e w' => ∃ q, e = .returned (.tuple #[.agg #[.int .i64 Wm, .int .i64 Hm, q], .int .i64 E]) ∧ Pn w' q qs ∧ Below w.heap.size w w' := by
  rcases ho with ⟨h1, rfl, rfl, rfl, rfl⟩ | ⟨h1, h2, rfl, rfl, rfl, rfl⟩ | ⟨h1, h2, h3, rfl, rfl, rfl, rfl⟩ | ⟨h1, h2, h3, h4, rfl, rfl, rfl, rfl⟩ | ⟨h1, h2, h3, h4, rfl, rfl, rfl, rfl⟩
  · refine (refPaint_bad1 iw ih iv ps B u lv ls mw mh mv zs w hI hD hL hM h1).mono ?_
    rintro e w' ⟨rfl, hb⟩
    exact ⟨_, rfl, Pn.nil _, hb⟩
  · refine (refPaint_bad2 iw ih iv ps B u lv ls mw mh mv zs w hI hD hL hM h1 h2).mono ?_
    rintro e w' ⟨rfl, hb⟩
    exact ⟨_, rfl, Pn.nil _, hb⟩
  · refine (refPaint_bad3 iw ih iv ps B u lv ls mw mh mv zs w hI hD hL hM h1 h2 h3).mono ?_
    rintro e w' ⟨rfl, hb⟩
    exact ⟨_, rfl, Pn.nil _, hb⟩
  · refine (refPaint_bad4 iw ih iv ps B u lv ls mw mh mv zs w hI hD hL hM h1 h2 h3 h4).mono ?_
    rintro e w' ⟨rfl, hb⟩
    exact ⟨_, rfl, Pn.nil _, hb⟩
  · obtain ⟨_, a1, _, a3, _, a5⟩ := ichk_len h1
    have hwh := (ichk_px h1).1
    obtain ⟨W, rfl⟩ : ∃ n : Nat, Wm = n := ⟨Wm.toNat, by omega⟩
    obtain ⟨H, rfl⟩ : ∃ n : Nat, Hm = n := ⟨Hm.toNat, by omega⟩
    by_cases h6 : W = 0
    · subst h6
      obtain rfl : H = 0 := by omega
      obtain rfl : ps = [] := List.eq_nil_of_length_eq_zero (by simpa using a5)
      obtain rfl : mw = 0 := by omega
      refine (refPaint_zero iv B u lv ls mh mv zs w hI hD hL hM h1 h2 h3).mono ?_
      rintro e w' ⟨rfl, hb⟩
      exact ⟨_, rfl, Pn.nil _, hb⟩
    · by_cases h5 : mw = 0
      · subst h5
        exact refPaint_no W H iv ps B u lv ls mh mv zs w hI hD hL hM h1 h2 h3 (by omega)
      · obtain rfl : mw = W := by omega
        obtain rfl : mh = H := by omega
        exact refPaint_sel W H iv ps B u lv ls mv zs w hI hD hL hM h1 h2 h3 (by omega)
end Go.Proofs.YtjaidcdkkgnfoaaGreatDoor

