/- dab.Tip's other ends (printed by gentip.py). -/
import Derived.Test.YtieacbccadbdbaaGreatDoorLDab
import Derived.Test.YtieacbccadbdbaaGreatDoorLKit
namespace Go.Proofs.YtieacbccadbdbaaGreatDoor
open Go.RowKit
set_option linter.unusedVariables false
attribute [local go_sem] Oper.gAt gUponK Oper.sAt stilK

set_option maxHeartbeats 4000000 in
theorem tip_bad_b1 (B : Bru) (d : Dab) (X Y W H : Int) (u : Value) (w : World) (h : Dn w u B.ds) (h0 : bchk B ≠ 0) :
    Calls Tryz.prog 34 #[brv B u, dbv d, .agg #[.int .i64 X, .int .i64 Y, .int .i64 W, .int .i64 H]] w fun e w' => e = .returned (.tuple #[.agg #[.int .i64 0, .int .i64 0, .slice none 0 0], .int .i64 (bchk B)]) ∧ Below w.heap.size w w' := by
  have HD := Lib.hid h
  obtain ⟨a, cap, rfl, _, _⟩ := h
  have CK := Lib.hid (fun w h => dabCheck_any B (.slice a B.ds.length cap) w h)
  have b0 : (bchk B != 0) = true := by simpa using h0
  clear h0
  generalize bchk B = E at *
  generalize B.ds.length = nd at *
  go_enter Tryz.func34, Tryz.ntmps34
  go_upto_region 1 with (fail)
  refine name4 (fun W1 k1 k2 k3 k4 hb => ?_)
  have c1 := k1.c16
  go_wp2_with fail
  clear c1
  refine (CK.out _ (HD.out.kept hb)).mono ?_
  rintro e W2 ⟨rfl, hS⟩
  replace k1 := k1.kept hS
  replace k2 := k2.kept hS
  replace k3 := k3.kept hS
  replace k4 := k4.kept hS
  replace hb := hb.trans (hS.mono hb.size)
  clear hS
  have c3 := k3.c4
  have c4 := k4.c3
  go_wp2_with fail
  exact bodyPost_ret (v := .tuple #[.agg #[.int .i64 0, .int .i64 0, .slice none 0 0], .int .i64 E]) (by simp [results, Tryz.results34, go_sem, c4]) rfl ⟨rfl, ((hb.setCell (by simp; omega) _).setCell (by simp; omega) _).setCell (by simp; omega) _⟩

set_option maxHeartbeats 4000000 in
theorem tip_bad_b2 (B : Bru) (d : Dab) (X Y W H : Int) (u : Value) (w : World) (h : Dn w u B.ds) (h0 : bchk B = 0) (hd : dOk d = false) :
    Calls Tryz.prog 34 #[brv B u, dbv d, .agg #[.int .i64 X, .int .i64 Y, .int .i64 W, .int .i64 H]] w fun e w' => e = .returned (.tuple #[.agg #[.int .i64 0, .int .i64 0, .slice none 0 0], .int .i64 2]) ∧ Below w.heap.size w w' := by
  have HD := Lib.hid h
  obtain ⟨a, cap, rfl, _, _⟩ := h
  have CK := Lib.hid (fun w h => dabCheck_any B (.slice a B.ds.length cap) w h)
  rw [h0] at CK
  clear h0
  have VD := Lib.hid (fun w => dvalid_any d w)
  rw [hd] at VD
  clear hd
  generalize B.ds.length = nd at *
  go_enter Tryz.func34, Tryz.ntmps34
  go_upto_region 1 with (fail)
  refine name4 (fun W1 k1 k2 k3 k4 hb => ?_)
  have c1 := k1.c16
  go_wp2_with fail
  clear c1
  refine (CK.out _ (HD.out.kept hb)).mono ?_
  rintro e W2 ⟨rfl, hS⟩
  replace k1 := k1.kept hS
  replace k2 := k2.kept hS
  replace k3 := k3.kept hS
  replace k4 := k4.kept hS
  replace hb := hb.trans (hS.mono hb.size)
  clear hS
  have c2 := k2.c5
  go_wp2_with fail
  clear c2
  refine (VD.out _).mono ?_
  rintro e W3 ⟨rfl, hS⟩
  replace k1 := k1.kept hS
  replace k2 := k2.kept hS
  replace k3 := k3.kept hS
  replace k4 := k4.kept hS
  replace hb := hb.trans (hS.mono hb.size)
  clear hS
  have c3 := k3.c4
  have c4 := k4.c3
  go_wp2_with fail
  exact bodyPost_ret (v := .tuple #[.agg #[.int .i64 0, .int .i64 0, .slice none 0 0], .int .i64 2]) (by simp [results, Tryz.results34, go_sem, c4]) rfl ⟨rfl, ((hb.setCell (by simp; omega) _).setCell (by simp; omega) _).setCell (by simp; omega) _⟩

set_option maxHeartbeats 4000000 in
theorem tip_bad_b3 (B : Bru) (d : Dab) (X Y W H : Int) (u : Value) (w : World) (h : Dn w u B.ds) (h0 : bchk B = 0) (hd : dOk d = true) (hv : rValid X Y W H = false) :
    Calls Tryz.prog 34 #[brv B u, dbv d, .agg #[.int .i64 X, .int .i64 Y, .int .i64 W, .int .i64 H]] w fun e w' => e = .returned (.tuple #[.agg #[.int .i64 0, .int .i64 0, .slice none 0 0], .int .i64 2]) ∧ Below w.heap.size w w' := by
  have HD := Lib.hid h
  obtain ⟨a, cap, rfl, _, _⟩ := h
  have CK := Lib.hid (fun w h => dabCheck_any B (.slice a B.ds.length cap) w h)
  rw [h0] at CK
  clear h0
  have VD := Lib.hid (fun w => dvalid_any d w)
  rw [hd] at VD
  clear hd
  have RV := Lib.hid (fun w => rvalid_any X Y W H w)
  rw [hv] at RV
  clear hv
  generalize B.ds.length = nd at *
  simp only [rv] at *
  go_enter Tryz.func34, Tryz.ntmps34
  go_upto_region 1 with (fail)
  refine name4 (fun W1 k1 k2 k3 k4 hb => ?_)
  have c1 := k1.c16
  go_wp2_with fail
  clear c1
  refine (CK.out _ (HD.out.kept hb)).mono ?_
  rintro e W2 ⟨rfl, hS⟩
  replace k1 := k1.kept hS
  replace k2 := k2.kept hS
  replace k3 := k3.kept hS
  replace k4 := k4.kept hS
  replace hb := hb.trans (hS.mono hb.size)
  clear hS
  have c2 := k2.c5
  go_wp2_with fail
  clear c2
  refine (VD.out _).mono ?_
  rintro e W3 ⟨rfl, hS⟩
  replace k1 := k1.kept hS
  replace k2 := k2.kept hS
  replace k3 := k3.kept hS
  replace k4 := k4.kept hS
  replace hb := hb.trans (hS.mono hb.size)
  clear hS
  have c3 := k3.c4
  go_wp2_with fail
  clear c3
  refine (RV.out _).mono ?_
  rintro e W4 ⟨rfl, hS⟩
  replace k1 := k1.kept hS
  replace k2 := k2.kept hS
  replace k3 := k3.kept hS
  replace k4 := k4.kept hS
  replace hb := hb.trans (hS.mono hb.size)
  clear hS
  have c3 := k3.c4
  have c4 := k4.c3
  go_wp2_with fail
  exact bodyPost_ret (v := .tuple #[.agg #[.int .i64 0, .int .i64 0, .slice none 0 0], .int .i64 2]) (by simp [results, Tryz.results34, go_sem, c4]) rfl ⟨rfl, ((hb.setCell (by simp; omega) _).setCell (by simp; omega) _).setCell (by simp; omega) _⟩

set_option maxHeartbeats 4000000 in
theorem tip_bad_b4 (B : Bru) (d : Dab) (X Y W H : Int) (u : Value) (w : World) (h : Dn w u B.ds) (h0 : bchk B = 0) (hd : dOk d = true) (hv : rValid X Y W H = true) (hW : 256 < W) :
    Calls Tryz.prog 34 #[brv B u, dbv d, .agg #[.int .i64 X, .int .i64 Y, .int .i64 W, .int .i64 H]] w fun e w' => e = .returned (.tuple #[.agg #[.int .i64 0, .int .i64 0, .slice none 0 0], .int .i64 15]) ∧ Below w.heap.size w w' := by
  have HD := Lib.hid h
  obtain ⟨a, cap, rfl, _, _⟩ := h
  have CK := Lib.hid (fun w h => dabCheck_any B (.slice a B.ds.length cap) w h)
  rw [h0] at CK
  clear h0
  have VD := Lib.hid (fun w => dvalid_any d w)
  rw [hd] at VD
  clear hd
  have RV := Lib.hid (fun w => rvalid_any X Y W H w)
  rw [hv] at RV
  clear hv
  generalize B.ds.length = nd at *
  simp only [rv] at *
  go_enter Tryz.func34, Tryz.ntmps34
  go_upto_region 1 with (fail)
  refine name4 (fun W1 k1 k2 k3 k4 hb => ?_)
  have c1 := k1.c16
  go_wp2_with fail
  clear c1
  refine (CK.out _ (HD.out.kept hb)).mono ?_
  rintro e W2 ⟨rfl, hS⟩
  replace k1 := k1.kept hS
  replace k2 := k2.kept hS
  replace k3 := k3.kept hS
  replace k4 := k4.kept hS
  replace hb := hb.trans (hS.mono hb.size)
  clear hS
  have c2 := k2.c5
  go_wp2_with fail
  clear c2
  refine (VD.out _).mono ?_
  rintro e W3 ⟨rfl, hS⟩
  replace k1 := k1.kept hS
  replace k2 := k2.kept hS
  replace k3 := k3.kept hS
  replace k4 := k4.kept hS
  replace hb := hb.trans (hS.mono hb.size)
  clear hS
  have c3 := k3.c4
  go_wp2_with fail
  clear c3
  refine (RV.out _).mono ?_
  rintro e W4 ⟨rfl, hS⟩
  replace k1 := k1.kept hS
  replace k2 := k2.kept hS
  replace k3 := k3.kept hS
  replace k4 := k4.kept hS
  replace hb := hb.trans (hS.mono hb.size)
  clear hS
  have c3 := k3.c4
  have c4 := k4.c3
  go_wp2_with fail
  exact bodyPost_ret (v := .tuple #[.agg #[.int .i64 0, .int .i64 0, .slice none 0 0], .int .i64 15]) (by simp [results, Tryz.results34, go_sem, c4]) rfl ⟨rfl, ((hb.setCell (by simp; omega) _).setCell (by simp; omega) _).setCell (by simp; omega) _⟩

set_option maxHeartbeats 4000000 in
theorem tip_bad_b5 (B : Bru) (d : Dab) (X Y W H : Int) (u : Value) (w : World) (h : Dn w u B.ds) (h0 : bchk B = 0) (hd : dOk d = true) (hv : rValid X Y W H = true) (hW : ¬ 256 < W) (hH : 256 < H) :
    Calls Tryz.prog 34 #[brv B u, dbv d, .agg #[.int .i64 X, .int .i64 Y, .int .i64 W, .int .i64 H]] w fun e w' => e = .returned (.tuple #[.agg #[.int .i64 0, .int .i64 0, .slice none 0 0], .int .i64 15]) ∧ Below w.heap.size w w' := by
  have HD := Lib.hid h
  obtain ⟨a, cap, rfl, _, _⟩ := h
  have CK := Lib.hid (fun w h => dabCheck_any B (.slice a B.ds.length cap) w h)
  rw [h0] at CK
  clear h0
  have VD := Lib.hid (fun w => dvalid_any d w)
  rw [hd] at VD
  clear hd
  have RV := Lib.hid (fun w => rvalid_any X Y W H w)
  rw [hv] at RV
  clear hv
  generalize B.ds.length = nd at *
  simp only [rv] at *
  go_enter Tryz.func34, Tryz.ntmps34
  go_upto_region 1 with (fail)
  refine name4 (fun W1 k1 k2 k3 k4 hb => ?_)
  have c1 := k1.c16
  go_wp2_with fail
  clear c1
  refine (CK.out _ (HD.out.kept hb)).mono ?_
  rintro e W2 ⟨rfl, hS⟩
  replace k1 := k1.kept hS
  replace k2 := k2.kept hS
  replace k3 := k3.kept hS
  replace k4 := k4.kept hS
  replace hb := hb.trans (hS.mono hb.size)
  clear hS
  have c2 := k2.c5
  go_wp2_with fail
  clear c2
  refine (VD.out _).mono ?_
  rintro e W3 ⟨rfl, hS⟩
  replace k1 := k1.kept hS
  replace k2 := k2.kept hS
  replace k3 := k3.kept hS
  replace k4 := k4.kept hS
  replace hb := hb.trans (hS.mono hb.size)
  clear hS
  have c3 := k3.c4
  go_wp2_with fail
  clear c3
  refine (RV.out _).mono ?_
  rintro e W4 ⟨rfl, hS⟩
  replace k1 := k1.kept hS
  replace k2 := k2.kept hS
  replace k3 := k3.kept hS
  replace k4 := k4.kept hS
  replace hb := hb.trans (hS.mono hb.size)
  clear hS
  have c3 := k3.c4
  have c4 := k4.c3
  go_wp2_with fail
  exact bodyPost_ret (v := .tuple #[.agg #[.int .i64 0, .int .i64 0, .slice none 0 0], .int .i64 15]) (by simp [results, Tryz.results34, go_sem, c4]) rfl ⟨rfl, ((hb.setCell (by simp; omega) _).setCell (by simp; omega) _).setCell (by simp; omega) _⟩

set_option maxHeartbeats 4000000 in
theorem tip_bad_b6 (B : Bru) (d : Dab) (X Y W H : Int) (u : Value) (w : World) (h : Dn w u B.ds) (h0 : bchk B = 0) (hd : dOk d = true) (hv : rValid X Y W H = true) (hW : ¬ 256 < W) (hH : ¬ 256 < H) (he : (W == 0 || H == 0) = true) :
    Calls Tryz.prog 34 #[brv B u, dbv d, .agg #[.int .i64 X, .int .i64 Y, .int .i64 W, .int .i64 H]] w fun e w' => e = .returned (.tuple #[.agg #[.int .i64 0, .int .i64 0, .slice none 0 0], .int .i64 0]) ∧ Below w.heap.size w w' := by
  have HD := Lib.hid h
  obtain ⟨a, cap, rfl, _, _⟩ := h
  have CK := Lib.hid (fun w h => dabCheck_any B (.slice a B.ds.length cap) w h)
  rw [h0] at CK
  clear h0
  have VD := Lib.hid (fun w => dvalid_any d w)
  rw [hd] at VD
  clear hd
  have RV := Lib.hid (fun w => rvalid_any X Y W H w)
  have RE := Lib.hid (fun w => rempty_any X Y W H w hv)
  rw [he] at RE
  clear he
  rw [hv] at RV
  clear hv
  generalize B.ds.length = nd at *
  simp only [rv] at *
  go_enter Tryz.func34, Tryz.ntmps34
  go_upto_region 1 with (fail)
  refine name4 (fun W1 k1 k2 k3 k4 hb => ?_)
  have c1 := k1.c16
  go_wp2_with fail
  clear c1
  refine (CK.out _ (HD.out.kept hb)).mono ?_
  rintro e W2 ⟨rfl, hS⟩
  replace k1 := k1.kept hS
  replace k2 := k2.kept hS
  replace k3 := k3.kept hS
  replace k4 := k4.kept hS
  replace hb := hb.trans (hS.mono hb.size)
  clear hS
  have c2 := k2.c5
  go_wp2_with fail
  clear c2
  refine (VD.out _).mono ?_
  rintro e W3 ⟨rfl, hS⟩
  replace k1 := k1.kept hS
  replace k2 := k2.kept hS
  replace k3 := k3.kept hS
  replace k4 := k4.kept hS
  replace hb := hb.trans (hS.mono hb.size)
  clear hS
  have c3 := k3.c4
  go_wp2_with fail
  clear c3
  refine (RV.out _).mono ?_
  rintro e W4 ⟨rfl, hS⟩
  replace k1 := k1.kept hS
  replace k2 := k2.kept hS
  replace k3 := k3.kept hS
  replace k4 := k4.kept hS
  replace hb := hb.trans (hS.mono hb.size)
  clear hS
  have c3 := k3.c4
  go_wp2_with fail
  clear c3
  refine (RE.out _).mono ?_
  rintro e W5 ⟨rfl, hS⟩
  replace k1 := k1.kept hS
  replace k2 := k2.kept hS
  replace k3 := k3.kept hS
  replace k4 := k4.kept hS
  replace hb := hb.trans (hS.mono hb.size)
  clear hS
  have c3 := k3.c4
  have c4 := k4.c3
  go_wp2_with fail
  exact bodyPost_ret (v := .tuple #[.agg #[.int .i64 0, .int .i64 0, .slice none 0 0], .int .i64 0]) (by simp [results, Tryz.results34, go_sem, c4]) rfl ⟨rfl, ((hb.setCell (by simp; omega) _).setCell (by simp; omega) _).setCell (by simp; omega) _⟩

theorem tip_bad (B : Bru) (d : Dab) (X Y W H E : Int) (u : Value) (w : World) (h : Dn w u B.ds) (hbad : TipBad B d X Y W H E) :
    Calls Tryz.prog 34 #[brv B u, dbv d, .agg #[.int .i64 X, .int .i64 Y, .int .i64 W, .int .i64 H]] w fun e w' => e = .returned (.tuple #[.agg #[.int .i64 0, .int .i64 0, .slice none 0 0], .int .i64 E]) ∧ Below w.heap.size w w' := by
  rcases hbad with ⟨h0, rfl⟩ | ⟨h0, h1, rfl⟩ | ⟨h0, h1, h2, rfl⟩ | ⟨h0, h1, h2, h3, rfl⟩ | ⟨h0, h1, h2, h3, h4, rfl⟩ | ⟨h0, h1, h2, h3, h4, h5, rfl⟩
  · exact tip_bad_b1 B d X Y W H u w h h0
  · exact tip_bad_b2 B d X Y W H u w h h0 h1
  · exact tip_bad_b3 B d X Y W H u w h h0 h1 h2
  · exact tip_bad_b4 B d X Y W H u w h h0 h1 h2 h3
  · exact tip_bad_b5 B d X Y W H u w h h0 h1 h2 h3 h4
  · exact tip_bad_b6 B d X Y W H u w h h0 h1 h2 h3 h4 h5
end Go.Proofs.YtieacbccadbdbaaGreatDoor

