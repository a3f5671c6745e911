/- Draw, by the program and by the reference, where it draws nothing (printed by gendrawr.py). -/
import Derived.Test.YtmejdhgknebbbaaGDraw
import Derived.Test.YtmejdhgknebbbaaGRectR
namespace Go.Proofs.Ytmejdhgknebbbaa
open Go.RowKit
set_option linter.unusedVariables false
attribute [local go_sem] Oper.gAt gUponK

def gImg0 : Value := .agg #[.int .i64 0, .int .i64 0, .slice none 0 0]
/-- Nothing is drawn; the error. -/
def drBad (kind : Int) (zs : List Int) (spread : Int) (ss : List St) (X Y W H : Int) : Option Int :=
  if gChk kind zs spread ss ≠ 0 then some (gChk kind zs spread ss) else if rValid X Y W H = false then some 2 else if 256 < W ∨ 256 < H then some 15 else if W = 0 ∨ H = 0 then some 0 else none

set_option maxHeartbeats 4000000 in
theorem draw_bad (kind spread X Y W H E : Int) (v u : Value) (zs : List Int) (ss : List St) (w : World) (h : Nn w v zs) (hs : Sn w u ss) (hE : drBad kind zs spread ss X Y W H = some E) :
    Calls Try.prog 18 #[.int .i64 kind, v, .int .i64 spread, u, rv X Y W H] w fun e w' => e = .returned (.tuple #[gImg0, .int .i64 E]) ∧ Below w.heap.size w w' := by
  have CK := Lib.hid (fun w h hs => Check_any kind spread v u zs ss w h hs)
  have RV := Lib.hid (fun w => rvalid_any X Y W H w)
  have RE := Lib.hid (fun w hv => rempty_any X Y W H w hv)
  have HN := Lib.hid h
  have HS := Lib.hid hs
  obtain ⟨a, cap, rfl, hlen⟩ := h.slice
  obtain ⟨a', cap', rfl, hlen'⟩ := hs.slice
  clear h hs
  unfold drBad at hE
  generalize gChk kind zs spread ss = C at *
  generalize zs.length = n1 at *
  generalize ss.length = n2 at *
  by_cases h0 : C = 0
  · subst h0
    rw [if_neg (by simp)] at hE
    by_cases h1 : rValid X Y W H = false
    · rw [if_pos h1] at hE
      obtain rfl : 2 = E := by simpa using hE
      rw [h1] at RV
      simp only [rv] at *
      go_enter Try.func18, Try.ntmps18
      go_upto_region 1 with (fail)
      refine name2 (fun W1 k9 k10 hb => ?_)
      go_wp2_with fail
      refine (CK.out _ (HN.out.kept hb) (HS.out.kept hb)).mono ?_
      rintro e W2 ⟨rfl, hS⟩
      replace k9 := k9.kept hS
      replace k10 := k10.kept hS
      replace hb := hb.trans (hS.mono hb.size)
      clear hS
      have c9 := k9.c4
      go_wp2_with fail
      clear c9
      refine (RV.out _).mono ?_
      rintro e W3 ⟨rfl, hS⟩
      replace k9 := k9.kept hS
      replace k10 := k10.kept hS
      replace hb := hb.trans (hS.mono hb.size)
      clear hS
      have c10 := k10.c3
      go_wp2_with fail
      refine bodyPost_ret (v := .tuple #[gImg0, .int .i64 2]) (by simp [gImg0, results, Try.results18, go_sem, c10]) rfl ⟨rfl, ((hb.setCell (by simp) _).setCell (by simp) _).setCell (by simp) _⟩
    · rw [if_neg h1] at hE
      replace h1 : rValid X Y W H = true := by simpa using h1
      replace RE := Lib.hid (fun w => RE.out w h1)
      rw [h1] at RV
      by_cases h2 : 256 < W ∨ 256 < H
      · rw [if_pos h2] at hE
        obtain rfl : 15 = E := by simpa using hE
        simp only [rv] at *
        by_cases h3 : 256 < W
        · clear h2
          go_enter Try.func18, Try.ntmps18
          go_upto_region 1 with (fail)
          refine name2 (fun W1 k9 k10 hb => ?_)
          go_wp2_with fail
          refine (CK.out _ (HN.out.kept hb) (HS.out.kept hb)).mono ?_
          rintro e W2 ⟨rfl, hS⟩
          replace k9 := k9.kept hS
          replace k10 := k10.kept hS
          replace hb := hb.trans (hS.mono hb.size)
          clear hS
          have c9 := k9.c4
          go_wp2_with fail
          clear c9
          refine (RV.out _).mono ?_
          rintro e W3 ⟨rfl, hS⟩
          replace k9 := k9.kept hS
          replace k10 := k10.kept hS
          replace hb := hb.trans (hS.mono hb.size)
          clear hS
          have c9 := k9.c4
          have c10 := k10.c3
          go_wp2_with fail
          refine bodyPost_ret (v := .tuple #[gImg0, .int .i64 15]) (by simp [gImg0, results, Try.results18, go_sem, c10]) rfl ⟨rfl, ((hb.setCell (by simp) _).setCell (by simp) _).setCell (by simp) _⟩
        · have h4 : 256 < H := by omega
          clear h2
          go_enter Try.func18, Try.ntmps18
          go_upto_region 1 with (fail)
          refine name2 (fun W1 k9 k10 hb => ?_)
          go_wp2_with fail
          refine (CK.out _ (HN.out.kept hb) (HS.out.kept hb)).mono ?_
          rintro e W2 ⟨rfl, hS⟩
          replace k9 := k9.kept hS
          replace k10 := k10.kept hS
          replace hb := hb.trans (hS.mono hb.size)
          clear hS
          have c9 := k9.c4
          go_wp2_with fail
          clear c9
          refine (RV.out _).mono ?_
          rintro e W3 ⟨rfl, hS⟩
          replace k9 := k9.kept hS
          replace k10 := k10.kept hS
          replace hb := hb.trans (hS.mono hb.size)
          clear hS
          have c9 := k9.c4
          have c10 := k10.c3
          go_wp2_with fail
          refine bodyPost_ret (v := .tuple #[gImg0, .int .i64 15]) (by simp [gImg0, results, Try.results18, go_sem, c10]) rfl ⟨rfl, ((hb.setCell (by simp) _).setCell (by simp) _).setCell (by simp) _⟩
      · rw [if_neg h2] at hE
        by_cases h3 : W = 0 ∨ H = 0
        · rw [if_pos h3] at hE
          obtain rfl : 0 = E := by simpa using hE
          have bz : (W == 0 || H == 0) = true := by simpa using h3
          rw [bz] at RE
          have h4 : ¬ 256 < W := by omega
          have h5 : ¬ 256 < H := by omega
          clear h2 h3 bz
          simp only [rv] at *
          go_enter Try.func18, Try.ntmps18
          go_upto_region 1 with (fail)
          refine name2 (fun W1 k9 k10 hb => ?_)
          go_wp2_with fail
          refine (CK.out _ (HN.out.kept hb) (HS.out.kept hb)).mono ?_
          rintro e W2 ⟨rfl, hS⟩
          replace k9 := k9.kept hS
          replace k10 := k10.kept hS
          replace hb := hb.trans (hS.mono hb.size)
          clear hS
          have c9 := k9.c4
          go_wp2_with fail
          clear c9
          refine (RV.out _).mono ?_
          rintro e W3 ⟨rfl, hS⟩
          replace k9 := k9.kept hS
          replace k10 := k10.kept hS
          replace hb := hb.trans (hS.mono hb.size)
          clear hS
          have c9 := k9.c4
          go_wp2_with fail
          clear c9
          refine (RE.out _).mono ?_
          rintro e W4 ⟨rfl, hS⟩
          replace k10 := k10.kept hS
          replace hb := hb.trans (hS.mono hb.size)
          clear hS
          have c10 := k10.c3
          go_wp2_with fail
          refine bodyPost_ret (v := .tuple #[gImg0, .int .i64 0]) (by simp [gImg0, results, Try.results18, go_sem, c10]) rfl ⟨rfl, ((hb.setCell (by simp) _).setCell (by simp) _).setCell (by simp) _⟩
        · rw [if_neg h3] at hE
          cases hE
  · rw [if_pos h0] at hE
    obtain rfl : C = E := by simpa using hE
    have b0 : (C != 0) = true := by simpa using h0
    simp only [rv] at *
    go_enter Try.func18, Try.ntmps18
    go_upto_region 1 with (fail)
    refine name2 (fun W1 k9 k10 hb => ?_)
    go_wp2_with fail
    refine (CK.out _ (HN.out.kept hb) (HS.out.kept hb)).mono ?_
    rintro e W2 ⟨rfl, hS⟩
    replace k9 := k9.kept hS
    replace k10 := k10.kept hS
    replace hb := hb.trans (hS.mono hb.size)
    clear hS
    have c10 := k10.c3
    go_wp2_with fail
    refine bodyPost_ret (v := .tuple #[gImg0, .int .i64 C]) (by simp [gImg0, results, Try.results18, go_sem, c10]) rfl ⟨rfl, ((hb.setCell (by simp) _).setCell (by simp) _).setCell (by simp) _⟩

set_option maxHeartbeats 4000000 in
theorem refDraw_bad (kind spread X Y W H E : Int) (v u : Value) (zs : List Int) (ss : List St) (w : World) (h : Nn w v zs) (hs : Sn w u ss) (hE : drBad kind zs spread ss X Y W H = some E) :
    Calls Try.prog 19 #[.int .i64 kind, v, .int .i64 spread, u, rv X Y W H] w fun e w' => e = .returned (.tuple #[gImg0, .int .i64 E]) ∧ Below w.heap.size w w' := by
  have CK := Lib.hid (fun w h hs => refCheck_any kind spread v u zs ss w h hs)
  have RV := Lib.hid (fun w => refRValid_any X Y W H w)
  have RE := Lib.hid (fun w hv => refREmpty_any X Y W H w hv)
  have HN := Lib.hid h
  have HS := Lib.hid hs
  obtain ⟨a, cap, rfl, hlen⟩ := h.slice
  obtain ⟨a', cap', rfl, hlen'⟩ := hs.slice
  clear h hs
  unfold drBad at hE
  generalize gChk kind zs spread ss = C at *
  generalize zs.length = n1 at *
  generalize ss.length = n2 at *
  by_cases h0 : C = 0
  · subst h0
    rw [if_neg (by simp)] at hE
    by_cases h1 : rValid X Y W H = false
    · rw [if_pos h1] at hE
      obtain rfl : 2 = E := by simpa using hE
      rw [h1] at RV
      simp only [rv] at *
      go_enter Try.func19, Try.ntmps19
      go_upto_region 1 with (fail)
      refine name2 (fun W1 k9 k10 hb => ?_)
      go_wp2_with fail
      refine (CK.out _ (HN.out.kept hb) (HS.out.kept hb)).mono ?_
      rintro e W2 ⟨rfl, hS⟩
      replace k9 := k9.kept hS
      replace k10 := k10.kept hS
      replace hb := hb.trans (hS.mono hb.size)
      clear hS
      have c9 := k9.c4
      go_wp2_with fail
      clear c9
      refine (RV.out _).mono ?_
      rintro e W3 ⟨rfl, hS⟩
      replace k9 := k9.kept hS
      replace k10 := k10.kept hS
      replace hb := hb.trans (hS.mono hb.size)
      clear hS
      have c10 := k10.c3
      go_wp2_with fail
      refine bodyPost_ret (v := .tuple #[gImg0, .int .i64 2]) (by simp [gImg0, results, Try.results19, go_sem, c10]) rfl ⟨rfl, ((hb.setCell (by simp) _).setCell (by simp) _).setCell (by simp) _⟩
    · rw [if_neg h1] at hE
      replace h1 : rValid X Y W H = true := by simpa using h1
      replace RE := Lib.hid (fun w => RE.out w h1)
      rw [h1] at RV
      by_cases h2 : 256 < W ∨ 256 < H
      · rw [if_pos h2] at hE
        obtain rfl : 15 = E := by simpa using hE
        simp only [rv] at *
        by_cases h3 : 256 < W
        · clear h2
          go_enter Try.func19, Try.ntmps19
          go_upto_region 1 with (fail)
          refine name2 (fun W1 k9 k10 hb => ?_)
          go_wp2_with fail
          refine (CK.out _ (HN.out.kept hb) (HS.out.kept hb)).mono ?_
          rintro e W2 ⟨rfl, hS⟩
          replace k9 := k9.kept hS
          replace k10 := k10.kept hS
          replace hb := hb.trans (hS.mono hb.size)
          clear hS
          have c9 := k9.c4
          go_wp2_with fail
          clear c9
          refine (RV.out _).mono ?_
          rintro e W3 ⟨rfl, hS⟩
          replace k9 := k9.kept hS
          replace k10 := k10.kept hS
          replace hb := hb.trans (hS.mono hb.size)
          clear hS
          have c9 := k9.c4
          have c10 := k10.c3
          go_wp2_with fail
          refine bodyPost_ret (v := .tuple #[gImg0, .int .i64 15]) (by simp [gImg0, results, Try.results19, go_sem, c10]) rfl ⟨rfl, ((hb.setCell (by simp) _).setCell (by simp) _).setCell (by simp) _⟩
        · have h4 : 256 < H := by omega
          clear h2
          go_enter Try.func19, Try.ntmps19
          go_upto_region 1 with (fail)
          refine name2 (fun W1 k9 k10 hb => ?_)
          go_wp2_with fail
          refine (CK.out _ (HN.out.kept hb) (HS.out.kept hb)).mono ?_
          rintro e W2 ⟨rfl, hS⟩
          replace k9 := k9.kept hS
          replace k10 := k10.kept hS
          replace hb := hb.trans (hS.mono hb.size)
          clear hS
          have c9 := k9.c4
          go_wp2_with fail
          clear c9
          refine (RV.out _).mono ?_
          rintro e W3 ⟨rfl, hS⟩
          replace k9 := k9.kept hS
          replace k10 := k10.kept hS
          replace hb := hb.trans (hS.mono hb.size)
          clear hS
          have c9 := k9.c4
          have c10 := k10.c3
          go_wp2_with fail
          refine bodyPost_ret (v := .tuple #[gImg0, .int .i64 15]) (by simp [gImg0, results, Try.results19, go_sem, c10]) rfl ⟨rfl, ((hb.setCell (by simp) _).setCell (by simp) _).setCell (by simp) _⟩
      · rw [if_neg h2] at hE
        by_cases h3 : W = 0 ∨ H = 0
        · rw [if_pos h3] at hE
          obtain rfl : 0 = E := by simpa using hE
          have bz : (W == 0 || H == 0) = true := by simpa using h3
          rw [bz] at RE
          have h4 : ¬ 256 < W := by omega
          have h5 : ¬ 256 < H := by omega
          clear h2 h3 bz
          simp only [rv] at *
          go_enter Try.func19, Try.ntmps19
          go_upto_region 1 with (fail)
          refine name2 (fun W1 k9 k10 hb => ?_)
          go_wp2_with fail
          refine (CK.out _ (HN.out.kept hb) (HS.out.kept hb)).mono ?_
          rintro e W2 ⟨rfl, hS⟩
          replace k9 := k9.kept hS
          replace k10 := k10.kept hS
          replace hb := hb.trans (hS.mono hb.size)
          clear hS
          have c9 := k9.c4
          go_wp2_with fail
          clear c9
          refine (RV.out _).mono ?_
          rintro e W3 ⟨rfl, hS⟩
          replace k9 := k9.kept hS
          replace k10 := k10.kept hS
          replace hb := hb.trans (hS.mono hb.size)
          clear hS
          have c9 := k9.c4
          go_wp2_with fail
          clear c9
          refine (RE.out _).mono ?_
          rintro e W4 ⟨rfl, hS⟩
          replace k10 := k10.kept hS
          replace hb := hb.trans (hS.mono hb.size)
          clear hS
          have c10 := k10.c3
          go_wp2_with fail
          refine bodyPost_ret (v := .tuple #[gImg0, .int .i64 0]) (by simp [gImg0, results, Try.results19, go_sem, c10]) rfl ⟨rfl, ((hb.setCell (by simp) _).setCell (by simp) _).setCell (by simp) _⟩
        · rw [if_neg h3] at hE
          cases hE
  · rw [if_pos h0] at hE
    obtain rfl : C = E := by simpa using hE
    have b0 : (C != 0) = true := by simpa using h0
    simp only [rv] at *
    go_enter Try.func19, Try.ntmps19
    go_upto_region 1 with (fail)
    refine name2 (fun W1 k9 k10 hb => ?_)
    go_wp2_with fail
    refine (CK.out _ (HN.out.kept hb) (HS.out.kept hb)).mono ?_
    rintro e W2 ⟨rfl, hS⟩
    replace k9 := k9.kept hS
    replace k10 := k10.kept hS
    replace hb := hb.trans (hS.mono hb.size)
    clear hS
    have c10 := k10.c3
    go_wp2_with fail
    refine bodyPost_ret (v := .tuple #[gImg0, .int .i64 C]) (by simp [gImg0, results, Try.results19, go_sem, c10]) rfl ⟨rfl, ((hb.setCell (by simp) _).setCell (by simp) _).setCell (by simp) _⟩

end Go.Proofs.Ytmejdhgknebbbaa
