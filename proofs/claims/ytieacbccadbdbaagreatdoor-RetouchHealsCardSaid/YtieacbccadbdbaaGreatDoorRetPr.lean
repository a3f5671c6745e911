/- imageeditor/retouch.prepare (printed by genprep.py). -/
import Derived.Test.YtieacbccadbdbaaGreatDoorLRetB
import Derived.Test.YtieacbccadbdbaaGreatDoorBrDabs
import Derived.Test.YtieacbccadbdbaaGreatDoorLMask
import Derived.Deep.Cut
namespace Go.Proofs.YtieacbccadbdbaaGreatDoor
open Go.RowKit
set_option linter.unusedVariables false
attribute [local go_sem] Oper.gAt gUponK Oper.sAt stilK

set_option maxHeartbeats 8000000 in
set_option maxRecDepth 100000 in
/-- What imageeditor/retouch.prepare gives. -/
theorem prep_any (iw ih : Int) (iv : Value) (ps : List Px) (B : Bru) (u lv : Value) (ls : List Smp) (mw mh : Int) (mv : Value) (zs : List Int) (w : World) (hI : Pn w iv ps) (hD : Dn w u B.ds) (hL : Sm w lv ls) (hM : Nn w mv zs) :
    Calls Tryz.prog 14 #[.agg #[.int .i64 iw, .int .i64 ih, iv], brv B u, lv, .agg #[.int .i64 mw, .int .i64 mh, mv]] w fun e w' => ∃ q, e = .returned (.tuple #[q, .int .i64 (prepE iw ih ps B ls mw mh zs)]) ∧ (prepE iw ih ps B ls mw mh zs = 0 → Bm w' q (dabs B ls).1) ∧ (∃ a n c, q = .slice a n c) ∧ Below w.heap.size w w' := by
  have HI := Lib.hid hI
  have HD := Lib.hid hD
  have HL := Lib.hid hL
  have HM := Lib.hid hM
  obtain ⟨ai, ci, rfl⟩ := hI.slice
  obtain ⟨a, cap, rfl⟩ := Qn.slice hL
  obtain ⟨au, capu, rfl, _, _⟩ := hD
  obtain ⟨am, cm, rfl, _⟩ := hM.slice
  have IC := Lib.hid (fun w h => rasterCheck_any iw ih (.slice ai ps.length ci) ps w h)
  have MC := Lib.hid (fun w h => maskCheck_any mw mh (.slice am zs.length cm) zs w h)
  have DB := Lib.hid (fun w h h' => dabs_any B (.slice au B.ds.length capu) (.slice a ls.length cap) ls w h h')
  have FT := Lib.hid (fun w => fits_any mw mh iw ih (.slice am zs.length cm) (.slice ai ps.length ci) w)
  have PE : Hid (prepE iw ih ps B ls mw mh zs = if ichk iw ih ps = 0 then if mchk mw mh zs = 0 then if (dabs B ls).2 = 0 then if mw ≠ 0 ∧ (mw ≠ iw ∨ mh ≠ ih) then 15 else 0 else (dabs B ls).2 else mchk mw mh zs else ichk iw ih ps) := rfl
  clear hI hL hM
  generalize prepE iw ih ps B ls mw mh zs = P at *
  generalize ichk iw ih ps = E1 at *
  generalize mchk mw mh zs = E2 at *
  generalize (dabs B ls).2 = E3 at *
  generalize (dabs B ls).1 = ds at *
  generalize ps.length = ni at *
  generalize zs.length = nz at *
  generalize ls.length = nl at *
  generalize B.ds.length = nd at *
  go_enter Tryz.func14, Tryz.ntmps14
  go_upto_region 1 with (fail)
  refine name3 (fun W1 k1 k2 k3 hb => ?_)
  have c1 := k1.c3
  go_wp2_with fail
  clear c1
  refine (IC.out _ (HI.out.kept hb)).mono ?_
  rintro e W2 ⟨rfl, hS⟩
  replace k1 := k1.kept hS
  replace k2 := k2.kept hS
  replace k3 := k3.kept hS
  replace hb := hb.trans (hS.mono hb.size)
  clear hS IC
  by_cases h1 : E1 = 0
  · subst h1
    replace PE := Lib.hid (PE.out.trans (if_pos rfl))
    have c3 := k3.c3
    go_wp2_with fail
    clear c3
    refine (MC.out _ (HM.out.kept hb)).mono ?_
    rintro e W3 ⟨rfl, hS⟩
    replace k1 := k1.kept hS
    replace k2 := k2.kept hS
    replace k3 := k3.kept hS
    replace hb := hb.trans (hS.mono hb.size)
    clear hS MC
    by_cases h2 : E2 = 0
    · subst h2
      replace PE := Lib.hid (PE.out.trans (if_pos rfl))
      have c2 := k2.c16
      go_wp2_with fail
      clear c2
      refine (DB.out _ (HD.out.kept hb) (HL.out.kept hb)).mono ?_
      rintro e W4 ⟨q1, rfl, h1, hS⟩
      replace k1 := k1.kept hS
      replace k3 := k3.kept hS
      replace hb := hb.trans (hS.mono hb.size)
      clear hS DB k2
      have H1 := Lib.hid h1
      obtain ⟨a1, p1, rfl⟩ := Qn.slice h1
      clear h1
      generalize hmd : ds.length = md at *
      clear hmd
      by_cases h3 : E3 = 0
      · subst h3
        replace PE := Lib.hid (PE.out.trans (if_pos rfl))
        have c1 := k1.c3
        have c3 := k3.c3
        by_cases h4 : mw ≠ 0 ∧ (mw ≠ iw ∨ mh ≠ ih)
        · obtain rfl : P = 15 := PE.out.trans (if_pos h4)
          rw [show fitB mw mh iw ih = false from decide_eq_false (by omega)] at FT
          go_wp2_with fail
          refine (FT.out _).mono ?_
          rintro e W5 ⟨rfl, hS⟩
          replace hb := hb.trans (hS.mono hb.size)
          clear hS
          go_wp2_with fail
          go_ret2
          exact ⟨_, rfl, fun h => absurd h (by decide), ⟨_, _, _, rfl⟩, hb⟩
        · obtain rfl : P = 0 := PE.out.trans (if_neg h4)
          rw [show fitB mw mh iw ih = true from decide_eq_true (by omega)] at FT
          go_wp2_with fail
          refine (FT.out _).mono ?_
          rintro e W5 ⟨rfl, hS⟩
          have H2 := Lib.hid (H1.out.kept hS)
          replace hb := hb.trans (hS.mono hb.size)
          clear hS
          go_wp2_with fail
          go_ret2
          exact ⟨_, rfl, H2.out, ⟨_, _, _, rfl⟩, hb⟩
      · obtain rfl : P = E3 := PE.out.trans (if_neg h3)
        have be : (P != 0) = true := by simpa using h3
        go_wp2_with fail
        go_ret2
        exact ⟨_, rfl, fun h => absurd h h3, ⟨_, _, _, rfl⟩, hb⟩
    · obtain rfl : P = E2 := PE.out.trans (if_neg h2)
      have be : (P != 0) = true := by simpa using h2
      go_wp2_with fail
      go_ret2
      exact ⟨_, rfl, fun h => absurd h h2, ⟨_, _, _, rfl⟩, hb⟩
  · obtain rfl : P = E1 := PE.out.trans (if_neg h1)
    have be : (P != 0) = true := by simpa using h1
    go_wp2_with fail
    go_ret2
    exact ⟨_, rfl, fun h => absurd h h1, ⟨_, _, _, rfl⟩, hb⟩
end Go.Proofs.YtieacbccadbdbaaGreatDoor

