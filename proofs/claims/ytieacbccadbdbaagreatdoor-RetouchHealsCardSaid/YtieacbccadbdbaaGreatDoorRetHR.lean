/- imageeditorref29.Heal (printed by genhealr.py). -/
import Derived.Test.YtieacbccadbdbaaGreatDoorRetHR2
import Derived.Test.YtieacbccadbdbaaGreatDoorRetAk
import Derived.Test.YtieacbccadbdbaaGreatDoorLMask
import Derived.Test.YtieacbccadbdbaaGreatDoorLMask
import Derived.Test.YtieacbccadbdbaaGreatDoorLRow
import Derived.Test.YtieacbccadbdbaaGreatDoorLKit
import Derived.Lib.MinMax
import Derived.Deep.DeepCutAuto
import Derived.Deep.Cut
namespace Go.Proofs.YtieacbccadbdbaaGreatDoor
open Go.RowKit
set_option linter.unusedVariables false
attribute [local go_sem] Oper.gAt gUponK Oper.sAt stilK

/-- The regions of a body, from a numbered one on. -/
def headN (n : Nat) : Code → Bool
  | .region m _ _ => m == n
  | .seq a _ => headN n a
  | _ => false
def tailN (n : Nat) : Code → Option Code
  | .seq a b => if headN n a then some (.seq a b) else tailN n b
  | .block _ c => tailN n c
  | .scope c => tailN n c
  | _ => none
theorem cell_other {w : World} {b o xm j : Nat} {u v : Value} (h : w.cell? ⟨b, o, none⟩ = some v) (hne : b ≠ xm) : (w.setCell ⟨xm, j, none⟩ u).cell? ⟨b, o, none⟩ = some v := by
  unfold World.cell? at *
  rw [show (w.setCell ⟨xm, j, none⟩ u).heap[b]? = w.heap[b]? from Below.heap_setCell _ _ _ _ hne]
  exact h
theorem cell_keep {w w' : World} {b o : Nat} {v : Value} (h : w.cell? ⟨b, o, none⟩ = some v) (hb : Below w.heap.size w w') : w'.cell? ⟨b, o, none⟩ = some v := by
  rw [hb.cell (p := ⟨b, o, none⟩) (lt_of_cell h)]
  exact h
/-- Four slices in one block. -/
def q4 (q : Nat → Value) : Array Value := #[q 0, q 1, q 2, q 3]
theorem q4_c {w : World} {b : Nat} {q : Nat → Value} {t : TypeId} (k : Blk w b (.cells #[q 0, q 1, q 2, q 3] t (0, 0))) (j : Nat) (hj : j < 4) :
    w.cell? ⟨b, j, none⟩ = some (q j) ∧ ∀ o, w.frozen? ⟨b, o, none⟩ = false := by
  refine ⟨?_, fun _ => free_blk k⟩
  have h : j = 0 ∨ j = 1 ∨ j = 2 ∨ j = 3 := by omega
  rcases h with rfl | rfl | rfl | rfl <;> exact cell_blk k rfl
theorem q4_set {w : World} {b : Nat} {q : Nat → Value} {t : TypeId} (k : Blk w b (.cells #[q 0, q 1, q 2, q 3] t (0, 0))) (j : Nat) (hj : j < 4) (u : Value) :
    Blk (w.setCell ⟨b, j, none⟩ u) b (.cells #[(fun c => if c = j then u else q c) 0, (fun c => if c = j then u else q c) 1, (fun c => if c = j then u else q c) 2, (fun c => if c = j then u else q c) 3] t (0, 0)) := by
  have h : j = 0 ∨ j = 1 ∨ j = 2 ∨ j = 3 := by omega
  rcases h with rfl | rfl | rfl | rfl <;> exact k.set1 _ u (by simp) rfl
theorem atP_alpha (W H : Nat) (ps : List Px) (x y : Int) (hl : ps.length = W * H) (hp : ∀ k, k < ps.length → pOk (pxAt ps k) = true) : cl (atP W H ps x y).2.2.2 = (atP W H ps x y).2.2.2 := by
  by_cases h : 0 ≤ x ∧ x < (W : Int) ∧ 0 ≤ y ∧ y < (H : Int)
  · obtain ⟨h1, h2, h3, h4⟩ := h
    rw [atP_in h1 h2 h3 h4]
    obtain ⟨j1, j2⟩ := atP_idx h1 h2 h3 h4
    have e : (H : Int) * (W : Int) = (ps.length : Int) := by rw [hl, Int.natCast_mul, Int.mul_comm]
    have := hp (y * (W : Int) + x).toNat (by omega)
    unfold pOk at this
    exact (of_decide_eq_true this).2.2.2.symm
  · rw [atP_out h]
    decide +kernel

set_option maxHeartbeats 8000000 in
set_option maxRecDepth 100000 in
theorem refHeal_bad1 (iw ih : Int) (iv : Value) (ps : List Px) (rx ry rw rh ox oy mw mh : Int) (mv : Value) (zs : List Int) (w : World) (hI : Pn w iv ps) (hM : Nn w mv zs) (h1 : ichk iw ih ps ≠ 0) :
    Calls Tryz.prog 13 #[.agg #[.int .i64 iw, .int .i64 ih, iv], .agg #[.int .i64 rx, .int .i64 ry, .int .i64 rw, .int .i64 rh], .agg #[.int .i64 ox, .int .i64 oy], .agg #[.int .i64 mw, .int .i64 mh, mv]] w fun e w' => e = .returned (.tuple #[.agg #[.int .i64 0, .int .i64 0, .slice none 0 0], .int .i64 (ichk iw ih ps)]) ∧ Below w.heap.size w w' := by
  have HI := Lib.hid hI
  have HM := Lib.hid hM
  obtain ⟨ai, ci, rfl⟩ := hI.slice
  obtain ⟨am, cm, rfl, _⟩ := hM.slice
  have IC := Lib.hid (fun w h => refRasterCheck_any iw ih (.slice ai ps.length ci) ps w h)
  have MC := Lib.hid (fun w h => refMaskCheck_any mw mh (.slice am zs.length cm) zs w h)
  have RV : Hid (∀ w, Calls Tryz.prog 51 #[.agg #[.int .i64 rx, .int .i64 ry, .int .i64 rw, .int .i64 rh]] w fun e w' => e = .returned (.bool (rValid rx ry rw rh)) ∧ Below w.heap.size w w') := fun w => refRValid_any rx ry rw rh w
  have RE := Lib.hid (fun w => refRemp_any rx ry rw rh w)
  have be : (ichk iw ih ps != 0) = true := by simpa using h1
  clear hI hM h1
  generalize ichk iw ih ps = E at *
  generalize ps.length = ni at *
  generalize zs.length = nz at *
  go_enter Tryz.func13, Tryz.ntmps13
  go_upto_region 1 with (fail)
  refine name5 (fun W1 k1 k2 k3 k4 k5 hb => ?_)
  have c1 := k1.c3
  go_wp2_with fail
  clear c1
  refine (IC.out _ (HI.out.kept hb)).mono ?_
  rintro e W2 ⟨rfl, hS⟩
  replace k1 := k1.kept hS
  replace k2 := k2.kept hS
  replace k3 := k3.kept hS
  replace k4 := k4.kept hS
  replace k5 := k5.kept hS
  replace hb := hb.trans (hS.mono hb.size)
  clear hS
  have c5 := k5.c3
  go_wp2_with fail
  exact bodyPost_ret (v := .tuple #[.agg #[.int .i64 0, .int .i64 0, .slice none 0 0], .int .i64 E]) (by simp [results, Tryz.results13, go_sem, c5]) rfl ⟨rfl, ((hb.setCell (by simp; omega) _).setCell (by simp; omega) _).setCell (by simp; omega) _⟩

set_option maxHeartbeats 8000000 in
set_option maxRecDepth 100000 in
theorem refHeal_bad2 (iw ih : Int) (iv : Value) (ps : List Px) (rx ry rw rh ox oy mw mh : Int) (mv : Value) (zs : List Int) (w : World) (hI : Pn w iv ps) (hM : Nn w mv zs) (h1 : ichk iw ih ps = 0) (h2 : mchk mw mh zs ≠ 0) :
    Calls Tryz.prog 13 #[.agg #[.int .i64 iw, .int .i64 ih, iv], .agg #[.int .i64 rx, .int .i64 ry, .int .i64 rw, .int .i64 rh], .agg #[.int .i64 ox, .int .i64 oy], .agg #[.int .i64 mw, .int .i64 mh, mv]] w fun e w' => e = .returned (.tuple #[.agg #[.int .i64 0, .int .i64 0, .slice none 0 0], .int .i64 (mchk mw mh zs)]) ∧ Below w.heap.size w w' := by
  have HI := Lib.hid hI
  have HM := Lib.hid hM
  obtain ⟨ai, ci, rfl⟩ := hI.slice
  obtain ⟨am, cm, rfl, _⟩ := hM.slice
  have IC := Lib.hid (fun w h => refRasterCheck_any iw ih (.slice ai ps.length ci) ps w h)
  have MC := Lib.hid (fun w h => refMaskCheck_any mw mh (.slice am zs.length cm) zs w h)
  have RV : Hid (∀ w, Calls Tryz.prog 51 #[.agg #[.int .i64 rx, .int .i64 ry, .int .i64 rw, .int .i64 rh]] w fun e w' => e = .returned (.bool (rValid rx ry rw rh)) ∧ Below w.heap.size w w') := fun w => refRValid_any rx ry rw rh w
  have RE := Lib.hid (fun w => refRemp_any rx ry rw rh w)
  rw [h1] at IC
  have be : (mchk mw mh zs != 0) = true := by simpa using h2
  clear hI hM h1 h2
  generalize mchk mw mh zs = E at *
  generalize ps.length = ni at *
  generalize zs.length = nz at *
  go_enter Tryz.func13, Tryz.ntmps13
  go_upto_region 1 with (fail)
  refine name5 (fun W1 k1 k2 k3 k4 k5 hb => ?_)
  have c1 := k1.c3
  go_wp2_with fail
  clear c1
  refine (IC.out _ (HI.out.kept hb)).mono ?_
  rintro e W2 ⟨rfl, hS⟩
  replace k1 := k1.kept hS
  replace k2 := k2.kept hS
  replace k3 := k3.kept hS
  replace k4 := k4.kept hS
  replace k5 := k5.kept hS
  replace hb := hb.trans (hS.mono hb.size)
  clear hS
  have c4 := k4.c3
  go_wp2_with fail
  clear c4
  refine (MC.out _ (HM.out.kept hb)).mono ?_
  rintro e W3 ⟨rfl, hS⟩
  replace k1 := k1.kept hS
  replace k2 := k2.kept hS
  replace k3 := k3.kept hS
  replace k4 := k4.kept hS
  replace k5 := k5.kept hS
  replace hb := hb.trans (hS.mono hb.size)
  clear hS
  have c5 := k5.c3
  go_wp2_with fail
  exact bodyPost_ret (v := .tuple #[.agg #[.int .i64 0, .int .i64 0, .slice none 0 0], .int .i64 E]) (by simp [results, Tryz.results13, go_sem, c5]) rfl ⟨rfl, ((hb.setCell (by simp; omega) _).setCell (by simp; omega) _).setCell (by simp; omega) _⟩

set_option maxHeartbeats 8000000 in
set_option maxRecDepth 100000 in
theorem refHeal_bad3 (iw ih : Int) (iv : Value) (ps : List Px) (rx ry rw rh ox oy mw mh : Int) (mv : Value) (zs : List Int) (w : World) (hI : Pn w iv ps) (hM : Nn w mv zs) (h1 : ichk iw ih ps = 0) (h2 : mchk mw mh zs = 0) (h3 : ¬ hRect iw ih rx ry rw rh) :
    Calls Tryz.prog 13 #[.agg #[.int .i64 iw, .int .i64 ih, iv], .agg #[.int .i64 rx, .int .i64 ry, .int .i64 rw, .int .i64 rh], .agg #[.int .i64 ox, .int .i64 oy], .agg #[.int .i64 mw, .int .i64 mh, mv]] w fun e w' => e = .returned (.tuple #[.agg #[.int .i64 0, .int .i64 0, .slice none 0 0], .int .i64 2]) ∧ Below w.heap.size w w' := by
  have HI := Lib.hid hI
  have HM := Lib.hid hM
  obtain ⟨ai, ci, rfl⟩ := hI.slice
  obtain ⟨am, cm, rfl, _⟩ := hM.slice
  have IC := Lib.hid (fun w h => refRasterCheck_any iw ih (.slice ai ps.length ci) ps w h)
  have MC := Lib.hid (fun w h => refMaskCheck_any mw mh (.slice am zs.length cm) zs w h)
  have RV : Hid (∀ w, Calls Tryz.prog 51 #[.agg #[.int .i64 rx, .int .i64 ry, .int .i64 rw, .int .i64 rh]] w fun e w' => e = .returned (.bool (rValid rx ry rw rh)) ∧ Below w.heap.size w w') := fun w => refRValid_any rx ry rw rh w
  have RE := Lib.hid (fun w => refRemp_any rx ry rw rh w)
  rw [h1] at IC
  rw [h2] at MC
  obtain ⟨-, p1, p2, p3, p4, -⟩ := ichk_len h1
  unfold hRect at h3
  clear hI hM h1 h2
  generalize ps.length = ni at *
  generalize zs.length = nz at *
  cases hv : rValid rx ry rw rh with
  | false =>
    rw [hv] at RV
    clear h3 hv
    go_enter Tryz.func13, Tryz.ntmps13
    go_upto_region 1 with (fail)
    refine name5 (fun W1 k1 k2 k3 k4 k5 hb => ?_)
    have c1 := k1.c3
    go_wp2_with fail
    clear c1
    refine (IC.out _ (HI.out.kept hb)).mono ?_
    rintro e W2 ⟨rfl, hS⟩
    replace k1 := k1.kept hS
    replace k2 := k2.kept hS
    replace k3 := k3.kept hS
    replace k4 := k4.kept hS
    replace k5 := k5.kept hS
    replace hb := hb.trans (hS.mono hb.size)
    clear hS
    have c4 := k4.c3
    go_wp2_with fail
    clear c4
    refine (MC.out _ (HM.out.kept hb)).mono ?_
    rintro e W3 ⟨rfl, hS⟩
    replace k1 := k1.kept hS
    replace k2 := k2.kept hS
    replace k3 := k3.kept hS
    replace k4 := k4.kept hS
    replace k5 := k5.kept hS
    replace hb := hb.trans (hS.mono hb.size)
    clear hS
    have c2 := k2.c4
    go_wp2_with fail
    clear c2
    refine (RV.out _).mono ?_
    rintro e W4 ⟨rfl, hS⟩
    replace k1 := k1.kept hS
    replace k2 := k2.kept hS
    replace k3 := k3.kept hS
    replace k4 := k4.kept hS
    replace k5 := k5.kept hS
    replace hb := hb.trans (hS.mono hb.size)
    clear hS
    have c5 := k5.c3
    go_wp2_with fail
    exact bodyPost_ret (v := .tuple #[.agg #[.int .i64 0, .int .i64 0, .slice none 0 0], .int .i64 2]) (by simp [results, Tryz.results13, go_sem, c5]) rfl ⟨rfl, ((hb.setCell (by simp; omega) _).setCell (by simp; omega) _).setCell (by simp; omega) _⟩
  | true =>
    rw [hv] at RV
    cases he : rEmp (rx, ry, rw, rh) with
    | true =>
      rw [he] at RE
      clear h3 hv he
      go_enter Tryz.func13, Tryz.ntmps13
      go_upto_region 1 with (fail)
      refine name5 (fun W1 k1 k2 k3 k4 k5 hb => ?_)
      have c1 := k1.c3
      go_wp2_with fail
      clear c1
      refine (IC.out _ (HI.out.kept hb)).mono ?_
      rintro e W2 ⟨rfl, hS⟩
      replace k1 := k1.kept hS
      replace k2 := k2.kept hS
      replace k3 := k3.kept hS
      replace k4 := k4.kept hS
      replace k5 := k5.kept hS
      replace hb := hb.trans (hS.mono hb.size)
      clear hS
      have c4 := k4.c3
      go_wp2_with fail
      clear c4
      refine (MC.out _ (HM.out.kept hb)).mono ?_
      rintro e W3 ⟨rfl, hS⟩
      replace k1 := k1.kept hS
      replace k2 := k2.kept hS
      replace k3 := k3.kept hS
      replace k4 := k4.kept hS
      replace k5 := k5.kept hS
      replace hb := hb.trans (hS.mono hb.size)
      clear hS
      have c2 := k2.c4
      go_wp2_with fail
      clear c2
      refine (RV.out _).mono ?_
      rintro e W4 ⟨rfl, hS⟩
      replace k1 := k1.kept hS
      replace k2 := k2.kept hS
      replace k3 := k3.kept hS
      replace k4 := k4.kept hS
      replace k5 := k5.kept hS
      replace hb := hb.trans (hS.mono hb.size)
      clear hS
      have c2 := k2.c4
      go_wp2_with fail
      clear c2
      refine (RE.out _).mono ?_
      rintro e W5 ⟨rfl, hS⟩
      replace k1 := k1.kept hS
      replace k2 := k2.kept hS
      replace k3 := k3.kept hS
      replace k4 := k4.kept hS
      replace k5 := k5.kept hS
      replace hb := hb.trans (hS.mono hb.size)
      clear hS
      have c5 := k5.c3
      go_wp2_with fail
      exact bodyPost_ret (v := .tuple #[.agg #[.int .i64 0, .int .i64 0, .slice none 0 0], .int .i64 2]) (by simp [results, Tryz.results13, go_sem, c5]) rfl ⟨rfl, ((hb.setCell (by simp; omega) _).setCell (by simp; omega) _).setCell (by simp; omega) _⟩
    | false =>
      rw [he] at RE
      have RW := Lib.hid (fun w => refInside_any rx ry rw rh iw ih ai ni ci w he ⟨p1, p2⟩ ⟨p3, p4⟩)
      have hn := rEmp_false he
      simp only at hn
      rw [show witB rx ry rw rh iw ih = false from decide_eq_false (fun h => h3 ⟨hv, by omega, by omega, h.1, h.2.1, h.2.2.1, h.2.2.2⟩)] at RW
      clear h3 hv he hn
      go_enter Tryz.func13, Tryz.ntmps13
      go_upto_region 1 with (fail)
      refine name5 (fun W1 k1 k2 k3 k4 k5 hb => ?_)
      have c1 := k1.c3
      go_wp2_with fail
      clear c1
      refine (IC.out _ (HI.out.kept hb)).mono ?_
      rintro e W2 ⟨rfl, hS⟩
      replace k1 := k1.kept hS
      replace k2 := k2.kept hS
      replace k3 := k3.kept hS
      replace k4 := k4.kept hS
      replace k5 := k5.kept hS
      replace hb := hb.trans (hS.mono hb.size)
      clear hS
      have c4 := k4.c3
      go_wp2_with fail
      clear c4
      refine (MC.out _ (HM.out.kept hb)).mono ?_
      rintro e W3 ⟨rfl, hS⟩
      replace k1 := k1.kept hS
      replace k2 := k2.kept hS
      replace k3 := k3.kept hS
      replace k4 := k4.kept hS
      replace k5 := k5.kept hS
      replace hb := hb.trans (hS.mono hb.size)
      clear hS
      have c2 := k2.c4
      go_wp2_with fail
      clear c2
      refine (RV.out _).mono ?_
      rintro e W4 ⟨rfl, hS⟩
      replace k1 := k1.kept hS
      replace k2 := k2.kept hS
      replace k3 := k3.kept hS
      replace k4 := k4.kept hS
      replace k5 := k5.kept hS
      replace hb := hb.trans (hS.mono hb.size)
      clear hS
      have c2 := k2.c4
      go_wp2_with fail
      clear c2
      refine (RE.out _).mono ?_
      rintro e W5 ⟨rfl, hS⟩
      replace k1 := k1.kept hS
      replace k2 := k2.kept hS
      replace k3 := k3.kept hS
      replace k4 := k4.kept hS
      replace k5 := k5.kept hS
      replace hb := hb.trans (hS.mono hb.size)
      clear hS
      have c1 := k1.c3
      have c2 := k2.c4
      go_wp2_with fail
      clear c1 c2
      refine (RW.out _).mono ?_
      rintro e W6 ⟨rfl, hS⟩
      replace k1 := k1.kept hS
      replace k2 := k2.kept hS
      replace k3 := k3.kept hS
      replace k4 := k4.kept hS
      replace k5 := k5.kept hS
      replace hb := hb.trans (hS.mono hb.size)
      clear hS
      have c5 := k5.c3
      go_wp2_with fail
      exact bodyPost_ret (v := .tuple #[.agg #[.int .i64 0, .int .i64 0, .slice none 0 0], .int .i64 2]) (by simp [results, Tryz.results13, go_sem, c5]) rfl ⟨rfl, ((hb.setCell (by simp; omega) _).setCell (by simp; omega) _).setCell (by simp; omega) _⟩

set_option maxHeartbeats 8000000 in
set_option maxRecDepth 100000 in
theorem refHeal_bad4 (iw ih : Int) (iv : Value) (ps : List Px) (rx ry rw rh ox oy mw mh : Int) (mv : Value) (zs : List Int) (w : World) (hI : Pn w iv ps) (hM : Nn w mv zs) (h1 : ichk iw ih ps = 0) (h2 : mchk mw mh zs = 0) (h3 : hRect iw ih rx ry rw rh) (h4 : ¬ hOff iw ih rx ry rw rh ox oy) :
    Calls Tryz.prog 13 #[.agg #[.int .i64 iw, .int .i64 ih, iv], .agg #[.int .i64 rx, .int .i64 ry, .int .i64 rw, .int .i64 rh], .agg #[.int .i64 ox, .int .i64 oy], .agg #[.int .i64 mw, .int .i64 mh, mv]] w fun e w' => e = .returned (.tuple #[.agg #[.int .i64 0, .int .i64 0, .slice none 0 0], .int .i64 2]) ∧ Below w.heap.size w w' := by
  have HI := Lib.hid hI
  have HM := Lib.hid hM
  obtain ⟨ai, ci, rfl⟩ := hI.slice
  obtain ⟨am, cm, rfl, _⟩ := hM.slice
  have IC := Lib.hid (fun w h => refRasterCheck_any iw ih (.slice ai ps.length ci) ps w h)
  have MC := Lib.hid (fun w h => refMaskCheck_any mw mh (.slice am zs.length cm) zs w h)
  have RV : Hid (∀ w, Calls Tryz.prog 51 #[.agg #[.int .i64 rx, .int .i64 ry, .int .i64 rw, .int .i64 rh]] w fun e w' => e = .returned (.bool (rValid rx ry rw rh)) ∧ Below w.heap.size w w') := fun w => refRValid_any rx ry rw rh w
  have RE := Lib.hid (fun w => refRemp_any rx ry rw rh w)
  obtain ⟨-, p1, p2, p3, p4, -⟩ := ichk_len h1
  obtain ⟨hv, q1, q2, q3, q4, q5, q6⟩ := h3
  have hvv := (rOk_iff (rx, ry, rw, rh)).1 hv
  simp only at hvv
  have he : rEmp (rx, ry, rw, rh) = false := by
    unfold rEmp
    rw [show rOk (rx, ry, rw, rh) = true from hv]
    simp only [Bool.not_true, Bool.false_or, Bool.or_eq_false_iff, beq_eq_false_iff_ne]
    exact ⟨q1, q2⟩
  have RW := Lib.hid (fun w => refInside_any rx ry rw rh iw ih ai ps.length ci w he ⟨p1, p2⟩ ⟨p3, p4⟩)
  rw [show witB rx ry rw rh iw ih = true from decide_eq_true ⟨q3, q4, q5, q6⟩] at RW
  rw [hv] at RV
  rw [he] at RE
  rw [h1] at IC
  rw [h2] at MC
  unfold hOff at h4
  by_cases hin : -256 ≤ ox ∧ ox ≤ 256 ∧ -256 ≤ oy ∧ oy ≤ 256
  · have d1 : ¬ ox < -256 := by omega
    have d2 : ¬ 256 < ox := by omega
    have d3 : ¬ oy < -256 := by omega
    have d4 : ¬ 256 < oy := by omega
    have he2 : rEmp (rx + ox, ry + oy, rw, rh) = false := by
      unfold rEmp
      rw [show rOk (rx + ox, ry + oy, rw, rh) = true from (rOk_iff _).2 (by simp only; omega)]
      simp only [Bool.not_true, Bool.false_or, Bool.or_eq_false_iff, beq_eq_false_iff_ne]
      exact ⟨q1, q2⟩
    have RW2 := Lib.hid (fun w => refInside_any (rx + ox) (ry + oy) rw rh iw ih ai ps.length ci w he2 ⟨p1, p2⟩ ⟨p3, p4⟩)
    have n1 : IntKind.i64.wrap (rx + ox) = rx + ox := IntWalk.i64_in _ (by omega)
    have n2 : IntKind.i64.wrap (ry + oy) = ry + oy := IntWalk.i64_in _ (by omega)
    rw [show witB (rx + ox) (ry + oy) rw rh iw ih = false from decide_eq_false (fun h => h4 ⟨h.1, h.2.1, h.2.2.1, h.2.2.2⟩)] at RW2
    clear hI hM h1 h2 hv he hvv h4 q1 q2 q3 q4 q5 q6 p1 p2 p3 p4 he2 hin
    generalize ps.length = ni at *
    generalize zs.length = nz at *
    go_enter Tryz.func13, Tryz.ntmps13
    go_upto_region 1 with (fail)
    refine name5 (fun W1 k1 k2 k3 k4 k5 hb => ?_)
    have c1 := k1.c3
    go_wp2_with fail
    clear c1
    refine (IC.out _ (HI.out.kept hb)).mono ?_
    rintro e W2 ⟨rfl, hS⟩
    replace k1 := k1.kept hS
    replace k2 := k2.kept hS
    replace k3 := k3.kept hS
    replace k4 := k4.kept hS
    replace k5 := k5.kept hS
    replace hb := hb.trans (hS.mono hb.size)
    clear hS
    have c4 := k4.c3
    go_wp2_with fail
    clear c4
    refine (MC.out _ (HM.out.kept hb)).mono ?_
    rintro e W3 ⟨rfl, hS⟩
    replace k1 := k1.kept hS
    replace k2 := k2.kept hS
    replace k3 := k3.kept hS
    replace k4 := k4.kept hS
    replace k5 := k5.kept hS
    replace hb := hb.trans (hS.mono hb.size)
    clear hS
    have c2 := k2.c4
    go_wp2_with fail
    clear c2
    refine (RV.out _).mono ?_
    rintro e W4 ⟨rfl, hS⟩
    replace k1 := k1.kept hS
    replace k2 := k2.kept hS
    replace k3 := k3.kept hS
    replace k4 := k4.kept hS
    replace k5 := k5.kept hS
    replace hb := hb.trans (hS.mono hb.size)
    clear hS
    have c2 := k2.c4
    go_wp2_with fail
    clear c2
    refine (RE.out _).mono ?_
    rintro e W5 ⟨rfl, hS⟩
    replace k1 := k1.kept hS
    replace k2 := k2.kept hS
    replace k3 := k3.kept hS
    replace k4 := k4.kept hS
    replace k5 := k5.kept hS
    replace hb := hb.trans (hS.mono hb.size)
    clear hS
    have c1 := k1.c3
    have c2 := k2.c4
    go_wp2_with fail
    clear c1 c2
    refine (RW.out _).mono ?_
    rintro e W6 ⟨rfl, hS⟩
    replace k1 := k1.kept hS
    replace k2 := k2.kept hS
    replace k3 := k3.kept hS
    replace k4 := k4.kept hS
    replace k5 := k5.kept hS
    replace hb := hb.trans (hS.mono hb.size)
    clear hS
    have c1 := k1.c3
    have c2 := k2.c4
    have c3 := k3.c2
    go_wp2_with fail
    clear c1 c2 c3
    refine (RW2.out _).mono ?_
    rintro e W7 ⟨rfl, hS⟩
    replace k1 := k1.kept hS
    replace k2 := k2.kept hS
    replace k3 := k3.kept hS
    replace k4 := k4.kept hS
    replace k5 := k5.kept hS
    replace hb := hb.trans (hS.mono hb.size)
    clear hS
    have c5 := k5.c3
    go_wp2_with fail
    exact bodyPost_ret (v := .tuple #[.agg #[.int .i64 0, .int .i64 0, .slice none 0 0], .int .i64 2]) (by simp [results, Tryz.results13, go_sem, c5]) rfl ⟨rfl, ((hb.setCell (by simp; omega) _).setCell (by simp; omega) _).setCell (by simp; omega) _⟩
  · have c : ox < -256 ∨ (¬ ox < -256 ∧ 256 < ox) ∨ (¬ ox < -256 ∧ ¬ 256 < ox ∧ oy < -256) ∨ (¬ ox < -256 ∧ ¬ 256 < ox ∧ ¬ oy < -256 ∧ 256 < oy) := by omega
    clear hI hM h1 h2 hv he hvv h4 q1 q2 q3 q4 q5 q6 p1 p2 p3 p4 hin
    generalize ps.length = ni at *
    generalize zs.length = nz at *
    go_enter Tryz.func13, Tryz.ntmps13
    go_upto_region 1 with (fail)
    refine name5 (fun W1 k1 k2 k3 k4 k5 hb => ?_)
    have c1 := k1.c3
    go_wp2_with fail
    clear c1
    refine (IC.out _ (HI.out.kept hb)).mono ?_
    rintro e W2 ⟨rfl, hS⟩
    replace k1 := k1.kept hS
    replace k2 := k2.kept hS
    replace k3 := k3.kept hS
    replace k4 := k4.kept hS
    replace k5 := k5.kept hS
    replace hb := hb.trans (hS.mono hb.size)
    clear hS
    have c4 := k4.c3
    go_wp2_with fail
    clear c4
    refine (MC.out _ (HM.out.kept hb)).mono ?_
    rintro e W3 ⟨rfl, hS⟩
    replace k1 := k1.kept hS
    replace k2 := k2.kept hS
    replace k3 := k3.kept hS
    replace k4 := k4.kept hS
    replace k5 := k5.kept hS
    replace hb := hb.trans (hS.mono hb.size)
    clear hS
    have c2 := k2.c4
    go_wp2_with fail
    clear c2
    refine (RV.out _).mono ?_
    rintro e W4 ⟨rfl, hS⟩
    replace k1 := k1.kept hS
    replace k2 := k2.kept hS
    replace k3 := k3.kept hS
    replace k4 := k4.kept hS
    replace k5 := k5.kept hS
    replace hb := hb.trans (hS.mono hb.size)
    clear hS
    have c2 := k2.c4
    go_wp2_with fail
    clear c2
    refine (RE.out _).mono ?_
    rintro e W5 ⟨rfl, hS⟩
    replace k1 := k1.kept hS
    replace k2 := k2.kept hS
    replace k3 := k3.kept hS
    replace k4 := k4.kept hS
    replace k5 := k5.kept hS
    replace hb := hb.trans (hS.mono hb.size)
    clear hS
    have c1 := k1.c3
    have c2 := k2.c4
    go_wp2_with fail
    clear c1 c2
    refine (RW.out _).mono ?_
    rintro e W6 ⟨rfl, hS⟩
    replace k1 := k1.kept hS
    replace k2 := k2.kept hS
    replace k3 := k3.kept hS
    replace k4 := k4.kept hS
    replace k5 := k5.kept hS
    replace hb := hb.trans (hS.mono hb.size)
    clear hS
    rcases c with d1 | ⟨d1, d2⟩ | ⟨d1, d2, d3⟩ | ⟨d1, d2, d3, d4⟩
    all_goals
      have c3 := k3.c2
      have c5 := k5.c3
      go_wp2_with fail
      exact bodyPost_ret (v := .tuple #[.agg #[.int .i64 0, .int .i64 0, .slice none 0 0], .int .i64 2]) (by simp [results, Tryz.results13, go_sem, c5]) rfl ⟨rfl, ((hb.setCell (by simp; omega) _).setCell (by simp; omega) _).setCell (by simp; omega) _⟩

set_option maxHeartbeats 8000000 in
set_option maxRecDepth 100000 in
theorem refHeal_bad5 (iw ih : Int) (iv : Value) (ps : List Px) (rx ry rw rh ox oy mw mh : Int) (mv : Value) (zs : List Int) (w : World) (hI : Pn w iv ps) (hM : Nn w mv zs) (h1 : ichk iw ih ps = 0) (h2 : mchk mw mh zs = 0) (h3 : hRect iw ih rx ry rw rh) (h4 : hOff iw ih rx ry rw rh ox oy) (h5 : ¬ hSize iw ih rw rh mw mh) :
    Calls Tryz.prog 13 #[.agg #[.int .i64 iw, .int .i64 ih, iv], .agg #[.int .i64 rx, .int .i64 ry, .int .i64 rw, .int .i64 rh], .agg #[.int .i64 ox, .int .i64 oy], .agg #[.int .i64 mw, .int .i64 mh, mv]] w fun e w' => e = .returned (.tuple #[.agg #[.int .i64 0, .int .i64 0, .slice none 0 0], .int .i64 15]) ∧ Below w.heap.size w w' := by
  have HI := Lib.hid hI
  have HM := Lib.hid hM
  obtain ⟨ai, ci, rfl⟩ := hI.slice
  obtain ⟨am, cm, rfl, _⟩ := hM.slice
  have IC := Lib.hid (fun w h => refRasterCheck_any iw ih (.slice ai ps.length ci) ps w h)
  have MC := Lib.hid (fun w h => refMaskCheck_any mw mh (.slice am zs.length cm) zs w h)
  have RV : Hid (∀ w, Calls Tryz.prog 51 #[.agg #[.int .i64 rx, .int .i64 ry, .int .i64 rw, .int .i64 rh]] w fun e w' => e = .returned (.bool (rValid rx ry rw rh)) ∧ Below w.heap.size w w') := fun w => refRValid_any rx ry rw rh w
  have RE := Lib.hid (fun w => refRemp_any rx ry rw rh w)
  obtain ⟨-, p1, p2, p3, p4, -⟩ := ichk_len h1
  obtain ⟨hv, q1, q2, q3, q4, q5, q6⟩ := h3
  have hvv := (rOk_iff (rx, ry, rw, rh)).1 hv
  simp only at hvv
  have he : rEmp (rx, ry, rw, rh) = false := by
    unfold rEmp
    rw [show rOk (rx, ry, rw, rh) = true from hv]
    simp only [Bool.not_true, Bool.false_or, Bool.or_eq_false_iff, beq_eq_false_iff_ne]
    exact ⟨q1, q2⟩
  have RW := Lib.hid (fun w => refInside_any rx ry rw rh iw ih ai ps.length ci w he ⟨p1, p2⟩ ⟨p3, p4⟩)
  rw [show witB rx ry rw rh iw ih = true from decide_eq_true ⟨q3, q4, q5, q6⟩] at RW
  rw [hv] at RV
  rw [he] at RE
  rw [h1] at IC
  rw [h2] at MC
  unfold hOff at h4
  obtain ⟨q7, q8, q9, q10⟩ := h4
  have d1 : ¬ ox < -256 := by omega
  have d2 : ¬ 256 < ox := by omega
  have d3 : ¬ oy < -256 := by omega
  have d4 : ¬ 256 < oy := by omega
  have he2 : rEmp (rx + ox, ry + oy, rw, rh) = false := by
    unfold rEmp
    rw [show rOk (rx + ox, ry + oy, rw, rh) = true from (rOk_iff _).2 (by simp only; omega)]
    simp only [Bool.not_true, Bool.false_or, Bool.or_eq_false_iff, beq_eq_false_iff_ne]
    exact ⟨q1, q2⟩
  have RW2 := Lib.hid (fun w => refInside_any (rx + ox) (ry + oy) rw rh iw ih ai ps.length ci w he2 ⟨p1, p2⟩ ⟨p3, p4⟩)
  have n1 : IntKind.i64.wrap (rx + ox) = rx + ox := IntWalk.i64_in _ (by omega)
  have n2 : IntKind.i64.wrap (ry + oy) = ry + oy := IntWalk.i64_in _ (by omega)
  rw [show witB (rx + ox) (ry + oy) rw rh iw ih = true from decide_eq_true ⟨q7, q8, q9, q10⟩] at RW2
  unfold hSize at h5
  have c : 32 < rw ∨ (¬ 32 < rw ∧ 32 < rh) ∨ (¬ 32 < rw ∧ ¬ 32 < rh ∧ mw ≠ 0 ∧ mw ≠ iw) ∨ (¬ 32 < rw ∧ ¬ 32 < rh ∧ mw ≠ 0 ∧ mw = iw ∧ mh ≠ ih) := by omega
  clear hI hM h1 h2 hv he hvv q1 q2 q3 q4 q5 q6 q7 q8 q9 q10 p1 p2 p3 p4 he2 h5
  generalize ps.length = ni at *
  generalize zs.length = nz at *
  rcases c with z1 | ⟨z1, z2⟩ | ⟨z1, z2, z3, z4⟩ | ⟨z1, z2, z3, z4, z5⟩
  · go_enter Tryz.func13, Tryz.ntmps13
    go_upto_region 1 with (fail)
    refine name5 (fun W1 k1 k2 k3 k4 k5 hb => ?_)
    have c1 := k1.c3
    go_wp2_with fail
    clear c1
    refine (IC.out _ (HI.out.kept hb)).mono ?_
    rintro e W2 ⟨rfl, hS⟩
    replace k1 := k1.kept hS
    replace k2 := k2.kept hS
    replace k3 := k3.kept hS
    replace k4 := k4.kept hS
    replace k5 := k5.kept hS
    replace hb := hb.trans (hS.mono hb.size)
    clear hS
    have c4 := k4.c3
    go_wp2_with fail
    clear c4
    refine (MC.out _ (HM.out.kept hb)).mono ?_
    rintro e W3 ⟨rfl, hS⟩
    replace k1 := k1.kept hS
    replace k2 := k2.kept hS
    replace k3 := k3.kept hS
    replace k4 := k4.kept hS
    replace k5 := k5.kept hS
    replace hb := hb.trans (hS.mono hb.size)
    clear hS
    have c2 := k2.c4
    go_wp2_with fail
    clear c2
    refine (RV.out _).mono ?_
    rintro e W4 ⟨rfl, hS⟩
    replace k1 := k1.kept hS
    replace k2 := k2.kept hS
    replace k3 := k3.kept hS
    replace k4 := k4.kept hS
    replace k5 := k5.kept hS
    replace hb := hb.trans (hS.mono hb.size)
    clear hS
    have c2 := k2.c4
    go_wp2_with fail
    clear c2
    refine (RE.out _).mono ?_
    rintro e W5 ⟨rfl, hS⟩
    replace k1 := k1.kept hS
    replace k2 := k2.kept hS
    replace k3 := k3.kept hS
    replace k4 := k4.kept hS
    replace k5 := k5.kept hS
    replace hb := hb.trans (hS.mono hb.size)
    clear hS
    have c1 := k1.c3
    have c2 := k2.c4
    go_wp2_with fail
    clear c1 c2
    refine (RW.out _).mono ?_
    rintro e W6 ⟨rfl, hS⟩
    replace k1 := k1.kept hS
    replace k2 := k2.kept hS
    replace k3 := k3.kept hS
    replace k4 := k4.kept hS
    replace k5 := k5.kept hS
    replace hb := hb.trans (hS.mono hb.size)
    clear hS
    have c1 := k1.c3
    have c2 := k2.c4
    have c3 := k3.c2
    go_wp2_with fail
    clear c1 c2 c3
    refine (RW2.out _).mono ?_
    rintro e W7 ⟨rfl, hS⟩
    replace k1 := k1.kept hS
    replace k2 := k2.kept hS
    replace k3 := k3.kept hS
    replace k4 := k4.kept hS
    replace k5 := k5.kept hS
    replace hb := hb.trans (hS.mono hb.size)
    clear hS
    have c1 := k1.c3
    have c2 := k2.c4
    have c4 := k4.c3
    have c5 := k5.c3
    go_wp2_with fail
    exact bodyPost_ret (v := .tuple #[.agg #[.int .i64 0, .int .i64 0, .slice none 0 0], .int .i64 15]) (by simp [results, Tryz.results13, go_sem, c5]) rfl ⟨rfl, ((hb.setCell (by simp; omega) _).setCell (by simp; omega) _).setCell (by simp; omega) _⟩
  · go_enter Tryz.func13, Tryz.ntmps13
    go_upto_region 1 with (fail)
    refine name5 (fun W1 k1 k2 k3 k4 k5 hb => ?_)
    have c1 := k1.c3
    go_wp2_with fail
    clear c1
    refine (IC.out _ (HI.out.kept hb)).mono ?_
    rintro e W2 ⟨rfl, hS⟩
    replace k1 := k1.kept hS
    replace k2 := k2.kept hS
    replace k3 := k3.kept hS
    replace k4 := k4.kept hS
    replace k5 := k5.kept hS
    replace hb := hb.trans (hS.mono hb.size)
    clear hS
    have c4 := k4.c3
    go_wp2_with fail
    clear c4
    refine (MC.out _ (HM.out.kept hb)).mono ?_
    rintro e W3 ⟨rfl, hS⟩
    replace k1 := k1.kept hS
    replace k2 := k2.kept hS
    replace k3 := k3.kept hS
    replace k4 := k4.kept hS
    replace k5 := k5.kept hS
    replace hb := hb.trans (hS.mono hb.size)
    clear hS
    have c2 := k2.c4
    go_wp2_with fail
    clear c2
    refine (RV.out _).mono ?_
    rintro e W4 ⟨rfl, hS⟩
    replace k1 := k1.kept hS
    replace k2 := k2.kept hS
    replace k3 := k3.kept hS
    replace k4 := k4.kept hS
    replace k5 := k5.kept hS
    replace hb := hb.trans (hS.mono hb.size)
    clear hS
    have c2 := k2.c4
    go_wp2_with fail
    clear c2
    refine (RE.out _).mono ?_
    rintro e W5 ⟨rfl, hS⟩
    replace k1 := k1.kept hS
    replace k2 := k2.kept hS
    replace k3 := k3.kept hS
    replace k4 := k4.kept hS
    replace k5 := k5.kept hS
    replace hb := hb.trans (hS.mono hb.size)
    clear hS
    have c1 := k1.c3
    have c2 := k2.c4
    go_wp2_with fail
    clear c1 c2
    refine (RW.out _).mono ?_
    rintro e W6 ⟨rfl, hS⟩
    replace k1 := k1.kept hS
    replace k2 := k2.kept hS
    replace k3 := k3.kept hS
    replace k4 := k4.kept hS
    replace k5 := k5.kept hS
    replace hb := hb.trans (hS.mono hb.size)
    clear hS
    have c1 := k1.c3
    have c2 := k2.c4
    have c3 := k3.c2
    go_wp2_with fail
    clear c1 c2 c3
    refine (RW2.out _).mono ?_
    rintro e W7 ⟨rfl, hS⟩
    replace k1 := k1.kept hS
    replace k2 := k2.kept hS
    replace k3 := k3.kept hS
    replace k4 := k4.kept hS
    replace k5 := k5.kept hS
    replace hb := hb.trans (hS.mono hb.size)
    clear hS
    have c1 := k1.c3
    have c2 := k2.c4
    have c4 := k4.c3
    have c5 := k5.c3
    go_wp2_with fail
    exact bodyPost_ret (v := .tuple #[.agg #[.int .i64 0, .int .i64 0, .slice none 0 0], .int .i64 15]) (by simp [results, Tryz.results13, go_sem, c5]) rfl ⟨rfl, ((hb.setCell (by simp; omega) _).setCell (by simp; omega) _).setCell (by simp; omega) _⟩
  · have b1 : (mw != 0) = true := by simpa using z3
    have b2 : (mw != iw) = true := by simpa using z4
    clear z3 z4
    go_enter Tryz.func13, Tryz.ntmps13
    go_upto_region 1 with (fail)
    refine name5 (fun W1 k1 k2 k3 k4 k5 hb => ?_)
    have c1 := k1.c3
    go_wp2_with fail
    clear c1
    refine (IC.out _ (HI.out.kept hb)).mono ?_
    rintro e W2 ⟨rfl, hS⟩
    replace k1 := k1.kept hS
    replace k2 := k2.kept hS
    replace k3 := k3.kept hS
    replace k4 := k4.kept hS
    replace k5 := k5.kept hS
    replace hb := hb.trans (hS.mono hb.size)
    clear hS
    have c4 := k4.c3
    go_wp2_with fail
    clear c4
    refine (MC.out _ (HM.out.kept hb)).mono ?_
    rintro e W3 ⟨rfl, hS⟩
    replace k1 := k1.kept hS
    replace k2 := k2.kept hS
    replace k3 := k3.kept hS
    replace k4 := k4.kept hS
    replace k5 := k5.kept hS
    replace hb := hb.trans (hS.mono hb.size)
    clear hS
    have c2 := k2.c4
    go_wp2_with fail
    clear c2
    refine (RV.out _).mono ?_
    rintro e W4 ⟨rfl, hS⟩
    replace k1 := k1.kept hS
    replace k2 := k2.kept hS
    replace k3 := k3.kept hS
    replace k4 := k4.kept hS
    replace k5 := k5.kept hS
    replace hb := hb.trans (hS.mono hb.size)
    clear hS
    have c2 := k2.c4
    go_wp2_with fail
    clear c2
    refine (RE.out _).mono ?_
    rintro e W5 ⟨rfl, hS⟩
    replace k1 := k1.kept hS
    replace k2 := k2.kept hS
    replace k3 := k3.kept hS
    replace k4 := k4.kept hS
    replace k5 := k5.kept hS
    replace hb := hb.trans (hS.mono hb.size)
    clear hS
    have c1 := k1.c3
    have c2 := k2.c4
    go_wp2_with fail
    clear c1 c2
    refine (RW.out _).mono ?_
    rintro e W6 ⟨rfl, hS⟩
    replace k1 := k1.kept hS
    replace k2 := k2.kept hS
    replace k3 := k3.kept hS
    replace k4 := k4.kept hS
    replace k5 := k5.kept hS
    replace hb := hb.trans (hS.mono hb.size)
    clear hS
    have c1 := k1.c3
    have c2 := k2.c4
    have c3 := k3.c2
    go_wp2_with fail
    clear c1 c2 c3
    refine (RW2.out _).mono ?_
    rintro e W7 ⟨rfl, hS⟩
    replace k1 := k1.kept hS
    replace k2 := k2.kept hS
    replace k3 := k3.kept hS
    replace k4 := k4.kept hS
    replace k5 := k5.kept hS
    replace hb := hb.trans (hS.mono hb.size)
    clear hS
    have c1 := k1.c3
    have c2 := k2.c4
    have c4 := k4.c3
    have c5 := k5.c3
    go_wp2_with fail
    exact bodyPost_ret (v := .tuple #[.agg #[.int .i64 0, .int .i64 0, .slice none 0 0], .int .i64 15]) (by simp [results, Tryz.results13, go_sem, c5]) rfl ⟨rfl, ((hb.setCell (by simp; omega) _).setCell (by simp; omega) _).setCell (by simp; omega) _⟩
  · have b1 : (mw != 0) = true := by simpa using z3
    have b2 : (mw != iw) = false := by simpa using z4
    have b3 : (mh != ih) = true := by simpa using z5
    clear z3 z4 z5
    go_enter Tryz.func13, Tryz.ntmps13
    go_upto_region 1 with (fail)
    refine name5 (fun W1 k1 k2 k3 k4 k5 hb => ?_)
    have c1 := k1.c3
    go_wp2_with fail
    clear c1
    refine (IC.out _ (HI.out.kept hb)).mono ?_
    rintro e W2 ⟨rfl, hS⟩
    replace k1 := k1.kept hS
    replace k2 := k2.kept hS
    replace k3 := k3.kept hS
    replace k4 := k4.kept hS
    replace k5 := k5.kept hS
    replace hb := hb.trans (hS.mono hb.size)
    clear hS
    have c4 := k4.c3
    go_wp2_with fail
    clear c4
    refine (MC.out _ (HM.out.kept hb)).mono ?_
    rintro e W3 ⟨rfl, hS⟩
    replace k1 := k1.kept hS
    replace k2 := k2.kept hS
    replace k3 := k3.kept hS
    replace k4 := k4.kept hS
    replace k5 := k5.kept hS
    replace hb := hb.trans (hS.mono hb.size)
    clear hS
    have c2 := k2.c4
    go_wp2_with fail
    clear c2
    refine (RV.out _).mono ?_
    rintro e W4 ⟨rfl, hS⟩
    replace k1 := k1.kept hS
    replace k2 := k2.kept hS
    replace k3 := k3.kept hS
    replace k4 := k4.kept hS
    replace k5 := k5.kept hS
    replace hb := hb.trans (hS.mono hb.size)
    clear hS
    have c2 := k2.c4
    go_wp2_with fail
    clear c2
    refine (RE.out _).mono ?_
    rintro e W5 ⟨rfl, hS⟩
    replace k1 := k1.kept hS
    replace k2 := k2.kept hS
    replace k3 := k3.kept hS
    replace k4 := k4.kept hS
    replace k5 := k5.kept hS
    replace hb := hb.trans (hS.mono hb.size)
    clear hS
    have c1 := k1.c3
    have c2 := k2.c4
    go_wp2_with fail
    clear c1 c2
    refine (RW.out _).mono ?_
    rintro e W6 ⟨rfl, hS⟩
    replace k1 := k1.kept hS
    replace k2 := k2.kept hS
    replace k3 := k3.kept hS
    replace k4 := k4.kept hS
    replace k5 := k5.kept hS
    replace hb := hb.trans (hS.mono hb.size)
    clear hS
    have c1 := k1.c3
    have c2 := k2.c4
    have c3 := k3.c2
    go_wp2_with fail
    clear c1 c2 c3
    refine (RW2.out _).mono ?_
    rintro e W7 ⟨rfl, hS⟩
    replace k1 := k1.kept hS
    replace k2 := k2.kept hS
    replace k3 := k3.kept hS
    replace k4 := k4.kept hS
    replace k5 := k5.kept hS
    replace hb := hb.trans (hS.mono hb.size)
    clear hS
    have c1 := k1.c3
    have c2 := k2.c4
    have c4 := k4.c3
    have c5 := k5.c3
    go_wp2_with fail
    exact bodyPost_ret (v := .tuple #[.agg #[.int .i64 0, .int .i64 0, .slice none 0 0], .int .i64 15]) (by simp [results, Tryz.results13, go_sem, c5]) rfl ⟨rfl, ((hb.setCell (by simp; omega) _).setCell (by simp; omega) _).setCell (by simp; omega) _⟩

noncomputable def healT : Code := ((Tryz.f13.body.bind (tailN 18)).getD .skip)
set_option maxHeartbeats 32000000 in
set_option maxRecDepth 100000 in
theorem refHeal_tail (W H wd ht N X Y n nz : Nat) (ai am : Option Addr) (ci cm : Nat) (ps : List Px) (ox oy mw mh : Int) (zs : List Int) (w W8 : World) (xm : Nat) (q : Nat → Value) (mc : Nat → Nat → Int) (res : Nat → Px) (out : List Px) (selk : Nat → Int)
    (HI : Hid (Pn w (.slice ai n ci) ps)) (HM : Hid (Nn w (.slice am nz cm) zs)) (h0 : Below w.heap.size w W8) (k1 : Blk W8 w.heap.size (.cells #[.int .i64 W, .int .i64 H, .slice ai n ci] 24 (0, 0))) (k2 : Blk W8 (w.heap.size + 1) (.cells #[.int .i64 X, .int .i64 Y, .int .i64 wd, .int .i64 ht] 45 (0, 0))) (k3 : Blk W8 (w.heap.size + 1 + 1) (.cells #[.int .i64 ox, .int .i64 oy] 32 (0, 0))) (k4 : Blk W8 (w.heap.size + 1 + 1 + 1) (.cells #[.int .i64 mw, .int .i64 mh, .slice am nz cm] 35 (0, 0))) (k5 : Blk W8 (w.heap.size + 1 + 1 + 1 + 1) (.cells #[.int .i64 0, .int .i64 0, .slice none 0 0] 24 (0, 0))) (km : Blk W8 xm (.cells #[q 0, q 1, q 2, q 3] 82 (0, 0))) (hxm : w.heap.size + 1 + 1 + 1 + 1 < xm)
    (HQ : Hid (∀ c, c < 4 → ∃ b off cp, q c = .slice (some ⟨b, off, none⟩) N cp ∧ ∀ i, i < N → ∀ w', Below W8.heap.size W8 w' → w'.cell? ⟨b, off + i, none⟩ = some (.int .i64 (mc c i))))
    (MB : Hid (∀ c i, -65535 ≤ mc c i ∧ mc c i ≤ 65535)) (OL : Hid (out.length = n)) (OA : Hid (∀ i, i < n → pxAt out i = res i))
    (SE : Hid (∀ k, k < n → ∀ w, Nn w (.slice am nz cm) zs → Calls Tryz.prog 25 #[.agg #[.int .i64 mw, .int .i64 mh, .slice am nz cm], .int .i64 k] w fun e w' => e = .returned (.int .i64 (selk k)) ∧ Below w.heap.size w w'))
    (R0 : Hid (∀ k, k < n → (¬ (X + 1 ≤ k % W ∧ k % W + 1 < X + wd ∧ Y + 1 ≤ k / W ∧ k / W + 1 < Y + ht) ∨ selk k = 0) → res k = pxAt ps k))
    (R1 : Hid (∀ k, k < n → X + 1 ≤ k % W → k % W + 1 < X + wd → Y + 1 ≤ k / W → k / W + 1 < Y + ht → selk k ≠ 0 → ∃ (hi : Nat) (g s : Px), (k / W - Y) * wd + (k % W - X) = hi ∧ hi < N ∧ s = prP g ∧ cl g.2.2.2 = g.2.2.2 ∧ (∀ w, Pn w (.slice ai n ci) ps → Calls Tryz.prog 26 #[.agg #[.int .i64 W, .int .i64 H, .slice ai n ci], .int .i64 (((k % W : Nat) : Int) + ox), .int .i64 (((k / W : Nat) : Int) + oy)] w fun e w' => e = .returned (pvx g) ∧ Below w.heap.size w w') ∧ res k = mxP (pxAt ps k) (heP s (mc 0 hi, mc 1 hi, mc 2 hi, mc 3 hi)) (selk k)))
    (hn : n ≤ 65536) (hN : N ≤ 1024) (hW1 : 1 ≤ W) (hW : W ≤ 256) (hH : H ≤ 256) (hX : X + wd ≤ W) (hY : Y + ht ≤ H) (hw : 1 ≤ wd ∧ wd ≤ 32) (hh : 1 ≤ ht ∧ ht ≤ 32) (hox : -256 ≤ ox ∧ ox ≤ 256) (hoy : -256 ≤ oy ∧ oy ≤ 256) {v0 v1 v2 v3 v9 v10 v11 v13 v14 v15 v16 v17 v18 v19 v20 v21 v22 v23 v24 v25 v26 v27 v28 v29 v30 v31 v32 v33 v34 v35 v36 v37 v38 v39 v40 v41 v42 v43 v44 v45 v46 v47 v48 v49 v50 v51 v52 v53 v54 v55 v56 v57 v58 v59 v60 v61 v62 v63 v64 v65 v66 v67 v68 v69 v70 v71 v72 v73 v74 v75 v76 v77 v78 v79 v80 v81 v82 v83 v84 v85 v86 v87 v88 v89 v90 v91 v92 v93 v94 v95 v96 v97 v98 v99 v100 v101 v102 v103 v104 v105 v106 v107 v108 v109 v110 v111 v112 v113 v114 v115 v116 v117 v118 v119 v120 v121 v122 v123 v124 v125 v126 v127 v128 v129 v130 v131 v132 v133 v134 v135 v136 v137 v138 v139 v140 v141 v142 v143 v144 v145 v146 v147 v148 v149 v150 v151 v152 v153 v154 v155 v156 v157 v158 v159 v160 v161 v162 v163 v164 v165 v166 v167 v168 v169 v170 v171 v172 v173 v174 v175 v176 v177 v178 v179 v180 v181 v182 v183 v184 v185 v186 v187 v188 v189 v190 v191 v192 v193 v194 v195 v196 v197 v198 v199 v200 v201 v202 v203 v204 v205 v206 v207 v208 v209 v210 v211 v212 v213 v214 v215 v216 v217 v218 v219 v220 v221 v222 v223 v224 v225 v226 v227 v228 v229 v230 v231 v232 v233 v234 v235 v236 v237 v238 v239 v240 v241 v242 v243 v244 v245 v246 v247 v248 v249 v250 v251 v252 : Value} :
    Code.wp Tryz.prog healT (bodyPost Tryz.prog Tryz.f13 fun e w' => ∃ q, e = .returned (.tuple #[.agg #[.int .i64 W, .int .i64 H, q], .int .i64 0]) ∧ Pn w' q out ∧ Below w.heap.size w w') ⟨#[v0, v1, v2, v3, .pointer (some ⟨w.heap.size, 0, none⟩), .pointer (some ⟨(w.heap.size + 1), 0, none⟩), .pointer (some ⟨(w.heap.size + 1 + 1), 0, none⟩), .pointer (some ⟨(w.heap.size + 1 + 1 + 1), 0, none⟩), .pointer (some ⟨(w.heap.size + 1 + 1 + 1 + 1), 0, none⟩), v9, v10, v11, .pointer (some ⟨xm, 0, none⟩), v13, v14, v15, v16, v17, v18, v19, v20, v21, v22, v23, v24, v25, v26, v27, v28, v29, v30, v31, v32, v33, v34, v35, v36, v37, v38, v39, v40, v41, v42, v43, v44, v45, v46, v47, v48, v49, v50, v51, v52, v53, v54, v55, v56, v57, v58, v59, v60, v61, v62, v63, v64, v65, v66, v67, v68, v69, v70, v71, v72, v73, v74, v75, v76, v77, v78, v79, v80, v81, v82, v83, v84, v85, v86, v87, v88, v89, v90, v91, v92, v93, v94, v95, v96, v97, v98, v99, v100, v101, v102, v103, v104, v105, v106, v107, v108, v109, v110, v111, v112, v113, v114, v115, v116, v117, v118, v119, v120, v121, v122, v123, v124, v125, v126, v127, v128, v129, v130, v131, v132, v133, v134, v135, v136, v137, v138, v139, v140, v141, v142, v143, v144, v145, v146, v147, v148, v149, v150, v151, v152, v153, v154, v155, v156, v157, v158, v159, v160, v161, v162, v163, v164, v165, v166, v167, v168, v169, v170, v171, v172, v173, v174, v175, v176, v177, v178, v179, v180, v181, v182, v183, v184, v185, v186, v187, v188, v189, v190, v191, v192, v193, v194, v195, v196, v197, v198, v199, v200, v201, v202, v203, v204, v205, v206, v207, v208, v209, v210, v211, v212, v213, v214, v215, v216, v217, v218, v219, v220, v221, v222, v223, v224, v225, v226, v227, v228, v229, v230, v231, v232, v233, v234, v235, v236, v237, v238, v239, v240, v241, v242, v243, v244, v245, v246, v247, v248, v249, v250, v251, v252], []⟩ W8 := by
  have lm := km.lt
  have l5 := k5.lt
  have K1 := Lib.hid k1
  have K2 := Lib.hid k2
  have K3 := Lib.hid k3
  have K4 := Lib.hid k4
  have K5 := Lib.hid k5
  have KM := Lib.hid km
  conv => arg 2; whnf
  have c1 := k1.c3
  go_upto_region 19 with (fail)
  clear c1 k1 k2 k3 k4 k5 km
  refine name1 (fun W9 ko hb => ?_)
  obtain ⟨x, hx0⟩ : ∃ x, x = W8.heap.size := ⟨_, rfl⟩
  rw [← hx0] at ko ⊢
  have hx1 : W8.heap.size ≤ x := by omega
  have hx2 : xm < x := by omega
  have hx5 : w.heap.size + 1 + 1 + 1 + 1 < x := by omega
  clear hx0
  have oxl := ko.lt
  obtain ⟨base, hbase⟩ : ∃ base, base = W9.heap.size := ⟨_, rfl⟩
  have own := own_nil W9 base 26 res
  have hbs : base ≤ W9.heap.size := by omega
  rw [← hbase] at oxl
  clear hbase
  go_wp2_with fail
  go_loopw [15] (fun i wr => ∃ (k : Nat) (q : Value), k ≤ n ∧ i = .int .i64 k ∧ wr.ownsRow base 26 4 q k (pcF res k) ∧ base ≤ wr.heap.size ∧ Blk wr x (.cells #[.int .i64 W, .int .i64 H, q] 24 (0, 0)) ∧ Below W8.heap.size W8 wr) (fun i _ => n - (intOf i).toNat)
  case atStart => exact ⟨0, _, Nat.zero_le _, rfl, own, hbs, ko, hb⟩
  case round =>
    clear own ko hb hbs
    obtain ⟨k, qv, hk, rfl, own, hbs, ko, hb⟩ := hrel
    have c1 := (K1.out.kept hb).c3
    by_cases hlt : k < n
    · obtain ⟨b1, off1, rfl, hbl1, hcell1⟩ := HI.out.at k hlt
      have hc := hcell1 wr (h0.trans (hb.mono h0.size))
      clear hcell1
      have SEk := Lib.hid (SE.out k hlt)
      have R0k := Lib.hid (R0.out k hlt)
      have R1k := Lib.hid (R1.out k hlt)
      have PS := Lib.hid (pcF_succ res k)
      have t1 : ((k : Nat) : Int).tmod (W : Int) = ((k % W : Nat) : Int) := Int.tmod_eq_emod_of_nonneg (by omega)
      have t2 : ((k : Nat) : Int).tdiv (W : Int) = ((k / W : Nat) : Int) := Int.tdiv_eq_ediv_of_nonneg (by omega)
      have r1 : k % W < W := Nat.mod_lt _ (by omega)
      have r2 : k / W ≤ k := Nat.div_le_self _ _
      generalize k % W = rm at *
      generalize k / W = qd at *
      obtain ⟨xi, hxi⟩ : ∃ xi : Int, (rm : Int) - (X : Int) = xi := ⟨_, rfl⟩
      obtain ⟨yi, hyi⟩ : ∃ yi : Int, (qd : Int) - (Y : Int) = yi := ⟨_, rfl⟩
      have wz : ((W : Int) == 0) = false := by simp; omega
      have wn : ¬ W = 0 := by omega
      have e5 : IntKind.i64.wrap (qd : Int) = (qd : Int) := IntWalk.i64_in _ (by omega)
      have e6 : IntKind.i64.wrap (rm : Int) = (rm : Int) := IntWalk.i64_in _ (by omega)
      have e7 : IntKind.i64.wrap ((rm : Int) - (X : Int)) = xi := by rw [hxi]; exact IntWalk.i64_in _ (by omega)
      have e8 : IntKind.i64.wrap ((qd : Int) - (Y : Int)) = yi := by rw [hyi]; exact IntWalk.i64_in _ (by omega)
      have HXI := Lib.hid hxi
      have HYI := Lib.hid hyi
      clear hxi hyi
      generalize selk k = sv at *
      generalize res k = rk at *
      generalize pxAt ps k = p at *
      obtain ⟨p0, p1, p2, p3⟩ := p
      obtain ⟨r0, r1', r2', r3⟩ := rk
      replace PS : Hid (pcF res (k + 1) = pcF res k ++ [.int .i64 r0, .int .i64 r1', .int .i64 r2', .int .i64 r3]) := PS
      simp only at hc
      obtain ⟨aq0, cq0, rfl⟩ := own_slice own
      have HO := Lib.hid own
      have ol := own.lt
      clear own
      have i1 : (0 : Int) ≤ (k : Int) := by omega
      have i2 : (k : Int) < (n : Int) := by omega
      go_upto_region 23 with (fail)
      clear hc c1
      refine name1 (fun W10 kp hS => ?_)
      generalize hpp : wr.heap.size = xp at *
      have hxb : base ≤ xp := hbs
      have hxp : W8.heap.size ≤ xp := by have := hb.size; omega
      have hpo : (Value.slice aq0 k cq0).ownBlock ≠ some xp := fun h => by have := (ol _ h).2; omega
      replace ko := ko.kept (by rw [hpp]; exact hS)
      replace hb : Below W8.heap.size W8 W10 := hb.trans (by rw [← hpp] at hS hxp; exact hS.mono hxp)
      have own := ownsKept HO.out (by rw [hpp]; exact hS)
      replace hbs : base ≤ W10.heap.size := by have := hS.size; omega
      clear hS HO ol
      have G := Lib.hid hb
      refine wp_region_grow 8 (fun w' => Below (World.heap W10).size W10 w') (by kernel_rfl) (by kernel_rfl) (Below.refl _ _).drew ?_
      simp only [List.take_succ_cons, List.take_zero, List.drop_succ_cons, List.drop_zero]
      repeat (first | (apply wpG_on; rfl; (intro w' hS K hK; have hc0 := (kp.kept hS).lt; have hc1 := (ko.kept hS).lt; have hr0 := (K1.out.kept (hb.trans (hS.mono hb.size))).c3; have hr1 := (K2.out.kept (hb.trans (hS.mono hb.size))).c4; go_simp; (first | exact hK.out _ hS)); simp only [Act.put, List.setIfInBounds_toArray, List.set_cons_succ, List.set_cons_zero]) | (apply wpG_off; rfl; simp only [Act.put, List.setIfInBounds_toArray, List.set_cons_succ, List.set_cons_zero]))
      apply wpG_nil
      intro W11 hS
      replace kp := kp.kept hS
      replace ko := ko.kept hS
      replace hb := hb.trans (hS.mono hb.size)
      replace own := ownsKept own hS
      replace hbs : base ≤ W11.heap.size := Nat.le_trans hbs hS.size
      clear hS G
      go_upto_region 24 with (fail)
      refine wp_region_grow 8 (fun w' => Below (World.heap W11).size W11 w') (by kernel_rfl) (by kernel_rfl) (Below.refl _ _).drew ?_
      simp only [List.take_succ_cons, List.take_zero, List.drop_succ_cons, List.drop_zero]
      repeat (first | (apply wpG_on; rfl; (intro w' hS K hK; have hc0 := (kp.kept hS).lt; have hc1 := (ko.kept hS).lt; have hr0 := (K1.out.kept (hb.trans (hS.mono hb.size))).c3; have hr1 := (K2.out.kept (hb.trans (hS.mono hb.size))).c4; go_simp; (first | exact hK.out _ hS)); simp only [Act.put, List.setIfInBounds_toArray, List.set_cons_succ, List.set_cons_zero]) | (apply wpG_off; rfl; simp only [Act.put, List.setIfInBounds_toArray, List.set_cons_succ, List.set_cons_zero]))
      apply wpG_nil
      intro W12 hS
      replace kp := kp.kept hS
      replace ko := ko.kept hS
      replace hb := hb.trans (hS.mono hb.size)
      replace own := ownsKept own hS
      replace hbs : base ≤ W12.heap.size := Nat.le_trans hbs hS.size
      clear hS t1 t2 wz wn e5 e6 e7 e8
      have HO := Lib.hid own
      clear own
      go_step
      go_step
      go_step
      go_step
      go_cut [16] (fun s16 wx => s16 = .pointer (some ⟨xp, 0, none⟩) ∧ Hid (wx.ownsRow base 26 4 (.slice aq0 k cq0) k (pcF res k)) ∧ base ≤ wx.heap.size ∧ Blk wx xp (.cells #[.int .i64 r0, .int .i64 r1', .int .i64 r2', .int .i64 r3] 26 (0, 0)) ∧ Blk wx x (.cells #[.int .i64 W, .int .i64 H, .slice aq0 k cq0] 24 (0, 0)) ∧ Below W8.heap.size W8 wx)
      case first =>
        have g1 := HXI.out
        have g2 := HYI.out
        by_cases d1 : 0 ≤ xi
        rotate_left
        · have HR := R0k.out (.inl (by omega))
          simp only [Prod.mk.injEq] at HR
          obtain ⟨rfl, rfl, rfl, rfl⟩ := HR
          have c2 := (K2.out.kept hb).c4
          have c4 := (K4.out.kept hb).c3
          go_wp2_with fail
          go_meet
          exact ⟨rfl, HO, hbs, kp, ko, hb⟩
        by_cases d2 : xi < (wd : Int)
        rotate_left
        · have HR := R0k.out (.inl (by omega))
          simp only [Prod.mk.injEq] at HR
          obtain ⟨rfl, rfl, rfl, rfl⟩ := HR
          have c2 := (K2.out.kept hb).c4
          have c4 := (K4.out.kept hb).c3
          go_wp2_with fail
          go_meet
          exact ⟨rfl, HO, hbs, kp, ko, hb⟩
        by_cases d3 : 0 ≤ yi
        rotate_left
        · have HR := R0k.out (.inl (by omega))
          simp only [Prod.mk.injEq] at HR
          obtain ⟨rfl, rfl, rfl, rfl⟩ := HR
          have c2 := (K2.out.kept hb).c4
          have c4 := (K4.out.kept hb).c3
          go_wp2_with fail
          go_meet
          exact ⟨rfl, HO, hbs, kp, ko, hb⟩
        by_cases d4 : yi < (ht : Int)
        rotate_left
        · have HR := R0k.out (.inl (by omega))
          simp only [Prod.mk.injEq] at HR
          obtain ⟨rfl, rfl, rfl, rfl⟩ := HR
          have c2 := (K2.out.kept hb).c4
          have c4 := (K4.out.kept hb).c3
          go_wp2_with fail
          go_meet
          exact ⟨rfl, HO, hbs, kp, ko, hb⟩
        have BD := Lib.hid (fun w => refBorder_any xi yi (wd : Int) (ht : Int) w (by omega) (by omega))
        obtain ⟨B, hB⟩ : ∃ B, B = brdB xi yi (wd : Int) (ht : Int) := ⟨_, rfl⟩
        rw [← hB] at BD
        have HB := Lib.hid hB
        clear hB
        cases B
        rotate_left
        · have HR := R0k.out (.inl (fun h => by have := of_decide_eq_true HB.out.symm; omega))
          simp only [Prod.mk.injEq] at HR
          obtain ⟨rfl, rfl, rfl, rfl⟩ := HR
          have c2 := (K2.out.kept hb).c4
          have c4 := (K4.out.kept hb).c3
          go_wp2_with fail
          refine (BD.out _).mono ?_
          rintro e w' ⟨rfl, rfl⟩
          go_wp2_with fail
          go_meet
          exact ⟨rfl, HO, hbs, kp, ko, hb⟩
        by_cases hsv : sv = 0
        · subst hsv
          have HR := R0k.out (.inr rfl)
          simp only [Prod.mk.injEq] at HR
          obtain ⟨rfl, rfl, rfl, rfl⟩ := HR
          have c2 := (K2.out.kept hb).c4
          have c4 := (K4.out.kept hb).c3
          go_wp2_with fail
          refine (BD.out _).mono ?_
          rintro e w' ⟨rfl, rfl⟩
          go_wp2_with fail
          clear c2 c4
          refine (SEk.out _ (HM.out.kept (h0.trans (hb.mono h0.size)))).mono ?_
          rintro e W13 ⟨rfl, hS⟩
          replace HO := Lib.hid (ownsKept HO.out hS)
          replace hbs : base ≤ W13.heap.size := Nat.le_trans hbs hS.size
          replace kp := kp.kept hS
          replace ko := ko.kept hS
          replace hb := hb.trans (hS.mono hb.size)
          clear hS
          go_wp2_with fail
          go_meet
          exact ⟨rfl, HO, hbs, kp, ko, hb⟩
        · have hb6 := of_decide_eq_false HB.out.symm
          have bs : (sv != 0) = true := by simpa using hsv
          obtain ⟨hidx, g, s, hhi, hhN, hsg, hga, HPK, hres⟩ := R1k.out (by omega) (by omega) (by omega) (by omega) hsv
          have PK := Lib.hid HPK
          have VA := Lib.hid (fun w => refValues_any g w hga)
          rw [← hsg] at VA
          have hsb := fun c => cmp_prP c g
          rw [← hsg] at hsb
          have SB := Lib.hid hsb
          have HRES := Lib.hid hres
          have HHI := Lib.hid hhi
          clear hhi hsg hga HPK hsb hres hsv
          obtain ⟨sx, hsx⟩ : ∃ sx : Int, (rm : Int) + ox = sx := ⟨_, rfl⟩
          obtain ⟨sy, hsy⟩ : ∃ sy : Int, (qd : Int) + oy = sy := ⟨_, rfl⟩
          rw [hsx, hsy] at PK
          have hqd : (qd : Int) ≤ 256 := by omega
          have f1 : IntKind.i64.wrap ((X : Int) + xi) = (rm : Int) := by rw [show (X : Int) + xi = (rm : Int) by omega]; exact IntWalk.i64_in _ (by omega)
          have f2 : IntKind.i64.wrap ((rm : Int) + ox) = sx := by rw [hsx]; exact IntWalk.i64_in _ (by omega)
          have f3 : IntKind.i64.wrap ((Y : Int) + yi) = (qd : Int) := by rw [show (Y : Int) + yi = (qd : Int) by omega]; exact IntWalk.i64_in _ (by omega)
          have f4 : IntKind.i64.wrap ((qd : Int) + oy) = sy := by rw [hsy]; exact IntWalk.i64_in _ (by omega)
          obtain ⟨yw, hyw⟩ : ∃ yw : Int, yi * (wd : Int) = yw := ⟨_, rfl⟩
          have hyw2 : yw + xi = (hidx : Int) := by
            rw [← hyw, ← HHI.out, show yi = ((qd - Y : Nat) : Int) by omega, show xi = ((rm - X : Nat) : Int) by omega, ← Int.natCast_mul, ← Int.natCast_add]
          have hyw0 : 0 ≤ yw := by rw [← hyw]; exact Int.mul_nonneg (by omega) (by omega)
          have f5 : IntKind.i64.wrap (yi * (wd : Int)) = yw := by rw [hyw]; exact IntWalk.i64_in _ (by omega)
          have f6 : IntKind.i64.wrap (yw + xi) = (hidx : Int) := by rw [hyw2]; exact IntWalk.i64_in _ (by omega)
          clear hsx hsy hyw hyw2 hyw0 g1 g2 hb6
          have c2 := (K2.out.kept hb).c4
          have c4 := (K4.out.kept hb).c3
          go_wp2_with fail
          refine (BD.out _).mono ?_
          rintro e w' ⟨rfl, rfl⟩
          go_wp2_with fail
          clear c2 c4
          refine (SEk.out _ (HM.out.kept (h0.trans (hb.mono h0.size)))).mono ?_
          rintro e W13 ⟨rfl, hS⟩
          replace HO := Lib.hid (ownsKept HO.out hS)
          replace hbs : base ≤ W13.heap.size := Nat.le_trans hbs hS.size
          replace kp := kp.kept hS
          replace ko := ko.kept hS
          replace hb := hb.trans (hS.mono hb.size)
          clear hS
          have own := HO.out
          clear HO
          obtain ⟨g0, g1, g2, g3⟩ := g
          obtain ⟨r, hr⟩ : ∃ r : Nat → Int, r = fun c => cl (cmp c s + mc c hidx) := ⟨_, rfl⟩
          have ST := Lib.hid (fun w => refStraightx_any (r 0, r 1, r 2, r 3) w)
          have hst : stP (r 0, r 1, r 2, r 3) = heP s (mc 0 hidx, mc 1 hidx, mc 2 hidx, mc 3 hidx) := by rw [hr]; rfl
          rw [hst] at ST
          have HRr := Lib.hid (fun c => congrFun hr c)
          clear hr hst
          have MX := Lib.hid (fun w => refMixx_any (p0, p1, p2, p3) (heP s (mc 0 hidx, mc 1 hidx, mc 2 hidx, mc 3 hidx)) sv w)
          rw [← HRES.out] at MX
          generalize heP s (mc 0 hidx, mc 1 hidx, mc 2 hidx, mc 3 hidx) = hp at *
          obtain ⟨u0, u1, u2, u3⟩ := hp
          replace MX : Hid (∀ w, Calls Tryz.prog 38 #[pv p0 p1 p2 p3, pv u0 u1 u2 u3, .int .i64 sv] w fun e w' => e = .returned (pv r0 r1' r2' r3) ∧ Below w.heap.size w w') := MX
          replace ST : Hid (∀ w, Calls Tryz.prog 57 #[pv (r 0) (r 1) (r 2) (r 3)] w fun e w' => e = .returned (pv u0 u1 u2 u3) ∧ Below w.heap.size w w') := ST
          clear HRES
          obtain ⟨s0, s1, s2, s3⟩ := s
          replace PK : Hid (∀ w, Pn w (.slice (some ⟨b1, off1, none⟩) n ci) ps → Calls Tryz.prog 26 #[.agg #[.int .i64 W, .int .i64 H, .slice (some ⟨b1, off1, none⟩) n ci], .int .i64 sx, .int .i64 sy] w fun e w' => e = .returned (pv g0 g1 g2 g3) ∧ Below w.heap.size w w') := PK
          replace VA : Hid (∀ w, Calls Tryz.prog 56 #[pv g0 g1 g2 g3] w fun e w' => e = .returned (pv s0 s1 s2 s3) ∧ Below w.heap.size w w') := VA
          have c1 := (K1.out.kept hb).c3
          have c2 := (K2.out.kept hb).c4
          have c3 := (K3.out.kept hb).c2
          go_wp2_with fail
          clear c1 c2 c3 f1 f2 f3 f4
          refine (PK.out _ (HI.out.kept (h0.trans (hb.mono h0.size)))).mono ?_
          rintro e W14 ⟨rfl, hS⟩
          replace own := ownsKept own hS
          replace hbs : base ≤ W14.heap.size := Nat.le_trans hbs hS.size
          replace kp := kp.kept hS
          replace ko := ko.kept hS
          replace hb := hb.trans (hS.mono hb.size)
          clear hS
          go_wp2_with fail
          refine (VA.out _).mono ?_
          rintro e W15 ⟨rfl, hS⟩
          replace own := ownsKept own hS
          replace hbs : base ≤ W15.heap.size := Nat.le_trans hbs hS.size
          replace kp := kp.kept hS
          replace ko := ko.kept hS
          replace hb := hb.trans (hS.mono hb.size)
          clear hS
          go_upto_region 27 with (fail)
          refine name1 (fun W16 ks hS => ?_)
          obtain ⟨xs, hxs⟩ : ∃ xs, xs = W15.heap.size := ⟨_, rfl⟩
          rw [← hxs] at ks ⊢
          replace own := ownsKept own hS
          replace hbs : base ≤ W16.heap.size := Nat.le_trans hbs hS.size
          replace kp := kp.kept hS
          replace ko := ko.kept hS
          replace hb := hb.trans (hS.mono hb.size)
          have lxs := ks.lt
          clear hS hxs
          go_upto_region 28 with (fail)
          refine name1 (fun W17 kv hS => ?_)
          obtain ⟨xv, hxv⟩ : ∃ xv, xv = W16.heap.size := ⟨_, rfl⟩
          rw [← hxv] at kv ⊢
          have hv1 : W16.heap.size ≤ xv := by omega
          have hv2 : xs ≠ xv := by omega
          clear hxv
          have row0 : RowI W17 xv 4 (fun _ => 0) := rowI_blk4 (f := fun _ => 0) kv
          have row : RowI W17 xv 4 (fun i => if i < 0 then r i else 0) := row0.congr (fun i _ => by rw [if_neg (by omega)])
          clear kv row0
          have rs : RowI W16 xs 4 (fun c => cmp c (s0, s1, s2, s3)) := rowI_blk4 (f := fun c => cmp c (s0, s1, s2, s3)) ks
          clear ks
          have KS := Lib.hid rs
          have OW := Lib.hid own
          have KP := Lib.hid kp
          have KO := Lib.hid ko
          have h16 := hb
          have hbs16 := hbs
          have hb := hS
          clear rs own kp ko hS hbs
          go_wp2_with fail
          go_loopw [21] (fun i wr => ∃ j : Nat, j ≤ 4 ∧ i = .int .i64 j ∧ RowI wr xv 4 (fun i => if i < j then r i else 0) ∧ Below W16.heap.size W16 wr) (fun i _ => 4 - (intOf i).toNat)
          case atStart => exact ⟨0, Nat.zero_le _, rfl, row, hb⟩
          case round =>
            clear row hb
            obtain ⟨j, hj, rfl, row, hb⟩ := hrel
            by_cases hjl : j < 4
            · obtain ⟨bm, om, cpm, hqj, hmc⟩ := HQ.out j hjl
              have HMC := Lib.hid (fun w' h => hmc hidx hhN w' h)
              have hqc := fun w' h => (q4_c (q := q) (KM.out.kept (w' := w') h) j hjl).1
              rw [hqj] at hqc
              have HQC := Lib.hid hqc
              have HSC := Lib.hid (fun w' h => (KS.out.kept (w' := w') h).c j hjl)
              have bS := SB.out j
              have bM := MB.out j hidx
              have hrj := HRr.out j
              clear hmc hqc hqj
              have RC := Lib.hid (fun w' (h : RowI w' xv 4 (fun i => if i < j then r i else 0)) => h.c j hjl)
              simp only [Nat.lt_irrefl, if_false] at RC
              have RS := Lib.hid (fun w' (h : RowI w' xv 4 (fun i => if i < j then r i else 0)) => h.step (r := r) (p := fun _ => 0) hjl)
              generalize cmp j (s0, s1, s2, s3) = sj at *
              generalize mc j hidx = mj at *
              generalize r j = rj at *
              have e1 : IntKind.i64.wrap (sj + mj) = sj + mj := IntWalk.i64_in _ (by omega)
              have e2 : min (max (sj + mj) 0) 65535 = rj := by rw [hrj, Int.min_comm, cl_min]
              have e3 : min 65535 (max (sj + mj) 0) = rj := by rw [hrj, cl_min]
              clear hrj
              have j1 : (0 : Int) ≤ (j : Int) := by omega
              have j2 : (j : Int) < 4 := by omega
              have a1 : (0 : Int) ≤ (hidx : Int) := by omega
              have a2 : (hidx : Int) < (N : Int) := by omega
              go_upto_region 31 with (fail)
              have G := Lib.hid hb
              refine wp_region_grow 19 (fun w' => Below (World.heap wr).size wr w') (by kernel_rfl) (by kernel_rfl) (Below.refl _ _).drew ?_
              simp only [List.take_succ_cons, List.take_zero, List.drop_succ_cons, List.drop_zero]
              repeat (first | (apply wpG_on; rfl; (intro w' hS K hK; have hc0 := (row.kept hS).lt; have hr0 := (K2.out.kept (h16.trans ((G.out.trans (hS.mono G.out.size)).mono h16.size))).c4; have hr1 := RC.out _ (row.kept hS); have hr2 := HSC.out _ (G.out.trans (hS.mono G.out.size)); have hr3 := HQC.out _ (h16.trans ((G.out.trans (hS.mono G.out.size)).mono h16.size)); have hr4 := HMC.out _ (h16.trans ((G.out.trans (hS.mono G.out.size)).mono h16.size)); go_simp; (first | exact hK.out _ hS)); simp only [Act.put, List.setIfInBounds_toArray, List.set_cons_succ, List.set_cons_zero]) | (apply wpG_off; rfl; simp only [Act.put, List.setIfInBounds_toArray, List.set_cons_succ, List.set_cons_zero]))
              apply wpG_nil
              intro W18 hS
              replace row := row.kept hS
              replace hb := hb.trans (hS.mono hb.size)
              clear hS G
              have cr := RC.out _ row
              go_wp2_with fail
              go_roundw
              case rel => exact ⟨j + 1, by omega, by go_num, RS.out _ row, hb.setCell (p := ⟨xv, j, none⟩) (by show W16.heap.size ≤ xv; omega) _⟩
              case measure => simp only [intOf]; omega
            · obtain rfl : j = 4 := by omega
              have r4 := row.congr (f' := r) (fun i hi => if_pos hi)
              clear row
              have own := ownsKept OW.out hb
              have hbs : base ≤ wr.heap.size := Nat.le_trans hbs16 hb.size
              have kp := KP.out.kept hb
              have ko := KO.out.kept hb
              replace hb := h16.trans (hb.mono h16.size)
              have R4 := Lib.hid (fun w' (h : RowI w' xv 4 r) i hi => h.c i hi)
              go_upto_region 32 with (fail)
              have G := Lib.hid hb
              refine wp_region_grow 15 (fun w' => Below (World.heap wr).size wr w') (by kernel_rfl) (by kernel_rfl) (Below.refl _ _).drew ?_
              simp only [List.take_succ_cons, List.take_zero, List.drop_succ_cons, List.drop_zero]
              repeat (first | (apply wpG_on; rfl; (intro w' hS K hK; have hc0 := (kp.kept hS).c4; have hc1 := (r4.kept hS).lt; have hc2 := (ko.kept hS).lt; have hr0 := R4.out _ (r4.kept hS) 0 (by omega); have hr1 := R4.out _ (r4.kept hS) 1 (by omega); have hr2 := R4.out _ (r4.kept hS) 2 (by omega); have hr3 := R4.out _ (r4.kept hS) 3 (by omega); have hr4 := (K4.out.kept (hb.trans (hS.mono hb.size))).c3; go_simp; (first | exact hK.out _ hS | (go_at_call 57; (with_reducible refine (ST.out _).mono ?_); rintro e w'' ⟨rfl, hbb⟩; exact ⟨_, rfl, hK.out _ (hS.trans (hbb.mono hS.size))⟩) | (go_at_call 25; (with_reducible refine (SEk.out _ (HM.out.kept (h0.trans ((G.out.trans (hS.mono G.out.size)).mono h0.size)))).mono ?_); rintro e w'' ⟨rfl, hbb⟩; exact ⟨_, rfl, hK.out _ (hS.trans (hbb.mono hS.size))⟩) | (go_at_call 38; (with_reducible refine (MX.out _).mono ?_); rintro e w'' ⟨rfl, hbb⟩; exact ⟨_, rfl, hK.out _ (hS.trans (hbb.mono hS.size))⟩))); simp only [Act.put, List.setIfInBounds_toArray, List.set_cons_succ, List.set_cons_zero]) | (apply wpG_off; rfl; simp only [Act.put, List.setIfInBounds_toArray, List.set_cons_succ, List.set_cons_zero]))
              apply wpG_nil
              intro W18 hS
              replace kp := kp.kept hS
              replace r4 := r4.kept hS
              replace ko := ko.kept hS
              replace hb := hb.trans (hS.mono hb.size)
              replace own := ownsKept own hS
              replace hbs : base ≤ W18.heap.size := Nat.le_trans hbs hS.size
              clear hS G
              have cp := kp.c4
              go_wp2_with fail
              clear cp
              go_meet
              have ch := set4 kp (.int .i64 r0) (.int .i64 r1') (.int .i64 r2') (.int .i64 r3)
              exact ⟨rfl, Lib.hid (ownsOther own (fun i o h hB => ch.keeps i o h hB) hpo), by simpa using hbs, ch.blk, ch.keeps _ _ (by omega) ko, hb.trans (ch.below hxp)⟩
      case rest =>
      clear HO hbs kp ko hb
      obtain ⟨rfl, HO, hbs, kp, ko, hb⟩ := hcut
      obtain ⟨W13, hW13⟩ : ∃ W13, W13 = wc := ⟨_, rfl⟩
      rw [← hW13] at HO hbs kp ko hb ⊢
      clear hW13
      have own := HO.out
      clear HO
      have co := ko.c3
      have cp := kp.c4
      obtain ⟨i0, hi, hz0, hz1, hz2⟩ := info_parts infoPx
      have hbs2 : base ≤ (World.alloc W13 (.cells #[.int .i64 r0, .int .i64 r1', .int .i64 r2', .int .i64 r3] 26 (0, 0))).heap.size := by simp; omega
      go_wp2_with (at_builtin; refine wpList_append_own _ rfl _ _ 22 rfl base 26 i0 (pv 0 0 0 0) 4 32 Tryz.underlying22 hi hz0 hz1 hz2 rfl (by decide) _ _ _ rfl (own.alloc _) ⟨World.heap W13 |>.size, 0, none⟩ 1 1 [.int .i64 r0, .int .i64 r1', .int .i64 r2', .int .i64 r3] rfl rfl ?ca1 ?ca2 ?ca3 ?ca4 ?ca5 ?_)
      case ca1 => exact World.news_of_block (cs := #[.int .i64 r0, .int .i64 r1', .int .i64 r2', .int .i64 r3]) (t := 26) (fr := (0, 0)) (heap_alloc_new W13 _)
      case ca2 => simp [Value.oneCell']
      case ca3 => unfold maxLen; omega
      case ca4 => omega
      case ca5 => exact hbs2
      intro v' w7 own' grow' _
      have hno : ∀ b, b < base → (Value.slice aq0 k cq0).ownBlock ≠ some b := fun b hb' h => by have := (own.lt _ h).1; omega
      have hW8 := hb.size
      replace ko := (ko.alloc _).grown grow' (hno _ (by omega))
      replace hb : Below W8.heap.size W8 w7 := (hb.alloc hb.size _).grown grow' (by simp; omega) (fun b hb' => by have := (own.lt _ hb').1; omega)
      have hb7 : base ≤ w7.heap.size := Nat.le_trans hbs2 grow'.size
      obtain ⟨av', cv', rfl⟩ := own_slice own'
      clear co cp
      have co := ko.c3
      go_wp2_with fail
      go_roundw
      case rel =>
        refine ⟨k + 1, _, by omega, by go_num, ?_, by simpa using hb7, ko.set1 2 _ (by simp) rfl, hb.setCell (p := ⟨x, 2, none⟩) (by show W8.heap.size ≤ x; omega) _⟩
        rw [PS.out]
        exact own'.kept (row := some x) ⟨rfl, rfl, rfl, by simp, fun j hj hne => Below.heap_setCell _ _ _ _ (fun h => hne (by rw [h]))⟩ (.inr (fun h => by have := (own'.lt _ h).1; omega))
      case measure => simp [intOf]; omega
    · obtain rfl : k = n := by omega
      obtain ⟨av, cv', rfl⟩ := own_slice own
      have co := ko.c3
      have c5 := (K5.out.kept hb).c3
      replace hb := h0.trans (hb.mono h0.size)
      go_wp2_with fail
      clear co c1
      have PN : Hid (∀ w', w'.ownsRow base 26 4 (.slice av k cv') k (pcF res k) → Pn w' (.slice av k cv') out) := fun w' h => pn_of_own h OL.out (by omega) (fun i hi => OA.out i hi)
      have KK : ∀ (w' : World) (j : Nat) (u : Value), w'.ownsRow base 26 4 (.slice av k cv') k (pcF res k) → (w'.setCell ⟨w.heap.size + 1 + 1 + 1 + 1, j, none⟩ u).ownsRow base 26 4 (.slice av k cv') k (pcF res k) := fun w' j u h =>
        h.kept (row := some (w.heap.size + 1 + 1 + 1 + 1)) ⟨rfl, rfl, rfl, by simp, fun j hj hne => Below.heap_setCell _ _ _ _ (fun h => hne (by rw [h]))⟩ (.inr (fun h' => by have := (h.lt _ h').1; omega))
      refine bodyPost_ret (v := .tuple #[.agg #[.int .i64 W, .int .i64 H, .slice av k cv'], .int .i64 0]) (by simp [results, Tryz.results13, go_sem, c5]) rfl ⟨_, rfl, PN.out _ (KK _ _ _ (KK _ _ _ (KK _ _ _ own))), ((hb.setCell (by simp; omega) _).setCell (by simp; omega) _).setCell (by simp; omega) _⟩

set_option maxHeartbeats 32000000 in
set_option maxRecDepth 100000 in
theorem refHeal_good (W H X Y wd ht SX SY : Nat) (iv : Value) (ps : List Px) (ox oy mw mh : Int) (mv : Value) (zs : List Int) (w : World) (hI : Pn w iv ps) (hM : Nn w mv zs) (h1 : ichk W H ps = 0) (h2 : mchk mw mh zs = 0) (h3 : hRect W H X Y wd ht) (hox : (X : Int) + ox = SX) (hoy : (Y : Int) + oy = SY) (h4 : hOff W H X Y wd ht ox oy) (h5 : hSize W H wd ht mw mh) :
    Calls Tryz.prog 13 #[.agg #[.int .i64 W, .int .i64 H, iv], .agg #[.int .i64 X, .int .i64 Y, .int .i64 wd, .int .i64 ht], .agg #[.int .i64 ox, .int .i64 oy], .agg #[.int .i64 mw, .int .i64 mh, mv]] w fun e w' => ∃ q, e = .returned (.tuple #[.agg #[.int .i64 W, .int .i64 H, q], .int .i64 0]) ∧ Pn w' q (heals W wd ht X Y SX SY mw zs ps) ∧ Below w.heap.size w w' := by
  have HI := Lib.hid hI
  have HM := Lib.hid hM
  obtain ⟨ai, ci, rfl⟩ := hI.slice
  obtain ⟨am, cm, rfl, _⟩ := hM.slice
  have IC := Lib.hid (fun w h => refRasterCheck_any W H (.slice ai ps.length ci) ps w h)
  have MC := Lib.hid (fun w h => refMaskCheck_any mw mh (.slice am zs.length cm) zs w h)
  have RV : Hid (∀ w, Calls Tryz.prog 51 #[.agg #[.int .i64 X, .int .i64 Y, .int .i64 wd, .int .i64 ht]] w fun e w' => e = .returned (.bool (rValid X Y wd ht)) ∧ Below w.heap.size w w') := fun w => refRValid_any X Y wd ht w
  have RE := Lib.hid (fun w => refRemp_any X Y wd ht w)
  obtain ⟨-, p1, p2, p3, p4, -⟩ := ichk_len h1
  obtain ⟨hv, q1, q2, q3, q4, q5, q6⟩ := h3
  have hvv := (rOk_iff ((X : Int), (Y : Int), (wd : Int), (ht : Int))).1 hv
  simp only at hvv
  have he : rEmp ((X : Int), (Y : Int), (wd : Int), (ht : Int)) = false := by
    unfold rEmp
    rw [show rOk ((X : Int), (Y : Int), (wd : Int), (ht : Int)) = true from hv]
    simp only [Bool.not_true, Bool.false_or, Bool.or_eq_false_iff, beq_eq_false_iff_ne]
    exact ⟨q1, q2⟩
  have RW := Lib.hid (fun w => refInside_any X Y wd ht W H ai ps.length ci w he ⟨p1, p2⟩ ⟨p3, p4⟩)
  rw [show witB X Y wd ht W H = true from decide_eq_true ⟨q3, q4, q5, q6⟩] at RW
  rw [hv] at RV
  rw [he] at RE
  rw [h1] at IC
  rw [h2] at MC
  unfold hOff at h4
  obtain ⟨q7, q8, q9, q10⟩ := h4
  have d1 : ¬ ox < -256 := by omega
  have d2 : ¬ 256 < ox := by omega
  have d3 : ¬ oy < -256 := by omega
  have d4 : ¬ 256 < oy := by omega
  have he2 : rEmp ((X : Int) + ox, (Y : Int) + oy, wd, ht) = false := by
    unfold rEmp
    rw [show rOk ((X : Int) + ox, (Y : Int) + oy, wd, ht) = true from (rOk_iff _).2 (by simp only; omega)]
    simp only [Bool.not_true, Bool.false_or, Bool.or_eq_false_iff, beq_eq_false_iff_ne]
    exact ⟨q1, q2⟩
  have RW2 := Lib.hid (fun w => refInside_any ((X : Int) + ox) ((Y : Int) + oy) wd ht W H ai ps.length ci w he2 ⟨p1, p2⟩ ⟨p3, p4⟩)
  have n1 : IntKind.i64.wrap ((X : Int) + ox) = (X : Int) + ox := IntWalk.i64_in _ (by omega)
  have n2 : IntKind.i64.wrap ((Y : Int) + oy) = (Y : Int) + oy := IntWalk.i64_in _ (by omega)
  rw [show witB ((X : Int) + ox) ((Y : Int) + oy) wd ht W H = true from decide_eq_true ⟨q7, q8, q9, q10⟩] at RW2
  obtain ⟨z1, z2, z3⟩ := h5
  have f1 : ¬ (32 : Int) < wd := by omega
  have f2 : ¬ (32 : Int) < ht := by omega
  have hnl := (ichk_len h1).2.2.2.2.2
  have hn := (ichk_len h1).1
  have hpk := (ichk_px h1).2
  have hWH : ps.length = W * H := by have := Int.natCast_mul W H; omega
  obtain ⟨_, _, _, _, _, _, hzl⟩ := mchk_len h2
  have hzn : mw ≠ 0 → zs.length = ps.length := fun h0 => by
    obtain ⟨h5, h6⟩ : mw = W ∧ mh = H := by omega
    rw [h5, h6] at hzl
    omega
  have hS1 : SX + wd ≤ W := by omega
  have hS2 : SY + ht ≤ H := by omega
  have hX1 : X + wd ≤ W := by omega
  have hY1 : Y + ht ≤ H := by omega
  have hw1 : 1 ≤ wd ∧ wd ≤ 32 := by omega
  have hh1 : 1 ≤ ht ∧ ht ≤ 32 := by omega
  have SE := Lib.hid (fun k (hk : k < ps.length) w h => chosen_any mw mh (.slice am zs.length cm) zs k w h (fun h0 => by have := hzn h0; omega))
  have OL := Lib.hid (heals_len W wd ht X Y SX SY mw zs ps)
  have OA := Lib.hid (fun i hi => heals_at W wd ht X Y SX SY mw zs ps i hi)
  have MEM := Lib.hid (fun c (hc : c < 4) w h => membrane_any W H wd ht X Y SX SY (.slice ai ps.length ci) ps ox oy c w h hWH (by omega) (by omega) hpk hX1 hY1 hS1 hS2 hox hoy hw1 hh1 hc)
  have LL := Lib.hid (fun c => memL_at W wd ht X Y SX SY ps 64 c)
  have MB := Lib.hid (fun c i => mem_bd W wd ht X Y SX SY ps 64 c i)
  have hN : wd * ht ≤ 32 * 32 := Nat.mul_le_mul hw1.2 hh1.2
  have hN0 : 0 < wd * ht := by have := Nat.mul_le_mul hw1.1 hh1.1; omega
  have R0 : Hid (∀ k, k < ps.length → (¬ (X + 1 ≤ k % W ∧ k % W + 1 < X + wd ∧ Y + 1 ≤ k / W ∧ k / W + 1 < Y + ht) ∨ selK mw zs k = 0) → healAt W wd ht X Y SX SY mw zs ps k = pxAt ps k) := fun k _ h => by
    rcases h with h | h
    · exact healAt_out h
    · exact healAt_sel h
  have R1 : Hid (∀ k, k < ps.length → X + 1 ≤ k % W → k % W + 1 < X + wd → Y + 1 ≤ k / W → k / W + 1 < Y + ht → selK mw zs k ≠ 0 → ∃ (hi : Nat) (g s : Px), (k / W - Y) * wd + (k % W - X) = hi ∧ hi < wd * ht ∧ s = prP g ∧ cl g.2.2.2 = g.2.2.2 ∧ (∀ w, Pn w (.slice ai ps.length ci) ps → Calls Tryz.prog 26 #[.agg #[.int .i64 W, .int .i64 H, .slice ai ps.length ci], .int .i64 (((k % W : Nat) : Int) + ox), .int .i64 (((k / W : Nat) : Int) + oy)] w fun e w' => e = .returned (pvx g) ∧ Below w.heap.size w w') ∧ healAt W wd ht X Y SX SY mw zs ps k = mxP (pxAt ps k) (heP s (mem W wd ht X Y SX SY ps 64 0 hi, mem W wd ht X Y SX SY ps 64 1 hi, mem W wd ht X Y SX SY ps 64 2 hi, mem W wd ht X Y SX SY ps 64 3 hi)) (selK mw zs k)) := fun k _ a1 a2 a3 a4 hs => by
    refine ⟨hIdx W wd X Y k, pxAt ps (nIdx SX SY wd W (hIdx W wd X Y k)), _, rfl, ?_, rfl, ?_, fun w h => ?_, ?_⟩
    · show (k / W - Y) * wd + (k % W - X) < wd * ht
      have := Nat.mul_le_mul_right wd (show k / W - Y + 1 ≤ ht by omega)
      rw [Nat.add_mul, Nat.one_mul, Nat.mul_comm ht] at this
      omega
    · have e := atP_nIdx W H SX SY wd ht (k % W - X) (k / W - Y) ps (by omega) (by omega) hS1 hS2
      rw [show nIdx SX SY wd W (hIdx W wd X Y k) = nIdx SX SY wd W ((k / W - Y) * wd + (k % W - X)) from rfl, ← e]
      exact atP_alpha W H ps _ _ hWH hpk
    · have e := atP_nIdx W H SX SY wd ht (k % W - X) (k / W - Y) ps (by omega) (by omega) hS1 hS2
      rw [show nIdx SX SY wd W (hIdx W wd X Y k) = nIdx SX SY wd W ((k / W - Y) * wd + (k % W - X)) from rfl, ← e,
        show (((k % W : Nat) : Int) + ox) = (SX : Int) + ((k % W - X : Nat) : Int) by omega, show (((k / W : Nat) : Int) + oy) = (SY : Int) + ((k / W - Y : Nat) : Int) by omega]
      exact pick_any W H _ ps _ _ w h hWH (by omega) (by omega)
    · unfold healAt
      rw [if_pos ⟨⟨a1, a2, a3, a4⟩, hs⟩]
      rfl
  have hox2 : -256 ≤ ox ∧ ox ≤ 256 := by omega
  have hoy2 : -256 ≤ oy ∧ oy ≤ 256 := by omega
  have hW1 : 1 ≤ W := by omega
  have hW2 : W ≤ 256 := by omega
  have hH2 : H ≤ 256 := by omega
  have bz : (mw != 0) = false ∨ ((mw != 0) = true ∧ (mw != (W : Int)) = false ∧ (mh != (H : Int)) = false) := by
    by_cases h0 : mw = 0
    · exact .inl (by simpa using h0)
    · exact .inr ⟨by simpa using h0, by simp; omega, by simp; omega⟩
  have LN : Hid (∀ w a cp c, c < 4 → Nn w (.slice a (wd * ht) cp) (memL W wd ht X Y SX SY ps 64 c) → ∃ b off, a = some ⟨b, off, none⟩ ∧ ∀ i, i < wd * ht → ∀ w', Below w.heap.size w w' → w'.cell? ⟨b, off + i, none⟩ = some (.int .i64 (mem W wd ht X Y SX SY ps 64 c i))) := fun w a cp c _ h => by
    obtain ⟨b, off, ha, hc⟩ := nnAllB h hN0
    exact ⟨b, off, ha, fun i hi w' hb => by rw [← LL.out c i hi]; exact hc i hi w' hb⟩
  clear hI hM h1 h2 hv he hvv hnl hzl hzn z3 he2 hpk hWH LL hox hoy hS1 hS2 q1 q2 q3 q4 q5 q6 q7 q8 q9 q10 p1 p2 p3 p4 hN0
  generalize heals W wd ht X Y SX SY mw zs ps = out at *
  generalize healAt W wd ht X Y SX SY mw zs ps = res at *
  obtain ⟨mc, hmc⟩ : ∃ mc : Nat → Nat → Int, mc = fun c i => mem W wd ht X Y SX SY ps 64 c i := ⟨_, rfl⟩
  replace MB : Hid (∀ c i, -65535 ≤ mc c i ∧ mc c i ≤ 65535) := by rw [hmc]; exact MB
  replace LN : Hid (∀ w a cp c, c < 4 → Nn w (.slice a (wd * ht) cp) (memL W wd ht X Y SX SY ps 64 c) → ∃ b off, a = some ⟨b, off, none⟩ ∧ ∀ i, i < wd * ht → ∀ w', Below w.heap.size w w' → w'.cell? ⟨b, off + i, none⟩ = some (.int .i64 (mc c i))) := by rw [hmc]; exact LN
  replace R1 : Hid (∀ k, k < ps.length → X + 1 ≤ k % W → k % W + 1 < X + wd → Y + 1 ≤ k / W → k / W + 1 < Y + ht → selK mw zs k ≠ 0 → ∃ (hi : Nat) (g s : Px), (k / W - Y) * wd + (k % W - X) = hi ∧ hi < wd * ht ∧ s = prP g ∧ cl g.2.2.2 = g.2.2.2 ∧ (∀ w, Pn w (.slice ai ps.length ci) ps → Calls Tryz.prog 26 #[.agg #[.int .i64 W, .int .i64 H, .slice ai ps.length ci], .int .i64 (((k % W : Nat) : Int) + ox), .int .i64 (((k / W : Nat) : Int) + oy)] w fun e w' => e = .returned (pvx g) ∧ Below w.heap.size w w') ∧ res k = mxP (pxAt ps k) (heP s (mc 0 hi, mc 1 hi, mc 2 hi, mc 3 hi)) (selK mw zs k)) := by rw [hmc]; exact R1
  clear hmc
  generalize memL W wd ht X Y SX SY ps 64 = Lm at *
  generalize wd * ht = N at *
  generalize hnn : ps.length = n at *
  generalize zs.length = nz at *
  clear hnn
  go_enter Tryz.func13, Tryz.ntmps13
  go_upto_region 1 with (fail)
  refine name5 (fun W1 k1 k2 k3 k4 k5 hb => ?_)
  have c1 := k1.c3
  go_wp2_with fail
  clear c1
  refine (IC.out _ (HI.out.kept hb)).mono ?_
  rintro e W2 ⟨rfl, hS⟩
  replace k1 := k1.kept hS
  replace k2 := k2.kept hS
  replace k3 := k3.kept hS
  replace k4 := k4.kept hS
  replace k5 := k5.kept hS
  replace hb := hb.trans (hS.mono hb.size)
  clear hS
  have c4 := k4.c3
  go_wp2_with fail
  clear c4
  refine (MC.out _ (HM.out.kept hb)).mono ?_
  rintro e W3 ⟨rfl, hS⟩
  replace k1 := k1.kept hS
  replace k2 := k2.kept hS
  replace k3 := k3.kept hS
  replace k4 := k4.kept hS
  replace k5 := k5.kept hS
  replace hb := hb.trans (hS.mono hb.size)
  clear hS
  have c2 := k2.c4
  go_wp2_with fail
  clear c2
  refine (RV.out _).mono ?_
  rintro e W4 ⟨rfl, hS⟩
  replace k1 := k1.kept hS
  replace k2 := k2.kept hS
  replace k3 := k3.kept hS
  replace k4 := k4.kept hS
  replace k5 := k5.kept hS
  replace hb := hb.trans (hS.mono hb.size)
  clear hS
  have c2 := k2.c4
  go_wp2_with fail
  clear c2
  refine (RE.out _).mono ?_
  rintro e W5 ⟨rfl, hS⟩
  replace k1 := k1.kept hS
  replace k2 := k2.kept hS
  replace k3 := k3.kept hS
  replace k4 := k4.kept hS
  replace k5 := k5.kept hS
  replace hb := hb.trans (hS.mono hb.size)
  clear hS
  have c1 := k1.c3
  have c2 := k2.c4
  go_wp2_with fail
  clear c1 c2
  refine (RW.out _).mono ?_
  rintro e W6 ⟨rfl, hS⟩
  replace k1 := k1.kept hS
  replace k2 := k2.kept hS
  replace k3 := k3.kept hS
  replace k4 := k4.kept hS
  replace k5 := k5.kept hS
  replace hb := hb.trans (hS.mono hb.size)
  clear hS
  have c1 := k1.c3
  have c2 := k2.c4
  have c3 := k3.c2
  go_wp2_with fail
  clear c1 c2 c3
  refine (RW2.out _).mono ?_
  rintro e W7 ⟨rfl, hS⟩
  replace k1 := k1.kept hS
  replace k2 := k2.kept hS
  replace k3 := k3.kept hS
  replace k4 := k4.kept hS
  replace k5 := k5.kept hS
  replace hb := hb.trans (hS.mono hb.size)
  clear hS
  have h5l := k5.lt
  have c1 := k1.c3
  have c2 := k2.c4
  have c4 := k4.c3
  go_upto_region 11 with (fail)
  rcases bz with b0 | ⟨b0, b1, b2⟩
  all_goals
    go_upto_region 14 with (fail)
    clear c1 c2 c4
    refine name1 (fun W8 km hS => ?_)
    obtain ⟨xm, hxm⟩ : ∃ xm, xm = W7.heap.size := ⟨_, rfl⟩
    rw [← hxm] at km ⊢
    have hxm5 : w.heap.size + 1 + 1 + 1 + 1 < xm := by omega
    have hxm0 : w.heap.size ≤ xm := by omega
    clear hxm
    replace k1 := k1.kept hS
    replace k2 := k2.kept hS
    replace k3 := k3.kept hS
    replace k4 := k4.kept hS
    replace k5 := k5.kept hS
    replace hb := hb.trans (hS.mono hb.size)
    clear hS
    replace km : Blk W8 xm (.cells #[(fun _ => Value.slice none 0 0) 0, (fun _ => Value.slice none 0 0) 1, (fun _ => Value.slice none 0 0) 2, (fun _ => Value.slice none 0 0) 3] 82 (0, 0)) := km
    go_upto_block 0 with (fail)
    go_cut [13] (fun s13 wx => ∃ (q : Nat → Value), Hid (∀ c, c < 4 → ∃ b off cp, q c = .slice (some ⟨b, off, none⟩) N cp ∧ b ≠ xm ∧ ∀ i, i < N → wx.cell? ⟨b, off + i, none⟩ = some (.int .i64 (mc c i))) ∧ Blk wx w.heap.size (.cells #[.int .i64 W, .int .i64 H, .slice ai n ci] 24 (0, 0)) ∧ Blk wx (w.heap.size + 1) (.cells #[.int .i64 X, .int .i64 Y, .int .i64 wd, .int .i64 ht] 45 (0, 0)) ∧ Blk wx (w.heap.size + 1 + 1) (.cells #[.int .i64 ox, .int .i64 oy] 32 (0, 0)) ∧ Blk wx (w.heap.size + 1 + 1 + 1) (.cells #[.int .i64 mw, .int .i64 mh, .slice am nz cm] 35 (0, 0)) ∧ Blk wx (w.heap.size + 1 + 1 + 1 + 1) (.cells #[.int .i64 0, .int .i64 0, .slice none 0 0] 24 (0, 0)) ∧ Blk wx xm (.cells #[q 0, q 1, q 2, q 3] 82 (0, 0)) ∧ Below w.heap.size w wx)
    case first =>
      go_wp2_with fail
      go_loopw [13] (fun i wr => ∃ (j : Nat) (q : Nat → Value), j ≤ 4 ∧ i = .int .i64 j ∧ Hid (∀ c, c < j → ∃ b off cp, q c = .slice (some ⟨b, off, none⟩) N cp ∧ b ≠ xm ∧ ∀ i, i < N → wr.cell? ⟨b, off + i, none⟩ = some (.int .i64 (mc c i))) ∧ Blk wr w.heap.size (.cells #[.int .i64 W, .int .i64 H, .slice ai n ci] 24 (0, 0)) ∧ Blk wr (w.heap.size + 1) (.cells #[.int .i64 X, .int .i64 Y, .int .i64 wd, .int .i64 ht] 45 (0, 0)) ∧ Blk wr (w.heap.size + 1 + 1) (.cells #[.int .i64 ox, .int .i64 oy] 32 (0, 0)) ∧ Blk wr (w.heap.size + 1 + 1 + 1) (.cells #[.int .i64 mw, .int .i64 mh, .slice am nz cm] 35 (0, 0)) ∧ Blk wr (w.heap.size + 1 + 1 + 1 + 1) (.cells #[.int .i64 0, .int .i64 0, .slice none 0 0] 24 (0, 0)) ∧ Blk wr xm (.cells #[q 0, q 1, q 2, q 3] 82 (0, 0)) ∧ Below w.heap.size w wr) (fun i _ => 4 - (intOf i).toNat)
      case atStart => exact ⟨0, (fun _ => .slice none 0 0), Nat.zero_le _, rfl, Lib.hid (fun c h => absurd h (by omega)), k1, k2, k3, k4, k5, km, hb⟩
      case round =>
        clear k1 k2 k3 k4 k5 km hb
        obtain ⟨j, q, hj, rfl, HQ, k1, k2, k3, k4, k5, km, hb⟩ := hrel
        by_cases hjl : j < 4
        · have MJ := Lib.hid (MEM.out j hjl)
          have LJ := Lib.hid (fun w a cp h => LN.out w a cp j hjl h)
          have j1 : (0 : Int) ≤ (j : Int) := by omega
          have j2 : (j : Int) < 4 := by omega
          have c1 := k1.c3
          have c2 := k2.c4
          have c3 := k3.c2
          go_wp2_with fail
          clear c1 c2 c3
          refine (MJ.out _ (HI.out.kept hb)).mono ?_
          rintro e W9 ⟨a, cp, rfl, hm, hfr, hS⟩
          have hklm := km.lt
          obtain ⟨bm, om, rfl, hmm⟩ := LJ.out _ _ _ hm
          have HMM := Lib.hid hmm
          clear hm hmm
          have hbm : bm ≠ xm := by
            have := hfr bm om none N cp rfl
            omega
          have HQ2 : Hid (∀ c, c < j → ∃ b off cp, q c = .slice (some ⟨b, off, none⟩) N cp ∧ b ≠ xm ∧ ∀ i, i < N → W9.cell? ⟨b, off + i, none⟩ = some (.int .i64 (mc c i))) := fun c hc => by
            obtain ⟨b, off, cp, e1, e2, e3⟩ := HQ.out c hc
            exact ⟨b, off, cp, e1, e2, fun i hi => cell_keep (e3 i hi) hS⟩
          clear hfr hklm
          clear HQ
          replace k1 := k1.kept hS
          replace k2 := k2.kept hS
          replace k3 := k3.kept hS
          replace k4 := k4.kept hS
          replace k5 := k5.kept hS
          replace km := km.kept hS
          replace hb := hb.trans (hS.mono hb.size)
          clear hS
          have cm := q4_c km j hjl
          have KM := Lib.hid km
          clear km
          have xlm := KM.out.lt
          have Z : Hid (∀ (u : Value) (v : Value), Blk ((W9).setCell ⟨xm, j, none⟩ u) xm (.cells #[(fun c => if c = j then u else q c) 0, (fun c => if c = j then u else q c) 1, (fun c => if c = j then u else q c) 2, (fun c => if c = j then u else q c) 3] 82 (0, 0))) := fun u _ => q4_set KM.out j hjl u
          go_wp2_with fail
          go_roundw
          case rel =>
            refine ⟨j + 1, (fun c => if c = j then .slice (some ⟨bm, om, none⟩) N cp else q c), by omega, by go_num, ?_, k1.other (p := ⟨xm, j, none⟩) (by show _ ≠ xm; omega) _, k2.other (p := ⟨xm, j, none⟩) (by show _ ≠ xm; omega) _, k3.other (p := ⟨xm, j, none⟩) (by show _ ≠ xm; omega) _, k4.other (p := ⟨xm, j, none⟩) (by show _ ≠ xm; omega) _, k5.other (p := ⟨xm, j, none⟩) (by show _ ≠ xm; omega) _, Z.out _ (.bool true), hb.setCell (p := ⟨xm, j, none⟩) (by show w.heap.size ≤ xm; omega) _⟩
            show Hid _
            refine Lib.hid fun c hc => ?_
            by_cases hcj : c = j
            · subst hcj
              exact ⟨bm, om, cp, if_pos rfl, hbm, fun i hi => cell_other (HMM.out i hi W9 (Below.refl _ _)) hbm⟩
            · obtain ⟨b, off, cp', g1, g2, g3⟩ := HQ2.out c (by omega)
              exact ⟨b, off, cp', (if_neg hcj).trans g1, g2, fun i hi => cell_other (g3 i hi) g2⟩
          case measure => simp only [intOf]; omega
        · obtain rfl : j = 4 := by omega
          go_wp2_with fail
          go_meet
          exact ⟨q, HQ, k1, k2, k3, k4, k5, km, hb⟩
    case rest =>
    clear k1 k2 k3 k4 k5 km hb
    rename_i hk0
    obtain ⟨q, HQ, k1, k2, k3, k4, k5, km, hb⟩ := hcut
    have HQ3 : Hid (∀ c, c < 4 → ∃ b off cp, q c = .slice (some ⟨b, off, none⟩) N cp ∧ ∀ i, i < N → ∀ w', Below wc.heap.size wc w' → w'.cell? ⟨b, off + i, none⟩ = some (.int .i64 (mc c i))) := fun c hc => by
      obtain ⟨b, off, cp, g1, _, g3⟩ := HQ.out c hc
      exact ⟨b, off, cp, g1, fun i hi w' h => cell_keep (g3 i hi) h⟩
    refine hk0 _ _ (refHeal_tail W H wd ht N X Y n nz ai am ci cm ps ox oy mw mh zs w wc xm q mc res out (selK mw zs) HI HM hb k1 k2 k3 k4 k5 km hxm5 HQ3 MB OL OA SE R0 R1 hn hN hW1 hW2 hH2 hX1 hY1 hw1 hh1 hox2 hoy2)

/-- What imageeditor/imageeditorref29.Heal gives. -/
theorem refHeal_any (iw ih : Int) (iv : Value) (ps : List Px) (rx ry rw rh ox oy mw mh : Int) (mv : Value) (zs : List Int) (Wm Hm E : Int) (qs : List Px) (w : World) (hI : Pn w iv ps) (hM : Nn w mv zs) (ho : HealOut iw ih ps rx ry rw rh ox oy mw mh zs Wm Hm E qs) :
    Calls Tryz.prog 13 #[.agg #[.int .i64 iw, .int .i64 ih, iv], .agg #[.int .i64 rx, .int .i64 ry, .int .i64 rw, .int .i64 rh], .agg #[.int .i64 ox, .int .i64 oy], .agg #[.int .i64 mw, .int .i64 mh, mv]] w fun e w' => ∃ q, e = .returned (.tuple #[.agg #[.int .i64 Wm, .int .i64 Hm, q], .int .i64 E]) ∧ Pn w' q qs ∧ Below w.heap.size w w' := by
  have z : ∀ E', Calls Tryz.prog 13 #[.agg #[.int .i64 iw, .int .i64 ih, iv], .agg #[.int .i64 rx, .int .i64 ry, .int .i64 rw, .int .i64 rh], .agg #[.int .i64 ox, .int .i64 oy], .agg #[.int .i64 mw, .int .i64 mh, mv]] w (fun e w' => e = .returned (.tuple #[.agg #[.int .i64 0, .int .i64 0, .slice none 0 0], .int .i64 E']) ∧ Below w.heap.size w w') → Calls Tryz.prog 13 #[.agg #[.int .i64 iw, .int .i64 ih, iv], .agg #[.int .i64 rx, .int .i64 ry, .int .i64 rw, .int .i64 rh], .agg #[.int .i64 ox, .int .i64 oy], .agg #[.int .i64 mw, .int .i64 mh, mv]] w fun e w' => ∃ q, e = .returned (.tuple #[.agg #[.int .i64 0, .int .i64 0, q], .int .i64 E']) ∧ Pn w' q [] ∧ Below w.heap.size w w' := fun E' h => by
    refine h.mono ?_
    rintro e w' ⟨rfl, hb⟩
    exact ⟨_, rfl, Pn.nil _, hb⟩
  rcases ho with ⟨h1, rfl, rfl, rfl, rfl⟩ | ⟨h1, h2, rfl, rfl, rfl, rfl⟩ | ⟨h1, h2, h3, rfl, rfl, rfl, rfl⟩ | ⟨h1, h2, h3, h4, rfl, rfl, rfl, rfl⟩ | ⟨h1, h2, h3, h4, h5, rfl, rfl, rfl, rfl⟩ | ⟨h1, h2, h3, h4, h5, rfl, rfl, rfl, rfl⟩
  · exact z _ (refHeal_bad1 iw ih iv ps rx ry rw rh ox oy mw mh mv zs w hI hM h1)
  · exact z _ (refHeal_bad2 iw ih iv ps rx ry rw rh ox oy mw mh mv zs w hI hM h1 h2)
  · exact z _ (refHeal_bad3 iw ih iv ps rx ry rw rh ox oy mw mh mv zs w hI hM h1 h2 h3)
  · exact z _ (refHeal_bad4 iw ih iv ps rx ry rw rh ox oy mw mh mv zs w hI hM h1 h2 h3 h4)
  · exact z _ (refHeal_bad5 iw ih iv ps rx ry rw rh ox oy mw mh mv zs w hI hM h1 h2 h3 h4 h5)
  · obtain ⟨_, a1, _, a3, _, _⟩ := ichk_len h1
    obtain ⟨hv, q1, q2, q3, q4, q5, q6⟩ := h3
    have hvv := (rOk_iff (rx, ry, rw, rh)).1 hv
    simp only at hvv
    have h4' := h4
    obtain ⟨o1, _, o3, _⟩ := h4'
    obtain ⟨W, rfl⟩ : ∃ n : Nat, Wm = n := ⟨Wm.toNat, by omega⟩
    obtain ⟨H, rfl⟩ : ∃ n : Nat, Hm = n := ⟨Hm.toNat, by omega⟩
    obtain ⟨X, rfl⟩ : ∃ n : Nat, rx = n := ⟨rx.toNat, by omega⟩
    obtain ⟨Y, rfl⟩ : ∃ n : Nat, ry = n := ⟨ry.toNat, by omega⟩
    obtain ⟨wd, rfl⟩ : ∃ n : Nat, rw = n := ⟨rw.toNat, by omega⟩
    obtain ⟨ht, rfl⟩ : ∃ n : Nat, rh = n := ⟨rh.toNat, by omega⟩
    exact refHeal_good W H X Y wd ht ((X : Int) + ox).toNat ((Y : Int) + oy).toNat iv ps ox oy mw mh mv zs w hI hM h1 h2 ⟨hv, q1, q2, q3, q4, q5, q6⟩ (by omega) (by omega) h4 h5
end Go.Proofs.YtieacbccadbdbaaGreatDoor

