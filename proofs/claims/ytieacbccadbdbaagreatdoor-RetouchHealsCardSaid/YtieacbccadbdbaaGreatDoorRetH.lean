/- retouch.Heal (printed by genheal.py). -/
import Derived.Test.YtieacbccadbdbaaGreatDoorLRetH
import Derived.Test.YtieacbccadbdbaaGreatDoorLRetH
import Derived.Test.YtieacbccadbdbaaGreatDoorRetC
import Derived.Test.YtieacbccadbdbaaGreatDoorLRetB
import Derived.Test.YtieacbccadbdbaaGreatDoorLRect
import Derived.Deep.DeepCutAuto
import Derived.Deep.Cut
namespace Go.Proofs.YtieacbccadbdbaaGreatDoor
open Go.RowKit
set_option linter.unusedVariables false
attribute [local go_sem] Oper.gAt gUponK Oper.sAt stilK

theorem memC_bd (W w h X Y SX SY : Nat) (ps : List Px) (n j : Nat) : -65535 ≤ memC W w h X Y SX SY ps n j ∧ memC W w h X Y SX SY ps n j ≤ 65535 := mem_bd _ _ _ _ _ _ _ _ _ _ _
theorem memC_brd {W w h X Y SX SY : Nat} {ps : List Px} {n j : Nat} (hb : onBorder w h (j / 4) = true) : memC W w h X Y SX SY ps (n + 1) j = memC W w h X Y SX SY ps n j := by
  unfold memC
  rw [mem_succ]
  exact if_pos hb
theorem memC_mid {W w h X Y SX SY : Nat} {ps : List Px} {n k c : Nat} (hc : c < 4) (hb : onBorder w h k = false) :
    memC W w h X Y SX SY ps (n + 1) (k * 4 + c) = dv (memC W w h X Y SX SY ps n ((k - 1) * 4 + c) + memC W w h X Y SX SY ps n ((k + 1) * 4 + c) + memC W w h X Y SX SY ps n ((k - w) * 4 + c) + memC W w h X Y SX SY ps n ((k + w) * 4 + c)) 4 := by
  have a : ∀ k', (k' * 4 + c) % 4 = c ∧ (k' * 4 + c) / 4 = k' := fun k' => by omega
  unfold memC
  rw [(a k).1, (a k).2, (a (k - 1)).1, (a (k - 1)).2, (a (k + 1)).1, (a (k + 1)).2, (a (k - w)).1, (a (k - w)).2, (a (k + w)).1, (a (k + w)).2, mem_succ]
  exact if_neg (by rw [hb]; decide)
theorem memC_memP {W w h X Y SX SY : Nat} {ps : List Px} {k : Nat} : memP W w h X Y SX SY ps k = (memC W w h X Y SX SY ps 64 (k * 4), memC W w h X Y SX SY ps 64 (k * 4 + 1), memC W w h X Y SX SY ps 64 (k * 4 + 2), memC W w h X Y SX SY ps 64 (k * 4 + 3)) := by
  unfold memP memC
  rw [show (k * 4) % 4 = 0 by omega, show (k * 4) / 4 = k by omega, show (k * 4 + 1) % 4 = 1 by omega, show (k * 4 + 1) / 4 = k by omega, show (k * 4 + 2) % 4 = 2 by omega, show (k * 4 + 2) / 4 = k by omega, show (k * 4 + 3) % 4 = 3 by omega, show (k * 4 + 3) / 4 = k by omega]
theorem selK_bd {mw mh : Int} {zs : List Int} (h : mchk mw mh zs = 0) (k : Nat) (hk : mw ≠ 0 → k < zs.length) : 0 ≤ selK mw zs k ∧ selK mw zs k ≤ 65535 := by
  unfold selK
  split
  · omega
  · rename_i h0
    exact mchk_vals h k (hk h0)
theorem cmp_mem (s : Nat → Int) (hb : ∀ j, -65535 ≤ s j ∧ s j ≤ 65535) (a b d e c : Nat) : -65535 ≤ cmp c (s a, s b, s d, s e) ∧ cmp c (s a, s b, s d, s e) ≤ 65535 := by
  unfold cmp
  split
  · exact hb a
  · split
    · exact hb b
    · split
      · exact hb d
      · exact hb e

set_option maxHeartbeats 8000000 in
set_option maxRecDepth 100000 in
theorem heal_bad1 (iw ih : Int) (iv : Value) (ps : List Px) (rx ry rw rh ox oy mw mh : Int) (mv : Value) (zs : List Int) (w : World) (hI : Pn w iv ps) (hM : Nn w mv zs) (h1 : ichk iw ih ps ≠ 0) :
    Calls Tryz.prog 12 #[.agg #[.int .i64 iw, .int .i64 ih, iv], .agg #[.int .i64 rx, .int .i64 ry, .int .i64 rw, .int .i64 rh], .agg #[.int .i64 ox, .int .i64 oy], .agg #[.int .i64 mw, .int .i64 mh, mv]] w fun e w' => e = .returned (.tuple #[.agg #[.int .i64 0, .int .i64 0, .slice none 0 0], .int .i64 (ichk iw ih ps)]) ∧ Below w.heap.size w w' := by
  have HI := Lib.hid hI
  have HM := Lib.hid hM
  obtain ⟨ai, ci, rfl⟩ := hI.slice
  obtain ⟨am, cm, rfl, _⟩ := hM.slice
  have IC := Lib.hid (fun w h => rasterCheck_any iw ih (.slice ai ps.length ci) ps w h)
  have MC := Lib.hid (fun w h => maskCheck_any mw mh (.slice am zs.length cm) zs w h)
  have RV : Hid (∀ w, Calls Tryz.prog 41 #[.agg #[.int .i64 rx, .int .i64 ry, .int .i64 rw, .int .i64 rh]] w fun e w' => e = .returned (.bool (rValid rx ry rw rh)) ∧ Below w.heap.size w w') := fun w => rvalid_any rx ry rw rh w
  have RE := Lib.hid (fun w => remp_any rx ry rw rh w)
  have be : (ichk iw ih ps != 0) = true := by simpa using h1
  clear hI hM h1
  generalize ichk iw ih ps = E at *
  generalize ps.length = ni at *
  generalize zs.length = nz at *
  go_enter Tryz.func12, Tryz.ntmps12
  go_upto_region 1 with (fail)
  refine name5 (fun W1 k1 k2 k3 k4 k5 hb => ?_)
  have c1 := k1.c3
  go_wp2_with fail
  clear c1
  refine (IC.out _ (HI.out.kept hb)).mono ?_
  rintro e W2 ⟨rfl, hS⟩
  replace k1 := k1.kept hS
  replace k2 := k2.kept hS
  replace k3 := k3.kept hS
  replace k4 := k4.kept hS
  replace k5 := k5.kept hS
  replace hb := hb.trans (hS.mono hb.size)
  clear hS
  have c5 := k5.c3
  go_wp2_with fail
  exact bodyPost_ret (v := .tuple #[.agg #[.int .i64 0, .int .i64 0, .slice none 0 0], .int .i64 E]) (by simp [results, Tryz.results12, go_sem, c5]) rfl ⟨rfl, ((hb.setCell (by simp; omega) _).setCell (by simp; omega) _).setCell (by simp; omega) _⟩

set_option maxHeartbeats 8000000 in
set_option maxRecDepth 100000 in
theorem heal_bad2 (iw ih : Int) (iv : Value) (ps : List Px) (rx ry rw rh ox oy mw mh : Int) (mv : Value) (zs : List Int) (w : World) (hI : Pn w iv ps) (hM : Nn w mv zs) (h1 : ichk iw ih ps = 0) (h2 : mchk mw mh zs ≠ 0) :
    Calls Tryz.prog 12 #[.agg #[.int .i64 iw, .int .i64 ih, iv], .agg #[.int .i64 rx, .int .i64 ry, .int .i64 rw, .int .i64 rh], .agg #[.int .i64 ox, .int .i64 oy], .agg #[.int .i64 mw, .int .i64 mh, mv]] w fun e w' => e = .returned (.tuple #[.agg #[.int .i64 0, .int .i64 0, .slice none 0 0], .int .i64 (mchk mw mh zs)]) ∧ Below w.heap.size w w' := by
  have HI := Lib.hid hI
  have HM := Lib.hid hM
  obtain ⟨ai, ci, rfl⟩ := hI.slice
  obtain ⟨am, cm, rfl, _⟩ := hM.slice
  have IC := Lib.hid (fun w h => rasterCheck_any iw ih (.slice ai ps.length ci) ps w h)
  have MC := Lib.hid (fun w h => maskCheck_any mw mh (.slice am zs.length cm) zs w h)
  have RV : Hid (∀ w, Calls Tryz.prog 41 #[.agg #[.int .i64 rx, .int .i64 ry, .int .i64 rw, .int .i64 rh]] w fun e w' => e = .returned (.bool (rValid rx ry rw rh)) ∧ Below w.heap.size w w') := fun w => rvalid_any rx ry rw rh w
  have RE := Lib.hid (fun w => remp_any rx ry rw rh w)
  rw [h1] at IC
  have be : (mchk mw mh zs != 0) = true := by simpa using h2
  clear hI hM h1 h2
  generalize mchk mw mh zs = E at *
  generalize ps.length = ni at *
  generalize zs.length = nz at *
  go_enter Tryz.func12, Tryz.ntmps12
  go_upto_region 1 with (fail)
  refine name5 (fun W1 k1 k2 k3 k4 k5 hb => ?_)
  have c1 := k1.c3
  go_wp2_with fail
  clear c1
  refine (IC.out _ (HI.out.kept hb)).mono ?_
  rintro e W2 ⟨rfl, hS⟩
  replace k1 := k1.kept hS
  replace k2 := k2.kept hS
  replace k3 := k3.kept hS
  replace k4 := k4.kept hS
  replace k5 := k5.kept hS
  replace hb := hb.trans (hS.mono hb.size)
  clear hS
  have c4 := k4.c3
  go_wp2_with fail
  clear c4
  refine (MC.out _ (HM.out.kept hb)).mono ?_
  rintro e W3 ⟨rfl, hS⟩
  replace k1 := k1.kept hS
  replace k2 := k2.kept hS
  replace k3 := k3.kept hS
  replace k4 := k4.kept hS
  replace k5 := k5.kept hS
  replace hb := hb.trans (hS.mono hb.size)
  clear hS
  have c5 := k5.c3
  go_wp2_with fail
  exact bodyPost_ret (v := .tuple #[.agg #[.int .i64 0, .int .i64 0, .slice none 0 0], .int .i64 E]) (by simp [results, Tryz.results12, go_sem, c5]) rfl ⟨rfl, ((hb.setCell (by simp; omega) _).setCell (by simp; omega) _).setCell (by simp; omega) _⟩

set_option maxHeartbeats 8000000 in
set_option maxRecDepth 100000 in
theorem heal_bad3 (iw ih : Int) (iv : Value) (ps : List Px) (rx ry rw rh ox oy mw mh : Int) (mv : Value) (zs : List Int) (w : World) (hI : Pn w iv ps) (hM : Nn w mv zs) (h1 : ichk iw ih ps = 0) (h2 : mchk mw mh zs = 0) (h3 : ¬ hRect iw ih rx ry rw rh) :
    Calls Tryz.prog 12 #[.agg #[.int .i64 iw, .int .i64 ih, iv], .agg #[.int .i64 rx, .int .i64 ry, .int .i64 rw, .int .i64 rh], .agg #[.int .i64 ox, .int .i64 oy], .agg #[.int .i64 mw, .int .i64 mh, mv]] w fun e w' => e = .returned (.tuple #[.agg #[.int .i64 0, .int .i64 0, .slice none 0 0], .int .i64 2]) ∧ Below w.heap.size w w' := by
  have HI := Lib.hid hI
  have HM := Lib.hid hM
  obtain ⟨ai, ci, rfl⟩ := hI.slice
  obtain ⟨am, cm, rfl, _⟩ := hM.slice
  have IC := Lib.hid (fun w h => rasterCheck_any iw ih (.slice ai ps.length ci) ps w h)
  have MC := Lib.hid (fun w h => maskCheck_any mw mh (.slice am zs.length cm) zs w h)
  have RV : Hid (∀ w, Calls Tryz.prog 41 #[.agg #[.int .i64 rx, .int .i64 ry, .int .i64 rw, .int .i64 rh]] w fun e w' => e = .returned (.bool (rValid rx ry rw rh)) ∧ Below w.heap.size w w') := fun w => rvalid_any rx ry rw rh w
  have RE := Lib.hid (fun w => remp_any rx ry rw rh w)
  rw [h1] at IC
  rw [h2] at MC
  obtain ⟨-, p1, p2, p3, p4, -⟩ := ichk_len h1
  have hwh := (ichk_px h1).1
  unfold hRect at h3
  clear hI hM h1 h2
  generalize ps.length = ni at *
  generalize zs.length = nz at *
  cases hv : rValid rx ry rw rh with
  | false =>
    rw [hv] at RV
    clear h3 hv
    go_enter Tryz.func12, Tryz.ntmps12
    go_upto_region 1 with (fail)
    refine name5 (fun W1 k1 k2 k3 k4 k5 hb => ?_)
    have c1 := k1.c3
    go_wp2_with fail
    clear c1
    refine (IC.out _ (HI.out.kept hb)).mono ?_
    rintro e W2 ⟨rfl, hS⟩
    replace k1 := k1.kept hS
    replace k2 := k2.kept hS
    replace k3 := k3.kept hS
    replace k4 := k4.kept hS
    replace k5 := k5.kept hS
    replace hb := hb.trans (hS.mono hb.size)
    clear hS
    have c4 := k4.c3
    go_wp2_with fail
    clear c4
    refine (MC.out _ (HM.out.kept hb)).mono ?_
    rintro e W3 ⟨rfl, hS⟩
    replace k1 := k1.kept hS
    replace k2 := k2.kept hS
    replace k3 := k3.kept hS
    replace k4 := k4.kept hS
    replace k5 := k5.kept hS
    replace hb := hb.trans (hS.mono hb.size)
    clear hS
    have c2 := k2.c4
    go_wp2_with fail
    clear c2
    refine (RV.out _).mono ?_
    rintro e W4 ⟨rfl, hS⟩
    replace k1 := k1.kept hS
    replace k2 := k2.kept hS
    replace k3 := k3.kept hS
    replace k4 := k4.kept hS
    replace k5 := k5.kept hS
    replace hb := hb.trans (hS.mono hb.size)
    clear hS
    have c5 := k5.c3
    go_wp2_with fail
    exact bodyPost_ret (v := .tuple #[.agg #[.int .i64 0, .int .i64 0, .slice none 0 0], .int .i64 2]) (by simp [results, Tryz.results12, go_sem, c5]) rfl ⟨rfl, ((hb.setCell (by simp; omega) _).setCell (by simp; omega) _).setCell (by simp; omega) _⟩
  | true =>
    rw [hv] at RV
    cases he : rEmp (rx, ry, rw, rh) with
    | true =>
      rw [he] at RE
      clear h3 hv he
      go_enter Tryz.func12, Tryz.ntmps12
      go_upto_region 1 with (fail)
      refine name5 (fun W1 k1 k2 k3 k4 k5 hb => ?_)
      have c1 := k1.c3
      go_wp2_with fail
      clear c1
      refine (IC.out _ (HI.out.kept hb)).mono ?_
      rintro e W2 ⟨rfl, hS⟩
      replace k1 := k1.kept hS
      replace k2 := k2.kept hS
      replace k3 := k3.kept hS
      replace k4 := k4.kept hS
      replace k5 := k5.kept hS
      replace hb := hb.trans (hS.mono hb.size)
      clear hS
      have c4 := k4.c3
      go_wp2_with fail
      clear c4
      refine (MC.out _ (HM.out.kept hb)).mono ?_
      rintro e W3 ⟨rfl, hS⟩
      replace k1 := k1.kept hS
      replace k2 := k2.kept hS
      replace k3 := k3.kept hS
      replace k4 := k4.kept hS
      replace k5 := k5.kept hS
      replace hb := hb.trans (hS.mono hb.size)
      clear hS
      have c2 := k2.c4
      go_wp2_with fail
      clear c2
      refine (RV.out _).mono ?_
      rintro e W4 ⟨rfl, hS⟩
      replace k1 := k1.kept hS
      replace k2 := k2.kept hS
      replace k3 := k3.kept hS
      replace k4 := k4.kept hS
      replace k5 := k5.kept hS
      replace hb := hb.trans (hS.mono hb.size)
      clear hS
      have c2 := k2.c4
      go_wp2_with fail
      clear c2
      refine (RE.out _).mono ?_
      rintro e W5 ⟨rfl, hS⟩
      replace k1 := k1.kept hS
      replace k2 := k2.kept hS
      replace k3 := k3.kept hS
      replace k4 := k4.kept hS
      replace k5 := k5.kept hS
      replace hb := hb.trans (hS.mono hb.size)
      clear hS
      have c5 := k5.c3
      go_wp2_with fail
      exact bodyPost_ret (v := .tuple #[.agg #[.int .i64 0, .int .i64 0, .slice none 0 0], .int .i64 2]) (by simp [results, Tryz.results12, go_sem, c5]) rfl ⟨rfl, ((hb.setCell (by simp; omega) _).setCell (by simp; omega) _).setCell (by simp; omega) _⟩
    | false =>
      rw [he] at RE
      have RW := Lib.hid (fun w => withinRect_any rx ry rw rh iw ih w he ⟨p1, p2⟩ ⟨p3, p4⟩ hwh)
      have hn := rEmp_false he
      simp only at hn
      rw [show witB rx ry rw rh iw ih = false from decide_eq_false (fun h => h3 ⟨hv, by omega, by omega, h.1, h.2.1, h.2.2.1, h.2.2.2⟩)] at RW
      clear h3 hv he hn
      go_enter Tryz.func12, Tryz.ntmps12
      go_upto_region 1 with (fail)
      refine name5 (fun W1 k1 k2 k3 k4 k5 hb => ?_)
      have c1 := k1.c3
      go_wp2_with fail
      clear c1
      refine (IC.out _ (HI.out.kept hb)).mono ?_
      rintro e W2 ⟨rfl, hS⟩
      replace k1 := k1.kept hS
      replace k2 := k2.kept hS
      replace k3 := k3.kept hS
      replace k4 := k4.kept hS
      replace k5 := k5.kept hS
      replace hb := hb.trans (hS.mono hb.size)
      clear hS
      have c4 := k4.c3
      go_wp2_with fail
      clear c4
      refine (MC.out _ (HM.out.kept hb)).mono ?_
      rintro e W3 ⟨rfl, hS⟩
      replace k1 := k1.kept hS
      replace k2 := k2.kept hS
      replace k3 := k3.kept hS
      replace k4 := k4.kept hS
      replace k5 := k5.kept hS
      replace hb := hb.trans (hS.mono hb.size)
      clear hS
      have c2 := k2.c4
      go_wp2_with fail
      clear c2
      refine (RV.out _).mono ?_
      rintro e W4 ⟨rfl, hS⟩
      replace k1 := k1.kept hS
      replace k2 := k2.kept hS
      replace k3 := k3.kept hS
      replace k4 := k4.kept hS
      replace k5 := k5.kept hS
      replace hb := hb.trans (hS.mono hb.size)
      clear hS
      have c2 := k2.c4
      go_wp2_with fail
      clear c2
      refine (RE.out _).mono ?_
      rintro e W5 ⟨rfl, hS⟩
      replace k1 := k1.kept hS
      replace k2 := k2.kept hS
      replace k3 := k3.kept hS
      replace k4 := k4.kept hS
      replace k5 := k5.kept hS
      replace hb := hb.trans (hS.mono hb.size)
      clear hS
      have c1 := k1.c3
      have c2 := k2.c4
      go_wp2_with fail
      clear c1 c2
      refine (RW.out _).mono ?_
      rintro e W6 ⟨rfl, hS⟩
      replace k1 := k1.kept hS
      replace k2 := k2.kept hS
      replace k3 := k3.kept hS
      replace k4 := k4.kept hS
      replace k5 := k5.kept hS
      replace hb := hb.trans (hS.mono hb.size)
      clear hS
      have c5 := k5.c3
      go_wp2_with fail
      exact bodyPost_ret (v := .tuple #[.agg #[.int .i64 0, .int .i64 0, .slice none 0 0], .int .i64 2]) (by simp [results, Tryz.results12, go_sem, c5]) rfl ⟨rfl, ((hb.setCell (by simp; omega) _).setCell (by simp; omega) _).setCell (by simp; omega) _⟩

set_option maxHeartbeats 8000000 in
set_option maxRecDepth 100000 in
theorem heal_bad4 (iw ih : Int) (iv : Value) (ps : List Px) (rx ry rw rh ox oy mw mh : Int) (mv : Value) (zs : List Int) (w : World) (hI : Pn w iv ps) (hM : Nn w mv zs) (h1 : ichk iw ih ps = 0) (h2 : mchk mw mh zs = 0) (h3 : hRect iw ih rx ry rw rh) (h4 : ¬ hOff iw ih rx ry rw rh ox oy) :
    Calls Tryz.prog 12 #[.agg #[.int .i64 iw, .int .i64 ih, iv], .agg #[.int .i64 rx, .int .i64 ry, .int .i64 rw, .int .i64 rh], .agg #[.int .i64 ox, .int .i64 oy], .agg #[.int .i64 mw, .int .i64 mh, mv]] w fun e w' => e = .returned (.tuple #[.agg #[.int .i64 0, .int .i64 0, .slice none 0 0], .int .i64 2]) ∧ Below w.heap.size w w' := by
  have HI := Lib.hid hI
  have HM := Lib.hid hM
  obtain ⟨ai, ci, rfl⟩ := hI.slice
  obtain ⟨am, cm, rfl, _⟩ := hM.slice
  have IC := Lib.hid (fun w h => rasterCheck_any iw ih (.slice ai ps.length ci) ps w h)
  have MC := Lib.hid (fun w h => maskCheck_any mw mh (.slice am zs.length cm) zs w h)
  have RV : Hid (∀ w, Calls Tryz.prog 41 #[.agg #[.int .i64 rx, .int .i64 ry, .int .i64 rw, .int .i64 rh]] w fun e w' => e = .returned (.bool (rValid rx ry rw rh)) ∧ Below w.heap.size w w') := fun w => rvalid_any rx ry rw rh w
  have RE := Lib.hid (fun w => remp_any rx ry rw rh w)
  obtain ⟨-, p1, p2, p3, p4, -⟩ := ichk_len h1
  have hwh := (ichk_px h1).1
  obtain ⟨hv, q1, q2, q3, q4, q5, q6⟩ := h3
  have hvv := (rOk_iff (rx, ry, rw, rh)).1 hv
  simp only at hvv
  have he : rEmp (rx, ry, rw, rh) = false := by
    unfold rEmp
    rw [show rOk (rx, ry, rw, rh) = true from hv]
    simp only [Bool.not_true, Bool.false_or, Bool.or_eq_false_iff, beq_eq_false_iff_ne]
    exact ⟨q1, q2⟩
  have RW := Lib.hid (fun w => withinRect_any rx ry rw rh iw ih w he ⟨p1, p2⟩ ⟨p3, p4⟩ hwh)
  rw [show witB rx ry rw rh iw ih = true from decide_eq_true ⟨q3, q4, q5, q6⟩] at RW
  rw [hv] at RV
  rw [he] at RE
  rw [h1] at IC
  rw [h2] at MC
  have n1 : IntKind.i64.wrap (-rx) = -rx := IntWalk.i64_in _ (by omega)
  have n2 : IntKind.i64.wrap (-ry) = -ry := IntWalk.i64_in _ (by omega)
  have n3 : IntKind.i64.wrap (iw - rw) = iw - rw := IntWalk.i64_in _ (by omega)
  have n4 : IntKind.i64.wrap (iw - rw - rx) = iw - rw - rx := IntWalk.i64_in _ (by omega)
  have n5 : IntKind.i64.wrap (ih - rh) = ih - rh := IntWalk.i64_in _ (by omega)
  have n6 : IntKind.i64.wrap (ih - rh - ry) = ih - rh - ry := IntWalk.i64_in _ (by omega)
  unfold hOff at h4
  have c : ox < -rx ∨ (¬ ox < -rx ∧ iw - rw - rx < ox) ∨ (¬ ox < -rx ∧ ¬ iw - rw - rx < ox ∧ oy < -ry) ∨ (¬ ox < -rx ∧ ¬ iw - rw - rx < ox ∧ ¬ oy < -ry ∧ ih - rh - ry < oy) := by omega
  clear hI hM h1 h2 hv he hvv h4 hwh q1 q2 q3 q4 q5 q6 p1 p2 p3 p4
  generalize ps.length = ni at *
  generalize zs.length = nz at *
  go_enter Tryz.func12, Tryz.ntmps12
  go_upto_region 1 with (fail)
  refine name5 (fun W1 k1 k2 k3 k4 k5 hb => ?_)
  have c1 := k1.c3
  go_wp2_with fail
  clear c1
  refine (IC.out _ (HI.out.kept hb)).mono ?_
  rintro e W2 ⟨rfl, hS⟩
  replace k1 := k1.kept hS
  replace k2 := k2.kept hS
  replace k3 := k3.kept hS
  replace k4 := k4.kept hS
  replace k5 := k5.kept hS
  replace hb := hb.trans (hS.mono hb.size)
  clear hS
  have c4 := k4.c3
  go_wp2_with fail
  clear c4
  refine (MC.out _ (HM.out.kept hb)).mono ?_
  rintro e W3 ⟨rfl, hS⟩
  replace k1 := k1.kept hS
  replace k2 := k2.kept hS
  replace k3 := k3.kept hS
  replace k4 := k4.kept hS
  replace k5 := k5.kept hS
  replace hb := hb.trans (hS.mono hb.size)
  clear hS
  have c2 := k2.c4
  go_wp2_with fail
  clear c2
  refine (RV.out _).mono ?_
  rintro e W4 ⟨rfl, hS⟩
  replace k1 := k1.kept hS
  replace k2 := k2.kept hS
  replace k3 := k3.kept hS
  replace k4 := k4.kept hS
  replace k5 := k5.kept hS
  replace hb := hb.trans (hS.mono hb.size)
  clear hS
  have c2 := k2.c4
  go_wp2_with fail
  clear c2
  refine (RE.out _).mono ?_
  rintro e W5 ⟨rfl, hS⟩
  replace k1 := k1.kept hS
  replace k2 := k2.kept hS
  replace k3 := k3.kept hS
  replace k4 := k4.kept hS
  replace k5 := k5.kept hS
  replace hb := hb.trans (hS.mono hb.size)
  clear hS
  have c1 := k1.c3
  have c2 := k2.c4
  go_wp2_with fail
  clear c1 c2
  refine (RW.out _).mono ?_
  rintro e W6 ⟨rfl, hS⟩
  replace k1 := k1.kept hS
  replace k2 := k2.kept hS
  replace k3 := k3.kept hS
  replace k4 := k4.kept hS
  replace k5 := k5.kept hS
  replace hb := hb.trans (hS.mono hb.size)
  clear hS
  have c1 := k1.c3
  have c2 := k2.c4
  have c3 := k3.c2
  rcases c with d1 | ⟨d1, d2⟩ | ⟨d1, d2, d3⟩ | ⟨d1, d2, d3, d4⟩
  · have c5 := k5.c3
    go_wp2_with fail
    exact bodyPost_ret (v := .tuple #[.agg #[.int .i64 0, .int .i64 0, .slice none 0 0], .int .i64 2]) (by simp [results, Tryz.results12, go_sem, c5]) rfl ⟨rfl, ((hb.setCell (by simp; omega) _).setCell (by simp; omega) _).setCell (by simp; omega) _⟩
  · have c5 := k5.c3
    go_wp2_with fail
    exact bodyPost_ret (v := .tuple #[.agg #[.int .i64 0, .int .i64 0, .slice none 0 0], .int .i64 2]) (by simp [results, Tryz.results12, go_sem, c5]) rfl ⟨rfl, ((hb.setCell (by simp; omega) _).setCell (by simp; omega) _).setCell (by simp; omega) _⟩
  · have c5 := k5.c3
    go_wp2_with fail
    exact bodyPost_ret (v := .tuple #[.agg #[.int .i64 0, .int .i64 0, .slice none 0 0], .int .i64 2]) (by simp [results, Tryz.results12, go_sem, c5]) rfl ⟨rfl, ((hb.setCell (by simp; omega) _).setCell (by simp; omega) _).setCell (by simp; omega) _⟩
  · have c5 := k5.c3
    go_wp2_with fail
    exact bodyPost_ret (v := .tuple #[.agg #[.int .i64 0, .int .i64 0, .slice none 0 0], .int .i64 2]) (by simp [results, Tryz.results12, go_sem, c5]) rfl ⟨rfl, ((hb.setCell (by simp; omega) _).setCell (by simp; omega) _).setCell (by simp; omega) _⟩

set_option maxHeartbeats 8000000 in
set_option maxRecDepth 100000 in
theorem heal_bad5 (iw ih : Int) (iv : Value) (ps : List Px) (rx ry rw rh ox oy mw mh : Int) (mv : Value) (zs : List Int) (w : World) (hI : Pn w iv ps) (hM : Nn w mv zs) (h1 : ichk iw ih ps = 0) (h2 : mchk mw mh zs = 0) (h3 : hRect iw ih rx ry rw rh) (h4 : hOff iw ih rx ry rw rh ox oy) (h5 : ¬ hSize iw ih rw rh mw mh) :
    Calls Tryz.prog 12 #[.agg #[.int .i64 iw, .int .i64 ih, iv], .agg #[.int .i64 rx, .int .i64 ry, .int .i64 rw, .int .i64 rh], .agg #[.int .i64 ox, .int .i64 oy], .agg #[.int .i64 mw, .int .i64 mh, mv]] w fun e w' => e = .returned (.tuple #[.agg #[.int .i64 0, .int .i64 0, .slice none 0 0], .int .i64 15]) ∧ Below w.heap.size w w' := by
  have HI := Lib.hid hI
  have HM := Lib.hid hM
  obtain ⟨ai, ci, rfl⟩ := hI.slice
  obtain ⟨am, cm, rfl, _⟩ := hM.slice
  have IC := Lib.hid (fun w h => rasterCheck_any iw ih (.slice ai ps.length ci) ps w h)
  have MC := Lib.hid (fun w h => maskCheck_any mw mh (.slice am zs.length cm) zs w h)
  have RV : Hid (∀ w, Calls Tryz.prog 41 #[.agg #[.int .i64 rx, .int .i64 ry, .int .i64 rw, .int .i64 rh]] w fun e w' => e = .returned (.bool (rValid rx ry rw rh)) ∧ Below w.heap.size w w') := fun w => rvalid_any rx ry rw rh w
  have RE := Lib.hid (fun w => remp_any rx ry rw rh w)
  obtain ⟨-, p1, p2, p3, p4, -⟩ := ichk_len h1
  have hwh := (ichk_px h1).1
  obtain ⟨hv, q1, q2, q3, q4, q5, q6⟩ := h3
  have hvv := (rOk_iff (rx, ry, rw, rh)).1 hv
  simp only at hvv
  have he : rEmp (rx, ry, rw, rh) = false := by
    unfold rEmp
    rw [show rOk (rx, ry, rw, rh) = true from hv]
    simp only [Bool.not_true, Bool.false_or, Bool.or_eq_false_iff, beq_eq_false_iff_ne]
    exact ⟨q1, q2⟩
  have RW := Lib.hid (fun w => withinRect_any rx ry rw rh iw ih w he ⟨p1, p2⟩ ⟨p3, p4⟩ hwh)
  rw [show witB rx ry rw rh iw ih = true from decide_eq_true ⟨q3, q4, q5, q6⟩] at RW
  rw [hv] at RV
  rw [he] at RE
  rw [h1] at IC
  rw [h2] at MC
  have n1 : IntKind.i64.wrap (-rx) = -rx := IntWalk.i64_in _ (by omega)
  have n2 : IntKind.i64.wrap (-ry) = -ry := IntWalk.i64_in _ (by omega)
  have n3 : IntKind.i64.wrap (iw - rw) = iw - rw := IntWalk.i64_in _ (by omega)
  have n4 : IntKind.i64.wrap (iw - rw - rx) = iw - rw - rx := IntWalk.i64_in _ (by omega)
  have n5 : IntKind.i64.wrap (ih - rh) = ih - rh := IntWalk.i64_in _ (by omega)
  have n6 : IntKind.i64.wrap (ih - rh - ry) = ih - rh - ry := IntWalk.i64_in _ (by omega)
  unfold hOff at h4
  have d1 : ¬ ox < -rx := by omega
  have d2 : ¬ iw - rw - rx < ox := by omega
  have d3 : ¬ oy < -ry := by omega
  have d4 : ¬ ih - rh - ry < oy := by omega
  unfold hSize at h5
  have FT := Lib.hid (fun w => fits_any mw mh iw ih (.slice am zs.length cm) (.slice ai ps.length ci) w)
  have c : 32 < rw ∨ (¬ 32 < rw ∧ 32 < rh) ∨ (¬ 32 < rw ∧ ¬ 32 < rh ∧ fitB mw mh iw ih = false) := by
    by_cases a : 32 < rw
    · exact .inl a
    · by_cases b : 32 < rh
      · exact .inr (.inl ⟨a, b⟩)
      · exact .inr (.inr ⟨a, b, decide_eq_false (by omega)⟩)
  clear hI hM h1 h2 hv he hvv h4 h5 hwh q1 q2 q3 q4 q5 q6 p1 p2 p3 p4
  generalize ps.length = ni at *
  generalize zs.length = nz at *
  go_enter Tryz.func12, Tryz.ntmps12
  go_upto_region 1 with (fail)
  refine name5 (fun W1 k1 k2 k3 k4 k5 hb => ?_)
  have c1 := k1.c3
  go_wp2_with fail
  clear c1
  refine (IC.out _ (HI.out.kept hb)).mono ?_
  rintro e W2 ⟨rfl, hS⟩
  replace k1 := k1.kept hS
  replace k2 := k2.kept hS
  replace k3 := k3.kept hS
  replace k4 := k4.kept hS
  replace k5 := k5.kept hS
  replace hb := hb.trans (hS.mono hb.size)
  clear hS
  have c4 := k4.c3
  go_wp2_with fail
  clear c4
  refine (MC.out _ (HM.out.kept hb)).mono ?_
  rintro e W3 ⟨rfl, hS⟩
  replace k1 := k1.kept hS
  replace k2 := k2.kept hS
  replace k3 := k3.kept hS
  replace k4 := k4.kept hS
  replace k5 := k5.kept hS
  replace hb := hb.trans (hS.mono hb.size)
  clear hS
  have c2 := k2.c4
  go_wp2_with fail
  clear c2
  refine (RV.out _).mono ?_
  rintro e W4 ⟨rfl, hS⟩
  replace k1 := k1.kept hS
  replace k2 := k2.kept hS
  replace k3 := k3.kept hS
  replace k4 := k4.kept hS
  replace k5 := k5.kept hS
  replace hb := hb.trans (hS.mono hb.size)
  clear hS
  have c2 := k2.c4
  go_wp2_with fail
  clear c2
  refine (RE.out _).mono ?_
  rintro e W5 ⟨rfl, hS⟩
  replace k1 := k1.kept hS
  replace k2 := k2.kept hS
  replace k3 := k3.kept hS
  replace k4 := k4.kept hS
  replace k5 := k5.kept hS
  replace hb := hb.trans (hS.mono hb.size)
  clear hS
  have c1 := k1.c3
  have c2 := k2.c4
  go_wp2_with fail
  clear c1 c2
  refine (RW.out _).mono ?_
  rintro e W6 ⟨rfl, hS⟩
  replace k1 := k1.kept hS
  replace k2 := k2.kept hS
  replace k3 := k3.kept hS
  replace k4 := k4.kept hS
  replace k5 := k5.kept hS
  replace hb := hb.trans (hS.mono hb.size)
  clear hS
  have c1 := k1.c3
  have c2 := k2.c4
  have c3 := k3.c2
  have c4 := k4.c3
  rcases c with f1 | ⟨f1, f2⟩ | ⟨f1, f2, f3⟩
  · have c5 := k5.c3
    go_wp2_with fail
    exact bodyPost_ret (v := .tuple #[.agg #[.int .i64 0, .int .i64 0, .slice none 0 0], .int .i64 15]) (by simp [results, Tryz.results12, go_sem, c5]) rfl ⟨rfl, ((hb.setCell (by simp; omega) _).setCell (by simp; omega) _).setCell (by simp; omega) _⟩
  · have c5 := k5.c3
    go_wp2_with fail
    exact bodyPost_ret (v := .tuple #[.agg #[.int .i64 0, .int .i64 0, .slice none 0 0], .int .i64 15]) (by simp [results, Tryz.results12, go_sem, c5]) rfl ⟨rfl, ((hb.setCell (by simp; omega) _).setCell (by simp; omega) _).setCell (by simp; omega) _⟩
  · rw [f3] at FT
    go_wp2_with fail
    clear c1 c2 c3 c4
    refine (FT.out _).mono ?_
    rintro e W7 ⟨rfl, hS⟩
    replace k1 := k1.kept hS
    replace k2 := k2.kept hS
    replace k3 := k3.kept hS
    replace k4 := k4.kept hS
    replace k5 := k5.kept hS
    replace hb := hb.trans (hS.mono hb.size)
    clear hS
    have c5 := k5.c3
    go_wp2_with fail
    exact bodyPost_ret (v := .tuple #[.agg #[.int .i64 0, .int .i64 0, .slice none 0 0], .int .i64 15]) (by simp [results, Tryz.results12, go_sem, c5]) rfl ⟨rfl, ((hb.setCell (by simp; omega) _).setCell (by simp; omega) _).setCell (by simp; omega) _⟩

set_option maxHeartbeats 32000000 in
set_option maxRecDepth 100000 in
theorem heal_good (W H X Y wd ht SX SY : Nat) (iv : Value) (ps : List Px) (ox oy mw mh : Int) (mv : Value) (zs : List Int) (w : World) (hI : Pn w iv ps) (hM : Nn w mv zs) (h1 : ichk W H ps = 0) (h2 : mchk mw mh zs = 0) (h3 : hRect W H X Y wd ht) (hox : (X : Int) + ox = SX) (hoy : (Y : Int) + oy = SY) (h4 : hOff W H X Y wd ht ox oy) (h5 : hSize W H wd ht mw mh) :
    Calls Tryz.prog 12 #[.agg #[.int .i64 W, .int .i64 H, iv], .agg #[.int .i64 X, .int .i64 Y, .int .i64 wd, .int .i64 ht], .agg #[.int .i64 ox, .int .i64 oy], .agg #[.int .i64 mw, .int .i64 mh, mv]] w fun e w' => ∃ q, e = .returned (.tuple #[.agg #[.int .i64 W, .int .i64 H, q], .int .i64 0]) ∧ Pn w' q (heals W wd ht X Y SX SY mw zs ps) ∧ Fresh w.heap.size q ∧ Below w.heap.size w w' := by
  have HI := Lib.hid hI
  have HM := Lib.hid hM
  obtain ⟨ai, ci, rfl⟩ := hI.slice
  obtain ⟨am, cm, rfl, _⟩ := hM.slice
  have IC := Lib.hid (fun w h => rasterCheck_any W H (.slice ai ps.length ci) ps w h)
  have MC := Lib.hid (fun w h => maskCheck_any mw mh (.slice am zs.length cm) zs w h)
  have RV : Hid (∀ w, Calls Tryz.prog 41 #[.agg #[.int .i64 X, .int .i64 Y, .int .i64 wd, .int .i64 ht]] w fun e w' => e = .returned (.bool (rValid X Y wd ht)) ∧ Below w.heap.size w w') := fun w => rvalid_any X Y wd ht w
  have RE := Lib.hid (fun w => remp_any X Y wd ht w)
  obtain ⟨-, p1, p2, p3, p4, -⟩ := ichk_len h1
  have hwh := (ichk_px h1).1
  obtain ⟨hv, q1, q2, q3, q4, q5, q6⟩ := h3
  have hvv := (rOk_iff ((X : Int), (Y : Int), (wd : Int), (ht : Int))).1 hv
  simp only at hvv
  have he : rEmp ((X : Int), (Y : Int), (wd : Int), (ht : Int)) = false := by
    unfold rEmp
    rw [show rOk ((X : Int), (Y : Int), (wd : Int), (ht : Int)) = true from hv]
    simp only [Bool.not_true, Bool.false_or, Bool.or_eq_false_iff, beq_eq_false_iff_ne]
    exact ⟨q1, q2⟩
  have RW := Lib.hid (fun w => withinRect_any X Y wd ht W H w he ⟨p1, p2⟩ ⟨p3, p4⟩ hwh)
  rw [show witB X Y wd ht W H = true from decide_eq_true ⟨q3, q4, q5, q6⟩] at RW
  rw [hv] at RV
  rw [he] at RE
  rw [h1] at IC
  rw [h2] at MC
  have n1 : IntKind.i64.wrap (-(X : Int)) = -(X : Int) := IntWalk.i64_in _ (by omega)
  have n2 : IntKind.i64.wrap (-(Y : Int)) = -(Y : Int) := IntWalk.i64_in _ (by omega)
  have n3 : IntKind.i64.wrap ((W : Int) - wd) = (W : Int) - wd := IntWalk.i64_in _ (by omega)
  have n4 : IntKind.i64.wrap ((W : Int) - wd - X) = (W : Int) - wd - X := IntWalk.i64_in _ (by omega)
  have n5 : IntKind.i64.wrap ((H : Int) - ht) = (H : Int) - ht := IntWalk.i64_in _ (by omega)
  have n6 : IntKind.i64.wrap ((H : Int) - ht - Y) = (H : Int) - ht - Y := IntWalk.i64_in _ (by omega)
  unfold hOff at h4
  obtain ⟨q7, q8, q9, q10⟩ := h4
  have d1 : ¬ ox < -(X : Int) := by omega
  have d2 : ¬ (W : Int) - wd - X < ox := by omega
  have d3 : ¬ oy < -(Y : Int) := by omega
  have d4 : ¬ (H : Int) - ht - Y < oy := by omega
  obtain ⟨z1, z2, z3⟩ := h5
  have f1 : ¬ (32 : Int) < wd := by omega
  have f2 : ¬ (32 : Int) < ht := by omega
  have FT := Lib.hid (fun w => fits_any mw mh W H (.slice am zs.length cm) (.slice ai ps.length ci) w)
  rw [show fitB mw mh W H = true from decide_eq_true z3] at FT
  have hnl := (ichk_len h1).2.2.2.2.2
  have hn := (ichk_len h1).1
  have hWH : ps.length = W * H := by have := Int.natCast_mul W H; omega
  obtain ⟨_, _, _, _, _, _, hzl⟩ := mchk_len h2
  have hzn : mw ≠ 0 → zs.length = ps.length := fun h0 => by
    obtain ⟨h5, h6⟩ : mw = W ∧ mh = H := by omega
    rw [h5, h6] at hzl
    omega
  have DI := Lib.hid (fun w h => differences_any W H X Y wd ht SX SY ox oy (.slice ai ps.length ci) ps w h hWH (by omega) (by omega) ⟨by omega, by omega⟩ ⟨by omega, by omega⟩ (by omega) (by omega) (by omega) (by omega) hox hoy)
  have SMO := Lib.hid (fun n g w h => smoothed_any wd ht g (memC W wd ht X Y SX SY ps n) (memC W wd ht X Y SX SY ps (n + 1)) w h ⟨by omega, by omega⟩ ⟨by omega, by omega⟩ (memC_bd _ _ _ _ _ _ _ _ _) (fun j hj => memC_brd hj) (fun k c hc hk => memC_mid hc hk))
  have DU := Lib.hid (fun w h => duplicate_any W H (.slice ai ps.length ci) ps w h hn)
  have SE := Lib.hid (fun k w (hk : k < ps.length) h => selected_any mw mh (.slice am zs.length cm) zs k w h (fun h0 => by have := hzn h0; omega))
  have SB := Lib.hid (fun k (hk : k < ps.length) => selK_bd h2 k (fun h0 => by have := hzn h0; omega))
  have OL := Lib.hid (heals_len W wd ht X Y SX SY mw zs ps)
  have OA := Lib.hid (fun i hi => heals_at W wd ht X Y SX SY mw zs ps i hi)
  have PX : Hid (∀ x y, 1 ≤ x → x + 1 < wd → 1 ≤ y → y + 1 < ht → ∃ (yq yx n1 n2 : Nat) (ow : Int), Y + y = yq ∧ (Y + y) * W + X = yx ∧ yx + x = n1 ∧ n1 < ps.length ∧ n2 < ps.length ∧ oy * (W : Int) = ow ∧ (n1 : Int) + ow + ox = n2 ∧ y * wd + x < wd * ht ∧ (selK mw zs n1 = 0 → healAt W wd ht X Y SX SY mw zs ps n1 = pxAt ps n1) ∧ (selK mw zs n1 ≠ 0 → healAt W wd ht X Y SX SY mw zs ps n1 = mxP (pxAt ps n1) (heP (prP (pxAt ps n2)) (memC W wd ht X Y SX SY ps 64 ((y * wd + x) * 4), memC W wd ht X Y SX SY ps 64 ((y * wd + x) * 4 + 1), memC W wd ht X Y SX SY ps 64 ((y * wd + x) * 4 + 2), memC W wd ht X Y SX SY ps 64 ((y * wd + x) * 4 + 3))) (selK mw zs n1))) := fun x y hx1 hx2 hy1 hy2 => by
    obtain ⟨yq, yw, yx, n1, n2, ow, g1, g2, g3, g4, g5, g6, g7, g8, g9, g10⟩ := dif_px (W := W) (H := H) (X := X) (Y := Y) (w := wd) (h := ht) (SX := SX) (SY := SY) (ox := ox) (oy := oy) (x := x) (y := y) (by omega) (by omega) (by omega) (by omega) (by omega) hox hoy (by omega) (by omega)
    refine ⟨yq, yx, n1, n2, ow, g1, by rw [g1, g2]; exact g3, g4, by omega, by omega, g9, g10, ?_, fun h0 => healAt_sel h0, fun h0 => ?_⟩
    · have := Nat.mul_le_mul_right wd (show y + 1 ≤ ht by omega)
      rw [Nat.add_mul, Nat.one_mul, Nat.mul_comm ht] at this
      omega
    · rw [← memC_memP, g5, g6]
      rw [g5] at h0
      exact heal_xy W wd ht X Y SX SY mw zs ps x y (by omega) hx1 hx2 hy1 hy2 h0
  have J1 : Hid (∀ i, i < (Y + 1) * W + X + 1 → healAt W wd ht X Y SX SY mw zs ps i = pxAt ps i) := fun i hi => healAt_out (inH_first (by omega) (by omega) hi)
  have J2 : Hid (∀ y x i, ((x + 1 ≤ wd) ∨ x = 1) → 1 ≤ x → ¬ x + 1 < wd → (Y + y) * W + X + x ≤ i → i < (Y + (y + 1)) * W + X + 1 → healAt W wd ht X Y SX SY mw zs ps i = pxAt ps i) := fun y x i a1 a2 a3 a4 a5 => healAt_out (inH_row (by omega) (by omega) a5)
  have J3 : Hid (∀ y i, ht ≤ y + 1 → (Y + y) * W + X + 1 ≤ i → healAt W wd ht X Y SX SY mw zs ps i = pxAt ps i) := fun y i a1 a2 => healAt_out (inH_last (by omega) (by omega) a1 (by omega))
  have hN : wd * ht ≤ 32 * 32 := Nat.mul_le_mul (by omega) (by omega)
  have MB := Lib.hid (memC_bd W wd ht X Y SX SY ps 64)
  have hox2 : -256 ≤ ox ∧ ox ≤ 256 := by omega
  clear hI hM h1 h2 hv he hvv hwh hnl hWH hzl hzn z3
  have hW1 : 1 ≤ W := by omega
  have hX1 : X + wd ≤ W := by omega
  have hY1 : Y + ht ≤ H := by omega
  generalize heals W wd ht X Y SX SY mw zs ps = out at *
  generalize healAt W wd ht X Y SX SY mw zs ps = res at *
  generalize memC W wd ht X Y SX SY ps = mc at *
  generalize wd * ht = N at *
  generalize hnn : ps.length = n at *
  generalize zs.length = nz at *
  clear hnn
  go_enter Tryz.func12, Tryz.ntmps12
  go_upto_region 1 with (fail)
  refine name5 (fun W1 k1 k2 k3 k4 k5 hb => ?_)
  have c1 := k1.c3
  go_wp2_with fail
  clear c1
  refine (IC.out _ (HI.out.kept hb)).mono ?_
  rintro e W2 ⟨rfl, hS⟩
  replace k1 := k1.kept hS
  replace k2 := k2.kept hS
  replace k3 := k3.kept hS
  replace k4 := k4.kept hS
  replace k5 := k5.kept hS
  replace hb := hb.trans (hS.mono hb.size)
  clear hS
  have c4 := k4.c3
  go_wp2_with fail
  clear c4
  refine (MC.out _ (HM.out.kept hb)).mono ?_
  rintro e W3 ⟨rfl, hS⟩
  replace k1 := k1.kept hS
  replace k2 := k2.kept hS
  replace k3 := k3.kept hS
  replace k4 := k4.kept hS
  replace k5 := k5.kept hS
  replace hb := hb.trans (hS.mono hb.size)
  clear hS
  have c2 := k2.c4
  go_wp2_with fail
  clear c2
  refine (RV.out _).mono ?_
  rintro e W4 ⟨rfl, hS⟩
  replace k1 := k1.kept hS
  replace k2 := k2.kept hS
  replace k3 := k3.kept hS
  replace k4 := k4.kept hS
  replace k5 := k5.kept hS
  replace hb := hb.trans (hS.mono hb.size)
  clear hS
  have c2 := k2.c4
  go_wp2_with fail
  clear c2
  refine (RE.out _).mono ?_
  rintro e W5 ⟨rfl, hS⟩
  replace k1 := k1.kept hS
  replace k2 := k2.kept hS
  replace k3 := k3.kept hS
  replace k4 := k4.kept hS
  replace k5 := k5.kept hS
  replace hb := hb.trans (hS.mono hb.size)
  clear hS
  have c1 := k1.c3
  have c2 := k2.c4
  go_wp2_with fail
  clear c1 c2
  refine (RW.out _).mono ?_
  rintro e W6 ⟨rfl, hS⟩
  replace k1 := k1.kept hS
  replace k2 := k2.kept hS
  replace k3 := k3.kept hS
  replace k4 := k4.kept hS
  replace k5 := k5.kept hS
  replace hb := hb.trans (hS.mono hb.size)
  clear hS
  have c1 := k1.c3
  have c2 := k2.c4
  have c3 := k3.c2
  have c4 := k4.c3
  go_wp2_with fail
  clear c1 c2 c3 c4
  refine (FT.out _).mono ?_
  rintro e W7 ⟨rfl, hS⟩
  replace k1 := k1.kept hS
  replace k2 := k2.kept hS
  replace k3 := k3.kept hS
  replace k4 := k4.kept hS
  replace k5 := k5.kept hS
  replace hb := hb.trans (hS.mono hb.size)
  clear hS
  clear d1 d2 d3 d4 n1 n2 n3 n4 n5 n6 f1 f2 FT RW RE RV IC MC
  have c1 := k1.c3
  have c2 := k2.c4
  have c3 := k3.c2
  go_wp2_with fail
  clear c1 c2 c3
  refine (DI.out _ (HI.out.kept hb)).mono ?_
  rintro e W8 ⟨gm, rfl, hgm, rom, hS⟩
  replace k1 := k1.kept hS
  replace k2 := k2.kept hS
  replace k3 := k3.kept hS
  replace k4 := k4.kept hS
  replace k5 := k5.kept hS
  replace hb := hb.trans (hS.mono hb.size)
  clear hS DI hgm
  go_wp2_with fail
  go_loopw [12, 109] (fun s i wr => ∃ r gm : Nat, r ≤ 64 ∧ i = .int .i64 r ∧ s = .slice (some ⟨gm, 0, none⟩) N N ∧ RowI wr gm (N * 4) (mc r) ∧ Blk wr w.heap.size (.cells #[.int .i64 W, .int .i64 H, .slice ai n ci] 24 (0, 0)) ∧ Blk wr (w.heap.size + 1) (.cells #[.int .i64 X, .int .i64 Y, .int .i64 wd, .int .i64 ht] 45 (0, 0)) ∧ Blk wr (w.heap.size + 1 + 1) (.cells #[.int .i64 ox, .int .i64 oy] 32 (0, 0)) ∧ Blk wr (w.heap.size + 1 + 1 + 1) (.cells #[.int .i64 mw, .int .i64 mh, .slice am nz cm] 35 (0, 0)) ∧ Blk wr (w.heap.size + 1 + 1 + 1 + 1) (.cells #[.int .i64 0, .int .i64 0, .slice none 0 0] 24 (0, 0)) ∧ Below w.heap.size w wr) (fun _ i _ => 64 - (intOf i).toNat)
  case atStart => exact ⟨0, gm, Nat.zero_le _, rfl, rfl, rom, k1, k2, k3, k4, k5, hb⟩
  case round =>
    clear rom k1 k2 k3 k4 k5 hb
    obtain ⟨r, gm, hr, rfl, rfl, rom, k1, k2, k3, k4, k5, hb⟩ := hrel
    by_cases hlt : r < 64
    · have c2 := k2.c4
      go_wp2_with fail
      clear c2
      refine (SMO.out r gm _ rom).mono ?_
      rintro e W9 ⟨gm', rfl, hgm, rom', hS⟩
      replace k1 := k1.kept hS
      replace k2 := k2.kept hS
      replace k3 := k3.kept hS
      replace k4 := k4.kept hS
      replace k5 := k5.kept hS
      replace hb := hb.trans (hS.mono hb.size)
      clear hS rom
      go_wp2_with fail
      go_roundw
      case rel => exact ⟨r + 1, gm', by omega, by go_num, rfl, rom', k1, k2, k3, k4, k5, hb⟩
      case measure => simp only [intOf]; omega
    · obtain rfl : r = 64 := by omega
      have c1 := k1.c3
      go_wp2_with fail
      clear c1
      refine (DU.out _ (HI.out.kept hb)).mono ?_
      rintro e W10 ⟨g, rfl, hg, row, hS⟩
      have lm := rom.lt
      have l5 := k5.lt
      replace k1 := k1.kept hS
      replace k2 := k2.kept hS
      replace k3 := k3.kept hS
      replace k4 := k4.kept hS
      replace k5 := k5.kept hS
      replace hb := hb.trans (hS.mono hb.size)
      replace rom := rom.kept hS
      have lr := row.lt
      clear hS DU
      go_upto_region 19 with (refine wpList_store_blk rfl _ _ _ rfl W10.heap.size #[.int .i64 W, .int .i64 H, .slice (some ⟨g, 0, none⟩) n n] rfl rfl (heap_alloc_new W10 _) infoImgR rfl (by simp [Value.oneCell']) (fun W11 ko hkx hbx => ?_))
      have hS : Below W10.heap.size W10 W11 := ((Below.refl _ _).alloc (Nat.le_refl _) _).trans hbx
      replace k1 := k1.kept hS
      replace k2 := k2.kept hS
      replace k3 := k3.kept hS
      replace k4 := k4.kept hS
      replace k5 := k5.kept hS
      replace hb := hb.trans (hS.mono hb.size)
      replace rom := rom.kept hS
      replace row := (row.kept hS).start (r := res)
      clear hS hkx hbx
      generalize W10.heap.size = xo at *
      have hgo : xo ≠ g := by omega
      have hgm : gm ≠ g := by omega
      have hg5 : w.heap.size + 1 + 1 + 1 + 1 < g := by omega
      clear lm l5 lr hg
      replace row := row.jump (k' := (Y + 1) * W + X + 1) (by omega) (fun i _ h _ => J1.out i h)
      generalize mc 64 = M at *
      go_wp2_with fail
      go_loopw [14] (fun i wr => ∃ y yk : Nat, 1 ≤ y ∧ Hid (yk = (Y + y) * W) ∧ i = .int .i64 y ∧ (y + 1 ≤ ht ∨ y = 1) ∧ Row wr g n (fun i => if i < yk + X + 1 then res i else pxAt ps i) ∧ RowI wr gm (N * 4) M ∧ Blk wr w.heap.size (.cells #[.int .i64 W, .int .i64 H, .slice ai n ci] 24 (0, 0)) ∧ Blk wr (w.heap.size + 1) (.cells #[.int .i64 X, .int .i64 Y, .int .i64 wd, .int .i64 ht] 45 (0, 0)) ∧ Blk wr (w.heap.size + 1 + 1) (.cells #[.int .i64 ox, .int .i64 oy] 32 (0, 0)) ∧ Blk wr (w.heap.size + 1 + 1 + 1) (.cells #[.int .i64 mw, .int .i64 mh, .slice am nz cm] 35 (0, 0)) ∧ Blk wr (w.heap.size + 1 + 1 + 1 + 1) (.cells #[.int .i64 0, .int .i64 0, .slice none 0 0] 24 (0, 0)) ∧ Blk wr xo (.cells #[.int .i64 W, .int .i64 H, .slice (some ⟨g, 0, none⟩) n n] 24 (0, 0)) ∧ Below w.heap.size w wr) (fun i _ => ht - (intOf i).toNat)
      case atStart => exact ⟨1, (Y + 1) * W, Nat.le_refl _, rfl, rfl, .inr rfl, row, rom, k1, k2, k3, k4, k5, ko, hb⟩
      case round =>
        clear row rom k1 k2 k3 k4 k5 ko hb
        obtain ⟨y, yk, hy1, hyk, rfl, hy2, row, rom, k1, k2, k3, k4, k5, ko, hb⟩ := hrel
        have ew : IntKind.i64.wrap ((wd : Int) - 1) = (wd : Int) - 1 := IntWalk.i64_in _ (by omega)
        have eh : IntKind.i64.wrap ((ht : Int) - 1) = (ht : Int) - 1 := IntWalk.i64_in _ (by omega)
        by_cases hlt : y + 1 < ht
        · have d1 : (y : Int) < (ht : Int) - 1 := by omega
          have c2 := k2.c4
          go_wp2_with fail
          clear c2 d1
          go_loopw [15] (fun i wr => ∃ x : Nat, 1 ≤ x ∧ i = .int .i64 x ∧ (x + 1 ≤ wd ∨ x = 1) ∧ Row wr g n (fun i => if i < yk + X + x then res i else pxAt ps i) ∧ RowI wr gm (N * 4) M ∧ Blk wr w.heap.size (.cells #[.int .i64 W, .int .i64 H, .slice ai n ci] 24 (0, 0)) ∧ Blk wr (w.heap.size + 1) (.cells #[.int .i64 X, .int .i64 Y, .int .i64 wd, .int .i64 ht] 45 (0, 0)) ∧ Blk wr (w.heap.size + 1 + 1) (.cells #[.int .i64 ox, .int .i64 oy] 32 (0, 0)) ∧ Blk wr (w.heap.size + 1 + 1 + 1) (.cells #[.int .i64 mw, .int .i64 mh, .slice am nz cm] 35 (0, 0)) ∧ Blk wr (w.heap.size + 1 + 1 + 1 + 1) (.cells #[.int .i64 0, .int .i64 0, .slice none 0 0] 24 (0, 0)) ∧ Blk wr xo (.cells #[.int .i64 W, .int .i64 H, .slice (some ⟨g, 0, none⟩) n n] 24 (0, 0)) ∧ Below w.heap.size w wr) (fun i _ => wd - (intOf i).toNat)
          case atStart => exact ⟨1, Nat.le_refl _, rfl, .inr rfl, row, rom, k1, k2, k3, k4, k5, ko, hb⟩
          case round =>
            clear row rom k1 k2 k3 k4 k5 ko hb
            obtain ⟨x, hx1, rfl, hx2, row, rom, k1, k2, k3, k4, k5, ko, hb⟩ := hrel
            by_cases hxl : x + 1 < wd
            · have d2 : (x : Int) < (wd : Int) - 1 := by omega
              obtain ⟨yq, yx, n1, n2, ow, g1, g2, g3, hn1, hn2, g5, g6, hk0, R0, R1⟩ := PX.out x y hx1 hxl hy1 hlt
              rw [← hyk.out] at g2
              have hrow2 : yk + X + x = n1 := by omega
              rw [hrow2] at row
              have SE1 := Lib.hid (fun w h => SE.out n1 w hn1 h)
              have SB1 := SB.out n1 hn1
              obtain ⟨b1, o1, rfl, hbl1, hc1⟩ := HI.out.at n1 hn1
              obtain ⟨b2, o2, he2, hbl2, hc2⟩ := HI.out.at n2 hn2
              simp only [Option.some.injEq, Addr.mk.injEq, and_true] at he2
              obtain ⟨rfl, rfl⟩ := he2
              have e1 : IntKind.i64.wrap ((Y : Int) + (y : Int)) = (yq : Int) := by rw [← g1, ← Int.natCast_add]; exact IntWalk.i64_in _ (by omega)
              have e2 : IntKind.i64.wrap ((yq : Int) * (W : Int)) = (yk : Int) := by rw [← g1, ← Int.natCast_mul, ← hyk.out]; exact IntWalk.i64_in _ (by omega)
              have e3 : IntKind.i64.wrap ((yk : Int) + (X : Int)) = (yx : Int) := by rw [← g2, ← Int.natCast_add]; exact IntWalk.i64_in _ (by omega)
              have e4 : IntKind.i64.wrap ((yx : Int) + (x : Int)) = (n1 : Int) := by rw [← g3, ← Int.natCast_add]; exact IntWalk.i64_in _ (by omega)
              have e5 : IntKind.i64.wrap (oy * (W : Int)) = ow := by rw [g5]; exact IntWalk.i64_in _ (by omega)
              have e6 : IntKind.i64.wrap ((n1 : Int) + ow) = (n1 : Int) + ow := IntWalk.i64_in _ (by omega)
              have e7 : IntKind.i64.wrap ((n1 : Int) + ow + ox) = (n2 : Int) := by rw [g6]; exact IntWalk.i64_in _ (by omega)
              obtain ⟨yd, hyd⟩ : ∃ yd, y * wd = yd := ⟨_, rfl⟩
              rw [hyd] at hk0 R1
              have e8 : IntKind.i64.wrap ((y : Int) * (wd : Int)) = (yd : Int) := by rw [← hyd, ← Int.natCast_mul]; exact IntWalk.i64_in _ (by rw [hyd]; omega)
              obtain ⟨k0, hkk⟩ : ∃ k0, yd + x = k0 := ⟨_, rfl⟩
              rw [hkk] at hk0 R1
              have e9 : IntKind.i64.wrap ((yd : Int) + (x : Int)) = (k0 : Int) := by rw [← hkk, ← Int.natCast_add]; exact IntWalk.i64_in _ (by omega)
              have HK2 := Lib.hid hkk
              have HRW := Lib.hid hrow2
              clear g1 g2 g3 g5 g6 hyd hkk hrow2
              have i1 : (0 : Int) ≤ (n1 : Int) := by omega
              have i2 : (n1 : Int) < (n : Int) := by omega
              have j1 : (0 : Int) ≤ (n2 : Int) := by omega
              have j2 : (n2 : Int) < (n : Int) := by omega
              have a1 : (0 : Int) ≤ (k0 : Int) := by omega
              have a2 : (k0 : Int) < (N : Int) := by omega
              have RZ := Lib.hid R0
              have RY := Lib.hid R1
              clear R0 R1
              generalize hsv : selK mw zs n1 = sv at *
              clear hsv
              have c1 := k1.c3
              have c2 := k2.c4
              go_upto_region 26 with (fail)
              clear c1 c2 e1 e2 e3 e4
              have c4 := k4.c3
              go_wp2_with fail
              clear c4
              refine (SE1.out _ (HM.out.kept hb)).mono ?_
              rintro e W12 ⟨rfl, hS⟩
              replace k1 := k1.kept hS
              replace k2 := k2.kept hS
              replace k3 := k3.kept hS
              replace k4 := k4.kept hS
              replace k5 := k5.kept hS
              replace ko := ko.kept hS
              replace hb := hb.trans (hS.mono hb.size)
              replace row := row.kept hS
              replace rom := rom.kept hS
              clear hS SE1
              have hRS : Hid (∀ w, Row w g n (fun i => if i < n1 then res i else pxAt ps i) → res n1 = pxAt ps n1 → Row w g n (fun i => if i < n1 + 1 then res i else pxAt ps i)) := fun w h he => h.skip he
              by_cases hsv : sv = 0
              · replace RZ := Lib.hid (RZ.out hsv)
                have bV : ¬ (0 : Int) < sv := by omega
                go_wp2_with fail
                go_roundw
                case rel => exact ⟨x + 1, by omega, by go_num, by omega, (by rw [show yk + X + (x + 1) = n1 + 1 by have := HRW.out; omega]; exact hRS.out _ row RZ.out), rom, k1, k2, k3, k4, k5, ko, hb⟩
                case measure => simp only [intOf]; omega
              · replace RY := Lib.hid (RY.out hsv)
                have bV : (0 : Int) < sv := by omega
                have RN := Lib.hid (fun w (h : Row w g n (fun i => if i < n1 then res i else pxAt ps i)) => h.step hn1)
                have RC := Lib.hid (fun w (h : Row w g n (fun i => if i < n1 then res i else pxAt ps i)) => h.c n1 hn1)
                simp only [Nat.lt_irrefl, if_false] at RC
                rw [RY.out] at RN
                clear RY
                have VA := Lib.hid (fun w => values_any (pxAt ps n2) w)
                have HE := Lib.hid (fun w => healed_any (prP (pxAt ps n2)) (M (k0 * 4), M (k0 * 4 + 1), M (k0 * 4 + 2), M (k0 * 4 + 3)) w (fun c => cmp_prP c _) (cmp_mem M MB.out _ _ _ _))
                have QC : Hid (∀ w, RowI w gm (N * 4) M → w.cell? ⟨gm, k0 * 4, none⟩ = some (.int .i64 (M (k0 * 4))) ∧ w.cell? ⟨gm, k0 * 4 + 1, none⟩ = some (.int .i64 (M (k0 * 4 + 1))) ∧ w.cell? ⟨gm, k0 * 4 + 2, none⟩ = some (.int .i64 (M (k0 * 4 + 2))) ∧ w.cell? ⟨gm, k0 * 4 + 3, none⟩ = some (.int .i64 (M (k0 * 4 + 3)))) := fun w h => ⟨(h.c _ (by omega)).1, (h.c _ (by omega)).1, (h.c _ (by omega)).1, (h.c _ (by omega)).1⟩
                generalize heP (prP (pxAt ps n2)) (M (k0 * 4), M (k0 * 4 + 1), M (k0 * 4 + 2), M (k0 * 4 + 3)) = hp at *
                generalize prP (pxAt ps n2) = vp at *
                have MX := Lib.hid (fun w => mixx_any (pxAt ps n1) hp sv w)
                generalize mxP (pxAt ps n1) hp sv = np at *
                generalize pxAt ps n1 = p at *
                generalize pxAt ps n2 = p' at *
                generalize M (k0 * 4) = m0 at *
                generalize M (k0 * 4 + 1) = m1 at *
                generalize M (k0 * 4 + 2) = m2 at *
                generalize M (k0 * 4 + 3) = m3 at *
                obtain ⟨p0, p1, p2, p3⟩ := p
                obtain ⟨r0, r1, r2, r3⟩ := p'
                obtain ⟨v0, v1, v2, v3⟩ := vp
                obtain ⟨h0, h1, h2, h3⟩ := hp
                obtain ⟨t0, t1, t2, t3⟩ := np
                simp only at hc1 hc2
                have HC1 := Lib.hid hc1
                clear hc1
                replace VA : Hid (∀ w, Calls Tryz.prog 47 #[pv r0 r1 r2 r3] w fun e w' => e = .returned (pv v0 v1 v2 v3) ∧ Below w.heap.size w w') := VA
                replace HE : Hid (∀ w, Calls Tryz.prog 48 #[pv v0 v1 v2 v3, pv m0 m1 m2 m3] w fun e w' => e = .returned (pv h0 h1 h2 h3) ∧ Below w.heap.size w w') := HE
                replace MX : Hid (∀ w, Calls Tryz.prog 35 #[pv p0 p1 p2 p3, pv h0 h1 h2 h3, .int .i64 sv] w fun e w' => e = .returned (pv t0 t1 t2 t3) ∧ Below w.heap.size w w') := MX
                have HC2 := Lib.hid hc2
                have hc := hc2 _ hb
                clear hc2
                have c1 := k1.c3
                have c3 := k3.c2
                go_wp2_with fail
                clear c1 c3 hc e5 e6 e7
                refine (VA.out _).mono ?_
                rintro e W13 ⟨rfl, hS⟩
                replace k1 := k1.kept hS
                replace k2 := k2.kept hS
                replace k3 := k3.kept hS
                replace k4 := k4.kept hS
                replace k5 := k5.kept hS
                replace ko := ko.kept hS
                replace hb := hb.trans (hS.mono hb.size)
                replace row := row.kept hS
                replace rom := rom.kept hS
                clear hS VA HC2
                go_upto_region 29 with (fail)
                refine name1 (fun W14 ks hS => ?_)
                replace k1 := k1.kept hS
                replace k2 := k2.kept hS
                replace k3 := k3.kept hS
                replace k4 := k4.kept hS
                replace k5 := k5.kept hS
                replace ko := ko.kept hS
                replace hb := hb.trans (hS.mono hb.size)
                replace row := row.kept hS
                replace rom := rom.kept hS
                clear hS
                refine wp_region_grow 22 (fun w' => Below (World.heap W14).size W14 w') (by kernel_rfl) (by kernel_rfl) (Below.refl _ _).drew ?_
                simp only [List.take_succ_cons, List.take_zero, List.drop_succ_cons, List.drop_zero]
                repeat (first | (apply wpG_on; rfl; (intro w' hS K hK; have hc0 := (ko.kept hS).c3; have hc1 := (k1.kept hS).c3; have hc2 := (k2.kept hS).c4; have hc3 := (ks.kept hS).c4; have hc4 := (row.kept hS).lt; have hc5 := (rom.kept hS).lt; have hc6 := (k3.kept hS).lt; have hc7 := (k4.kept hS).lt; have hc8 := (k5.kept hS).lt; have hr0 := HC1.out _ (hb.trans (hS.mono hb.size)); have hr1 := QC.out _ (rom.kept hS); go_simp; (first | exact hK.out _ hS | (go_at_call 48; (with_reducible refine (HE.out _).mono ?_); rintro e w'' ⟨rfl, hbb⟩; exact ⟨_, rfl, hK.out _ (hS.trans (hbb.mono hS.size))⟩) | (go_at_call 35; (with_reducible refine (MX.out _).mono ?_); rintro e w'' ⟨rfl, hbb⟩; exact ⟨_, rfl, hK.out _ (hS.trans (hbb.mono hS.size))⟩))); simp only [Act.put, List.setIfInBounds_toArray, List.set_cons_succ, List.set_cons_zero]) | (apply wpG_off; rfl; simp only [Act.put, List.setIfInBounds_toArray, List.set_cons_succ, List.set_cons_zero]))
                apply wpG_nil
                intro W15 hS
                replace ko := ko.kept hS
                replace k1 := k1.kept hS
                replace k2 := k2.kept hS
                replace ks := ks.kept hS
                replace row := row.kept hS
                replace rom := rom.kept hS
                replace k3 := k3.kept hS
                replace k4 := k4.kept hS
                replace k5 := k5.kept hS
                replace hb := hb.trans (hS.mono hb.size)
                clear hS
                have cr := RC.out _ row
                go_wp2_with fail
                go_roundw
                case rel => exact ⟨x + 1, by omega, by go_num, by omega, (by rw [show yk + X + (x + 1) = n1 + 1 by have := HRW.out; omega]; exact RN.out _ row), rom.other4 hgm _ _ _ _ _ _ _ _, k1.other4 (by omega) _ _ _ _ _ _ _ _, k2.other4 (by omega) _ _ _ _ _ _ _ _, k3.other4 (by omega) _ _ _ _ _ _ _ _, k4.other4 (by omega) _ _ _ _ _ _ _ _, k5.other4 (by omega) _ _ _ _ _ _ _ _, ko.other4 (by omega) _ _ _ _ _ _ _ _, below4g hb (by omega) _ _ _ _ _ _ _ _⟩
                case measure => simp only [intOf]; omega
            · have d2 : ¬ (x : Int) < (wd : Int) - 1 := by omega
              have c2 := k2.c4
              go_wp2_with fail
              clear c2
              go_roundw
              case rel => exact ⟨y + 1, yk + W, by omega, (by show _ = _; rw [hyk.out, ← Nat.add_assoc, Nat.add_mul (Y + y) 1 W, Nat.one_mul]), by go_num, by omega, row.jump (k' := yk + W + X + 1) (by omega) (fun i h1 h2 _ => J2.out y x i hx2 hx1 hxl (by rw [← hyk.out]; exact h1) (by rw [← Nat.add_assoc, Nat.add_mul (Y + y) 1 W, Nat.one_mul, ← hyk.out]; omega)), rom, k1, k2, k3, k4, k5, ko, hb⟩
              case measure => simp only [intOf]; omega
        · have d1 : ¬ (y : Int) < (ht : Int) - 1 := by omega
          have co := ko.c3
          have c2 := k2.c4
          have c5 := k5.c3
          go_wp2_with fail
          clear co c2
          have PN : Hid (∀ w', Row w' g n (fun i => if i < yk + X + 1 then res i else pxAt ps i) → Pn w' (.slice (some ⟨g, 0, none⟩) n n) out) := fun w' h => h.pn OL.out (by omega) (fun i hi => by
            rw [OA.out i hi]
            by_cases hc : i < yk + X + 1
            · rw [if_pos hc]
            · rw [if_neg hc, J3.out y i (by omega) (by rw [← hyk.out]; omega)])
          refine bodyPost_ret (v := .tuple #[.agg #[.int .i64 W, .int .i64 H, .slice (some ⟨g, 0, none⟩) n n], .int .i64 0]) (by simp [results, Tryz.results12, go_sem, c5]) rfl ⟨_, rfl, PN.out _ (((row.other (by simp; omega) _).other (by simp; omega) _).other (by simp; omega) _), fresh_at (by omega), ((hb.setCell (by simp; omega) _).setCell (by simp; omega) _).setCell (by simp; omega) _⟩

/-- What imageeditor/retouch.Heal gives. -/
theorem heal_any (iw ih : Int) (iv : Value) (ps : List Px) (rx ry rw rh ox oy mw mh : Int) (mv : Value) (zs : List Int) (Wm Hm E : Int) (qs : List Px) (w : World) (hI : Pn w iv ps) (hM : Nn w mv zs) (ho : HealOut iw ih ps rx ry rw rh ox oy mw mh zs Wm Hm E qs) :
    Calls Tryz.prog 12 #[.agg #[.int .i64 iw, .int .i64 ih, iv], .agg #[.int .i64 rx, .int .i64 ry, .int .i64 rw, .int .i64 rh], .agg #[.int .i64 ox, .int .i64 oy], .agg #[.int .i64 mw, .int .i64 mh, mv]] w fun e w' => ∃ q, e = .returned (.tuple #[.agg #[.int .i64 Wm, .int .i64 Hm, q], .int .i64 E]) ∧ Pn w' q qs ∧ Fresh w.heap.size q ∧ Below w.heap.size w w' := by
  have z : ∀ E', Calls Tryz.prog 12 #[.agg #[.int .i64 iw, .int .i64 ih, iv], .agg #[.int .i64 rx, .int .i64 ry, .int .i64 rw, .int .i64 rh], .agg #[.int .i64 ox, .int .i64 oy], .agg #[.int .i64 mw, .int .i64 mh, mv]] w (fun e w' => e = .returned (.tuple #[.agg #[.int .i64 0, .int .i64 0, .slice none 0 0], .int .i64 E']) ∧ Below w.heap.size w w') → Calls Tryz.prog 12 #[.agg #[.int .i64 iw, .int .i64 ih, iv], .agg #[.int .i64 rx, .int .i64 ry, .int .i64 rw, .int .i64 rh], .agg #[.int .i64 ox, .int .i64 oy], .agg #[.int .i64 mw, .int .i64 mh, mv]] w fun e w' => ∃ q, e = .returned (.tuple #[.agg #[.int .i64 0, .int .i64 0, q], .int .i64 E']) ∧ Pn w' q [] ∧ Fresh w.heap.size q ∧ Below w.heap.size w w' := fun E' h => by
    refine h.mono ?_
    rintro e w' ⟨rfl, hb⟩
    exact ⟨_, rfl, Pn.nil _, fresh_nil _, hb⟩
  rcases ho with ⟨h1, rfl, rfl, rfl, rfl⟩ | ⟨h1, h2, rfl, rfl, rfl, rfl⟩ | ⟨h1, h2, h3, rfl, rfl, rfl, rfl⟩ | ⟨h1, h2, h3, h4, rfl, rfl, rfl, rfl⟩ | ⟨h1, h2, h3, h4, h5, rfl, rfl, rfl, rfl⟩ | ⟨h1, h2, h3, h4, h5, rfl, rfl, rfl, rfl⟩
  · exact z _ (heal_bad1 iw ih iv ps rx ry rw rh ox oy mw mh mv zs w hI hM h1)
  · exact z _ (heal_bad2 iw ih iv ps rx ry rw rh ox oy mw mh mv zs w hI hM h1 h2)
  · exact z _ (heal_bad3 iw ih iv ps rx ry rw rh ox oy mw mh mv zs w hI hM h1 h2 h3)
  · exact z _ (heal_bad4 iw ih iv ps rx ry rw rh ox oy mw mh mv zs w hI hM h1 h2 h3 h4)
  · exact z _ (heal_bad5 iw ih iv ps rx ry rw rh ox oy mw mh mv zs w hI hM h1 h2 h3 h4 h5)
  · obtain ⟨_, a1, _, a3, _, _⟩ := ichk_len h1
    obtain ⟨hv, q1, q2, q3, q4, q5, q6⟩ := h3
    have hvv := (rOk_iff (rx, ry, rw, rh)).1 hv
    simp only at hvv
    have h4' := h4
    obtain ⟨o1, _, o3, _⟩ := h4'
    obtain ⟨W, rfl⟩ : ∃ n : Nat, Wm = n := ⟨Wm.toNat, by omega⟩
    obtain ⟨H, rfl⟩ : ∃ n : Nat, Hm = n := ⟨Hm.toNat, by omega⟩
    obtain ⟨X, rfl⟩ : ∃ n : Nat, rx = n := ⟨rx.toNat, by omega⟩
    obtain ⟨Y, rfl⟩ : ∃ n : Nat, ry = n := ⟨ry.toNat, by omega⟩
    obtain ⟨wd, rfl⟩ : ∃ n : Nat, rw = n := ⟨rw.toNat, by omega⟩
    obtain ⟨ht, rfl⟩ : ∃ n : Nat, rh = n := ⟨rh.toNat, by omega⟩
    exact heal_good W H X Y wd ht ((X : Int) + ox).toNat ((Y : Int) + oy).toNat iv ps ox oy mw mh mv zs w hI hM h1 h2 ⟨hv, q1, q2, q3, q4, q5, q6⟩ (by omega) (by omega) h4 h5
end Go.Proofs.YtieacbccadbdbaaGreatDoor

