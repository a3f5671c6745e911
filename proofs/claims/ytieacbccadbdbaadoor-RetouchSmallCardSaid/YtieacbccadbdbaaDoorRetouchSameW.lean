/- RetouchSame: with the offset (0, 0), Clone in the mode 'normal' and Heal do not change an opaque image (the walk; printed by gensame29.py). -/
import Derived.Test.YtieacbccadbdbaaDoorSameP
import Derived.Test.YtieacbccadbdbaaDoorRetAw
import Derived.Test.YtieacbccadbdbaaDoorBrOpen
import Derived.Test.YtieacbccadbdbaaDoorLOpen
import Derived.Deep.Cut
namespace Go.Proofs.YtieacbccadbdbaaDoor.retouchSame
open Go.ChangeShapes Go.WideShapes Go.ChangeAt Go.RowKit
set_option linter.unusedVariables false
attribute [local go_sem] Oper.gAt gUponK Oper.sAt stilK

def opqK (ps : List Px) (k : Nat) : Prop := ∀ j, j < k → (pxAt ps j).2.2.2 = 65535
set_option maxHeartbeats 4000000 in
theorem opaque_any (iw ih : Int) (iv : Value) (ps : List Px) (w : World) (hI : Pn w iv ps) :
    Calls Tryd.prog 8 #[.agg #[.int .i64 iw, .int .i64 ih, iv]] w fun e w' => ∃ b : Bool, e = .returned (.bool b) ∧ (b = true → opqK ps ps.length) ∧ Below w.heap.size w w' := by
  obtain ⟨ai, ci, rfl⟩ := hI.slice
  have HI := Lib.hid hI
  have hlen := hI.len.2
  clear hI
  generalize ps.length = n at *
  go_enter Tryd.func8, Tryd.ntmps8
  go_upto_region 1 with (fail)
  refine name1 (fun W1 k1 hb => ?_)
  have c1 := k1.c3
  go_wp2_with fail
  clear c1
  go_loopw [8] (fun i wr => ∃ k : Nat, k ≤ n ∧ i = .int .i64 k ∧ Hid (opqK ps k) ∧ Below w.heap.size w wr) (fun i _ => n - (intOf i).toNat)
  case atStart => exact ⟨0, Nat.zero_le _, rfl, fun j hj => absurd hj (by omega), hb⟩
  case round =>
    clear hb k1
    obtain ⟨k, hk, rfl, HO, hb⟩ := hrel
    by_cases hlt : k < n
    · obtain ⟨b1, off1, rfl, hbl1, hcell1⟩ := HI.out.at k hlt
      have hc := hcell1 wr hb
      clear hcell1
      have HN : Hid ((pxAt ps k).2.2.2 = 65535 → opqK ps (k + 1)) := fun h j hj => by
        by_cases e : j = k
        · rw [e]; exact h
        · exact HO.out j (by omega)
      generalize pxAt ps k = p at *
      obtain ⟨p0, p1, p2, p3⟩ := p
      simp only at hc HN
      have i1 : (0 : Int) ≤ (k : Int) := by omega
      have i2 : (k : Int) < (n : Int) := by omega
      go_upto_region 4 with (fail)
      clear hc
      refine name1 (fun W2 kp hS => ?_)
      replace hb := hb.trans (hS.mono hb.size)
      have cp := kp.c4
      by_cases hp : p3 = 65535
      · have bp : (p3 != 65535) = false := by simpa using hp
        have HN2 := Lib.hid (HN.out hp)
        clear hp
        go_wp2_with fail
        go_roundw
        case rel => exact ⟨k + 1, by omega, by go_num, HN2, hb⟩
        case measure => simp only [intOf]; omega
      · have bp : (p3 != 65535) = true := by simpa using hp
        go_wp2_with fail
        go_ret
        exact ⟨false, rfl, fun h => absurd h (by decide), hb⟩
    · obtain rfl : k = n := by omega
      go_wp2_with fail
      go_ret
      exact ⟨true, rfl, fun _ => HO.out, hb⟩

theorem clone_keeps (iw ih : Int) (ps : List Px) (B : Bru) (ls : List Smp) (mw mh : Int) (zs : List Int) (Wm Hm E : Int) (qs : List Px) (hm : B.md = 0) (ho : CloneOut iw ih ps B ls 0 0 mw mh zs Wm Hm E qs) (hq : opqK ps ps.length) (hE : E = 0) : Wm = iw ∧ Hm = ih ∧ qs = ps := by
  rcases ho with ⟨h1, _, _, h, _⟩ | ⟨_, _, _, _, h, _⟩ | ⟨h1, _, rfl, rfl, _, rfl⟩
  · exact absurd (h.symm.trans hE) h1
  · rw [h] at hE; cases hE
  · obtain ⟨hi, _, _, _⟩ := prep_ok h1
    obtain ⟨_, a1, _, a3, _, a5⟩ := ichk_len hi
    have hp := (ichk_px hi).2
    obtain ⟨W, rfl⟩ : ∃ n : Nat, Wm = n := ⟨Wm.toNat, by omega⟩
    obtain ⟨H, rfl⟩ : ∃ n : Nat, Hm = n := ⟨Hm.toNat, by omega⟩
    have hl : ps.length = W * H := by have := Int.natCast_mul W H; omega
    refine ⟨rfl, rfl, list_same (clones_len _ _ _ _ _ _ _ _ _) (fun k hk => ?_)⟩
    rw [clones_at _ _ _ _ _ _ _ _ _ _ hk]
    exact clone_same B _ W H mw zs ps k hm hl hk (hp k hk) (hq k hk)
theorem heal_keeps (iw ih : Int) (ps : List Px) (rx ry rw rh mw mh : Int) (zs : List Int) (Wm Hm E : Int) (qs : List Px) (ho : HealOut iw ih ps rx ry rw rh 0 0 mw mh zs Wm Hm E qs) (hq : opqK ps ps.length) (hE : E = 0) : Wm = iw ∧ Hm = ih ∧ qs = ps := by
  rcases ho with ⟨h1, _, _, h, _⟩ | ⟨_, h2, _, _, h, _⟩ | ⟨_, _, _, _, _, h, _⟩ | ⟨_, _, _, _, _, _, h, _⟩ | ⟨_, _, _, _, _, _, _, h, _⟩ | ⟨h1, h2, h3, h4, h5, rfl, rfl, _, rfl⟩
  · exact absurd (h.symm.trans hE) h1
  · exact absurd (h.symm.trans hE) h2
  · rw [h] at hE; cases hE
  · rw [h] at hE; cases hE
  · rw [h] at hE; cases hE
  · have hp := (ichk_px h1).2
    obtain ⟨_, _, _, _, _, _, hzl⟩ := mchk_len h2
    obtain ⟨_, _, _, _, _, hnl⟩ := ichk_len h1
    have hzn : mw ≠ 0 → zs.length = ps.length := fun h0 => by
      obtain ⟨h5, h6⟩ : mw = Wm ∧ mh = Hm := by have := h5.2.2; omega
      rw [h5, h6] at hzl
      omega
    refine ⟨rfl, rfl, list_same (heals_len _ _ _ _ _ _ _ _ _ _) (fun k hk => ?_)⟩
    rw [heals_at _ _ _ _ _ _ _ _ _ _ _ hk, Int.add_zero, Int.add_zero]
    exact heal_same _ _ _ _ _ mw zs ps k (selK_bd h2 k (fun h0 => by have := hzn h0; omega)) (hp k hk) (hq k hk)

set_option maxRecDepth 100000 in
set_option maxHeartbeats 16000000 in
theorem walk (iw ih : Int) (iv : Value) (ps : List Px) (B : Bru) (u lv : Value) (ls : List Smp) (mw mh : Int) (mv : Value) (zs : List Int) (rx ry rw rh : Int) (w : World) (hs : Sines w) (hI : Pn w iv ps) (hD : Dn w u B.ds) (hL : Sm w lv ls) (hM : Nn w mv zs) (_ : (Lit.int .i64 rx).wf = true) (_ : (Lit.int .i64 ry).wf = true) (_ : (Lit.int .i64 rw).wf = true) (_ : (Lit.int .i64 rh).wf = true) :
    Calls Tryd.prog 3 #[.agg #[.int .i64 iw, .int .i64 ih, iv], brv B u, lv, .agg #[.int .i64 mw, .int .i64 mh, mv], .agg #[.int .i64 rx, .int .i64 ry, .int .i64 rw, .int .i64 rh]] w fun e w' => e = .returned (.bool true) ∧ Below w.heap.size w w' := by
  have HI := Lib.hid hI
  have HD := Lib.hid hD
  have HL := Lib.hid hL
  have HM := Lib.hid hM
  have HSn := Lib.hid hs
  obtain ⟨Wm, Hm, E, qs, ho⟩ := clone_out iw ih ps { B with md := 0 } ls 0 0 mw mh zs
  obtain ⟨Wh, Hh, E2, q2, ho2⟩ := heal_out iw ih ps rx ry rw rh 0 0 mw mh zs
  obtain ⟨ai, ci, rfl⟩ := hI.slice
  obtain ⟨a, cap, rfl⟩ := Qn.slice hL
  obtain ⟨au, capu, rfl, _, _⟩ := hD
  obtain ⟨am, cm, rfl, _⟩ := hM.slice
  have S1 : Hid (∀ w, Sines w → Pn w (.slice ai ps.length ci) ps → Dn w (.slice au B.ds.length capu) B.ds → Sm w (.slice a ls.length cap) ls → Nn w (.slice am zs.length cm) zs → Calls Tryd.prog 9 #[.agg #[.int .i64 iw, .int .i64 ih, .slice ai ps.length ci], .agg #[.int .i64 B.sz, .int .i64 B.hd, .int .i64 B.rn, .int .i64 B.fl, .int .i64 B.op, .int .i64 B.sp, .int .i64 B.an, .int .i64 B.sc, .int .i64 0, .int .i64 B.r, .int .i64 B.g, .int .i64 B.b, .int .i64 B.a, .int .i64 B.sd, .slice au B.ds.length capu, .bool B.er], .slice a ls.length cap, .agg #[.int .i64 0, .int .i64 0], .agg #[.int .i64 mw, .int .i64 mh, .slice am zs.length cm]] w fun e w' => ∃ q, e = .returned (.tuple #[.agg #[.int .i64 Wm, .int .i64 Hm, q], .int .i64 E]) ∧ Pn w' q qs ∧ Below w.heap.size w w') := fun w hs h1 h2 h3 h4 =>
    clone_any iw ih (.slice ai ps.length ci) ps { B with md := 0 } (.slice au B.ds.length capu) (.slice a ls.length cap) ls 0 0 mw mh (.slice am zs.length cm) zs Wm Hm E qs w hs h1 h2 h3 h4 ho
  have S2 := Lib.hid (fun w h1 h2 => heal_any iw ih (.slice ai ps.length ci) ps rx ry rw rh 0 0 mw mh (.slice am zs.length cm) zs Wh Hh E2 q2 w h1 h2 ho2)
  have OP := Lib.hid (fun w h => opaque_any iw ih (.slice ai ps.length ci) ps w h)
  have O1 := Lib.hid (clone_keeps iw ih ps { B with md := 0 } ls mw mh zs Wm Hm E qs rfl ho)
  have O2 := Lib.hid (heal_keeps iw ih ps rx ry rw rh mw mh zs Wh Hh E2 q2 ho2)
  have AW := Lib.hid awake_any
  have SM := Lib.hid (fun W H v v' w h h' => same29_true W H v v' ps w h h')
  clear hI hL hM hs ho ho2
  generalize hnn : ps.length = ni at *
  clear hnn
  generalize zs.length = nz at *
  generalize ls.length = nl at *
  generalize B.ds.length = nd at *
  go_enter Tryd.func3, Tryd.ntmps3
  go_upto_region 1 with (fail)
  refine name4 (fun W1 k1 k2 k3 k4 hb => ?_)
  go_wp2_with fail
  refine (AW.out _ (HSn.out.kept hb)).mono ?_
  rintro e W2 ⟨rfl, hS⟩
  replace k1 := k1.kept hS
  replace k2 := k2.kept hS
  replace k3 := k3.kept hS
  replace k4 := k4.kept hS
  replace hb := hb.trans (hS.mono hb.size)
  clear hS
  have c1 := k1.c3
  go_wp2_with fail
  clear c1
  refine (OP.out _ (HI.out.kept hb)).mono ?_
  rintro e W3 ⟨b, rfl, hop, hS⟩
  replace k1 := k1.kept hS
  replace k2 := k2.kept hS
  replace k3 := k3.kept hS
  replace k4 := k4.kept hS
  replace hb := hb.trans (hS.mono hb.size)
  clear hS OP
  cases b
  · go_wp2_with fail
    refine (AW.out _ (HSn.out.kept hb)).mono ?_
    rintro e W4 ⟨rfl, hS⟩
    replace hb := hb.trans (hS.mono hb.size)
    go_wp2_with fail
    go_ret
    exact ⟨rfl, hb⟩
  · replace O1 := Lib.hid (O1.out (hop rfl))
    replace O2 := Lib.hid (O2.out (hop rfl))
    clear hop AW
    have c2 := k2.c16
    go_upto_region 4 with (fail)
    clear c2
    have k2' := k2.set1 8 (.int .i64 0) (by simp) rfl
    have k1' := k1.other (p := ⟨w.heap.size + 1, 8, none⟩) (by show w.heap.size ≠ w.heap.size + 1; omega) (.int .i64 0)
    have k3' := k3.other (p := ⟨w.heap.size + 1, 8, none⟩) (by show w.heap.size + 1 + 1 ≠ w.heap.size + 1; omega) (.int .i64 0)
    have k4' := k4.other (p := ⟨w.heap.size + 1, 8, none⟩) (by show w.heap.size + 1 + 1 + 1 ≠ w.heap.size + 1; omega) (.int .i64 0)
    have hb' := hb.setCell (p := ⟨w.heap.size + 1, 8, none⟩) (by show w.heap.size ≤ w.heap.size + 1; omega) (.int .i64 0)
    refine codeGen (fun W4 hW => ?_)
    rw [← hW] at k1' k2' k3' k4' hb'
    clear hW hb k1 k2 k3 k4
    have hb := hb'
    have k1 := k1'
    have k2 := k2'
    have k3 := k3'
    have k4 := k4'
    clear hb' k1' k2' k3' k4'
    have c1 := k1.c3
    have c2 := k2.c16
    have c3 := k3.c3
    go_wp2_with fail
    clear c1 c2 c3
    refine (S1.out _ (HSn.out.kept hb) (HI.out.kept hb) (HD.out.kept hb) (HL.out.kept hb) (HM.out.kept hb)).mono ?_
    rintro e W5 ⟨q, rfl, hq, hS⟩
    replace k1 := k1.kept hS
    replace k2 := k2.kept hS
    replace k3 := k3.kept hS
    replace k4 := k4.kept hS
    replace hb := hb.trans (hS.mono hb.size)
    obtain ⟨aq, caq, rfl⟩ := hq.slice
    clear hS S1
    go_upto_region 5 with (refine wpList_store_blk rfl _ _ _ rfl W5.heap.size #[.int .i64 Wm, .int .i64 Hm, .slice aq qs.length caq] rfl rfl (heap_alloc_new W5 _) infoImgR rfl (by simp [Value.oneCell']) (fun W6 ka hkx hbx => ?_))
    have hS : Below W5.heap.size W5 W6 := ((Below.refl _ _).alloc (Nat.le_refl _) _).trans hbx
    replace k1 := k1.kept hS
    replace k2 := k2.kept hS
    replace k3 := k3.kept hS
    replace k4 := k4.kept hS
    replace hb := hb.trans (hS.mono hb.size)
    replace hq := hq.kept hS
    clear hS hkx hbx
    generalize W5.heap.size = xka at *
    have c1 := k1.c3
    have c3 := k3.c3
    have c4 := k4.c4
    go_wp2_with fail
    clear c1 c3 c4
    refine (S2.out _ (HI.out.kept hb) (HM.out.kept hb)).mono ?_
    rintro e W7 ⟨q, rfl, hr, _, hS⟩
    replace k1 := k1.kept hS
    replace k2 := k2.kept hS
    replace k3 := k3.kept hS
    replace k4 := k4.kept hS
    replace ka := ka.kept hS
    replace hq := hq.kept hS
    replace hb := hb.trans (hS.mono hb.size)
    obtain ⟨ar, car, rfl⟩ := hr.slice
    clear hS S2
    go_upto_region 6 with (refine wpList_store_blk rfl _ _ _ rfl W7.heap.size #[.int .i64 Wh, .int .i64 Hh, .slice ar q2.length car] rfl rfl (heap_alloc_new W7 _) infoImgR rfl (by simp [Value.oneCell']) (fun W8 kz hkx hbx => ?_))
    have hS : Below W7.heap.size W7 W8 := ((Below.refl _ _).alloc (Nat.le_refl _) _).trans hbx
    replace k1 := k1.kept hS
    replace k2 := k2.kept hS
    replace k3 := k3.kept hS
    replace k4 := k4.kept hS
    replace ka := ka.kept hS
    replace hq := hq.kept hS
    replace hb := hb.trans (hS.mono hb.size)
    replace hr := hr.kept hS
    clear hS hkx hbx k2 k3 k4
    generalize W7.heap.size = xkz at *
    have c1 := k1.c3
    have ca := ka.c3
    have cz := kz.c3
    by_cases hE : E = 0
    · obtain ⟨rfl, rfl, rfl⟩ := O1.out hE
      have bE : (E != 0) = false := by simpa using hE
      clear hE
      go_wp2_with fail
      clear c1 ca cz
      refine (SM.out _ _ _ _ _ hq (HI.out.kept hb)).mono ?_
      rintro e W9 ⟨rfl, hS⟩
      replace k1 := k1.kept hS
      replace kz := kz.kept hS
      replace hr := hr.kept hS
      replace hb := hb.trans (hS.mono hb.size)
      clear hS
      have c1 := k1.c3
      have cz := kz.c3
      by_cases hE2 : E2 = 0
      · obtain ⟨rfl, rfl, rfl⟩ := O2.out hE2
        have bE2 : (E2 != 0) = false := by simpa using hE2
        clear hE2
        go_wp2_with fail
        clear c1 cz
        refine (SM.out _ _ _ _ _ hr (HI.out.kept hb)).mono ?_
        rintro e W10 ⟨rfl, hS⟩
        replace hb := hb.trans (hS.mono hb.size)
        go_wp2_with fail
        go_ret
        exact ⟨rfl, hb⟩
      · have bE2 : (E2 != 0) = true := by simpa using hE2
        go_wp2_with fail
        go_ret
        exact ⟨rfl, hb⟩
    · have bE : (E != 0) = true := by simpa using hE
      by_cases hE2 : E2 = 0
      · obtain ⟨rfl, rfl, rfl⟩ := O2.out hE2
        have bE2 : (E2 != 0) = false := by simpa using hE2
        clear hE2
        go_wp2_with fail
        clear c1 ca cz
        refine (SM.out _ _ _ _ _ hr (HI.out.kept hb)).mono ?_
        rintro e W10 ⟨rfl, hS⟩
        replace hb := hb.trans (hS.mono hb.size)
        go_wp2_with fail
        go_ret
        exact ⟨rfl, hb⟩
      · have bE2 : (E2 != 0) = true := by simpa using hE2
        go_wp2_with fail
        go_ret
        exact ⟨rfl, hb⟩
end Go.Proofs.YtieacbccadbdbaaDoor.retouchSame

