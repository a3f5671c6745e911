/- Several texts in one: PaintPlain, Painted. -/
import Derived.Test.YtjaidcdkkgnfoaaGreatDoorLBru
import Derived.Test.YtjaidcdkkgnfoaaGreatDoorLOver
import Derived.Test.YtjaidcdkkgnfoaaGreatDoorLMask
import Derived.Test.YtjaidcdkkgnfoaaGreatDoorLDyn
import Derived.Test.YtjaidcdkkgnfoaaGreatDoorLNum
import Derived.Deep.Cut

/- Strokes painted on images, plainly: the error of a mask, the coverage within a selection, the painted pixels. -/
namespace Go.Proofs.YtjaidcdkkgnfoaaGreatDoor
open Go.RowKit
set_option linter.unusedVariables false

theorem ichk_px {W H : Int} {ps : List Px} (h : ichk W H ps = 0) : (W = 0 ↔ H = 0) ∧ ∀ i, i < ps.length → pOk (pxAt ps i) = true := by
  unfold ichk at h
  split at h
  · cases h
  · refine ⟨by omega, fun i hi => ?_⟩
    have := ferr_zero _ _ _ h i (by omega) (by omega)
    unfold pbad at this
    split at this
    · assumption
    · cases this

/-- A pixel painted with a coverage. -/
def painted (B : Bru) (p : Px) (k : Int) : Px := if k = 0 then p else if B.er = true then fdP p (65535 - k) else ovP B.md p (fdP (B.r, B.g, B.b, B.a) k)
/-- The coverage of pixel i within the selection. -/
def kAt (B : Bru) (ds : List Dab) (W : Nat) (sw : Int) (zs : List Int) (i : Nat) : Int := if sw = 0 then cout B ds W i else dv (cl (cout B ds W i) * cl (zs.getD i 0)) 65535
theorem kAt_bd (B : Bru) (ds : List Dab) (W : Nat) (sw : Int) (zs : List Int) (i : Nat) : 0 ≤ kAt B ds W sw zs i ∧ kAt B ds W sw zs i ≤ 65535 := by
  unfold kAt
  split
  · exact cout_bd _ _ _ _
  · exact mulU_bd' _ _
def pxOut (B : Bru) (ds : List Dab) (W : Nat) (sw : Int) (zs : List Int) (ps : List Px) (i : Nat) : Px := painted B (pxAt ps i) (kAt B ds W sw zs i)
def pouts (B : Bru) (ds : List Dab) (W : Nat) (sw : Int) (zs : List Int) (ps : List Px) : List Px := (List.range ps.length).map (pxOut B ds W sw zs ps)
theorem pouts_len (B : Bru) (ds : List Dab) (W : Nat) (sw : Int) (zs : List Int) (ps : List Px) : (pouts B ds W sw zs ps).length = ps.length := by simp [pouts]
theorem pouts_at (B : Bru) (ds : List Dab) (W : Nat) (sw : Int) (zs : List Int) (ps : List Px) (i : Nat) (hi : i < ps.length) : pxAt (pouts B ds W sw zs ps) i = pxOut B ds W sw zs ps i := by simp [pxAt, pouts, List.getD, hi]
/-- The error of painting. -/
def perr (iw ih : Int) (ps : List Px) (B : Bru) (ls : List Smp) (mw mh : Int) (zs : List Int) : Int :=
  if ichk iw ih ps = 0 then if mchk mw mh zs = 0 then if (dabs B ls).2 = 0 then if mw ≠ 0 ∧ (mw ≠ iw ∨ mh ≠ ih) then 15 else 0 else (dabs B ls).2 else mchk mw mh zs else ichk iw ih ps
/-- What Paint gives: the image's size, the error, the image's pixels. -/
def PaintOut (iw ih : Int) (ps : List Px) (B : Bru) (ls : List Smp) (mw mh : Int) (zs : List Int) (Wm Hm E : Int) (qs : List Px) : Prop :=
  (ichk iw ih ps ≠ 0 ∧ Wm = 0 ∧ Hm = 0 ∧ E = ichk iw ih ps ∧ qs = []) ∨
  (ichk iw ih ps = 0 ∧ mchk mw mh zs ≠ 0 ∧ Wm = 0 ∧ Hm = 0 ∧ E = mchk mw mh zs ∧ qs = []) ∨
  (ichk iw ih ps = 0 ∧ mchk mw mh zs = 0 ∧ (dabs B ls).2 ≠ 0 ∧ Wm = 0 ∧ Hm = 0 ∧ E = (dabs B ls).2 ∧ qs = []) ∨
  (ichk iw ih ps = 0 ∧ mchk mw mh zs = 0 ∧ (dabs B ls).2 = 0 ∧ (mw ≠ 0 ∧ (mw ≠ iw ∨ mh ≠ ih)) ∧ Wm = 0 ∧ Hm = 0 ∧ E = 15 ∧ qs = []) ∨
  (ichk iw ih ps = 0 ∧ mchk mw mh zs = 0 ∧ (dabs B ls).2 = 0 ∧ ¬ (mw ≠ 0 ∧ (mw ≠ iw ∨ mh ≠ ih)) ∧ Wm = iw ∧ Hm = ih ∧ E = 0 ∧ qs = pouts B (dabs B ls).1 iw.toNat mw zs ps)
theorem paint_out (iw ih : Int) (ps : List Px) (B : Bru) (ls : List Smp) (mw mh : Int) (zs : List Int) : ∃ Wm Hm E qs, PaintOut iw ih ps B ls mw mh zs Wm Hm E qs := by
  by_cases h1 : ichk iw ih ps = 0
  · by_cases h2 : mchk mw mh zs = 0
    · by_cases h3 : (dabs B ls).2 = 0
      · by_cases h4 : mw ≠ 0 ∧ (mw ≠ iw ∨ mh ≠ ih)
        · exact ⟨0, 0, 15, [], .inr (.inr (.inr (.inl ⟨h1, h2, h3, h4, rfl, rfl, rfl, rfl⟩)))⟩
        · exact ⟨iw, ih, 0, _, .inr (.inr (.inr (.inr ⟨h1, h2, h3, h4, rfl, rfl, rfl, rfl⟩)))⟩
      · exact ⟨0, 0, _, [], .inr (.inr (.inl ⟨h1, h2, h3, rfl, rfl, rfl, rfl⟩))⟩
    · exact ⟨0, 0, _, [], .inr (.inl ⟨h1, h2, rfl, rfl, rfl, rfl⟩)⟩
  · exact ⟨0, 0, _, [], .inl ⟨h1, rfl, rfl, rfl, rfl⟩⟩
theorem kAt_no (B : Bru) (ds : List Dab) (W : Nat) (zs : List Int) (i : Nat) : kAt B ds W 0 zs i = cout B ds W i := if_pos rfl
theorem kAt_sel (B : Bru) (ds : List Dab) (W : Nat) {sw : Int} (zs : List Int) (i : Nat) (h : sw ≠ 0) : kAt B ds W sw zs i = dv (cl (cout B ds W i) * cl (zs.getD i 0)) 65535 := if_neg h
end Go.Proofs.YtjaidcdkkgnfoaaGreatDoor


/- A pixel painted with a coverage, by the program and by the reference. -/
namespace Go.Proofs.YtjaidcdkkgnfoaaGreatDoor
open Go.RowKit
set_option linter.unusedVariables false
attribute [local go_sem] Oper.gAt gUponK Oper.sAt stilK

theorem painted_0 (B : Bru) (p : Px) : painted B p 0 = p := if_pos rfl
theorem painted_e {B : Bru} (p : Px) {k : Int} (hk : k ≠ 0) (h : B.er = true) : painted B p k = fdP p (65535 - k) := by unfold painted; rw [if_neg hk, if_pos h]
theorem painted_o {B : Bru} (p : Px) {k : Int} (hk : k ≠ 0) (h : B.er = false) : painted B p k = ovP B.md p (fdP (B.r, B.g, B.b, B.a) k) := by unfold painted; rw [if_neg hk, h, if_neg (by decide)]
theorem pOk_cl {r g b a : Int} (h : pOk (r, g, b, a) = true) : cl r = r ∧ cl g = g ∧ cl b = b ∧ cl a = a := by
  have h := of_decide_eq_true h
  simp only at h
  omega

set_option maxHeartbeats 4000000 in
theorem painted_any (B : Bru) (au : Option Addr) (nd capu : Nat) (p : Px) (k : Int) (w : World) (hk : 0 ≤ k ∧ k ≤ 65535) :
    Calls Tryz.prog 20 #[brv B (.slice au nd capu), pvx p, .int .i64 k] w fun e w' => e = .returned (pvx (painted B p k)) ∧ Below w.heap.size w w' := by
  obtain ⟨r, g, b, a⟩ := p
  show Calls _ _ #[brv B (.slice au nd capu), pv r g b a, .int .i64 k] w _
  by_cases h0 : k = 0
  · subst h0
    rw [painted_0]
    go_enter Tryz.func20, Tryz.ntmps20
    go_upto_region 1 with (fail)
    refine name3 (fun W kb kp kr hb => ?_)
    have cp := kp.c4
    have cr := kr.c4
    go_wp2_with fail
    exact end4 hb kr (by omega) (fun w3 c3 => by simp [results, Tryz.results20, go_sem, c3]) rfl (fun w3 hb3 => ⟨rfl, hb3⟩)
  · have b0 : (k == 0) = false := by simpa using h0
    cases he : B.er with
    | true =>
      rw [painted_e _ h0 he]
      have FD := Lib.hid (fun w => fade_any (r, g, b, a) (65535 - k) w)
      generalize fdP (r, g, b, a) (65535 - k) = q at *
      obtain ⟨q0, q1, q2, q3⟩ := q
      replace FD : Hid (∀ w, Calls Tryz.prog 51 #[pv r g b a, .int .i64 (65535 - k)] w fun e w' => e = .returned (pv q0 q1 q2 q3) ∧ Below w.heap.size w w') := FD
      have e1 : IntKind.i64.wrap (65535 - k) = 65535 - k := IntWalk.i64_in _ (by omega)
      clear h0
      go_enter Tryz.func20, Tryz.ntmps20
      go_upto_region 1 with (fail)
      refine name3 (fun W kb kp kr hb => ?_)
      have cb := kb.c16
      have cp := kp.c4
      go_wp2_with fail
      clear cb cp
      refine (FD.out _).mono ?_
      rintro e W1 ⟨rfl, hS⟩
      replace kr := kr.kept hS
      replace hb := hb.trans (hS.mono hb.size)
      have cr := kr.c4
      go_wp2_with fail
      exact end4 hb kr (by omega) (fun w3 c3 => by simp [results, Tryz.results20, go_sem, c3]) rfl (fun w3 hb3 => ⟨rfl, hb3⟩)
    | false =>
      rw [painted_o _ h0 he]
      have FD := Lib.hid (fun w => fade_any (B.r, B.g, B.b, B.a) k w)
      generalize fdP (B.r, B.g, B.b, B.a) k = q at *
      obtain ⟨q0, q1, q2, q3⟩ := q
      replace FD : Hid (∀ w, Calls Tryz.prog 51 #[pv B.r B.g B.b B.a, .int .i64 k] w fun e w' => e = .returned (pv q0 q1 q2 q3) ∧ Below w.heap.size w w') := FD
      have OV := Lib.hid (fun w => over_any B.md (r, g, b, a) (q0, q1, q2, q3) w)
      generalize ovP B.md (r, g, b, a) (q0, q1, q2, q3) = o at *
      obtain ⟨o0, o1, o2, o3⟩ := o
      replace OV : Hid (∀ w, Calls Tryz.prog 52 #[.int .i64 B.md, pv r g b a, pv q0 q1 q2 q3] w fun e w' => e = .returned (pv o0 o1 o2 o3) ∧ Below w.heap.size w w') := OV
      clear h0
      go_enter Tryz.func20, Tryz.ntmps20
      go_upto_region 1 with (fail)
      refine name3 (fun W kb kp kr hb => ?_)
      have cb := kb.c16
      go_upto_region 5 with (fail)
      clear cb
      refine wp_region_grow 8 (fun w' => Below (World.heap W).size W w') (by kernel_rfl) (by kernel_rfl) (Below.refl _ _).drew ?_
      simp only [List.take_succ_cons, List.take_zero, List.drop_succ_cons, List.drop_zero]
      repeat (first | (apply wpG_on; rfl; (intro w' hS K hK; have hc0 := (kb.kept hS).c16; have hc1 := (kp.kept hS).c4; have hc2 := (kr.kept hS).c4; go_simp; (first | exact hK.out _ hS | (go_at_call 51; (with_reducible refine (FD.out _).mono ?_); rintro e w'' ⟨rfl, hbb⟩; exact ⟨_, rfl, hK.out _ (hS.trans (hbb.mono hS.size))⟩) | (go_at_call 52; (with_reducible refine (OV.out _).mono ?_); rintro e w'' ⟨rfl, hbb⟩; exact ⟨_, rfl, hK.out _ (hS.trans (hbb.mono hS.size))⟩))); simp only [Act.put, List.setIfInBounds_toArray, List.set_cons_succ, List.set_cons_zero]) | (apply wpG_off; rfl; simp only [Act.put, List.setIfInBounds_toArray, List.set_cons_succ, List.set_cons_zero]))
      apply wpG_nil
      intro W1 hS
      replace kb := kb.kept hS
      replace kp := kp.kept hS
      replace kr := kr.kept hS
      replace hb := hb.trans (hS.mono hb.size)
      clear hS
      have cr := kr.c4
      go_wp2_with fail
      exact end4 hb kr (by omega) (fun w3 c3 => by simp [results, Tryz.results20, go_sem, c3]) rfl (fun w3 hb3 => ⟨rfl, hb3⟩)

set_option maxHeartbeats 4000000 in
theorem refPainted_any (B : Bru) (au : Option Addr) (nd capu : Nat) (p : Px) (k : Int) (w : World) (hk : 0 ≤ k ∧ k ≤ 65535) (hp : pOk p = true) :
    Calls Tryz.prog 23 #[brv B (.slice au nd capu), pvx p, .int .i64 k] w fun e w' => e = .returned (pvx (painted B p k)) ∧ Below w.heap.size w w' := by
  obtain ⟨r, g, b, a⟩ := p
  have hc := pOk_cl hp
  show Calls _ _ #[brv B (.slice au nd capu), pv r g b a, .int .i64 k] w _
  by_cases h0 : k = 0
  · subst h0
    rw [painted_0]
    clear hc
    go_enter Tryz.func23, Tryz.ntmps23
    go_upto_region 1 with (fail)
    refine name3 (fun W kb kp kr hb => ?_)
    have cp := kp.c4
    have cr := kr.c4
    go_wp2_with fail
    exact end4 hb kr (by omega) (fun w3 c3 => by simp [results, Tryz.results23, go_sem, c3]) rfl (fun w3 hb3 => ⟨rfl, hb3⟩)
  · have b0 : (k == 0) = false := by simpa using h0
    cases he : B.er with
    | true =>
      rw [painted_e _ h0 he]
      have MU := Lib.hid (fun w => refMul_any a (65535 - k) w)
      have e1 : IntKind.i64.wrap (65535 - k) = 65535 - k := IntWalk.i64_in _ (by omega)
      by_cases hz : fdA a (65535 - k) = 0
      · have HF : Hid (fdP (r, g, b, a) (65535 - k) = (0, 0, 0, 0)) := if_pos hz
        have hz2 : dv (cl a * cl (65535 - k)) 65535 = 0 := hz
        rw [hz2] at MU
        rw [HF.out]
        clear h0 hc hz hz2 HF
        go_enter Tryz.func23, Tryz.ntmps23
        go_upto_region 1 with (fail)
        refine name3 (fun W kb kp kr hb => ?_)
        have cb := kb.c16
        have cp := kp.c4
        go_wp2_with fail
        clear cb cp
        refine (MU.out _).mono ?_
        rintro e W1 ⟨rfl, n, rfl⟩
        have hS : Below W.heap.size W (W.drewN n) := belowN (Below.refl _ _) n
        replace kp := kp.kept hS
        replace kr := kr.kept hS
        replace hb := hb.trans (hS.mono hb.size)
        clear hS
        generalize W.drewN n = W1 at *
        have cp := kp.c4
        have cr := kr.c4
        go_wp2_with fail
        exact end4 (hb.setCell (by simp) _) (kr.other (by simp) _) (by omega) (fun w3 c3 => by simp [results, Tryz.results23, go_sem, c3]) rfl (fun w3 hb3 => ⟨rfl, hb3⟩)
      · have HF : Hid (fdP (r, g, b, a) (65535 - k) = (r, g, b, dv (cl a * cl (65535 - k)) 65535)) := by
          show _ = _
          unfold fdP
          rw [if_neg hz]
          simp only [hc.1, hc.2.1, hc.2.2.1]
          rfl
        have hz2 : dv (cl a * cl (65535 - k)) 65535 ≠ 0 := hz
        rw [HF.out]
        clear h0 hc hz HF
        generalize dv (cl a * cl (65535 - k)) 65535 = A at *
        have bz : (A == 0) = false := by simpa using hz2
        go_enter Tryz.func23, Tryz.ntmps23
        go_upto_region 1 with (fail)
        refine name3 (fun W kb kp kr hb => ?_)
        have cb := kb.c16
        have cp := kp.c4
        go_wp2_with fail
        clear cb cp
        refine (MU.out _).mono ?_
        rintro e W1 ⟨rfl, n, rfl⟩
        have hS : Below W.heap.size W (W.drewN n) := belowN (Below.refl _ _) n
        replace kp := kp.kept hS
        replace kr := kr.kept hS
        replace hb := hb.trans (hS.mono hb.size)
        clear hS
        generalize W.drewN n = W1 at *
        have cp := kp.c4
        have cr := kr.c4
        go_wp2_with fail
        exact end4 (hb.setCell (by simp) _) (kr.other (by simp) _) (by omega) (fun w3 c3 => by simp [results, Tryz.results23, go_sem, c3]) rfl (fun w3 hb3 => ⟨rfl, hb3⟩)
    | false =>
      rw [painted_o _ h0 he]
      have FD := Lib.hid (fun w => refFade_any (B.r, B.g, B.b, B.a) k w)
      generalize fdP (B.r, B.g, B.b, B.a) k = q at *
      obtain ⟨q0, q1, q2, q3⟩ := q
      replace FD : Hid (∀ w, Calls Tryz.prog 55 #[pv B.r B.g B.b B.a, .int .i64 k] w fun e w' => e = .returned (pv q0 q1 q2 q3) ∧ Below w.heap.size w w') := FD
      have OV := Lib.hid (fun w => refOver_any B.md (r, g, b, a) (q0, q1, q2, q3) w)
      generalize ovP B.md (r, g, b, a) (q0, q1, q2, q3) = o at *
      obtain ⟨o0, o1, o2, o3⟩ := o
      replace OV : Hid (∀ w, Calls Tryz.prog 54 #[.int .i64 B.md, pv r g b a, pv q0 q1 q2 q3] w fun e w' => e = .returned (pv o0 o1 o2 o3) ∧ Below w.heap.size w w') := OV
      clear h0 hc
      go_enter Tryz.func23, Tryz.ntmps23
      go_upto_region 1 with (fail)
      refine name3 (fun W kb kp kr hb => ?_)
      have cb := kb.c16
      go_upto_region 4 with (fail)
      clear cb
      refine wp_region_grow 8 (fun w' => Below (World.heap W).size W w') (by kernel_rfl) (by kernel_rfl) (Below.refl _ _).drew ?_
      simp only [List.take_succ_cons, List.take_zero, List.drop_succ_cons, List.drop_zero]
      repeat (first | (apply wpG_on; rfl; (intro w' hS K hK; have hc0 := (kb.kept hS).c16; have hc1 := (kp.kept hS).c4; have hc2 := (kr.kept hS).c4; go_simp; (first | exact hK.out _ hS | (go_at_call 55; (with_reducible refine (FD.out _).mono ?_); rintro e w'' ⟨rfl, hbb⟩; exact ⟨_, rfl, hK.out _ (hS.trans (hbb.mono hS.size))⟩) | (go_at_call 54; (with_reducible refine (OV.out _).mono ?_); rintro e w'' ⟨rfl, hbb⟩; exact ⟨_, rfl, hK.out _ (hS.trans (hbb.mono hS.size))⟩))); simp only [Act.put, List.setIfInBounds_toArray, List.set_cons_succ, List.set_cons_zero]) | (apply wpG_off; rfl; simp only [Act.put, List.setIfInBounds_toArray, List.set_cons_succ, List.set_cons_zero]))
      apply wpG_nil
      intro W1 hS
      replace kb := kb.kept hS
      replace kp := kp.kept hS
      replace kr := kr.kept hS
      replace hb := hb.trans (hS.mono hb.size)
      clear hS
      have cr := kr.c4
      go_wp2_with fail
      exact end4 hb kr (by omega) (fun w3 c3 => by simp [results, Tryz.results23, go_sem, c3]) rfl (fun w3 hb3 => ⟨rfl, hb3⟩)
end Go.Proofs.YtjaidcdkkgnfoaaGreatDoor

