/- DabMirrors, one half (printed by genmirr27.py). -/
import Derived.Test.YtflegfoalkkkdaaDoorDabMirrP
namespace Go.Proofs.YtflegfoalkkkdaaDoor.dabMirrors
open Go.ChangeShapes Go.WideShapes Go.ChangeAt Go.RowKit
set_option linter.unusedVariables false
attribute [local go_sem] Oper.gAt gUponK Oper.sAt stilK

set_option maxRecDepth 20000 in
set_option maxHeartbeats 8000000 in
theorem goodA (B : Bru) (u : Value) (size flow cx cy i j : Int) (w : World) (hs : Sines w) (hD : Dn w u B.ds) (hx : -524288 ≤ cx ∧ cx ≤ 524288) (hy : -524288 ≤ cy ∧ cy ≤ 524288) (hi : 0 ≤ i ∧ i ≤ 262144) (hj : 0 ≤ j ∧ j ≤ 262144) (ha : B.an = 0) (hr : B.rn = 65535) :
    Calls Tryd.prog 6 #[brv B u, .int .i64 size, .int .i64 flow, .int .i64 cx, .int .i64 cy, .int .i64 i, .int .i64 j] w fun e w' => e = .returned (.bool true) ∧ Below w.heap.size w w' := by
  have HD := Lib.hid hD
  have HSn := Lib.hid hs
  obtain ⟨a, cap, rfl, _, _⟩ := hD
  clear hs
  have V1 := Lib.hid (fun w hs h => cover_any B (ctr size flow cx cy) (cx + i) (cy + j) (.slice a B.ds.length cap) w hs h)
  have V2 := Lib.hid (fun w hs h => cover_any B (ctr size flow cx cy) (cx - i) (cy + j) (.slice a B.ds.length cap) w hs h)
  have V3 := Lib.hid (fun w hs h => cover_any B (ctr size flow cx cy) (cx + i) (cy - j) (.slice a B.ds.length cap) w hs h)
  have V4 := Lib.hid (fun w hs h => cover_any B (ctr size flow cx cy) (cx + j) (cy + i) (.slice a B.ds.length cap) w hs h)
  have V5 := Lib.hid (fun w hs h => cover_any B (ctr size flow cx cy) (cx + i + 1) (cy + j) (.slice a B.ds.length cap) w hs h)
  have L : Hid (∀ w, Calls Tryd.prog 16 #[dbv (ctr size flow cx cy)] w fun e w' => e = .returned (.agg #[.int .i64 (lim (ctr size flow cx cy)).x, .int .i64 (lim (ctr size flow cx cy)).y, .int .i64 (lim (ctr size flow cx cy)).sz, .int .i64 (cl flow), .int .i64 (lim (ctr size flow cx cy)).an]) ∧ Below w.heap.size w w') := fun w => refDabLimit_any _ w
  rw [at_mir B size flow cx cy i j ha hx hy (by omega) (by omega)] at V1
  rw [show dcov B (ctr size flow cx cy) (cx - i) (cy + j) = mir B (sz1 size) (cl flow) i j by rw [← mir_x]; exact at_mir B size flow cx cy (-i) j ha hx hy (by omega) (by omega)] at V2
  rw [show dcov B (ctr size flow cx cy) (cx + i) (cy - j) = mir B (sz1 size) (cl flow) i j by rw [← mir_y]; exact at_mir B size flow cx cy i (-j) ha hx hy (by omega) (by omega)] at V3
  rw [at_mir B size flow cx cy j i ha hx hy (by omega) (by omega)] at V4
  rw [show cx + i + 1 = cx + (i + 1) by omega, at_mir B size flow cx cy (i + 1) j ha hx hy (by omega) (by omega), show cx + (i + 1) = cx + i + 1 by omega] at V5
  have sb := sz1_bd size
  have fb := cl_bd flow
  have ML := mir_le B (sz1 size) (cl flow) i j sb.1 fb hi hj
  have MT := Lib.hid (fun hr => mir_t B (sz1 size) (cl flow) i j hr hi.1 hj.1)
  have HRN := Lib.hid hr
  clear hr
  have MH := Lib.hid (mir_hard B (sz1 size) (cl flow) i j)
  generalize mir B (sz1 size) (cl flow) i j = v at *
  generalize mir B (sz1 size) (cl flow) (i + 1) j = v5 at *
  generalize mir B (sz1 size) (cl flow) j i = v4 at *
  generalize cl flow = fl at *
  generalize (lim (ctr size flow cx cy)).x = l0 at *
  generalize (lim (ctr size flow cx cy)).y = l1 at *
  generalize (lim (ctr size flow cx cy)).sz = l2 at *
  generalize (lim (ctr size flow cx cy)).an = l3 at *
  generalize B.ds.length = n at *
  have AW := Lib.hid (fun w hs => dabAwake_any w hs)
  have g0 : decide (cx < -524288) = false := by simp; omega
  have g1 : decide (524288 < cx) = false := by simp; omega
  have g2 : decide (cy < -524288) = false := by simp; omega
  have g3 : decide (524288 < cy) = false := by simp; omega
  have g4 : decide (i < 0) = false := by simp; omega
  have g5 : decide (262144 < i) = false := by simp; omega
  have g6 : decide (j < 0) = false := by simp; omega
  have g7 : decide (262144 < j) = false := by simp; omega
  have g8 : (B.an != 0) = false := by simpa using ha
  have g9 : decide (v < v5) = false := by simp; omega
  have m0 : IntKind.i64.wrap (16 * cx) = 16 * cx := IntWalk.i64_in _ (by omega)
  have m1 : IntKind.i64.wrap (16 * cx + 8) = 16 * cx + 8 := IntWalk.i64_in _ (by omega)
  have m2 : IntKind.i64.wrap (16 * cy) = 16 * cy := IntWalk.i64_in _ (by omega)
  have m3 : IntKind.i64.wrap (16 * cy + 8) = 16 * cy + 8 := IntWalk.i64_in _ (by omega)
  have a0 : IntKind.i64.wrap (cx + i) = cx + i := IntWalk.i64_in _ (by omega)
  have a1 : IntKind.i64.wrap (cy + j) = cy + j := IntWalk.i64_in _ (by omega)
  have a2 : IntKind.i64.wrap (cx - i) = cx - i := IntWalk.i64_in _ (by omega)
  have a3 : IntKind.i64.wrap (cy - j) = cy - j := IntWalk.i64_in _ (by omega)
  have a4 : IntKind.i64.wrap (cx + j) = cx + j := IntWalk.i64_in _ (by omega)
  have a5 : IntKind.i64.wrap (cy + i) = cy + i := IntWalk.i64_in _ (by omega)
  have a6 : IntKind.i64.wrap (cx + i + 1) = cx + i + 1 := IntWalk.i64_in _ (by omega)
  clear hx hy hi hj ha ML sb fb
  go_enter Tryd.func6, Tryd.ntmps6
  go_upto_region 1 with (fail)
  refine name1 (fun W k1 hb => ?_)
  have c1 := k1.c16.2.2.2.2.2.2.1
  go_upto_region 4 with (fail)
  clear c1 g0 g1 g2 g3 g4 g5 g6 g7 g8
  go_upto_region 5 with (refine wpList_store_blk rfl _ _ _ rfl W.heap.size #[.int .i64 (16 * cx + 8), .int .i64 (16 * cy + 8), .int .i64 size, .int .i64 flow, .int .i64 0] rfl rfl (heap_alloc_new W _) infoDab rfl (by simp [Value.oneCell']) (fun W3 k2 hkx hbx => ?_))
  have l1' := k1.lt
  replace k1 := hkx _ _ (by omega) (k1.alloc _)
  replace hb : Below w.heap.size w W3 := hb.trans ((((Below.refl _ _).alloc (Nat.le_refl _) _).trans hbx).mono hb.size)
  clear hkx hbx l1' m0 m1 m2 m3
  generalize W.heap.size = b2 at *
  have c1 := k1.c16
  have c2 := k2.c5
  go_wp2_with fail
  clear c1 c2
  refine (V1.out _ (HSn.out.kept hb) (HD.out.kept hb)).mono ?_
  rintro e W' ⟨rfl, hS⟩
  replace k1 := k1.kept hS
  replace k2 := k2.kept hS
  replace hb := hb.trans (hS.mono hb.size)
  clear hS
  have c1 := k1.c16
  have c2 := k2.c5
  go_wp2_with fail
  clear c1 c2
  refine (V2.out _ (HSn.out.kept hb) (HD.out.kept hb)).mono ?_
  rintro e W' ⟨rfl, hS⟩
  replace k1 := k1.kept hS
  replace k2 := k2.kept hS
  replace hb := hb.trans (hS.mono hb.size)
  clear hS
  have c1 := k1.c16
  have c2 := k2.c5
  go_wp2_with fail
  clear c1 c2
  refine (V3.out _ (HSn.out.kept hb) (HD.out.kept hb)).mono ?_
  rintro e W' ⟨rfl, hS⟩
  replace k1 := k1.kept hS
  replace k2 := k2.kept hS
  replace hb := hb.trans (hS.mono hb.size)
  clear hS

  have br : (B.rn == 65535) = true := by have := HRN.out; simpa using this
  rw [MT.out HRN.out] at V4
  clear HRN MT
  as_aux_lemma =>
    have c1 := k1.c16
    have c2 := k2.c5
    go_wp2_with fail
    clear c1 c2
    refine (V4.out _ (HSn.out.kept hb) (HD.out.kept hb)).mono ?_
    rintro e W' ⟨rfl, hS⟩
    replace k1 := k1.kept hS
    replace k2 := k2.kept hS
    replace hb := hb.trans (hS.mono hb.size)
    clear hS
    as_aux_lemma =>
      have c1 := k1.c16
      have c2 := k2.c5
      go_wp2_with fail
      clear c1 c2
      refine (V5.out _ (HSn.out.kept hb) (HD.out.kept hb)).mono ?_
      rintro e W' ⟨rfl, hS⟩
      replace k1 := k1.kept hS
      replace k2 := k2.kept hS
      replace hb := hb.trans (hS.mono hb.size)
      clear hS
      clear br
      by_cases hh : B.hd = 65535
      · have bh : (B.hd != 65535) = false := by simpa using hh
        by_cases hv : v = 0
        · subst hv
          as_aux_lemma =>
            clear MH hh
            clear V1 V2 V3 V4 V5 a0 a1 a2 a3 a4 a5 a6
            have c1 := k1.c16.2.1
            go_wp2_with fail
            clear c1
            refine (AW.out _ (HSn.out.kept hb)).mono ?_
            rintro e W9 ⟨rfl, hS⟩
            replace hb := hb.trans (hS.mono hb.size)
            go_wp2_with fail
            go_ret
            exact ⟨rfl, hb⟩
        · have bv : (v == 0) = false := by simpa using hv
          have bf : (v == fl) = true := by rcases MH.out hh with h0 | h0 <;> simp_all
          clear hv
          as_aux_lemma =>
            clear MH hh
            have c1 := k1.c16.2.1
            have c2 := k2.c5
            go_wp2_with fail
            clear c1 c2
            refine (L.out _).mono ?_
            rintro e W8 ⟨rfl, hS⟩
            replace k1 := k1.kept hS
            replace k2 := k2.kept hS
            replace hb := hb.trans (hS.mono hb.size)
            clear hS
            have FE : ∀ w, Sem.run Tryd.prog (Instr.field 28 (Value.agg #[Value.int IntKind.i64 l0, Value.int IntKind.i64 l1, Value.int IntKind.i64 l2, Value.int IntKind.i64 fl, Value.int IntKind.i64 l3]) 3) w = .ok (.int .i64 fl) w := fun w => rfl
            clear V1 V2 V3 V4 V5 a0 a1 a2 a3 a4 a5 a6
            have c1 := k1.c16.2.1
            go_wp2_with fail
            clear c1
            refine (AW.out _ (HSn.out.kept hb)).mono ?_
            rintro e W9 ⟨rfl, hS⟩
            replace hb := hb.trans (hS.mono hb.size)
            go_wp2_with fail
            go_ret
            exact ⟨rfl, hb⟩
      · have bh : (B.hd != 65535) = true := by simpa using hh
        as_aux_lemma =>
          clear MH hh
          clear V1 V2 V3 V4 V5 a0 a1 a2 a3 a4 a5 a6
          have c1 := k1.c16.2.1
          go_wp2_with fail
          clear c1
          refine (AW.out _ (HSn.out.kept hb)).mono ?_
          rintro e W9 ⟨rfl, hS⟩
          replace hb := hb.trans (hS.mono hb.size)
          go_wp2_with fail
          go_ret
          exact ⟨rfl, hb⟩
end Go.Proofs.YtflegfoalkkkdaaDoor.dabMirrors
