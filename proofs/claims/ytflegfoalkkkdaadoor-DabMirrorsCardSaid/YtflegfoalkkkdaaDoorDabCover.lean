/- Package dab: Cover, valid (printed by gendab.py). -/
import Derived.Test.YtflegfoalkkkdaaDoorLDab
namespace Go.Proofs.YtflegfoalkkkdaaDoor
open Go.RowKit
set_option linter.unusedVariables false
attribute [local go_sem] Oper.gAt gUponK Oper.sAt stilK

set_option maxHeartbeats 2000000 in
theorem cover_any (B : Bru) (d : Dab) (x y : Int) (u : Value) (w : World) (hs : Sines w) (h : Dn w u B.ds) :
    Calls Tryd.prog 15 #[brv B u, dbv d, .int .i64 x, .int .i64 y] w fun e w' => e = .returned (.int .i64 (dcov B d x y)) ∧ Below w.heap.size w w' := by
  have HD := Lib.hid h
  have HSn := Lib.hid hs
  obtain ⟨a, cap, rfl, _, _⟩ := h
  clear hs
  have C := Lib.hid (fun w h => dabCheck_any B (.slice a B.ds.length cap) w h)
  by_cases h0 : bchk B = 0
  · have HE : Hid (dcov B d x y = cvr B (lim d) (cc x) (cc y)) := if_pos h0
    rw [h0] at C
    have L := Lib.hid (fun w => limited_any d w)
    have X := Lib.hid (fun w => ccC_any x w)
    have Y := Lib.hid (fun w => ccC_any y w)
    have V := Lib.hid (fun w hs => covered_any B (lim d) (cc x) (cc y) a B.ds.length cap w hs (bbd_of h0) (lim_bd d) (cc_bd x) (cc_bd y))
    rw [HE.out]
    clear HE h0
    generalize cvr B (lim d) (cc x) (cc y) = r at *
    generalize lim d = l at *
    generalize cc x = x' at *
    generalize cc y = y' at *
    generalize B.ds.length = n at *
    go_enter Tryd.func15, Tryd.ntmps15
    go_upto_region 1 with (fail)
    refine name2 (fun W k1 k2 hb => ?_)
    have c1 := k1.c16
    go_wp2_with fail
    clear c1
    refine (C.out _ (HD.out.kept hb)).mono ?_
    rintro e W1 ⟨rfl, hS⟩
    replace k1 := k1.kept hS
    replace k2 := k2.kept hS
    replace hb := hb.trans (hS.mono hb.size)
    clear hS
    go_wp2_with fail
    refine (X.out _).mono ?_
    rintro e w' ⟨rfl, rfl⟩
    go_wp2_with fail
    refine (Y.out _).mono ?_
    rintro e w' ⟨rfl, rfl⟩
    go_upto_region 5 with (fail)
    refine wp_region_grow 6 (fun w' => Below (World.heap W1).size W1 w') (by kernel_rfl) (by kernel_rfl) (Below.refl _ _).drew ?_
    simp only [List.take_succ_cons, List.take_zero, List.drop_succ_cons, List.drop_zero]
    repeat (first | (apply wpG_on; rfl; (intro w' hS K hK; have hc0 := (k1.kept hS).c16; have hc1 := (k2.kept hS).c5; go_simp; (first | exact hK.out _ hS | (go_at_call 26; (with_reducible refine (L.out _).mono ?_); rintro e w'' ⟨rfl, hbb⟩; exact ⟨_, rfl, hK.out _ (hS.trans (hbb.mono hS.size))⟩) | (go_at_call 34; (with_reducible refine (V.out _ (HSn.out.kept (hb.trans (hS.mono hb.size)))).mono ?_); rintro e w'' ⟨rfl, hbb⟩; exact ⟨_, rfl, hK.out _ (hS.trans (hbb.mono hS.size))⟩))); simp only [Act.put, List.setIfInBounds_toArray, List.set_cons_succ, List.set_cons_zero]) | (apply wpG_off; rfl; simp only [Act.put, List.setIfInBounds_toArray, List.set_cons_succ, List.set_cons_zero]))
    apply wpG_nil
    intro W2 hS
    replace k1 := k1.kept hS
    replace k2 := k2.kept hS
    replace hb := hb.trans (hS.mono hb.size)
    clear hS
    go_wp2_with fail
    go_ret
    exact ⟨rfl, hb⟩
  · have HE : Hid (dcov B d x y = 0) := if_neg h0
    rw [HE.out]
    clear HE
    have b0 : (bchk B != 0) = true := by simpa using h0
    clear h0
    generalize bchk B = E at *
    generalize B.ds.length = n at *
    go_enter Tryd.func15, Tryd.ntmps15
    go_upto_region 1 with (fail)
    refine name2 (fun W k1 k2 hb => ?_)
    have c1 := k1.c16
    go_wp2_with fail
    clear c1
    refine (C.out _ (HD.out.kept hb)).mono ?_
    rintro e W1 ⟨rfl, hS⟩
    replace hb := hb.trans (hS.mono hb.size)
    go_wp2_with fail
    go_ret
    exact ⟨rfl, hb⟩

set_option maxHeartbeats 1000000 in
theorem dvalid_any (d : Dab) (w : World) :
    Calls Tryd.prog 31 #[dbv d] w fun e w' => e = .returned (.bool (dOk d)) ∧ Below w.heap.size w w' := by
  have L : Hid (∀ w, Calls Tryd.prog 26 #[dbv d] w fun e w' => e = .returned (.agg #[.int .i64 (co d.x), .int .i64 (co d.y), .int .i64 (sz1 d.sz), .int .i64 (cl d.fl), .int .i64 (d.an % 65536)]) ∧ Below w.heap.size w w') := fun w => limited_any d w
  have HE : Hid (dOk d = decide (d.x = co d.x ∧ d.y = co d.y ∧ d.sz = sz1 d.sz ∧ d.fl = cl d.fl ∧ d.an = d.an % 65536)) := by show _ = _; rfl
  rw [HE.out]
  clear HE
  generalize co d.x = x0 at *
  generalize co d.y = x1 at *
  generalize sz1 d.sz = x2 at *
  generalize cl d.fl = x3 at *
  generalize d.an % 65536 = x4 at *
  go_enter Tryd.func31, Tryd.ntmps31
  go_upto_region 1 with (fail)
  refine name1 (fun W k1 hb => ?_)
  refine wp_region_grow 3 (fun w' => Below (World.heap W).size W w') (by kernel_rfl) (by kernel_rfl) (Below.refl _ _).drew ?_
  simp only [List.take_succ_cons, List.take_zero, List.drop_succ_cons, List.drop_zero]
  repeat (first | (apply wpG_on; rfl; (intro w' hS K hK; have hc0 := (k1.kept hS).c5; go_simp; (first | exact hK.out _ hS | (go_at_call 26; (with_reducible refine (L.out _).mono ?_); rintro e w'' ⟨rfl, hbb⟩; exact ⟨_, rfl, hK.out _ (hS.trans (hbb.mono hS.size))⟩))); simp only [Act.put, List.setIfInBounds_toArray, List.set_cons_succ, List.set_cons_zero]) | (apply wpG_off; rfl; simp only [Act.put, List.setIfInBounds_toArray, List.set_cons_succ, List.set_cons_zero]))
  apply wpG_nil
  intro W1 hS
  replace k1 := k1.kept hS
  replace hb := hb.trans (hS.mono hb.size)
  clear hS
  go_wp2_with fail
  all_goals go_ret
  all_goals refine ⟨ret_bool ?_, hb⟩
  all_goals simp [*]
end Go.Proofs.YtflegfoalkkkdaaDoor
