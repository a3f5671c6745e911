/- BlendImages: the walk. -/
import Derived.Test.YtfgkgibomgcmpaaDoorFrame
import Derived.Test.YtfgkgibomgcmpaaDoorBlendEx
import Derived.Test.YtfgkgibomgcmpaaDoorBRef
import Derived.Test.YtfgkgibomgcmpaaDoorBBad
import Derived.Test.YtfgkgibomgcmpaaDoorSame
namespace Go.Proofs.YtfgkgibomgcmpaaDoor.blendImages
open Go.ChangeShapes Go.WideShapes Go.ChangeAt Go.RowKit
set_option linter.unusedVariables false
attribute [local go_sem] Oper.gAt gUponK Oper.sAt stilK

theorem Blk.c8 {w : World} {b : Nat} {x0 x1 x2 x3 x4 x5 x6 x7 : Value} {t : TypeId} (k : Blk w b (.cells #[x0, x1, x2, x3, x4, x5, x6, x7] t (0, 0))) :
    w.cell? ⟨b, 0, none⟩ = some x0 ∧ w.cell? ⟨b, 1, none⟩ = some x1 ∧ w.cell? ⟨b, 2, none⟩ = some x2 ∧ w.cell? ⟨b, 3, none⟩ = some x3 ∧ w.cell? ⟨b, 4, none⟩ = some x4 ∧ w.cell? ⟨b, 5, none⟩ = some x5 ∧ w.cell? ⟨b, 6, none⟩ = some x6 ∧ w.cell? ⟨b, 7, none⟩ = some x7 ∧ ∀ o, w.frozen? ⟨b, o, none⟩ = false :=
  ⟨cell_blk k rfl, cell_blk k rfl, cell_blk k rfl, cell_blk k rfl, cell_blk k rfl, cell_blk k rfl, cell_blk k rfl, cell_blk k rfl, fun _ => free_blk k⟩

/-- Both functions come to the same image, or to the same error. -/
theorem images (m o bW bH sW sH : Int) (vb vs : Value) (bs ss : List Px) : ∃ (W H E : Int) (ps : List Px),
    (∀ w, Pn w vb bs → Pn w vs ss → Calls Tryd.prog 19 #[.int .i64 m, .int .i64 o, .agg #[.int .i64 bW, .int .i64 bH, vb], .agg #[.int .i64 sW, .int .i64 sH, vs]] w fun e w' => ∃ v, e = .returned (.tuple #[.agg #[.int .i64 W, .int .i64 H, v], .int .i64 E]) ∧ Pn w' v ps ∧ Below w.heap.size w w') ∧
    (∀ w, Pn w vb bs → Pn w vs ss → Calls Tryd.prog 20 #[.int .i64 m, .int .i64 o, .agg #[.int .i64 bW, .int .i64 bH, vb], .agg #[.int .i64 sW, .int .i64 sH, vs]] w fun e w' => ∃ v, e = .returned (.tuple #[.agg #[.int .i64 W, .int .i64 H, v], .int .i64 E]) ∧ Pn w' v ps ∧ Below w.heap.size w w') := by
  by_cases h : imgErr m o bW bH bs sW sH ss = 0
  · obtain ⟨h1, h2, h3, h4, rfl, rfl⟩ := imgErr_zero h
    exact ⟨bW, bH, 0, imgOut m o bs ss, fun w hb hs => image_good m o bW bH vb vs bs ss w hb hs h1 h2 h3 h4, fun w hb hs => refImage_good m o bW bH vb vs bs ss w hb hs h1 h2 h3 h4⟩
  · exact ⟨0, 0, imgErr m o bW bH bs sW sH ss, [], fun w hb hs => (image_bad m o bW bH sW sH vb vs bs ss w hb hs h).mono fun e w' ⟨he, hw⟩ => ⟨_, he, Pn.nil _, hw⟩,
      fun w hb hs => (refImage_bad m o bW bH sW sH vb vs bs ss w hb hs h).mono fun e w' ⟨he, hw⟩ => ⟨_, he, Pn.nil _, hw⟩⟩

set_option maxHeartbeats 4000000 in
theorem walk (m o bW bH : Int) (vb : Value) (bs : List Px) (sW sH : Int) (vs : Value) (ss : List Px) (w : World) (hN : Names w) (hb0 : Pn w vb bs) (hs0 : Pn w vs ss) :
    Calls Tryd.prog 6 #[.agg #[.int .i64 m, .int .i64 o, .int .i64 bW, .int .i64 bH, vb, .int .i64 sW, .int .i64 sH, vs]] w fun e w' => e = .returned (.bool true) ∧ Below w.heap.size w w' := by
  have HN := Lib.hid hN
  have HB := Lib.hid hb0
  have HS := Lib.hid hs0
  obtain ⟨W, H, E, ps, I1, I2⟩ := images m o bW bH sW sH vb vs bs ss
  obtain ⟨a, cap, rfl⟩ := hb0.slice
  obtain ⟨a', cap', rfl⟩ := hs0.slice
  replace I1 := Lib.hid I1
  replace I2 := Lib.hid I2
  clear hN hb0 hs0
  generalize bs.length = n at *
  generalize ss.length = n' at *
  go_enter Tryd.func6, Tryd.ntmps6
  go_upto_region 1 with (fail)
  refine name1 (fun W1 k1 hb => ?_)
  have c1 := blendImages.Blk.c8 k1
  go_wp2_with fail
  clear c1
  refine (I1.out _ (HB.out.kept hb) (HS.out.kept hb)).mono ?_
  rintro e W2 ⟨v1, rfl, p1, hS⟩
  replace k1 := k1.kept hS
  replace hb := hb.trans (hS.mono hb.size)
  clear hS
  have HP1 := Lib.hid p1
  obtain ⟨a1, cap1, rfl⟩ := p1.slice
  clear p1
  go_upto_region 2 with (fail)
  refine name1 (fun W3 k3 hS => ?_)
  replace k1 := k1.kept hS
  replace HP1 := Lib.hid (HP1.out.kept hS)
  replace hb := hb.trans (hS.mono hb.size)
  clear hS
  have c1 := blendImages.Blk.c8 k1
  go_wp2_with fail
  clear c1
  refine (I2.out _ (HB.out.kept hb) (HS.out.kept hb)).mono ?_
  rintro e W4 ⟨v2, rfl, p2, hS⟩
  replace k1 := k1.kept hS
  replace k3 := k3.kept hS
  replace HP1 := Lib.hid (HP1.out.kept hS)
  replace hb := hb.trans (hS.mono hb.size)
  clear hS
  have HP2 := Lib.hid p2
  obtain ⟨a2, cap2, rfl⟩ := p2.slice
  clear p2
  go_upto_region 3 with (fail)
  refine name1 (fun W5 k5 hS => ?_)
  replace k3 := k3.kept hS
  replace HP1 := Lib.hid (HP1.out.kept hS)
  replace HP2 := Lib.hid (HP2.out.kept hS)
  replace hb := hb.trans (hS.mono hb.size)
  clear hS
  have c3 := k3.c3
  have c5 := k5.c3
  go_wp2_with fail
  clear c3 c5
  refine (same_true _ _ _ _ _ _ HP1.out HP2.out).mono ?_
  rintro e W6 ⟨rfl, hS⟩
  replace hb := hb.trans (hS.mono hb.size)
  clear hS
  go_wp2_with fail
  refine (example_any _ (HN.out.kept hb)).mono ?_
  rintro e w2 ⟨rfl, hb2⟩
  go_wp2_with fail
  go_ret
  exact ⟨ret_bool (by simp), hb.trans (hb2.mono hb.size)⟩
end Go.Proofs.YtfgkgibomgcmpaaDoor.blendImages
