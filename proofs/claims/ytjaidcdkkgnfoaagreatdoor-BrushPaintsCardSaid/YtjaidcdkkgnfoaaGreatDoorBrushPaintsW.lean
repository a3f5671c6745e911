/- BrushPaints: any stroke painted on any image, or the error, is what the reference gives, for every image, brush, list of samples and selection. The package's table of sines is as its text lays it. -/
import Derived.Test.YtjaidcdkkgnfoaaGreatDoorBrFew
import Derived.Test.YtjaidcdkkgnfoaaGreatDoorLMask
import Derived.Test.YtjaidcdkkgnfoaaGreatDoorPaint
import Derived.Test.YtjaidcdkkgnfoaaGreatDoorPaintR
import Derived.Test.YtjaidcdkkgnfoaaGreatDoorBrEx
import Derived.Test.YtjaidcdkkgnfoaaGreatDoorBrOpen
import Derived.Test.YtjaidcdkkgnfoaaGreatDoorLOpen
namespace Go.Proofs.YtjaidcdkkgnfoaaGreatDoor.brushPaints
open Go.ChangeShapes Go.WideShapes Go.ChangeAt Go.RowKit
set_option linter.unusedVariables false
attribute [local go_sem] Oper.gAt gUponK Oper.sAt stilK

set_option maxRecDepth 20000 in
set_option maxHeartbeats 8000000 in
theorem walk (iw ih : Int) (iv : Value) (ps : List Px) (B : Bru) (u lv : Value) (ls : List Smp) (mw mh : Int) (mv : Value) (zs : List Int) (w : World) (hs : Sines w) (hI : Pn w iv ps) (hD : Dn w u B.ds) (hL : Sm w lv ls) (hM : Nn w mv zs) :
    Calls Tryz.prog 3 #[.agg #[.int .i64 iw, .int .i64 ih, iv, .int .i64 B.sz, .int .i64 B.hd, .int .i64 B.rn, .int .i64 B.fl, .int .i64 B.op, .int .i64 B.sp, .int .i64 B.an, .int .i64 B.sc, .int .i64 B.md, .int .i64 B.r, .int .i64 B.g, .int .i64 B.b, .int .i64 B.a, .int .i64 B.sd, u, .bool B.er, lv, .int .i64 mw, .int .i64 mh, mv]] w fun e w' => e = .returned (.bool true) ∧ Below w.heap.size w w' := by
  have HI := Lib.hid hI
  have HD := Lib.hid hD
  have HL := Lib.hid hL
  have HM := Lib.hid hM
  have HSn := Lib.hid hs
  obtain ⟨Wm, Hm, E, qs, ho⟩ := paint_out iw ih ps B ls mw mh zs
  obtain ⟨ai, ci, rfl⟩ := hI.slice
  obtain ⟨a, cap, rfl⟩ := Qn.slice hL
  obtain ⟨au, capu, rfl, _, _⟩ := hD
  obtain ⟨am, cm, rfl, _⟩ := hM.slice
  have FW := Lib.hid (fun w h h' => few_any B (.slice au B.ds.length capu) (.slice a ls.length cap) ls iw ih w h h')
  have S1 := Lib.hid (fun w hs h1 h2 h3 h4 => paint_any iw ih (.slice ai ps.length ci) ps B (.slice au B.ds.length capu) (.slice a ls.length cap) ls mw mh (.slice am zs.length cm) zs Wm Hm E qs w hs h1 h2 h3 h4 ho)
  have S2 := Lib.hid (fun w h1 h2 h3 h4 => refPaint_any iw ih (.slice ai ps.length ci) ps B (.slice au B.ds.length capu) (.slice a ls.length cap) ls mw mh (.slice am zs.length cm) zs Wm Hm E qs w h1 h2 h3 h4 ho)
  have EX := Lib.hid example_any
  clear hI hL hM hs ho
  generalize ps.length = ni at *
  generalize zs.length = nz at *
  generalize ls.length = nl at *
  generalize B.ds.length = nd at *
  go_enter Tryz.func3, Tryz.ntmps3
  go_upto_region 1 with (fail)
  refine name1 (fun W0 k0 hb => ?_)
  have c0 := k0.c23
  go_wp2_with fail
  clear c0
  refine (FW.out _ (HD.out.kept hb) (HL.out.kept hb)).mono ?_
  rintro e W1 ⟨bf, rfl, hS⟩
  replace k0 := k0.kept hS
  replace hb := hb.trans (hS.mono hb.size)
  clear hS FW
  cases bf
  · go_wp2_with fail
    go_ret
    exact ⟨rfl, hb⟩
  · have c0 := k0.c23
    go_wp2_with fail
    clear c0
    refine (S1.out _ (HSn.out.kept hb) (HI.out.kept hb) (HD.out.kept hb) (HL.out.kept hb) (HM.out.kept hb)).mono ?_
    rintro e W2 ⟨q, rfl, hq, hS⟩
    replace k0 := k0.kept hS
    replace hb := hb.trans (hS.mono hb.size)
    obtain ⟨aq, cq, rfl⟩ := hq.slice
    have HQ0 := Lib.hid hq
    clear hS hq S1
    go_upto_region 4 with (refine wpList_store_blk rfl _ _ _ rfl W2.heap.size #[.int .i64 Wm, .int .i64 Hm, .slice aq qs.length cq] rfl rfl (heap_alloc_new W2 _) infoImg rfl (by simp [Value.oneCell']) (fun W3 k4 hkx hbx => ?_))
    have HQ1 := Lib.hid (HQ0.out.kept (((Below.refl _ _).alloc (Nat.le_refl _) _).trans hbx))
    replace k0 := hkx _ _ (by have := k0.lt; omega) (k0.alloc _)
    replace hb : Below w.heap.size w W3 := hb.trans ((((Below.refl _ _).alloc (Nat.le_refl _) _).trans hbx).mono hb.size)
    clear hkx hbx HQ0
    generalize W2.heap.size = b4 at *
    have c0 := k0.c23
    go_wp2_with fail
    clear c0
    refine (S2.out _ (HI.out.kept hb) (HD.out.kept hb) (HL.out.kept hb) (HM.out.kept hb)).mono ?_
    rintro e W4 ⟨q, rfl, hq, hS⟩
    replace k4 := k4.kept hS
    have HQ2 := Lib.hid (HQ1.out.kept hS)
    replace hb := hb.trans (hS.mono hb.size)
    obtain ⟨ar, cr, rfl⟩ := hq.slice
    have HR0 := Lib.hid hq
    clear hS hq S2 HQ1 k0
    go_upto_region 5 with (refine wpList_store_blk rfl _ _ _ rfl W4.heap.size #[.int .i64 Wm, .int .i64 Hm, .slice ar qs.length cr] rfl rfl (heap_alloc_new W4 _) infoImg rfl (by simp [Value.oneCell']) (fun W5 k5 hkx hbx => ?_))
    have HR := Lib.hid (HR0.out.kept (((Below.refl _ _).alloc (Nat.le_refl _) _).trans hbx))
    have HQ := Lib.hid (HQ2.out.kept (((Below.refl _ _).alloc (Nat.le_refl _) _).trans hbx))
    replace k4 := hkx _ _ (by have := k4.lt; omega) (k4.alloc _)
    replace hb : Below w.heap.size w W5 := hb.trans ((((Below.refl _ _).alloc (Nat.le_refl _) _).trans hbx).mono hb.size)
    clear hkx hbx HR0 HQ2
    generalize W4.heap.size = b5 at *
    have SM := Lib.hid (same28_true Wm Hm _ _ qs W5 HQ.out HR.out)
    generalize qs.length = n at *
    have c4 := k4.c3
    have c5 := k5.c3
    go_wp2_with fail
    clear c4 c5
    refine SM.out.mono ?_
    rintro e W6 ⟨rfl, hS⟩
    replace hb := hb.trans (hS.mono hb.size)
    clear hS
    go_wp2_with fail
    refine (EX.out _).mono ?_
    rintro e W7 ⟨rfl, hS⟩
    replace hb := hb.trans (hS.mono hb.size)
    go_wp2_with fail
    go_ret
    exact ⟨rfl, hb⟩
end Go.Proofs.YtjaidcdkkgnfoaaGreatDoor.brushPaints

