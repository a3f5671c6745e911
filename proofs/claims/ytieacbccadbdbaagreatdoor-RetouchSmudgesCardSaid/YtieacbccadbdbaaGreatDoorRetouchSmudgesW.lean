/- RetouchSmudges: Smudge returns what the reference gives, for every image, brush, list of samples and selection (the walk; printed by genlaw29.py). -/
import Derived.Test.YtieacbccadbdbaaGreatDoorRetSR
import Derived.Test.YtieacbccadbdbaaGreatDoorRetAw
import Derived.Test.YtieacbccadbdbaaGreatDoorBrOpen
import Derived.Test.YtieacbccadbdbaaGreatDoorLOpen
namespace Go.Proofs.YtieacbccadbdbaaGreatDoor.retouchSmudges
open Go.ChangeShapes Go.WideShapes Go.ChangeAt Go.RowKit
set_option linter.unusedVariables false
attribute [local go_sem] Oper.gAt gUponK Oper.sAt stilK

set_option maxRecDepth 100000 in
set_option maxHeartbeats 16000000 in
theorem walk (iw ih : Int) (iv : Value) (ps : List Px) (B : Bru) (u lv : Value) (ls : List Smp) (mw mh : Int) (mv : Value) (zs : List Int) (w : World) (hs : Sines w) (hI : Pn w iv ps) (hD : Dn w u B.ds) (hL : Sm w lv ls) (hM : Nn w mv zs) :
    Calls Tryz.prog 4 #[.agg #[.int .i64 iw, .int .i64 ih, iv], brv B u, lv, .agg #[.int .i64 mw, .int .i64 mh, mv]] w fun e w' => e = .returned (.bool true) ∧ Below w.heap.size w w' := by
  have HI := Lib.hid hI
  have HD := Lib.hid hD
  have HL := Lib.hid hL
  have HM := Lib.hid hM
  have HSn := Lib.hid hs
  obtain ⟨Wm, Hm, E, qs, ho⟩ := smud_out iw ih ps B ls mw mh zs
  have S1 := Lib.hid (fun w hs h1 h2 h3 h4 => smudge_any iw ih iv ps B u lv ls mw mh mv zs Wm Hm E qs w hs h1 h2 h3 h4 ho)
  have S2 := Lib.hid (fun w h1 h2 h3 h4 => refSmudge_any iw ih iv ps B u lv ls mw mh mv zs Wm Hm E qs w h1 h2 h3 h4 ho)
  have AW := Lib.hid awake_any
  have SM := Lib.hid same29_true
  obtain ⟨ai, ci, rfl⟩ := hI.slice
  obtain ⟨a, cap, rfl⟩ := Qn.slice hL
  obtain ⟨au, capu, rfl, _, _⟩ := hD
  obtain ⟨am, cm, rfl, _⟩ := hM.slice
  clear hI hL hM hs ho
  generalize ps.length = ni at *
  generalize zs.length = nz at *
  generalize ls.length = nl at *
  generalize B.ds.length = nd at *
  go_enter Tryz.func4, Tryz.ntmps4
  go_upto_region 1 with (fail)
  refine name3 (fun W1 k1 k2 k3 hb => ?_)
  have c1 := k1.c3
  have c2 := k2.c16
  have c3 := k3.c3
  go_wp2_with fail
  clear c1 c2 c3
  refine (S1.out _ (HSn.out.kept hb) (HI.out.kept hb) (HD.out.kept hb) (HL.out.kept hb) (HM.out.kept hb)).mono ?_
  rintro e W2 ⟨q, rfl, hq, hS⟩
  replace k1 := k1.kept hS
  replace k2 := k2.kept hS
  replace k3 := k3.kept hS
  replace hb := hb.trans (hS.mono hb.size)
  obtain ⟨aq, caq, rfl⟩ := hq.slice
  clear hS S1
  go_upto_region 2 with (refine wpList_store_blk rfl _ _ _ rfl W2.heap.size #[.int .i64 Wm, .int .i64 Hm, .slice aq qs.length caq] rfl rfl (heap_alloc_new W2 _) infoImgR rfl (by simp [Value.oneCell']) (fun W3 ka hkx hbx => ?_))
  have hS : Below W2.heap.size W2 W3 := ((Below.refl _ _).alloc (Nat.le_refl _) _).trans hbx
  replace k1 := k1.kept hS
  replace k2 := k2.kept hS
  replace k3 := k3.kept hS
  replace hb := hb.trans (hS.mono hb.size)
  replace hq := hq.kept hS
  clear hS hkx hbx
  generalize W2.heap.size = xka at *
  have c1 := k1.c3
  have c2 := k2.c16
  have c3 := k3.c3
  go_wp2_with fail
  clear c1 c2 c3
  refine (S2.out _ (HI.out.kept hb) (HD.out.kept hb) (HL.out.kept hb) (HM.out.kept hb)).mono ?_
  rintro e W4 ⟨q, rfl, hr, hS⟩
  replace k1 := k1.kept hS
  replace k2 := k2.kept hS
  replace k3 := k3.kept hS
  replace ka := ka.kept hS
  replace hb := hb.trans (hS.mono hb.size)
  replace hq := hq.kept hS
  obtain ⟨ar, car, rfl⟩ := hr.slice
  clear hS S2
  go_upto_region 3 with (refine wpList_store_blk rfl _ _ _ rfl W4.heap.size #[.int .i64 Wm, .int .i64 Hm, .slice ar qs.length car] rfl rfl (heap_alloc_new W4 _) infoImgR rfl (by simp [Value.oneCell']) (fun W5 kz hkx hbx => ?_))
  have hS : Below W4.heap.size W4 W5 := ((Below.refl _ _).alloc (Nat.le_refl _) _).trans hbx
  replace k1 := k1.kept hS
  replace k2 := k2.kept hS
  replace k3 := k3.kept hS
  replace ka := ka.kept hS
  replace hb := hb.trans (hS.mono hb.size)
  replace hr := hr.kept hS
  replace hq := hq.kept hS
  clear hS hkx hbx
  generalize W4.heap.size = xkz at *
  go_wp2_with fail
  refine (AW.out _ (HSn.out.kept hb)).mono ?_
  rintro e W6 ⟨rfl, hS⟩
  replace ka := ka.kept hS
  replace kz := kz.kept hS
  replace hq := hq.kept hS
  replace hr := hr.kept hS
  replace hb := hb.trans (hS.mono hb.size)
  clear hS
  have ca := ka.c3
  have cz := kz.c3
  go_wp2_with fail
  clear ca cz
  refine (SM.out Wm Hm _ _ qs _ hq hr).mono ?_
  rintro e W7 ⟨rfl, hS⟩
  replace hb := hb.trans (hS.mono hb.size)
  go_wp2_with fail
  go_ret
  exact ⟨rfl, hb⟩
end Go.Proofs.YtieacbccadbdbaaGreatDoor.retouchSmudges

