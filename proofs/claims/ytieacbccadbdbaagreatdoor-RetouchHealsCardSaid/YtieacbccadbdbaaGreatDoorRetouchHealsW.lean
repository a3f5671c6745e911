/- RetouchHeals: Heal returns what the reference gives, for every image, rectangle, offset and selection (the walk; printed by genlaw29.py). -/
import Derived.Test.YtieacbccadbdbaaGreatDoorRetHR
import Derived.Test.YtieacbccadbdbaaGreatDoorRetAw
import Derived.Test.YtieacbccadbdbaaGreatDoorBrOpen
import Derived.Test.YtieacbccadbdbaaGreatDoorLOpen
namespace Go.Proofs.YtieacbccadbdbaaGreatDoor.retouchHeals
open Go.ChangeShapes Go.WideShapes Go.ChangeAt Go.RowKit
set_option linter.unusedVariables false
attribute [local go_sem] Oper.gAt gUponK Oper.sAt stilK

set_option maxRecDepth 100000 in
set_option maxHeartbeats 16000000 in
theorem walk (iw ih : Int) (iv : Value) (ps : List Px) (rx ry rw rh px py mw mh : Int) (mv : Value) (zs : List Int) (w : World) (hs : Sines w) (hI : Pn w iv ps) (_ : (Lit.int .i64 rx).wf = true) (_ : (Lit.int .i64 ry).wf = true) (_ : (Lit.int .i64 rw).wf = true) (_ : (Lit.int .i64 rh).wf = true) (hM : Nn w mv zs) :
    Calls Tryz.prog 5 #[.agg #[.int .i64 iw, .int .i64 ih, iv], .agg #[.int .i64 rx, .int .i64 ry, .int .i64 rw, .int .i64 rh], .agg #[.int .i64 px, .int .i64 py], .agg #[.int .i64 mw, .int .i64 mh, mv]] w fun e w' => e = .returned (.bool true) ∧ Below w.heap.size w w' := by
  have HI := Lib.hid hI
  have HM := Lib.hid hM
  have HSn := Lib.hid hs
  obtain ⟨Wm, Hm, E, qs, ho⟩ := heal_out iw ih ps rx ry rw rh px py mw mh zs
  have S1 := Lib.hid (fun w h1 h2 => heal_any iw ih iv ps rx ry rw rh px py mw mh mv zs Wm Hm E qs w h1 h2 ho)
  have S2 := Lib.hid (fun w h1 h2 => refHeal_any iw ih iv ps rx ry rw rh px py mw mh mv zs Wm Hm E qs w h1 h2 ho)
  have AW := Lib.hid awake_any
  have SM := Lib.hid same29_true
  obtain ⟨ai, ci, rfl⟩ := hI.slice
  obtain ⟨am, cm, rfl, _⟩ := hM.slice
  clear hI hM hs ho
  generalize ps.length = ni at *
  generalize zs.length = nz at *
  go_enter Tryz.func5, Tryz.ntmps5
  go_upto_region 1 with (fail)
  refine name4 (fun W1 k1 k2 k3 k4 hb => ?_)
  have c1 := k1.c3
  have c2 := k2.c4
  have c3 := k3.c2
  have c4 := k4.c3
  go_wp2_with fail
  clear c1 c2 c3 c4
  refine (S1.out _ (HI.out.kept hb) (HM.out.kept hb)).mono ?_
  rintro e W2 ⟨q, rfl, hq, _, hS⟩
  replace k1 := k1.kept hS
  replace k2 := k2.kept hS
  replace k3 := k3.kept hS
  replace k4 := k4.kept hS
  replace hb := hb.trans (hS.mono hb.size)
  obtain ⟨aq, caq, rfl⟩ := hq.slice
  clear hS S1
  go_upto_region 2 with (refine wpList_store_blk rfl _ _ _ rfl W2.heap.size #[.int .i64 Wm, .int .i64 Hm, .slice aq qs.length caq] rfl rfl (heap_alloc_new W2 _) infoImgR rfl (by simp [Value.oneCell']) (fun W3 ka hkx hbx => ?_))
  have hS : Below W2.heap.size W2 W3 := ((Below.refl _ _).alloc (Nat.le_refl _) _).trans hbx
  replace k1 := k1.kept hS
  replace k2 := k2.kept hS
  replace k3 := k3.kept hS
  replace k4 := k4.kept hS
  replace hb := hb.trans (hS.mono hb.size)
  replace hq := hq.kept hS
  clear hS hkx hbx
  generalize W2.heap.size = xka at *
  have c1 := k1.c3
  have c2 := k2.c4
  have c3 := k3.c2
  have c4 := k4.c3
  go_wp2_with fail
  clear c1 c2 c3 c4
  refine (S2.out _ (HI.out.kept hb) (HM.out.kept hb)).mono ?_
  rintro e W4 ⟨q, rfl, hr, hS⟩
  replace k1 := k1.kept hS
  replace k2 := k2.kept hS
  replace k3 := k3.kept hS
  replace k4 := k4.kept hS
  replace ka := ka.kept hS
  replace hb := hb.trans (hS.mono hb.size)
  replace hq := hq.kept hS
  obtain ⟨ar, car, rfl⟩ := hr.slice
  clear hS S2
  go_upto_region 3 with (refine wpList_store_blk rfl _ _ _ rfl W4.heap.size #[.int .i64 Wm, .int .i64 Hm, .slice ar qs.length car] rfl rfl (heap_alloc_new W4 _) infoImgR rfl (by simp [Value.oneCell']) (fun W5 kz hkx hbx => ?_))
  have hS : Below W4.heap.size W4 W5 := ((Below.refl _ _).alloc (Nat.le_refl _) _).trans hbx
  replace k1 := k1.kept hS
  replace k2 := k2.kept hS
  replace k3 := k3.kept hS
  replace k4 := k4.kept hS
  replace ka := ka.kept hS
  replace hb := hb.trans (hS.mono hb.size)
  replace hr := hr.kept hS
  replace hq := hq.kept hS
  clear hS hkx hbx
  generalize W4.heap.size = xkz at *
  go_wp2_with fail
  refine (AW.out _ (HSn.out.kept hb)).mono ?_
  rintro e W6 ⟨rfl, hS⟩
  replace ka := ka.kept hS
  replace kz := kz.kept hS
  replace hq := hq.kept hS
  replace hr := hr.kept hS
  replace hb := hb.trans (hS.mono hb.size)
  clear hS
  have ca := ka.c3
  have cz := kz.c3
  go_wp2_with fail
  clear ca cz
  refine (SM.out Wm Hm _ _ qs _ hq hr).mono ?_
  rintro e W7 ⟨rfl, hS⟩
  replace hb := hb.trans (hS.mono hb.size)
  go_wp2_with fail
  go_ret
  exact ⟨rfl, hb⟩
end Go.Proofs.YtieacbccadbdbaaGreatDoor.retouchHeals

