/- law27.awake (printed by genawake27.py). -/
import Derived.Test.YtflegfoalkkkdaaDoorDabAwakeA
import Derived.Test.YtflegfoalkkkdaaDoorDabTip
import Derived.Test.YtflegfoalkkkdaaDoorDabTipBad
namespace Go.Proofs.YtflegfoalkkkdaaDoor
open Go.RowKit
set_option linter.unusedVariables false
attribute [local go_sem] Oper.gAt gUponK Oper.sAt stilK

theorem dn_nil (w : World) : Dn w (.slice none 0 0) [] := ⟨none, 0, rfl, by simp, .inl rfl⟩
theorem k_other {w : World} {b g : Nat} {o : Obj} (k : Blk w b o) (hne : b ≠ g) (i : Nat) (u : Value) : Blk (w.setCell ⟨g, i, none⟩ u) b o := k.other (p := ⟨g, i, none⟩) hne u
theorem nn_other {w : World} {a : Option Addr} {n cap g : Nat} {zs : List Int} (h : Nn w (.slice a n cap) zs) (hne : ∀ b off, a = some ⟨b, off, none⟩ → b ≠ g) (i : Nat) (u : Value) : Nn (w.setCell ⟨g, i, none⟩ u) (.slice a n cap) zs := by
  obtain ⟨a', cap', hv, hl, hr⟩ := h
  refine ⟨a', cap', hv, hl, ?_⟩
  simp only [Value.slice.injEq] at hv
  rcases hr with h0 | ⟨b, off, ha, hlt, hc⟩
  · exact .inl h0
  · refine .inr ⟨b, off, ha, by simpa using hlt, fun j hj => ?_⟩
    rw [← hc j hj]
    unfold World.cell?
    rw [Below.heap_setCell _ _ _ _ (hne b off (by rw [hv.1, ha]))]
theorem nn_lt {w : World} {a : Option Addr} {n cap : Nat} {zs : List Int} (h : Nn w (.slice a n cap) zs) (hn : 0 < n) : ∀ b off, a = some ⟨b, off, none⟩ → b < w.heap.size := by
  obtain ⟨a', cap', hv, hl, hr⟩ := h
  simp only [Value.slice.injEq] at hv
  obtain ⟨rfl, rfl, rfl⟩ := hv
  rcases hr with h0 | ⟨b, off, ha, hlt, hc⟩
  · omega
  · intro b' off' hb'
    rw [ha] at hb'
    simp only [Option.some.injEq, Addr.mk.injEq] at hb'
    omega
theorem infoMask : (Tryd.prog.info? 38).map (·.size) = some 3 := by kernel_rfl
theorem tip_one : tipOut (tipB 64 0 65535) ⟨8, 8, 64, 65535, 0⟩ 1 0 1 1 = [32767] := by decide +kernel

set_option maxRecDepth 20000 in
set_option maxHeartbeats 16000000 in
theorem dabAwake_any (w : World) (hs : Sines w) :
    Calls Tryd.prog 12 #[] w fun e w' => e = .returned (.bool true) ∧ Below w.heap.size w w' := by
  have HSn := Lib.hid hs
  clear hs
  have TG : Hid (∀ w, Sines w → Calls Tryd.prog 13 #[brv (tipB 64 0 65535) (.slice none 0 0), dbv ⟨8, 8, 64, 65535, 0⟩, .agg #[.int .i64 1, .int .i64 0, .int .i64 1, .int .i64 1]] w fun e w' => ∃ q, e = .returned (.tuple #[.agg #[.int .i64 1, .int .i64 1, q], .int .i64 0]) ∧ Nn w' q [32767] ∧ Below w.heap.size w w') := fun w hs => by
    have := tip_good (tipB 64 0 65535) ⟨8, 8, 64, 65535, 0⟩ 1 0 1 1 (.slice none 0 0) w hs (dn_nil w) (by decide +kernel) (by decide +kernel) (by decide +kernel) (by omega) (by omega)
    rw [tip_one] at this
    exact this
  have TB := Lib.hid (fun w => tip_bad (tipB 64 0 65535) ⟨0, 0, 1025, 0, 0⟩ 0 0 1 1 2 (.slice none 0 0) w (dn_nil w) (.inr (.inl ⟨by decide +kernel, by decide +kernel, rfl⟩)))
  have C1 : Hid (∀ w, Calls Tryd.prog 8 #[brv (tipB 64 0 65535) (.slice none 0 0)] w fun e w' => e = .returned (.int .i64 0) ∧ Below w.heap.size w w') := fun w => by
    rw [show (0 : Int) = bchk (tipB 64 0 65535) by decide +kernel]; exact dabCheck_any _ _ w (dn_nil w)
  have C2 : Hid (∀ w, Calls Tryd.prog 8 #[brv ⟨0, 0, 0, 0, 0, 0, 0, 0, 99, 0, 0, 0, 0, 0, [], false⟩ (.slice none 0 0)] w fun e w' => e = .returned (.int .i64 2) ∧ Below w.heap.size w w') := fun w => by
    rw [show (2 : Int) = bchk ⟨0, 0, 0, 0, 0, 0, 0, 0, 99, 0, 0, 0, 0, 0, [], false⟩ by decide +kernel]; exact dabCheck_any _ _ w (dn_nil w)
  have C3 : Hid (∀ w, Calls Tryd.prog 8 #[brv ⟨1, 0, 4096, 0, 0, 1, 0, 0, 18, 0, 0, 0, 0, 0, [], false⟩ (.slice none 0 0)] w fun e w' => e = .returned (.int .i64 8) ∧ Below w.heap.size w w') := fun w => by
    rw [show (8 : Int) = bchk ⟨1, 0, 4096, 0, 0, 1, 0, 0, 18, 0, 0, 0, 0, 0, [], false⟩ by decide +kernel]; exact dabCheck_any _ _ w (dn_nil w)
  have BX : Hid (∀ w, Calls Tryd.prog 10 #[dbv ⟨8, 8, 16, 0, 0⟩] w fun e w' => e = .returned (.agg #[.int .i64 0, .int .i64 0, .int .i64 2, .int .i64 2]) ∧ Below w.heap.size w w') := fun w => by
    have := dabBox_any ⟨8, 8, 16, 0, 0⟩ w
    rw [show dbox ⟨8, 8, 16, 0, 0⟩ = (0, 0, 2, 2) by decide +kernel] at this
    exact this
  have V0 : Hid (∀ w, Sines w → Calls Tryd.prog 15 #[brv (tipB 64 0 65535) (.slice none 0 0), dbv ⟨8, 8, 64, 65535, 0⟩, .int .i64 1, .int .i64 0] w fun e w' => e = .returned (.int .i64 32767) ∧ Below w.heap.size w w') := fun w hs => by
    rw [show (32767 : Int) = dcov (tipB 64 0 65535) ⟨8, 8, 64, 65535, 0⟩ 1 0 by decide +kernel]; exact cover_any _ _ _ _ _ w hs (dn_nil w)
  have V1 : Hid (∀ w, Sines w → Calls Tryd.prog 15 #[brv (tipB 64 0 65535) (.slice none 0 0), dbv ⟨8, 8, 1, 100, 0⟩, .int .i64 0, .int .i64 0] w fun e w' => e = .returned (.int .i64 100) ∧ Below w.heap.size w w') := fun w hs => by
    rw [show (100 : Int) = dcov (tipB 64 0 65535) ⟨8, 8, 1, 100, 0⟩ 0 0 by decide +kernel]; exact cover_any _ _ _ _ _ w hs (dn_nil w)
  have V2 : Hid (∀ w, Sines w → Calls Tryd.prog 15 #[brv (tipB 32 65535 65535) (.slice none 0 0), dbv ⟨8, 8, 32, 65535, 0⟩, .int .i64 1, .int .i64 0] w fun e w' => e = .returned (.int .i64 65535) ∧ Below w.heap.size w w') := fun w hs => by
    rw [show (65535 : Int) = dcov (tipB 32 65535 65535) ⟨8, 8, 32, 65535, 0⟩ 1 0 by decide +kernel]; exact cover_any _ _ _ _ _ w hs (dn_nil w)
  have V3 : Hid (∀ w, Sines w → Calls Tryd.prog 15 #[brv (tipB 32 65535 65535) (.slice none 0 0), dbv ⟨8, 8, 32, 65535, 0⟩, .int .i64 1, .int .i64 1] w fun e w' => e = .returned (.int .i64 0) ∧ Below w.heap.size w w') := fun w hs => by
    rw [show (0 : Int) = dcov (tipB 32 65535 65535) ⟨8, 8, 32, 65535, 0⟩ 1 1 by decide +kernel]; exact cover_any _ _ _ _ _ w hs (dn_nil w)
  have V4 : Hid (∀ w, Sines w → Calls Tryd.prog 15 #[brv (tipB 64 65535 32768) (.slice none 0 0), dbv ⟨8, 8, 64, 65535, 0⟩, .int .i64 2, .int .i64 0] w fun e w' => e = .returned (.int .i64 65535) ∧ Below w.heap.size w w') := fun w hs => by
    rw [show (65535 : Int) = dcov (tipB 64 65535 32768) ⟨8, 8, 64, 65535, 0⟩ 2 0 by decide +kernel]; exact cover_any _ _ _ _ _ w hs (dn_nil w)
  have V5 : Hid (∀ w, Sines w → Calls Tryd.prog 15 #[brv (tipB 64 65535 32768) (.slice none 0 0), dbv ⟨8, 8, 64, 65535, 0⟩, .int .i64 0, .int .i64 2] w fun e w' => e = .returned (.int .i64 0) ∧ Below w.heap.size w w') := fun w hs => by
    rw [show (0 : Int) = dcov (tipB 64 65535 32768) ⟨8, 8, 64, 65535, 0⟩ 0 2 by decide +kernel]; exact cover_any _ _ _ _ _ w hs (dn_nil w)
  have V6 : Hid (∀ w, Sines w → Calls Tryd.prog 15 #[brv (⟨64, 65535, 32768, 65535, 65535, 25, 16384, 0, 0, 0, 0, 0, 0, 0, [], false⟩) (.slice none 0 0), dbv ⟨8, 8, 64, 65535, 0⟩, .int .i64 2, .int .i64 0] w fun e w' => e = .returned (.int .i64 0) ∧ Below w.heap.size w w') := fun w hs => by
    rw [show (0 : Int) = dcov (⟨64, 65535, 32768, 65535, 65535, 25, 16384, 0, 0, 0, 0, 0, 0, 0, [], false⟩) ⟨8, 8, 64, 65535, 0⟩ 2 0 by decide +kernel]; exact cover_any _ _ _ _ _ w hs (dn_nil w)
  have V7 : Hid (∀ w, Sines w → Calls Tryd.prog 15 #[brv (⟨64, 65535, 32768, 65535, 65535, 25, 16384, 0, 0, 0, 0, 0, 0, 0, [], false⟩) (.slice none 0 0), dbv ⟨8, 8, 64, 65535, 0⟩, .int .i64 0, .int .i64 2] w fun e w' => e = .returned (.int .i64 65535) ∧ Below w.heap.size w w') := fun w hs => by
    rw [show (65535 : Int) = dcov (⟨64, 65535, 32768, 65535, 65535, 25, 16384, 0, 0, 0, 0, 0, 0, 0, [], false⟩) ⟨8, 8, 64, 65535, 0⟩ 0 2 by decide +kernel]; exact cover_any _ _ _ _ _ w hs (dn_nil w)
  have hb := Below.refl w.heap.size w
  go_enter Tryd.func12, Tryd.ntmps12
  go_wp2_with fail
  refine (lawTip_any _ _ _ _).mono ?_
  rintro e W1 ⟨rfl, hS⟩
  replace hb := hb.trans (hS.mono hb.size)
  clear hS
  go_wp2_with fail
  refine (lawTip_any _ _ _ _).mono ?_
  rintro e W2 ⟨rfl, hS⟩
  replace hb := hb.trans (hS.mono hb.size)
  clear hS
  have A2 := alloc2 W2 (.cells #[.int .i64 0, .int .i64 0, .int .i64 0, .int .i64 0, .int .i64 0, .int .i64 0, .int .i64 0, .int .i64 0, .int .i64 0, .int .i64 0, .int .i64 0, .int .i64 0, .int .i64 0, .int .i64 0, .slice none 0 0, .bool false] 26 (0, 0)) (.cells #[.int .i64 0, .int .i64 0, .int .i64 0, .int .i64 0, .int .i64 0, .int .i64 0, .int .i64 0, .int .i64 0, .int .i64 0, .int .i64 0, .int .i64 0, .int .i64 0, .int .i64 0, .int .i64 0, .slice none 0 0, .bool false] 26 (0, 0))
  go_upto_region 2 with (first | (refine wpList_store_blk rfl _ _ _ rfl W2.heap.size #[.int .i64 64, .int .i64 0, .int .i64 65535, .int .i64 65535, .int .i64 65535, .int .i64 25, .int .i64 0, .int .i64 0, .int .i64 0, .int .i64 0, .int .i64 0, .int .i64 0, .int .i64 0, .int .i64 0, .slice none 0 0, .bool false] rfl rfl A2.1 infoBr rfl (by simp [Value.oneCell']) (fun W3 k1 hk1 hb1 => ?_)) | (refine wpList_store_blk rfl _ _ _ rfl (W2.heap.size + 1) #[.int .i64 32, .int .i64 65535, .int .i64 65535, .int .i64 65535, .int .i64 65535, .int .i64 25, .int .i64 0, .int .i64 0, .int .i64 0, .int .i64 0, .int .i64 0, .int .i64 0, .int .i64 0, .int .i64 0, .slice none 0 0, .bool false] rfl rfl (hk1 _ _ (by omega) A2.2.1) infoBr rfl (by simp [Value.oneCell']) (fun W4 k2 hk2 hb2 => ?_)))
  replace k1 := hk2 _ _ (by omega) k1
  replace hb : Below w.heap.size w W4 := hb.trans (((A2.2.2.trans hb1).trans (hb2.mono (by omega))).mono hb.size)
  clear A2 hk1 hk2 hb1 hb2
  generalize W2.heap.size = n1 at *
  generalize n1 + 1 = n2 at *
  go_wp2_with fail
  refine (lawTip_any _ _ _ _).mono ?_
  rintro e W5 ⟨rfl, hS⟩
  replace k1 := k1.kept hS
  replace k2 := k2.kept hS
  replace hb := hb.trans (hS.mono hb.size)
  clear hS
  go_upto_region 3 with (refine wpList_store_blk rfl _ _ _ rfl W5.heap.size #[.int .i64 64, .int .i64 65535, .int .i64 32768, .int .i64 65535, .int .i64 65535, .int .i64 25, .int .i64 0, .int .i64 0, .int .i64 0, .int .i64 0, .int .i64 0, .int .i64 0, .int .i64 0, .int .i64 0, .slice none 0 0, .bool false] rfl rfl (heap_alloc_new W5 _) infoBr rfl (by simp [Value.oneCell']) (fun W6 k3 hkx hbx => ?_))
  replace k1 := hkx _ _ (by have := k1.lt; omega) (k1.alloc _)
  replace k2 := hkx _ _ (by have := k2.lt; omega) (k2.alloc _)
  replace hb : Below w.heap.size w W6 := hb.trans ((((Below.refl _ _).alloc (Nat.le_refl _) _).trans hbx).mono hb.size)
  clear hkx hbx
  generalize W5.heap.size = n3 at *
  go_upto_region 4 with (refine wpList_store_blk rfl _ _ _ rfl W6.heap.size #[.int .i64 8, .int .i64 8, .int .i64 64, .int .i64 65535, .int .i64 0] rfl rfl (heap_alloc_new W6 _) infoDab rfl (by simp [Value.oneCell']) (fun W7 k4 hkx hbx => ?_))
  replace k1 := hkx _ _ (by have := k1.lt; omega) (k1.alloc _)
  replace k2 := hkx _ _ (by have := k2.lt; omega) (k2.alloc _)
  replace k3 := hkx _ _ (by have := k3.lt; omega) (k3.alloc _)
  replace hb : Below w.heap.size w W7 := hb.trans ((((Below.refl _ _).alloc (Nat.le_refl _) _).trans hbx).mono hb.size)
  clear hkx hbx
  generalize W6.heap.size = n4 at *
  go_upto_region 5 with (refine wpList_store_blk rfl _ _ _ rfl W7.heap.size #[.int .i64 8, .int .i64 8, .int .i64 32, .int .i64 65535, .int .i64 0] rfl rfl (heap_alloc_new W7 _) infoDab rfl (by simp [Value.oneCell']) (fun W8 k5 hkx hbx => ?_))
  replace k1 := hkx _ _ (by have := k1.lt; omega) (k1.alloc _)
  replace k2 := hkx _ _ (by have := k2.lt; omega) (k2.alloc _)
  replace k3 := hkx _ _ (by have := k3.lt; omega) (k3.alloc _)
  replace k4 := hkx _ _ (by have := k4.lt; omega) (k4.alloc _)
  replace hb : Below w.heap.size w W8 := hb.trans ((((Below.refl _ _).alloc (Nat.le_refl _) _).trans hbx).mono hb.size)
  clear hkx hbx
  generalize W7.heap.size = n5 at *
  have c1 := k1.c16
  have c4 := k4.c5
  go_wp2_with fail
  clear c1 c4
  refine (TG.out _ (HSn.out.kept hb)).mono ?_
  rintro e W9 ⟨q, rfl, hq, hS⟩
  obtain ⟨aq, cq, rfl, _⟩ := hq.slice
  have HQ := Lib.hid hq
  clear hq
  replace k1 := k1.kept hS
  replace k2 := k2.kept hS
  replace k3 := k3.kept hS
  replace k4 := k4.kept hS
  replace k5 := k5.kept hS
  replace hb := hb.trans (hS.mono hb.size)
  clear hS
  go_upto_region 6 with (refine wpList_store_blk rfl _ _ _ rfl W9.heap.size #[.int .i64 1, .int .i64 1, .slice aq 1 cq] rfl rfl (heap_alloc_new W9 _) infoMask rfl (by simp [Value.oneCell']) (fun W10 k6 hkx hbx => ?_))
  replace k1 := hkx _ _ (by have := k1.lt; omega) (k1.alloc _)
  replace k2 := hkx _ _ (by have := k2.lt; omega) (k2.alloc _)
  replace k3 := hkx _ _ (by have := k3.lt; omega) (k3.alloc _)
  replace k4 := hkx _ _ (by have := k4.lt; omega) (k4.alloc _)
  replace k5 := hkx _ _ (by have := k5.lt; omega) (k5.alloc _)
  replace hb : Below w.heap.size w W10 := hb.trans ((((Below.refl _ _).alloc (Nat.le_refl _) _).trans hbx).mono hb.size)
  have HQ2 := Lib.hid (HQ.out.kept (((Below.refl _ _).alloc (Nat.le_refl _) _).trans hbx))
  clear hkx hbx HQ
  generalize W9.heap.size = n6 at *
  have c1 := k1.c16
  go_wp2_with fail
  clear c1
  refine (TB.out _).mono ?_
  rintro e W11 ⟨rfl, hS⟩
  have HQ := Lib.hid (HQ2.out.kept hS)
  clear HQ2
  replace k1 := k1.kept hS
  replace k2 := k2.kept hS
  replace k3 := k3.kept hS
  replace k4 := k4.kept hS
  replace k5 := k5.kept hS
  replace k6 := k6.kept hS
  replace hb := hb.trans (hS.mono hb.size)
  clear hS
  go_upto_region 7 with (refine wpList_store_blk rfl _ _ _ rfl W11.heap.size #[.int .i64 0, .int .i64 0, .slice none 0 0] rfl rfl (heap_alloc_new W11 _) infoMask rfl (by simp [Value.oneCell']) (fun W12 k7 hkx hbx => ?_))
  replace k1 := hkx _ _ (by have := k1.lt; omega) (k1.alloc _)
  replace k2 := hkx _ _ (by have := k2.lt; omega) (k2.alloc _)
  replace k3 := hkx _ _ (by have := k3.lt; omega) (k3.alloc _)
  replace k4 := hkx _ _ (by have := k4.lt; omega) (k4.alloc _)
  replace k5 := hkx _ _ (by have := k5.lt; omega) (k5.alloc _)
  replace k6 := hkx _ _ (by have := k6.lt; omega) (k6.alloc _)
  replace hb : Below w.heap.size w W12 := hb.trans ((((Below.refl _ _).alloc (Nat.le_refl _) _).trans hbx).mono hb.size)
  have HQ2 := Lib.hid (HQ.out.kept (((Below.refl _ _).alloc (Nat.le_refl _) _).trans hbx))
  clear hkx hbx HQ k7
  have NX : w.heap.size ≤ W12.heap.size ∧ n1 ≠ W12.heap.size ∧ n2 ≠ W12.heap.size ∧ n3 ≠ W12.heap.size ∧ n4 ≠ W12.heap.size ∧ n5 ≠ W12.heap.size ∧ n6 ≠ W12.heap.size := ⟨hb.size, by have := k1.lt; omega, by have := k2.lt; omega, by have := k3.lt; omega, by have := k4.lt; omega, by have := k5.lt; omega, by have := k6.lt; omega⟩
  have HNX : Hid (∀ b off, aq = some ⟨b, off, none⟩ → b ≠ W12.heap.size) := fun b off h e => Nat.lt_irrefl _ (e ▸ nn_lt HQ2.out (by decide) b off h)
  have c3 := k3.c16
  go_upto_region 8 with (refine wpList_store_blk rfl _ _ _ rfl W12.heap.size #[.int .i64 64, .int .i64 65535, .int .i64 32768, .int .i64 65535, .int .i64 65535, .int .i64 25, .int .i64 0, .int .i64 0, .int .i64 0, .int .i64 0, .int .i64 0, .int .i64 0, .int .i64 0, .int .i64 0, .slice none 0 0, .bool false] rfl rfl (heap_alloc_new W12 _) infoBr rfl (by simp [Value.oneCell']) (fun W13 k10 hkx hbx => ?_))
  replace k1 := hkx _ _ (by have := k1.lt; omega) (k1.alloc _)
  replace k2 := hkx _ _ (by have := k2.lt; omega) (k2.alloc _)
  replace k3 := hkx _ _ (by have := k3.lt; omega) (k3.alloc _)
  replace k4 := hkx _ _ (by have := k4.lt; omega) (k4.alloc _)
  replace k5 := hkx _ _ (by have := k5.lt; omega) (k5.alloc _)
  replace k6 := hkx _ _ (by have := k6.lt; omega) (k6.alloc _)
  replace hb : Below w.heap.size w W13 := hb.trans ((((Below.refl _ _).alloc (Nat.le_refl _) _).trans hbx).mono hb.size)
  clear c3
  have HQ := Lib.hid (HQ2.out.kept (((Below.refl _ _).alloc (Nat.le_refl _) _).trans hbx))
  clear hkx hbx HQ2
  generalize W12.heap.size = n10' at *
  have c10 := k10.c16
  go_upto_region 9 with (fail)
  clear c10
  refine codeGen (fun W14 hW => ?_)
  replace k10 : Blk W14 n10' (.cells #[.int .i64 64, .int .i64 65535, .int .i64 32768, .int .i64 65535, .int .i64 65535, .int .i64 25, .int .i64 16384, .int .i64 0, .int .i64 0, .int .i64 0, .int .i64 0, .int .i64 0, .int .i64 0, .int .i64 0, .slice none 0 0, .bool false] 26 (0, 0)) := by rw [hW]; exact k10.set1 6 _ (by simp) rfl
  replace k1 := k_other k1 (g := n10') (by omega) 6 (.int .i64 16384)
  rw [← hW] at k1
  replace k2 := k_other k2 (g := n10') (by omega) 6 (.int .i64 16384)
  rw [← hW] at k2
  replace k3 := k_other k3 (g := n10') (by omega) 6 (.int .i64 16384)
  rw [← hW] at k3
  replace k4 := k_other k4 (g := n10') (by omega) 6 (.int .i64 16384)
  rw [← hW] at k4
  replace k5 := k_other k5 (g := n10') (by omega) 6 (.int .i64 16384)
  rw [← hW] at k5
  replace k6 := k_other k6 (g := n10') (by omega) 6 (.int .i64 16384)
  rw [← hW] at k6
  replace hb : Below w.heap.size w W14 := by rw [hW]; exact hb.setCell (by simp; omega) _
  have HQ2 : Hid (Nn W14 (.slice aq 1 cq) [32767]) := by show Nn _ _ _; rw [hW]; exact nn_other HQ.out HNX.out _ _
  clear hW HQ NX HNX
  as_aux_lemma =>
    have ck1 := k1.c16
    go_wp2_with fail
    clear ck1
    refine (C1.out _).mono ?_
    rintro e V0' ⟨rfl, hS⟩
    replace HQ2 := Lib.hid (HQ2.out.kept hS)
    replace k1 := k1.kept hS
    replace k2 := k2.kept hS
    replace k3 := k3.kept hS
    replace k4 := k4.kept hS
    replace k5 := k5.kept hS
    replace k6 := k6.kept hS
    replace k10 := k10.kept hS
    replace hb := hb.trans (hS.mono hb.size)
    clear hS
    go_wp2_with fail
    refine (C2.out _).mono ?_
    rintro e V1' ⟨rfl, hS⟩
    replace HQ2 := Lib.hid (HQ2.out.kept hS)
    replace k1 := k1.kept hS
    replace k2 := k2.kept hS
    replace k3 := k3.kept hS
    replace k4 := k4.kept hS
    replace k5 := k5.kept hS
    replace k6 := k6.kept hS
    replace k10 := k10.kept hS
    replace hb := hb.trans (hS.mono hb.size)
    clear hS
    go_wp2_with fail
    refine (C3.out _).mono ?_
    rintro e V2' ⟨rfl, hS⟩
    replace HQ2 := Lib.hid (HQ2.out.kept hS)
    replace k1 := k1.kept hS
    replace k2 := k2.kept hS
    replace k3 := k3.kept hS
    replace k4 := k4.kept hS
    replace k5 := k5.kept hS
    replace k6 := k6.kept hS
    replace k10 := k10.kept hS
    replace hb := hb.trans (hS.mono hb.size)
    clear hS
    as_aux_lemma =>
      go_wp2_with fail
      refine (BX.out _).mono ?_
      rintro e V3' ⟨rfl, hS⟩
      replace HQ2 := Lib.hid (HQ2.out.kept hS)
      replace k1 := k1.kept hS
      replace k2 := k2.kept hS
      replace k3 := k3.kept hS
      replace k4 := k4.kept hS
      replace k5 := k5.kept hS
      replace k6 := k6.kept hS
      replace k10 := k10.kept hS
      replace hb := hb.trans (hS.mono hb.size)
      clear hS
      have ck1 := k1.c16
      have ck4 := k4.c5
      go_wp2_with fail
      clear ck1 ck4
      refine (V0.out _ (HSn.out.kept hb)).mono ?_
      rintro e V4' ⟨rfl, hS⟩
      replace HQ2 := Lib.hid (HQ2.out.kept hS)
      replace k1 := k1.kept hS
      replace k2 := k2.kept hS
      replace k3 := k3.kept hS
      replace k4 := k4.kept hS
      replace k5 := k5.kept hS
      replace k6 := k6.kept hS
      replace k10 := k10.kept hS
      replace hb := hb.trans (hS.mono hb.size)
      clear hS
      have ck1 := k1.c16
      go_wp2_with fail
      clear ck1
      refine (V1.out _ (HSn.out.kept hb)).mono ?_
      rintro e V5' ⟨rfl, hS⟩
      replace HQ2 := Lib.hid (HQ2.out.kept hS)
      replace k1 := k1.kept hS
      replace k2 := k2.kept hS
      replace k3 := k3.kept hS
      replace k4 := k4.kept hS
      replace k5 := k5.kept hS
      replace k6 := k6.kept hS
      replace k10 := k10.kept hS
      replace hb := hb.trans (hS.mono hb.size)
      clear hS
      as_aux_lemma =>
        have ck2 := k2.c16
        have ck5 := k5.c5
        go_wp2_with fail
        clear ck2 ck5
        refine (V2.out _ (HSn.out.kept hb)).mono ?_
        rintro e V6' ⟨rfl, hS⟩
        replace HQ2 := Lib.hid (HQ2.out.kept hS)
        replace k1 := k1.kept hS
        replace k2 := k2.kept hS
        replace k3 := k3.kept hS
        replace k4 := k4.kept hS
        replace k5 := k5.kept hS
        replace k6 := k6.kept hS
        replace k10 := k10.kept hS
        replace hb := hb.trans (hS.mono hb.size)
        clear hS
        have ck2 := k2.c16
        have ck5 := k5.c5
        go_wp2_with fail
        clear ck2 ck5
        refine (V3.out _ (HSn.out.kept hb)).mono ?_
        rintro e V7' ⟨rfl, hS⟩
        replace HQ2 := Lib.hid (HQ2.out.kept hS)
        replace k1 := k1.kept hS
        replace k2 := k2.kept hS
        replace k3 := k3.kept hS
        replace k4 := k4.kept hS
        replace k5 := k5.kept hS
        replace k6 := k6.kept hS
        replace k10 := k10.kept hS
        replace hb := hb.trans (hS.mono hb.size)
        clear hS
        have ck3 := k3.c16
        have ck4 := k4.c5
        go_wp2_with fail
        clear ck3 ck4
        refine (V4.out _ (HSn.out.kept hb)).mono ?_
        rintro e V8' ⟨rfl, hS⟩
        replace HQ2 := Lib.hid (HQ2.out.kept hS)
        replace k1 := k1.kept hS
        replace k2 := k2.kept hS
        replace k3 := k3.kept hS
        replace k4 := k4.kept hS
        replace k5 := k5.kept hS
        replace k6 := k6.kept hS
        replace k10 := k10.kept hS
        replace hb := hb.trans (hS.mono hb.size)
        clear hS
        as_aux_lemma =>
          have ck3 := k3.c16
          have ck4 := k4.c5
          go_wp2_with fail
          clear ck3 ck4
          refine (V5.out _ (HSn.out.kept hb)).mono ?_
          rintro e V9' ⟨rfl, hS⟩
          replace HQ2 := Lib.hid (HQ2.out.kept hS)
          replace k1 := k1.kept hS
          replace k2 := k2.kept hS
          replace k3 := k3.kept hS
          replace k4 := k4.kept hS
          replace k5 := k5.kept hS
          replace k6 := k6.kept hS
          replace k10 := k10.kept hS
          replace hb := hb.trans (hS.mono hb.size)
          clear hS
          have ck10 := k10.c16
          have ck4 := k4.c5
          go_wp2_with fail
          clear ck10 ck4
          refine (V6.out _ (HSn.out.kept hb)).mono ?_
          rintro e V10' ⟨rfl, hS⟩
          replace HQ2 := Lib.hid (HQ2.out.kept hS)
          replace k1 := k1.kept hS
          replace k2 := k2.kept hS
          replace k3 := k3.kept hS
          replace k4 := k4.kept hS
          replace k5 := k5.kept hS
          replace k6 := k6.kept hS
          replace k10 := k10.kept hS
          replace hb := hb.trans (hS.mono hb.size)
          clear hS
          have ck10 := k10.c16
          have ck4 := k4.c5
          go_wp2_with fail
          clear ck10 ck4
          refine (V7.out _ (HSn.out.kept hb)).mono ?_
          rintro e V11' ⟨rfl, hS⟩
          replace HQ2 := Lib.hid (HQ2.out.kept hS)
          replace k1 := k1.kept hS
          replace k2 := k2.kept hS
          replace k3 := k3.kept hS
          replace k4 := k4.kept hS
          replace k5 := k5.kept hS
          replace k6 := k6.kept hS
          replace k10 := k10.kept hS
          replace hb := hb.trans (hS.mono hb.size)
          clear hS
          as_aux_lemma =>
            have c6 := k6.c3
            obtain ⟨bq, oq, rfl, cq0⟩ := HQ2.out.at 0 (by decide)
            simp only [List.getD_cons_zero, Nat.add_zero] at cq0
            go_wp2_with fail
            go_ret
            exact ⟨rfl, hb⟩
end Go.Proofs.YtflegfoalkkkdaaDoor
