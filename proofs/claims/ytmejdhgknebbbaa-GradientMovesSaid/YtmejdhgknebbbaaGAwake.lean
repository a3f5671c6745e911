/- The examples of the chapter on gradients hold (printed by genawake18.py). -/
import Derived.Test.YtmejdhgknebbbaaGDraw
namespace Go.Proofs.Ytmejdhgknebbbaa
open Go.RowKit
set_option linter.unusedVariables false
attribute [local go_sem] Oper.gAt gUponK Oper.sAt stilK

def graysL : List St := [(0, (0, 0, 0, 65535)), (65535, (65535, 65535, 65535, 65535))]
theorem nn3 {w : World} {b : Nat} {p0 p1 p2 : Int} {t : TypeId} (k : Blk w b (.cells #[.int .i64 p0, .int .i64 p1, .int .i64 p2] t (0, 0))) : Nn w (.slice (some ⟨b, 0, none⟩) 3 3) [p0, p1, p2] := by
  refine ⟨_, 3, rfl, by simp, .inr ⟨b, 0, rfl, k.lt, fun i hi => ?_⟩⟩
  obtain rfl | rfl | rfl : i = 0 ∨ i = 1 ∨ i = 2 := by simp at hi; omega
  · exact k.c3.1
  · exact k.c3.2.1
  · exact k.c3.2.2.1
theorem nn4 {w : World} {b : Nat} {p0 p1 p2 p3 : Int} {t : TypeId} (k : Blk w b (.cells #[.int .i64 p0, .int .i64 p1, .int .i64 p2, .int .i64 p3] t (0, 0))) : Nn w (.slice (some ⟨b, 0, none⟩) 4 4) [p0, p1, p2, p3] := by
  refine ⟨_, 4, rfl, by simp, .inr ⟨b, 0, rfl, k.lt, fun i hi => ?_⟩⟩
  obtain rfl | rfl | rfl | rfl : i = 0 ∨ i = 1 ∨ i = 2 ∨ i = 3 := by simp at hi; omega
  · exact k.c4.1
  · exact k.c4.2.1
  · exact k.c4.2.2.1
  · exact k.c4.2.2.2.1

set_option maxHeartbeats 1000000 in
theorem grays_any (w : World) : Calls Try.prog 22 #[] w fun e w' => ∃ a cap, e = .returned (.slice a 2 cap) ∧ Sn w' (.slice a 2 cap) graysL ∧ Below w.heap.size w w' := by
  go_enter Try.func22, Try.ntmps22
  go_wp2_with fail
  go_ret
  refine ⟨_, _, rfl, ⟨_, _, rfl, by decide, .inr ⟨w.heap.size, 0, rfl, by simp, fun i hi => ?_⟩⟩, (Below.refl _ _).alloc (Nat.le_refl _) _⟩
  obtain rfl | rfl : i = 0 ∨ i = 1 := by have : i < 2 := hi; omega
  · exact ⟨cell_blk (heap_alloc_new _ _) rfl, cell_blk (heap_alloc_new _ _) rfl, cell_blk (heap_alloc_new _ _) rfl, cell_blk (heap_alloc_new _ _) rfl, cell_blk (heap_alloc_new _ _) rfl⟩
  · exact ⟨cell_blk (heap_alloc_new _ _) rfl, cell_blk (heap_alloc_new _ _) rfl, cell_blk (heap_alloc_new _ _) rfl, cell_blk (heap_alloc_new _ _) rfl, cell_blk (heap_alloc_new _ _) rfl⟩

theorem sn_nil {w : World} : Sn w (.slice none 0 0) [] := ⟨none, 0, rfl, by simp, .inl rfl⟩
theorem ax1 : gChk 2 [0, 0, 0, 0] 0 graysL = 1 := by decide +kernel
theorem ax2 : gChk 2 [0, 0, -1] 0 graysL = 2 := by decide +kernel
theorem ax3 : gChk 3 [8, 8, 0] 0 graysL = 0 := by decide +kernel
theorem ax4 : gChk 3 [8, 8, 0] 3 graysL = 8 := by decide +kernel
theorem ax5 : gcol graysL 100 = (100, 100, 100, 65535) := by decide +kernel
theorem ax6 : gcol [] 5 = (0, 0, 0, 0) := by decide +kernel
theorem ax7 : gPlace 1 [0, 0, 160, 0] 0 4 9 = 29491 := by decide +kernel
theorem ax8 : gPlace 2 [8, 8, 32] 0 1 0 = 32768 := by decide +kernel
theorem ax9 : gPlace 3 [8, 8, 0] 0 0 1 = 16384 := by decide +kernel
theorem ax10 : gPlace 3 [8, 8, 0] 0 0 (-1) = 49152 := by decide +kernel
theorem ax11 : gPlace 3 [8, 8, 0] 0 1 1 = 8192 := by decide +kernel
theorem ax12 : gPlace 4 [8, 8, 0] 1 3 3 = 65535 := by decide +kernel
theorem ax13 : drOut 1 [0, 0, 160, 0] 0 graysL 4 9 1 1 = [(29491, 29491, 29491, 65535)] := by decide +kernel
theorem ax14 : gChk 1 [0, 0, 160, 0] 0 graysL = 0 := by decide +kernel
theorem draw11 (v u : Value) (w : World) (h : Nn w v [0, 0, 160, 0]) (hs : Sn w u graysL) :
    Calls Try.prog 18 #[.int .i64 1, v, .int .i64 0, u, .agg #[.int .i64 4, .int .i64 9, .int .i64 1, .int .i64 1]] w fun e w' => ∃ q, e = .returned (.tuple #[.agg #[.int .i64 1, .int .i64 1, q], .int .i64 0]) ∧ Pn w' q [(29491, 29491, 29491, 65535)] ∧ Below w.heap.size w w' := by
  have := draw_good 1 0 4 9 1 1 v u [0, 0, 160, 0] graysL w h hs ax14 (by decide +kernel) (by decide) (by decide)
  rw [ax13] at this
  exact this

set_option maxHeartbeats 8000000 in
set_option maxRecDepth 20000 in
theorem awake_any (w : World) : Calls Try.prog 15 #[] w fun e w' => e = .returned (.bool true) ∧ Below w.heap.size w w' := by
  go_enter Try.func15, Try.ntmps15
  go_wp2_with fail
  refine callName2 (fun W0 k1 k6 hb => ?_)
  have NC := Lib.hid (nn3 k1)
  have N6 := Lib.hid (nn4 k6)
  clear k1 k6
  refine (grays_any _).mono ?_
  rintro e V1 ⟨ag1, cg1, rfl, sg1, hS⟩
  replace NC := Lib.hid (NC.out.kept hS)
  replace N6 := Lib.hid (N6.out.kept hS)
  replace hb := hb.trans (hS.mono hb.size)
  clear hS
  have SG1 := Lib.hid sg1
  clear sg1
  go_wp2_with fail
  refine (draw11 _ _ _ N6.out SG1.out).mono ?_
  rintro e VD ⟨q, rfl, pq, hS⟩
  clear N6 SG1
  replace NC := Lib.hid (NC.out.kept hS)
  replace hb := hb.trans (hS.mono hb.size)
  clear hS
  have PI := Lib.hid pq
  obtain ⟨aq, cq, rfl⟩ := pq.slice
  clear pq
  replace PI : Hid (Pn VD (.slice aq 1 cq) [(29491, 29491, 29491, 65535)]) := PI
  go_wp2_with fail
  refine callName2 (fun W1 k2 k12 hS => ?_)
  replace NC := Lib.hid (NC.out.kept hS)
  replace PI := Lib.hid (PI.out.kept hS)
  replace hb := hb.trans (hS.mono hb.size)
  clear hS
  have N12 := Lib.hid (nn4 k12)
  clear k12
  refine (grays_any _).mono ?_
  rintro e V2 ⟨ag2, cg2, rfl, sg2, hS⟩
  replace NC := Lib.hid (NC.out.kept hS)
  replace PI := Lib.hid (PI.out.kept hS)
  replace N12 := Lib.hid (N12.out.kept hS)
  replace k2 := k2.kept hS
  replace hb := hb.trans (hS.mono hb.size)
  clear hS
  have SG2 := Lib.hid sg2
  clear sg2
  go_wp2_with fail
  refine (Check_any _ _ _ _ _ _ _ N12.out SG2.out).mono ?_
  rintro e V3 ⟨rfl, hS⟩
  replace NC := Lib.hid (NC.out.kept hS)
  replace PI := Lib.hid (PI.out.kept hS)
  replace N12 := Lib.hid (N12.out.kept hS)
  replace k2 := k2.kept hS
  replace hb := hb.trans (hS.mono hb.size)
  clear hS
  rw [ax1]
  go_wp2_with fail
  clear N12 SG2
  refine callName1 (fun W2 k17 hS => ?_)
  replace NC := Lib.hid (NC.out.kept hS)
  replace PI := Lib.hid (PI.out.kept hS)
  replace k2 := k2.kept hS
  replace hb := hb.trans (hS.mono hb.size)
  clear hS
  have N17 := Lib.hid (nn3 k17)
  clear k17
  refine (grays_any _).mono ?_
  rintro e V4 ⟨ag4, cg4, rfl, sg4, hS⟩
  replace NC := Lib.hid (NC.out.kept hS)
  replace PI := Lib.hid (PI.out.kept hS)
  replace N17 := Lib.hid (N17.out.kept hS)
  replace k2 := k2.kept hS
  replace hb := hb.trans (hS.mono hb.size)
  clear hS
  have SG4 := Lib.hid sg4
  clear sg4
  go_wp2_with fail
  refine (Check_any _ _ _ _ _ _ _ N17.out SG4.out).mono ?_
  rintro e V5 ⟨rfl, hS⟩
  replace NC := Lib.hid (NC.out.kept hS)
  replace PI := Lib.hid (PI.out.kept hS)
  replace N17 := Lib.hid (N17.out.kept hS)
  replace k2 := k2.kept hS
  replace hb := hb.trans (hS.mono hb.size)
  clear hS
  rw [ax2]
  go_wp2_with fail
  clear N17 SG4
  refine (grays_any _).mono ?_
  rintro e V6 ⟨ag6, cg6, rfl, sg6, hS⟩
  replace NC := Lib.hid (NC.out.kept hS)
  replace PI := Lib.hid (PI.out.kept hS)
  replace k2 := k2.kept hS
  replace hb := hb.trans (hS.mono hb.size)
  clear hS
  have SG6 := Lib.hid sg6
  clear sg6
  go_wp2_with fail
  refine (Check_any _ _ _ _ _ _ _ NC.out SG6.out).mono ?_
  rintro e V7 ⟨rfl, hS⟩
  replace NC := Lib.hid (NC.out.kept hS)
  replace PI := Lib.hid (PI.out.kept hS)
  replace k2 := k2.kept hS
  replace hb := hb.trans (hS.mono hb.size)
  clear hS
  rw [ax3]
  go_wp2_with fail
  clear SG6
  refine (grays_any _).mono ?_
  rintro e V8 ⟨ag8, cg8, rfl, sg8, hS⟩
  replace NC := Lib.hid (NC.out.kept hS)
  replace PI := Lib.hid (PI.out.kept hS)
  replace k2 := k2.kept hS
  replace hb := hb.trans (hS.mono hb.size)
  clear hS
  have SG8 := Lib.hid sg8
  clear sg8
  go_wp2_with fail
  refine (Check_any _ _ _ _ _ _ _ NC.out SG8.out).mono ?_
  rintro e V9 ⟨rfl, hS⟩
  replace NC := Lib.hid (NC.out.kept hS)
  replace PI := Lib.hid (PI.out.kept hS)
  replace k2 := k2.kept hS
  replace hb := hb.trans (hS.mono hb.size)
  clear hS
  rw [ax4]
  go_wp2_with fail
  clear SG8
  refine (grays_any _).mono ?_
  rintro e V10 ⟨ag10, cg10, rfl, sg10, hS⟩
  replace NC := Lib.hid (NC.out.kept hS)
  replace PI := Lib.hid (PI.out.kept hS)
  replace k2 := k2.kept hS
  replace hb := hb.trans (hS.mono hb.size)
  clear hS
  have SG10 := Lib.hid sg10
  clear sg10
  go_wp2_with fail
  refine (Color_any _ _ _ _ SG10.out).mono ?_
  rintro e V11 ⟨rfl, hS⟩
  replace NC := Lib.hid (NC.out.kept hS)
  replace PI := Lib.hid (PI.out.kept hS)
  replace k2 := k2.kept hS
  replace hb := hb.trans (hS.mono hb.size)
  clear hS
  rw [ax5, show pvx (100, 100, 100, 65535) = pv 100 100 100 65535 from rfl]
  go_wp2_with fail
  clear SG10
  refine (Color_any _ [] _ _ sn_nil).mono ?_
  rintro e V12 ⟨rfl, hS⟩
  replace NC := Lib.hid (NC.out.kept hS)
  replace PI := Lib.hid (PI.out.kept hS)
  replace k2 := k2.kept hS
  replace hb := hb.trans (hS.mono hb.size)
  clear hS
  rw [ax6, show pvx (0, 0, 0, 0) = pv 0 0 0 0 from rfl]
  go_wp2_with fail
  refine callName1 (fun W3 k46 hS => ?_)
  replace NC := Lib.hid (NC.out.kept hS)
  replace PI := Lib.hid (PI.out.kept hS)
  replace k2 := k2.kept hS
  replace hb := hb.trans (hS.mono hb.size)
  clear hS
  have N46 := Lib.hid (nn4 k46)
  clear k46
  refine (Place_any _ _ _ _ _ _ _ N46.out).mono ?_
  rintro e V13 ⟨rfl, hS⟩
  replace NC := Lib.hid (NC.out.kept hS)
  replace PI := Lib.hid (PI.out.kept hS)
  replace N46 := Lib.hid (N46.out.kept hS)
  replace k2 := k2.kept hS
  replace hb := hb.trans (hS.mono hb.size)
  clear hS
  rw [ax7]
  go_wp2_with fail
  clear N46
  refine callName1 (fun W4 k51 hS => ?_)
  replace NC := Lib.hid (NC.out.kept hS)
  replace PI := Lib.hid (PI.out.kept hS)
  replace k2 := k2.kept hS
  replace hb := hb.trans (hS.mono hb.size)
  clear hS
  have N51 := Lib.hid (nn3 k51)
  clear k51
  refine (Place_any _ _ _ _ _ _ _ N51.out).mono ?_
  rintro e V14 ⟨rfl, hS⟩
  replace NC := Lib.hid (NC.out.kept hS)
  replace PI := Lib.hid (PI.out.kept hS)
  replace N51 := Lib.hid (N51.out.kept hS)
  replace k2 := k2.kept hS
  replace hb := hb.trans (hS.mono hb.size)
  clear hS
  rw [ax8]
  go_wp2_with fail
  clear N51
  refine (Place_any _ _ _ _ _ _ _ NC.out).mono ?_
  rintro e V15 ⟨rfl, hS⟩
  replace NC := Lib.hid (NC.out.kept hS)
  replace PI := Lib.hid (PI.out.kept hS)
  replace k2 := k2.kept hS
  replace hb := hb.trans (hS.mono hb.size)
  clear hS
  rw [ax9]
  go_wp2_with fail
  refine (Place_any _ _ _ _ _ _ _ NC.out).mono ?_
  rintro e V16 ⟨rfl, hS⟩
  replace NC := Lib.hid (NC.out.kept hS)
  replace PI := Lib.hid (PI.out.kept hS)
  replace k2 := k2.kept hS
  replace hb := hb.trans (hS.mono hb.size)
  clear hS
  rw [ax10]
  go_wp2_with fail
  refine (Place_any _ _ _ _ _ _ _ NC.out).mono ?_
  rintro e V17 ⟨rfl, hS⟩
  replace NC := Lib.hid (NC.out.kept hS)
  replace PI := Lib.hid (PI.out.kept hS)
  replace k2 := k2.kept hS
  replace hb := hb.trans (hS.mono hb.size)
  clear hS
  rw [ax11]
  go_wp2_with fail
  refine (Place_any _ _ _ _ _ _ _ NC.out).mono ?_
  rintro e VL ⟨rfl, hS⟩
  replace NC := Lib.hid (NC.out.kept hS)
  replace PI := Lib.hid (PI.out.kept hS)
  replace k2 := k2.kept hS
  replace hb := hb.trans (hS.mono hb.size)
  clear hS
  rw [ax12]
  have c2 := k2.c3
  obtain ⟨bi, oi, rfl, _, hpi⟩ := PI.out.at 0 (by omega)
  have ci := hpi VL (Below.refl _ _)
  simp only [pxAt, List.getD_cons_zero, Nat.zero_mul, Nat.add_zero] at ci
  clear hpi
  go_wp2_with fail
  go_ret
  exact ⟨ret_bool (by simp), hb⟩
end Go.Proofs.Ytmejdhgknebbbaa
