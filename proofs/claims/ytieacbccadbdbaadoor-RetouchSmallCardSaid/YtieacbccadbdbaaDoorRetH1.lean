/- retouch.values, retouch.healed. -/
import Derived.Test.YtieacbccadbdbaaDoorRetQ
import Derived.Test.YtieacbccadbdbaaDoorLNum
import Derived.Deep.Cut
namespace Go.Proofs.YtieacbccadbdbaaDoor
open Go.RowKit
set_option linter.unusedVariables false
attribute [local go_sem] Oper.gAt gUponK Oper.sAt stilK

set_option maxHeartbeats 2000000 in
theorem values_any (p : Px) (w : World) :
    Calls Tryd.prog 38 #[pvx p] w fun e w' => e = .returned (pvx (prP p)) ∧ Below w.heap.size w w' := by
  have PP := Lib.hid (fun w => prex_any p w)
  generalize prP p = q at *
  obtain ⟨p0, p1, p2, p3⟩ := p
  obtain ⟨q0, q1, q2, q3⟩ := q
  replace PP : Hid (∀ w, Calls Tryd.prog 66 #[pv p0 p1 p2 p3] w fun e w' => e = .returned (pv q0 q1 q2 q3) ∧ Below w.heap.size w w') := PP
  show Calls _ _ #[pv p0 p1 p2 p3] w fun e w' => e = .returned (pv q0 q1 q2 q3) ∧ _
  go_enter Tryd.func38, Tryd.ntmps38
  go_upto_region 1 with (fail)
  refine name2 (fun W k1 k2 hb => ?_)
  have c1 := k1.c4
  go_wp2_with fail
  clear c1
  refine (PP.out _).mono ?_
  rintro e W1 ⟨rfl, hS⟩
  replace k1 := k1.kept hS
  replace k2 := k2.kept hS
  replace hb := hb.trans (hS.mono hb.size)
  clear hS
  have c1 := k1.c4
  go_upto_region 2 with (fail)
  clear c1
  refine mid4 hb k1 (by omega) (fun W2 k1' kk hb => ?_)
  replace k2 := kk _ _ (by omega) k2
  have c1 := k1'.c4
  have c2 := k2.c4
  go_wp2_with fail
  exact end4 hb k2 (by omega) (fun w3 c3 => by simp [results, Tryd.results38, go_sem, c3]) rfl (fun w3 hb3 => ⟨rfl, hb3⟩)

set_option maxHeartbeats 8000000 in
theorem healed_go (fs fm r : Nat → Int) (w : World) (hs : ∀ c, 0 ≤ fs c ∧ fs c ≤ 65535) (hm : ∀ c, -65535 ≤ fm c ∧ fm c ≤ 65535) (hr : ∀ c, r c = min 65535 (max (fs c + fm c) 0)) :
    Calls Tryd.prog 40 #[pv (fs 0) (fs 1) (fs 2) (fs 3), pv (fm 0) (fm 1) (fm 2) (fm 3)] w fun e w' => e = .returned (pvx (stP (r 0, r 1, r 2, r 3))) ∧ Below w.heap.size w w' := by
  have ST := Lib.hid (fun w => straightx_any (r 0, r 1, r 2, r 3) w)
  generalize stP (r 0, r 1, r 2, r 3) = q at *
  obtain ⟨q0, q1, q2, q3⟩ := q
  have HR := Lib.hid hr
  have S1 := Lib.hid hs
  have M1 := Lib.hid hm
  clear hs hm hr
  replace ST : Hid (∀ w, Calls Tryd.prog 68 #[pv (r 0) (r 1) (r 2) (r 3)] w fun e w' => e = .returned (pv q0 q1 q2 q3) ∧ Below w.heap.size w w') := ST
  show Calls _ _ #[pv (fs 0) (fs 1) (fs 2) (fs 3), pv (fm 0) (fm 1) (fm 2) (fm 3)] w fun e w' => e = .returned (pv q0 q1 q2 q3) ∧ _
  go_enter Tryd.func40, Tryd.ntmps40
  go_upto_region 1 with (fail)
  refine name3 (fun W1 k1 k2 k3 hb => ?_)
  have row := (rowI_blk4 k1).congr (f' := fun i => if i < 0 then r i else fs i) (fun i _ => by rw [if_neg (by omega)])
  have rom := rowI_blk4 k2
  clear k1 k2
  go_wp2_with fail
  go_loopw [6] (fun i wr => ∃ j : Nat, j ≤ 4 ∧ i = .int .i64 j ∧ RowI wr w.heap.size 4 (fun i => if i < j then r i else fs i) ∧ RowI wr (w.heap.size + 1) 4 fm ∧ Blk wr (w.heap.size + 1 + 1) (.cells #[.int .i64 0, .int .i64 0, .int .i64 0, .int .i64 0] 26 (0, 0)) ∧ Below w.heap.size w wr) (fun i _ => 4 - (intOf i).toNat)
  case atStart => exact ⟨0, Nat.zero_le _, rfl, row, rom, k3, hb⟩
  case round =>
    clear row rom k3 hb
    obtain ⟨j, hj, rfl, row, rom, k3, hb⟩ := hrel
    by_cases hlt : j < 4
    · have CL := Lib.hid (fun w => clamp_any (fs j + fm j) 0 65535 w)
      rw [← HR.out j] at CL
      have b1 := S1.out j
      have b2 := M1.out j
      have RC := Lib.hid (fun w' (h : RowI w' w.heap.size 4 (fun i => if i < j then r i else fs i)) => h.c j hlt)
      simp only [Nat.lt_irrefl, if_false] at RC
      have RS := Lib.hid (fun w' (h : RowI w' w.heap.size 4 (fun i => if i < j then r i else fs i)) => h.step hlt)
      have RM := Lib.hid (fun w' (h : RowI w' (w.heap.size + 1) 4 fm) => h.c j hlt)
      generalize r j = rj at *
      generalize fs j = fj at *
      generalize fm j = mj at *
      have e1 : IntKind.i64.wrap (fj + mj) = fj + mj := IntWalk.i64_in _ (by omega)
      have i1 : (0 : Int) ≤ (j : Int) := by omega
      have i2 : (j : Int) < 4 := by omega
      go_upto_region 4 with (fail)
      refine wp_region_grow 10 (fun w' => Below (World.heap wr).size wr w') (by kernel_rfl) (by kernel_rfl) (Below.refl _ _).drew ?_
      simp only [List.take_succ_cons, List.take_zero, List.drop_succ_cons, List.drop_zero]
      repeat (first | (apply wpG_on; rfl; (intro w' hS K hK; have hc0 := (row.kept hS).lt; have hc1 := (rom.kept hS).lt; have hc2 := (k3.kept hS).lt; have hr0 := RC.out _ (row.kept hS); have hr1 := RM.out _ (rom.kept hS); go_simp; (first | exact hK.out _ hS | (go_at_call 15; (with_reducible refine (CL.out _).mono ?_); rintro e w'' ⟨rfl, rfl⟩; exact ⟨_, rfl, hK.out _ hS⟩))); simp only [Act.put, List.setIfInBounds_toArray, List.set_cons_succ, List.set_cons_zero]) | (apply wpG_off; rfl; simp only [Act.put, List.setIfInBounds_toArray, List.set_cons_succ, List.set_cons_zero]))
      apply wpG_nil
      intro W2 hS
      replace row := row.kept hS
      replace rom := rom.kept hS
      replace k3 := k3.kept hS
      replace hb := hb.trans (hS.mono hb.size)
      clear hS
      have cr := RC.out _ row
      go_wp2_with fail
      go_roundw
      case rel => exact ⟨j + 1, by omega, by go_num, RS.out _ row, rom.other (p := ⟨w.heap.size, j, none⟩) (by show _ ≠ w.heap.size; omega) _, k3.other (p := ⟨w.heap.size, j, none⟩) (by show _ ≠ w.heap.size; omega) _, hb.setCell (p := ⟨w.heap.size, j, none⟩) (Nat.le_refl _) _⟩
      case measure => simp only [intOf]; omega
    · obtain rfl : j = 4 := by omega
      have r4 := row.congr (f' := r) (fun i hi => if_pos hi)
      have d0 := r4.c 0 (by omega)
      have d1 := r4.c 1 (by omega)
      have d2 := r4.c 2 (by omega)
      have d3 := r4.c 3 (by omega)
      clear row r4
      go_wp2_with fail
      clear d0 d1 d2 d3
      refine (ST.out _).mono ?_
      rintro e W3 ⟨rfl, hS⟩
      replace k3 := k3.kept hS
      replace hb := hb.trans (hS.mono hb.size)
      have c3 := k3.c4
      go_wp2_with fail
      exact end4 hb k3 (by omega) (fun w3 c3 => by simp [results, Tryd.results40, go_sem, c3]) rfl (fun w3 hb3 => ⟨rfl, hb3⟩)
theorem healed_any (s m : Px) (w : World) (hs : ∀ c, 0 ≤ cmp c s ∧ cmp c s ≤ 65535) (hm : ∀ c, -65535 ≤ cmp c m ∧ cmp c m ≤ 65535) :
    Calls Tryd.prog 40 #[pvx s, pvx m] w fun e w' => e = .returned (pvx (heP s m)) ∧ Below w.heap.size w w' :=
  healed_go (fun c => cmp c s) (fun c => cmp c m) (fun c => cl (cmp c s + cmp c m)) w hs hm (fun c => (cl_min _).symm)
end Go.Proofs.YtieacbccadbdbaaDoor

