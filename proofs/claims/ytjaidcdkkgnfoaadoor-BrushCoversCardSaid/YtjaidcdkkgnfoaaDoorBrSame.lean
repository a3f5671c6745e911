/- Two masks of equal values are the same; the struct of a stroke and a size. -/
import Derived.Test.YtjaidcdkkgnfoaaDoorLKit
import Derived.Test.YtjaidcdkkgnfoaaDoorLRow
import Derived.Test.YtjaidcdkkgnfoaaDoorBrDabs
import Derived.Deep.Cut
namespace Go.Proofs.YtjaidcdkkgnfoaaDoor
open Go.RowKit
set_option linter.unusedVariables false
attribute [local go_sem] Oper.gAt gUponK Oper.sAt stilK

theorem Blk.c19 {w : World} {b : Nat} {x0 x1 x2 x3 x4 x5 x6 x7 x8 x9 x10 x11 x12 x13 x14 x15 x16 x17 x18 : Value} {t : TypeId} (k : Blk w b (.cells #[x0, x1, x2, x3, x4, x5, x6, x7, x8, x9, x10, x11, x12, x13, x14, x15, x16, x17, x18] t (0, 0))) :
    w.cell? ⟨b, 0, none⟩ = some x0 ∧ w.cell? ⟨b, 1, none⟩ = some x1 ∧ w.cell? ⟨b, 2, none⟩ = some x2 ∧ w.cell? ⟨b, 3, none⟩ = some x3 ∧ w.cell? ⟨b, 4, none⟩ = some x4 ∧ w.cell? ⟨b, 5, none⟩ = some x5 ∧ w.cell? ⟨b, 6, none⟩ = some x6 ∧ w.cell? ⟨b, 7, none⟩ = some x7 ∧ w.cell? ⟨b, 8, none⟩ = some x8 ∧ w.cell? ⟨b, 9, none⟩ = some x9 ∧ w.cell? ⟨b, 10, none⟩ = some x10 ∧ w.cell? ⟨b, 11, none⟩ = some x11 ∧ w.cell? ⟨b, 12, none⟩ = some x12 ∧ w.cell? ⟨b, 13, none⟩ = some x13 ∧ w.cell? ⟨b, 14, none⟩ = some x14 ∧ w.cell? ⟨b, 15, none⟩ = some x15 ∧ w.cell? ⟨b, 16, none⟩ = some x16 ∧ w.cell? ⟨b, 17, none⟩ = some x17 ∧ w.cell? ⟨b, 18, none⟩ = some x18 ∧ ∀ o, w.frozen? ⟨b, o, none⟩ = false :=
  ⟨cell_blk k rfl, cell_blk k rfl, cell_blk k rfl, cell_blk k rfl, cell_blk k rfl, cell_blk k rfl, cell_blk k rfl, cell_blk k rfl, cell_blk k rfl, cell_blk k rfl, cell_blk k rfl, cell_blk k rfl, cell_blk k rfl, cell_blk k rfl, cell_blk k rfl, cell_blk k rfl, cell_blk k rfl, cell_blk k rfl, cell_blk k rfl, fun _ => free_blk k⟩
theorem nnAtS {w : World} {a : Option Addr} {n cap : Nat} {zs : List Int} (h : Nn w (.slice a n cap) zs) (i : Nat) (hi : i < n) : ∃ b off, a = some ⟨b, off, none⟩ ∧ ∀ w' : World, Below w.heap.size w w' → w'.cell? ⟨b, off + i, none⟩ = some (.int .i64 (zs.getD i 0)) := by
  obtain ⟨b, off, ha, hc⟩ := h.at i hi
  refine ⟨b, off, ha, fun w' hb => ?_⟩
  rw [hb.cell (p := ⟨b, off + i, none⟩) (lt_of_cell hc)]
  exact hc

set_option maxHeartbeats 4000000 in
theorem sameMask_true (va vb : Value) (W H : Int) (zs : List Int) (w : World) (h : Nn w va zs) (h' : Nn w vb zs) :
    Calls Tryd.prog 8 #[.agg #[.int .i64 W, .int .i64 H, va], .agg #[.int .i64 W, .int .i64 H, vb]] w fun e w' => e = .returned (.bool true) ∧ Below w.heap.size w w' := by
  obtain ⟨a, cap, rfl, hlen⟩ := h.slice
  obtain ⟨a', cap', rfl, _⟩ := h'.slice
  have HP := Lib.hid h
  have HP' := Lib.hid h'
  clear h h'
  generalize zs.length = n at *
  go_enter Tryd.func8, Tryd.ntmps8
  go_upto_region 1 with (fail)
  refine name2 (fun W0 k1 k2 hb => ?_)
  have c1 := k1.c3
  have c2 := k2.c3
  go_wp2_with fail
  clear c1 c2
  go_loopw [5] (fun i wr => ∃ k : Nat, k ≤ n ∧ i = .int .i64 k ∧ Blk wr w.heap.size (.cells #[.int .i64 W, .int .i64 H, .slice a n cap] 33 (0, 0)) ∧ Blk wr (w.heap.size + 1) (.cells #[.int .i64 W, .int .i64 H, .slice a' n cap'] 33 (0, 0)) ∧ Below w.heap.size w wr) (fun i _ => n - (intOf i).toNat)
  case atStart => exact ⟨0, Nat.zero_le _, rfl, k1, k2, hb⟩
  case round =>
    clear k1 k2 hb
    obtain ⟨k, hk, rfl, k1, k2, hb⟩ := hrel
    have c1 := k1.c3
    by_cases hlt : k < n
    · obtain ⟨b1, off1, rfl, hcell1⟩ := nnAtS HP.out k hlt
      obtain ⟨b2, off2, rfl, hcell2⟩ := nnAtS HP'.out k hlt
      generalize zs.getD k 0 = z at *
      have HC1 := Lib.hid hcell1
      have HC2 := Lib.hid hcell2
      clear hcell1 hcell2
      have i1 : (0 : Int) ≤ (k : Int) := by omega
      have i2 : (k : Int) < (n : Int) := by omega
      go_upto_region 6 with (fail)
      clear c1
      refine wp_region_grow 11 (fun w' => Below (World.heap wr).size wr w') (by kernel_rfl) (by kernel_rfl) (Below.refl _ _).drew ?_
      simp only [List.take_succ_cons, List.take_zero, List.drop_succ_cons, List.drop_zero]
      repeat (first | (apply wpG_on; rfl; (intro w' hS K hK; have hc0 := (k1.kept hS).c3; have hc1 := (k2.kept hS).c3; have hr0 := HC1.out _ (hb.trans (hS.mono hb.size)); have hr1 := HC2.out _ (hb.trans (hS.mono hb.size)); go_simp; (first | exact hK.out _ hS)); simp only [Act.put, List.setIfInBounds_toArray, List.set_cons_succ, List.set_cons_zero]) | (apply wpG_off; rfl; simp only [Act.put, List.setIfInBounds_toArray, List.set_cons_succ, List.set_cons_zero]))
      apply wpG_nil
      intro W6 hS
      replace k1 := k1.kept hS
      replace k2 := k2.kept hS
      replace hb := hb.trans (hS.mono hb.size)
      clear hS
      go_wp2_with fail
      go_roundw
      case rel => exact ⟨k + 1, by omega, by go_num, k1, k2, hb⟩
      case measure => simp [intOf]; omega
    · obtain rfl : k = n := by omega
      go_wp2_with fail
      go_ret
      exact ⟨rfl, hb⟩
end Go.Proofs.YtjaidcdkkgnfoaaDoor

