/- Two images with the same pixels are the same (imageeditorlaw18.same). -/
import Derived.Test.YtmejdhgknebbbaaImgPlain
import Derived.Test.YtmejdhgknebbbaaGrow
import Derived.Deep.Cut
namespace Go.Proofs.Ytmejdhgknebbbaa
open Go.RowKit
set_option linter.unusedVariables false
attribute [local go_sem] Oper.gAt gUponK

set_option maxHeartbeats 4000000 in
theorem gsame_true (W H : Int) (v v' : Value) (ps : List Px) (w : World) (h : Pn w v ps) (h' : Pn w v' ps) :
    Calls Try.prog 20 #[.agg #[.int .i64 W, .int .i64 H, v], .agg #[.int .i64 W, .int .i64 H, v']] w fun e w' => e = .returned (.bool true) ∧ Below w.heap.size w w' := by
  obtain ⟨a, cap, rfl⟩ := h.slice
  obtain ⟨a', cap', rfl⟩ := h'.slice
  have HP := Lib.hid h
  have HP' := Lib.hid h'
  have hlen := h.len.2
  clear h h'
  generalize ps.length = n at *
  go_enter Try.func20, Try.ntmps20
  go_upto_region 1 with (fail)
  refine name2 (fun W1 k1 k2 hb => ?_)
  have c1 := k1.c3
  have c2 := k2.c3
  go_wp2_with fail
  clear c1 c2
  go_loopw [30] (fun i wr => ∃ k : Nat, k ≤ n ∧ i = .int .i64 k ∧ Blk wr w.heap.size (.cells #[.int .i64 W, .int .i64 H, .slice a n cap] 37 (0, 0)) ∧ Blk wr (w.heap.size + 1) (.cells #[.int .i64 W, .int .i64 H, .slice a' n cap'] 37 (0, 0)) ∧ Below w.heap.size w wr) (fun i _ => n - (intOf i).toNat)
  case atStart => exact ⟨0, Nat.zero_le _, rfl, k1, k2, hb⟩
  case round =>
    clear hb k1 k2
    obtain ⟨k, hk, rfl, k1, k2, hb⟩ := hrel
    have c1 := k1.c3
    have c2 := k2.c3
    by_cases hlt : k < n
    · obtain ⟨b1, off1, rfl, hbl1, hcell1⟩ := HP.out.at k hlt
      obtain ⟨b2, off2, rfl, hbl2, hcell2⟩ := HP'.out.at k hlt
      generalize pxAt ps k = p at *
      obtain ⟨p0, p1, p2, p3⟩ := p
      simp only at hcell1 hcell2
      have HC1 := Lib.hid hcell1
      have HC2 := Lib.hid hcell2
      clear hcell1 hcell2
      go_wp2_with fail
      clear c1 c2
      have i1 : (0 : Int) ≤ (k : Int) := by omega
      have i2 : (k : Int) < (n : Int) := by omega
      refine wp_region_grow 11 (fun w' => Below (World.heap wr).size wr w') (by kernel_rfl) (by kernel_rfl) (Below.refl _ _).drew ?_
      simp only [List.take_succ_cons, List.take_zero, List.drop_succ_cons, List.drop_zero]
      repeat (first | (apply wpG_on; rfl; (intro w' hS K hK; have hc0 := (k1.kept hS).c3; have hc1 := (k2.kept hS).c3; have hr0 := HC1.out _ (hb.trans (hS.mono hb.size)); have hr1 := HC2.out _ (hb.trans (hS.mono hb.size)); go_simp; (first | exact hK.out _ hS)); simp only [Act.put, List.setIfInBounds_toArray, List.set_cons_succ, List.set_cons_zero]) | (apply wpG_off; rfl; simp only [Act.put, List.setIfInBounds_toArray, List.set_cons_succ, List.set_cons_zero]))
      apply wpG_nil
      intro W6 hS
      replace k1 := k1.kept hS
      replace k2 := k2.kept hS
      replace hb := hb.trans (hS.mono hb.size)
      clear hS
      go_wp2_with fail
      go_roundw
      case rel => exact ⟨k + 1, by omega, by go_num, k1, k2, hb⟩
      case measure => simp only [intOf]; omega
    · obtain rfl : k = n := by omega
      go_wp2_with fail
      go_ret
      exact ⟨rfl, hb⟩
end Go.Proofs.Ytmejdhgknebbbaa
