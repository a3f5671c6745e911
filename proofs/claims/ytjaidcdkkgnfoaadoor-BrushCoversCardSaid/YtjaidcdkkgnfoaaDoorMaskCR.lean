/- The error of a mask, by the reference (printed by genmask.py). -/
import Derived.Test.YtjaidcdkkgnfoaaDoorMaskP
import Derived.Test.YtjaidcdkkgnfoaaDoorLRow
import Derived.Test.YtjaidcdkkgnfoaaDoorDabChk
import Derived.Test.YtjaidcdkkgnfoaaDoorLKit
import Derived.Deep.Cut
namespace Go.Proofs.YtjaidcdkkgnfoaaDoor
open Go.RowKit
set_option linter.unusedVariables false
attribute [local go_sem] Oper.gAt gUponK Oper.sAt stilK

theorem nnAtC {w : World} {a : Option Addr} {n cap : Nat} {zs : List Int} (h : Nn w (.slice a n cap) zs) (i : Nat) (hi : i < n) : ∃ b off, a = some ⟨b, off, none⟩ ∧ ∀ w' : World, Below w.heap.size w w' → w'.cell? ⟨b, off + i, none⟩ = some (.int .i64 (zs.getD i 0)) := by
  obtain ⟨b, off, ha, hc⟩ := h.at i hi
  refine ⟨b, off, ha, fun w' hb => ?_⟩
  rw [hb.cell (p := ⟨b, off + i, none⟩) (lt_of_cell hc)]
  exact hc

set_option maxHeartbeats 4000000 in
theorem refMaskCheck_any (W H : Int) (v : Value) (zs : List Int) (w : World) (h : Nn w v zs) :
    Calls Tryd.prog 11 #[.agg #[.int .i64 W, .int .i64 H, v]] w fun e w' => e = .returned (.int .i64 (mchk W H zs)) ∧ Below w.heap.size w w' := by
  obtain ⟨a, cap, rfl, hlen⟩ := h.slice
  have HP := Lib.hid h
  clear h
  have BAD := Lib.hid (@mchk_bad W H zs)
  have GOOD := Lib.hid (@mchk_good W H zs)
  have FA := Lib.hid (ferr_at (mbad zs) zs.length)
  have FG := Lib.hid (ferr_go (mbad zs) zs.length)
  have FE := Lib.hid (ferr_end (mbad zs) zs.length)
  have FB : Hid (∀ i, mbad zs i = if 0 ≤ zs.getD i 0 ∧ zs.getD i 0 ≤ 65535 then 0 else 2) := fun i => rfl
  generalize zs.length = n at *
  generalize mchk W H zs = R at *
  by_cases c1 : W < 0
  · have HE := Lib.hid (BAD.out (.inl c1))
    go_enter Tryd.func11, Tryd.ntmps11
    go_wp2_with fail
    go_ret
    exact ⟨ret_int HE.out.symm, (Below.refl _ _).alloc (Nat.le_refl _) _⟩
  by_cases c2 : 256 < W
  · have HE := Lib.hid (BAD.out (.inr (.inl c2)))
    go_enter Tryd.func11, Tryd.ntmps11
    go_wp2_with fail
    go_ret
    exact ⟨ret_int HE.out.symm, (Below.refl _ _).alloc (Nat.le_refl _) _⟩
  by_cases c3 : H < 0
  · have HE := Lib.hid (BAD.out (.inr (.inr (.inl c3))))
    go_enter Tryd.func11, Tryd.ntmps11
    go_wp2_with fail
    go_ret
    exact ⟨ret_int HE.out.symm, (Below.refl _ _).alloc (Nat.le_refl _) _⟩
  by_cases c4 : 256 < H
  · have HE := Lib.hid (BAD.out (.inr (.inr (.inr (.inl c4)))))
    go_enter Tryd.func11, Tryd.ntmps11
    go_wp2_with fail
    go_ret
    exact ⟨ret_int HE.out.symm, (Below.refl _ _).alloc (Nat.le_refl _) _⟩
  by_cases c5 : W = 0 ∧ H ≠ 0
  · have HE := Lib.hid (BAD.out (.inr (.inr (.inr (.inr (.inl c5))))))
    obtain ⟨rfl, hh⟩ := c5
    have b2 : (H == 0) = false := by simpa using hh
    go_enter Tryd.func11, Tryd.ntmps11
    go_wp2_with fail
    go_ret
    exact ⟨ret_int HE.out.symm, (Below.refl _ _).alloc (Nat.le_refl _) _⟩
  by_cases c6 : W ≠ 0 ∧ H = 0
  · have HE := Lib.hid (BAD.out (.inr (.inr (.inr (.inr (.inr (.inl c6)))))))
    obtain ⟨hh, rfl⟩ := c6
    have b1 : (W == 0) = false := by simpa using hh
    go_enter Tryd.func11, Tryd.ntmps11
    go_wp2_with fail
    go_ret
    exact ⟨ret_int HE.out.symm, (Below.refl _ _).alloc (Nat.le_refl _) _⟩
  have hwh : W = 0 ↔ H = 0 := by omega
  have har := @area_bd W H (by omega) (by omega) (by omega) (by omega)
  by_cases c7 : (n : Int) = W * H
  · have HQ := Lib.hid (GOOD.out (by omega) (by omega) (by omega) (by omega) hwh c7)
    have C7 := Lib.hid c7
    clear BAD GOOD
    have both : (W = 0 ∧ H = 0) ∨ (W ≠ 0 ∧ H ≠ 0) := by omega
    clear hwh c5 c6
    rcases both with ⟨rfl, rfl⟩ | ⟨z1, z2⟩
    · have hn0 : n = 0 := by omega
      subst hn0
      have e0 := HQ.out.trans FE.out
      subst e0
      go_enter Tryd.func11, Tryd.ntmps11
      go_upto_region 1 with (fail)
      refine name1 (fun W1 k1 hb => ?_)
      have c1' := k1.c3
      go_wp2_with fail
      clear c1'
      go_loopw [3] (fun i wr => i = .int .i64 0 ∧ Blk wr w.heap.size (.cells #[.int .i64 0, .int .i64 0, .slice a 0 cap] 33 (0, 0)) ∧ Below w.heap.size w wr) (fun i _ => 0)
      case atStart => exact ⟨rfl, k1, hb⟩
      case round =>
        clear hb k1
        obtain ⟨rfl, k1, hb⟩ := hrel
        have c1' := k1.c3
        go_wp2_with fail
        go_ret
        exact ⟨rfl, hb⟩
    · have b1 : (W == 0) = false := by simpa using z1
      have b2 : (H == 0) = false := by simpa using z2
      go_enter Tryd.func11, Tryd.ntmps11
      go_upto_region 1 with (fail)
      refine name1 (fun W1 k1 hb => ?_)
      have c1' := k1.c3
      go_wp2_with fail
      clear c1'
      go_loopw [3] (fun i wr => ∃ k : Nat, k ≤ n ∧ i = .int .i64 k ∧ Hid (R = ferr (mbad zs) (n - k) k) ∧ Blk wr w.heap.size (.cells #[.int .i64 W, .int .i64 H, .slice a n cap] 33 (0, 0)) ∧ Below w.heap.size w wr) (fun i _ => n - (intOf i).toNat)
      case atStart => exact ⟨0, Nat.zero_le _, rfl, HQ, k1, hb⟩
      case round =>
        clear hb HQ k1
        obtain ⟨k, hk, rfl, HR, k1, hb⟩ := hrel
        have c1' := k1.c3
        by_cases hlt : k < n
        · obtain ⟨b, off, rfl, hc0⟩ := nnAtC HP.out k hlt
          have hc := hc0 wr hb
          clear hc0
          have FB1 := Lib.hid (FB.out k)
          generalize zs.getD k 0 = z at *
          have i1 : (0 : Int) ≤ (k : Int) := by omega
          have i2 : (k : Int) < (n : Int) := by omega
          by_cases z1 : z < 0
          · have FB2 : Hid (mbad zs k = 2) := by show _ = _; rw [FB1.out, if_neg (by omega)]
            go_wp2_with fail
            go_ret
            exact ⟨ret_int (by rw [HR.out, FA.out k hlt (by rw [FB2.out]; decide), FB2.out]), hb⟩
          · by_cases z2 : 65535 < z
            · have FB2 : Hid (mbad zs k = 2) := by show _ = _; rw [FB1.out, if_neg (by omega)]
              go_wp2_with fail
              go_ret
              exact ⟨ret_int (by rw [HR.out, FA.out k hlt (by rw [FB2.out]; decide), FB2.out]), hb⟩
            · have FB2 : Hid (mbad zs k = 0) := by show _ = _; rw [FB1.out, if_pos (by omega)]
              go_wp2_with fail
              go_roundw
              case rel => exact ⟨k + 1, by omega, by go_num, by show _ = _; rw [HR.out, FG.out k hlt FB2.out], k1, hb⟩
              case measure => simp [intOf]; omega
        · obtain rfl : k = n := by omega
          go_wp2_with fail
          go_ret
          exact ⟨ret_int (by rw [HR.out, FE.out]), hb⟩
  · have HE := Lib.hid (BAD.out (.inr (.inr (.inr (.inr (.inr (.inr c7)))))))
    have both : (W = 0 ∧ H = 0) ∨ (W ≠ 0 ∧ H ≠ 0) := by omega
    clear hwh c5 c6
    rcases both with ⟨rfl, rfl⟩ | ⟨z1, z2⟩
    · go_enter Tryd.func11, Tryd.ntmps11
      go_wp2_with fail
      go_ret
      exact ⟨ret_int HE.out.symm, (Below.refl _ _).alloc (Nat.le_refl _) _⟩
    · have b1 : (W == 0) = false := by simpa using z1
      have b2 : (H == 0) = false := by simpa using z2
      go_enter Tryd.func11, Tryd.ntmps11
      go_wp2_with fail
      go_ret
      exact ⟨ret_int HE.out.symm, (Below.refl _ _).alloc (Nat.le_refl _) _⟩

end Go.Proofs.YtjaidcdkkgnfoaaDoor

