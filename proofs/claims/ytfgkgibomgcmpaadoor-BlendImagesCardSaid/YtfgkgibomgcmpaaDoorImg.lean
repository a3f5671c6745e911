/- The error of an image, by the program and by the reference (printed by genimg.py). -/
import Derived.Test.YtfgkgibomgcmpaaDoorImgPlain
import Derived.Test.YtfgkgibomgcmpaaDoorMake
import Derived.Deep.Cut
namespace Go.Proofs.YtfgkgibomgcmpaaDoor
open Go.RowKit
set_option linter.unusedVariables false
attribute [local go_sem] Oper.gAt gUponK Oper.sAt stilK

theorem validx (p : Px) (w : World) : Calls Tryd.prog 73 #[pvx p] w fun e w' => e = .returned (.bool (pOk p)) ∧ Below w.heap.size w w' := valid_any _ _ _ _ w

theorem refValidx (p : Px) (w : World) : Calls Tryd.prog 22 #[pvx p] w fun e w' => e = .returned (.bool (pOk p)) ∧ Below w.heap.size w w' := refValid_any _ _ _ _ w

set_option maxHeartbeats 4000000 in
theorem check_any (W H : Int) (v : Value) (ps : List Px) (w : World) (h : Pn w v ps) :
    Calls Tryd.prog 50 #[.agg #[.int .i64 W, .int .i64 H, v]] w fun e w' => e = .returned (.int .i64 (ichk W H ps)) ∧ Below w.heap.size w w' := by
  obtain ⟨a, cap, rfl⟩ := h.slice
  have HP := Lib.hid h
  have hlen := h.len.2
  clear h
  have BAD := Lib.hid (@ichk_bad W H ps)
  have GOOD := Lib.hid (@ichk_good W H ps)
  have FA := Lib.hid (ferr_at (pbad ps) ps.length)
  have FG := Lib.hid (ferr_go (pbad ps) ps.length)
  have FE := Lib.hid (ferr_end (pbad ps) ps.length)
  have FB : Hid (∀ i, pbad ps i = if pOk (pxAt ps i) = true then 0 else 2) := fun i => rfl
  generalize ps.length = n at *
  generalize ichk W H ps = R at *
  by_cases c1 : W < 0
  · have HE := Lib.hid (BAD.out (.inl c1))
    go_enter Tryd.func50, Tryd.ntmps50
    go_wp2_with fail
    go_ret
    exact ⟨ret_int HE.out.symm, (Below.refl _ _).alloc (Nat.le_refl _) _⟩
  by_cases c2 : 256 < W
  · have HE := Lib.hid (BAD.out (.inr (.inl c2)))
    go_enter Tryd.func50, Tryd.ntmps50
    go_wp2_with fail
    go_ret
    exact ⟨ret_int HE.out.symm, (Below.refl _ _).alloc (Nat.le_refl _) _⟩
  by_cases c3 : H < 0
  · have HE := Lib.hid (BAD.out (.inr (.inr (.inl c3))))
    go_enter Tryd.func50, Tryd.ntmps50
    go_wp2_with fail
    go_ret
    exact ⟨ret_int HE.out.symm, (Below.refl _ _).alloc (Nat.le_refl _) _⟩
  by_cases c4 : 256 < H
  · have HE := Lib.hid (BAD.out (.inr (.inr (.inr (.inl c4)))))
    go_enter Tryd.func50, Tryd.ntmps50
    go_wp2_with fail
    go_ret
    exact ⟨ret_int HE.out.symm, (Below.refl _ _).alloc (Nat.le_refl _) _⟩
  by_cases c5 : W = 0 ∧ H ≠ 0
  · have HE := Lib.hid (BAD.out (.inr (.inr (.inr (.inr (.inl c5))))))
    obtain ⟨rfl, hh⟩ := c5
    have b2 : (H == 0) = false := by simpa using hh
    go_enter Tryd.func50, Tryd.ntmps50
    go_wp2_with fail
    go_ret
    exact ⟨ret_int HE.out.symm, (Below.refl _ _).alloc (Nat.le_refl _) _⟩
  by_cases c6 : W ≠ 0 ∧ H = 0
  · have HE := Lib.hid (BAD.out (.inr (.inr (.inr (.inr (.inr (.inl c6)))))))
    obtain ⟨hh, rfl⟩ := c6
    have b1 : (W == 0) = false := by simpa using hh
    go_enter Tryd.func50, Tryd.ntmps50
    go_wp2_with fail
    go_ret
    exact ⟨ret_int HE.out.symm, (Below.refl _ _).alloc (Nat.le_refl _) _⟩
  have hwh : W = 0 ↔ H = 0 := by omega
  have har := @area_bd W H (by omega) (by omega) (by omega) (by omega)
  by_cases c7 : (n : Int) = W * H
  · have HQ := Lib.hid (GOOD.out (by omega) (by omega) (by omega) (by omega) hwh c7)
    have C7 := Lib.hid c7
    clear BAD GOOD
    have both : (W = 0 ∧ H = 0) ∨ (W ≠ 0 ∧ H ≠ 0) := by omega
    clear hwh c5 c6
    rcases both with ⟨rfl, rfl⟩ | ⟨z1, z2⟩
    · have hn0 : n = 0 := by omega
      subst hn0
      have e0 := HQ.out.trans FE.out
      subst e0
      go_enter Tryd.func50, Tryd.ntmps50
      go_upto_region 1 with (fail)
      refine name1 (fun W1 k1 hb => ?_)
      have c1' := k1.c3
      go_wp2_with fail
      go_loopw [44] (fun i wr => i = .int .i64 0 ∧ Below w.heap.size w wr) (fun i _ => 0)
      case atStart => exact ⟨rfl, hb⟩
      case round =>
        obtain ⟨rfl, hb⟩ := hrel
        go_wp2_with fail
        go_ret
        exact ⟨rfl, hb⟩
    · have b1 : (W == 0) = false := by simpa using z1
      have b2 : (H == 0) = false := by simpa using z2
      go_enter Tryd.func50, Tryd.ntmps50
      go_upto_region 1 with (fail)
      refine name1 (fun W1 k1 hb => ?_)
      have c1' := k1.c3
      go_wp2_with fail
      clear c1' k1
      go_loopw [44] (fun i wr => ∃ k : Nat, k ≤ n ∧ i = .int .i64 k ∧ Hid (R = ferr (pbad ps) (n - k) k) ∧ Below w.heap.size w wr) (fun i _ => n - (intOf i).toNat)
      case atStart => exact ⟨0, Nat.zero_le _, rfl, HQ, hb⟩
      case round =>
        clear hb HQ
        obtain ⟨k, hk, rfl, HR, hb⟩ := hrel
        by_cases hlt : k < n
        · obtain ⟨b, off, rfl, hbl, hcell⟩ := HP.out.at k hlt
          have hc := hcell wr hb
          clear hcell
          have V1 := Lib.hid (fun w => validx (pxAt ps k) w)
          have FB1 := Lib.hid (FB.out k)
          generalize pxAt ps k = p at *
          obtain ⟨p0, p1, p2, p3⟩ := p
          simp only at hc
          replace V1 : Hid (∀ w, Calls Tryd.prog 73 #[pv p0 p1 p2 p3] w fun e w' => e = .returned (.bool (pOk (p0, p1, p2, p3))) ∧ Below w.heap.size w w') := V1
          by_cases hok : pOk (p0, p1, p2, p3) = true
          · have FB2 : Hid (pbad ps k = 0) := by show _ = _; rw [FB1.out, if_pos hok]
            rw [hok] at V1
            clear hok
            go_wp2_with fail
            refine callName1 (fun W2 k2 hS => ?_)
            replace hb := hb.trans (hS.mono hb.size)
            clear hS
            refine (V1.out _).mono ?_
            rintro e W3 ⟨rfl, hS⟩
            replace hb := hb.trans (hS.mono hb.size)
            clear hS
            go_wp2_with fail
            go_roundw
            case rel => exact ⟨k + 1, by omega, by go_num, by show _ = _; rw [HR.out, FG.out k hlt FB2.out], hb⟩
            case measure => simp [intOf]; omega
          · have FB2 : Hid (pbad ps k = 2) := by show _ = _; rw [FB1.out, if_neg hok]
            rw [show pOk (p0, p1, p2, p3) = false by simpa using hok] at V1
            clear hok
            go_wp2_with fail
            refine callName1 (fun W2 k2 hS => ?_)
            replace hb := hb.trans (hS.mono hb.size)
            clear hS
            refine (V1.out _).mono ?_
            rintro e W3 ⟨rfl, hS⟩
            replace hb := hb.trans (hS.mono hb.size)
            clear hS
            go_wp2_with fail
            go_ret
            exact ⟨ret_int (by rw [HR.out, FA.out k hlt (by rw [FB2.out]; decide), FB2.out]), hb⟩
        · obtain rfl : k = n := by omega
          go_wp2_with fail
          go_ret
          exact ⟨ret_int (by rw [HR.out, FE.out]), hb⟩
  · have HE := Lib.hid (BAD.out (.inr (.inr (.inr (.inr (.inr (.inr c7)))))))
    have both : (W = 0 ∧ H = 0) ∨ (W ≠ 0 ∧ H ≠ 0) := by omega
    clear hwh c5 c6
    rcases both with ⟨rfl, rfl⟩ | ⟨z1, z2⟩
    · go_enter Tryd.func50, Tryd.ntmps50
      go_wp2_with fail
      go_ret
      exact ⟨ret_int HE.out.symm, (Below.refl _ _).alloc (Nat.le_refl _) _⟩
    · have b1 : (W == 0) = false := by simpa using z1
      have b2 : (H == 0) = false := by simpa using z2
      go_enter Tryd.func50, Tryd.ntmps50
      go_wp2_with fail
      go_ret
      exact ⟨ret_int HE.out.symm, (Below.refl _ _).alloc (Nat.le_refl _) _⟩

set_option maxHeartbeats 4000000 in
theorem valued_any (W H : Int) (v : Value) (ps : List Px) (w : World) (h : Pn w v ps) :
    Calls Tryd.prog 52 #[.agg #[.int .i64 W, .int .i64 H, v]] w fun e w' => e = .returned (.int .i64 (ichk W H ps)) ∧ Below w.heap.size w w' := by
  obtain ⟨a, cap, rfl⟩ := h.slice
  have HP := Lib.hid h
  have hlen := h.len.2
  clear h
  have BAD := Lib.hid (@ichk_bad W H ps)
  have GOOD := Lib.hid (@ichk_good W H ps)
  have FA := Lib.hid (ferr_at (pbad ps) ps.length)
  have FG := Lib.hid (ferr_go (pbad ps) ps.length)
  have FE := Lib.hid (ferr_end (pbad ps) ps.length)
  have FB : Hid (∀ i, pbad ps i = if pOk (pxAt ps i) = true then 0 else 2) := fun i => rfl
  generalize ps.length = n at *
  generalize ichk W H ps = R at *
  by_cases c1 : W < 0
  · have HE := Lib.hid (BAD.out (.inl c1))
    go_enter Tryd.func52, Tryd.ntmps52
    go_wp2_with fail
    go_ret
    exact ⟨ret_int HE.out.symm, (Below.refl _ _).alloc (Nat.le_refl _) _⟩
  by_cases c3 : H < 0
  · have HE := Lib.hid (BAD.out (.inr (.inr (.inl c3))))
    go_enter Tryd.func52, Tryd.ntmps52
    go_wp2_with fail
    go_ret
    exact ⟨ret_int HE.out.symm, (Below.refl _ _).alloc (Nat.le_refl _) _⟩
  by_cases c2 : 256 < W
  · have HE := Lib.hid (BAD.out (.inr (.inl c2)))
    go_enter Tryd.func52, Tryd.ntmps52
    go_wp2_with fail
    go_ret
    exact ⟨ret_int HE.out.symm, (Below.refl _ _).alloc (Nat.le_refl _) _⟩
  by_cases c4 : 256 < H
  · have HE := Lib.hid (BAD.out (.inr (.inr (.inr (.inl c4)))))
    go_enter Tryd.func52, Tryd.ntmps52
    go_wp2_with fail
    go_ret
    exact ⟨ret_int HE.out.symm, (Below.refl _ _).alloc (Nat.le_refl _) _⟩
  by_cases c5 : W = 0 ∧ H ≠ 0
  · have HE := Lib.hid (BAD.out (.inr (.inr (.inr (.inr (.inl c5))))))
    obtain ⟨rfl, hh⟩ := c5
    have b2 : (H == 0) = false := by simpa using hh
    go_enter Tryd.func52, Tryd.ntmps52
    go_wp2_with fail
    go_ret
    exact ⟨ret_int HE.out.symm, (Below.refl _ _).alloc (Nat.le_refl _) _⟩
  by_cases c6 : W ≠ 0 ∧ H = 0
  · have HE := Lib.hid (BAD.out (.inr (.inr (.inr (.inr (.inr (.inl c6)))))))
    obtain ⟨hh, rfl⟩ := c6
    have b1 : (W == 0) = false := by simpa using hh
    go_enter Tryd.func52, Tryd.ntmps52
    go_wp2_with fail
    go_ret
    exact ⟨ret_int HE.out.symm, (Below.refl _ _).alloc (Nat.le_refl _) _⟩
  have hwh : W = 0 ↔ H = 0 := by omega
  have har := @area_bd W H (by omega) (by omega) (by omega) (by omega)
  by_cases c7 : (n : Int) = W * H
  · have HQ := Lib.hid (GOOD.out (by omega) (by omega) (by omega) (by omega) hwh c7)
    have C7 := Lib.hid c7
    clear BAD GOOD
    have both : (W = 0 ∧ H = 0) ∨ (W ≠ 0 ∧ H ≠ 0) := by omega
    clear hwh c5 c6
    rcases both with ⟨rfl, rfl⟩ | ⟨z1, z2⟩
    · have hn0 : n = 0 := by omega
      subst hn0
      have e0 := HQ.out.trans FE.out
      subst e0
      go_enter Tryd.func52, Tryd.ntmps52
      go_upto_region 1 with (fail)
      refine name1 (fun W1 k1 hb => ?_)
      have c1' := k1.c3
      go_wp2_with fail
      clear c1'
      go_loopw [3] (fun i wr => i = .int .i64 0 ∧ Blk wr w.heap.size (.cells #[.int .i64 0, .int .i64 0, .slice a 0 cap] 31 (0, 0)) ∧ Below w.heap.size w wr) (fun i _ => 0)
      case atStart => exact ⟨rfl, k1, hb⟩
      case round =>
        clear hb k1
        obtain ⟨rfl, k1, hb⟩ := hrel
        have c1' := k1.c3
        go_wp2_with fail
        go_ret
        exact ⟨rfl, hb⟩
    · have b1 : (W == 0) = false := by simpa using z1
      have b2 : (H == 0) = false := by simpa using z2
      go_enter Tryd.func52, Tryd.ntmps52
      go_upto_region 1 with (fail)
      refine name1 (fun W1 k1 hb => ?_)
      have c1' := k1.c3
      go_wp2_with fail
      clear c1'
      go_loopw [3] (fun i wr => ∃ k : Nat, k ≤ n ∧ i = .int .i64 k ∧ Hid (R = ferr (pbad ps) (n - k) k) ∧ Blk wr w.heap.size (.cells #[.int .i64 W, .int .i64 H, .slice a n cap] 31 (0, 0)) ∧ Below w.heap.size w wr) (fun i _ => n - (intOf i).toNat)
      case atStart => exact ⟨0, Nat.zero_le _, rfl, HQ, k1, hb⟩
      case round =>
        clear hb HQ k1
        obtain ⟨k, hk, rfl, HR, k1, hb⟩ := hrel
        have c1' := k1.c3
        by_cases hlt : k < n
        · obtain ⟨b, off, rfl, hbl, hcell⟩ := HP.out.at k hlt
          have hc := hcell wr hb
          clear hcell
          have V1 := Lib.hid (fun w => refValidx (pxAt ps k) w)
          have FB1 := Lib.hid (FB.out k)
          generalize pxAt ps k = p at *
          obtain ⟨p0, p1, p2, p3⟩ := p
          simp only at hc
          replace V1 : Hid (∀ w, Calls Tryd.prog 22 #[pv p0 p1 p2 p3] w fun e w' => e = .returned (.bool (pOk (p0, p1, p2, p3))) ∧ Below w.heap.size w w') := V1
          by_cases hok : pOk (p0, p1, p2, p3) = true
          · have FB2 : Hid (pbad ps k = 0) := by show _ = _; rw [FB1.out, if_pos hok]
            rw [hok] at V1
            clear hok
            go_wp2_with fail
            refine (V1.out _).mono ?_
            rintro e W3 ⟨rfl, hS⟩
            replace hb := hb.trans (hS.mono hb.size)
            replace k1 := k1.kept hS
            clear hS
            go_wp2_with fail
            go_roundw
            case rel => exact ⟨k + 1, by omega, by go_num, by show _ = _; rw [HR.out, FG.out k hlt FB2.out], k1, hb⟩
            case measure => simp [intOf]; omega
          · have FB2 : Hid (pbad ps k = 2) := by show _ = _; rw [FB1.out, if_neg hok]
            rw [show pOk (p0, p1, p2, p3) = false by simpa using hok] at V1
            clear hok
            go_wp2_with fail
            refine (V1.out _).mono ?_
            rintro e W3 ⟨rfl, hS⟩
            replace hb := hb.trans (hS.mono hb.size)
            clear hS
            go_wp2_with fail
            go_ret
            exact ⟨ret_int (by rw [HR.out, FA.out k hlt (by rw [FB2.out]; decide), FB2.out]), hb⟩
        · obtain rfl : k = n := by omega
          go_wp2_with fail
          go_ret
          exact ⟨ret_int (by rw [HR.out, FE.out]), hb⟩
  · have HE := Lib.hid (BAD.out (.inr (.inr (.inr (.inr (.inr (.inr c7)))))))
    have both : (W = 0 ∧ H = 0) ∨ (W ≠ 0 ∧ H ≠ 0) := by omega
    clear hwh c5 c6
    rcases both with ⟨rfl, rfl⟩ | ⟨z1, z2⟩
    · go_enter Tryd.func52, Tryd.ntmps52
      go_wp2_with fail
      go_ret
      exact ⟨ret_int HE.out.symm, (Below.refl _ _).alloc (Nat.le_refl _) _⟩
    · have b1 : (W == 0) = false := by simpa using z1
      have b2 : (H == 0) = false := by simpa using z2
      go_enter Tryd.func52, Tryd.ntmps52
      go_wp2_with fail
      go_ret
      exact ⟨ret_int HE.out.symm, (Below.refl _ _).alloc (Nat.le_refl _) _⟩

end Go.Proofs.YtfgkgibomgcmpaaDoor
