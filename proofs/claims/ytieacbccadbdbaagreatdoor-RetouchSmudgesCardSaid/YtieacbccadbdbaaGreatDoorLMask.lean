/- Several texts in one: Img, MaskP, ImgC, MaskC, MaskCR, Same28. -/
import Derived.Test.YtieacbccadbdbaaGreatDoorLRow
import Derived.Test.YtieacbccadbdbaaGreatDoorLKit
import Derived.Deep.Cut
import Derived.Test.YtieacbccadbdbaaGreatDoorDabChk

/- The error of an image, by the program and by the reference (printed by genimg.py). -/
namespace Go.Proofs.YtieacbccadbdbaaGreatDoor
open Go.RowKit
set_option linter.unusedVariables false
attribute [local go_sem] Oper.gAt gUponK Oper.sAt stilK

theorem validx (p : Px) (w : World) : Calls Tryz.prog 87 #[pvx p] w fun e w' => e = .returned (.bool (pOk p)) ∧ Below w.heap.size w w' := valid_any _ _ _ _ w

theorem refValidx (p : Px) (w : World) : Calls Tryz.prog 93 #[pvx p] w fun e w' => e = .returned (.bool (pOk p)) ∧ Below w.heap.size w w' := refValid_any _ _ _ _ w



end Go.Proofs.YtieacbccadbdbaaGreatDoor


/- The error of a mask, plainly. -/
namespace Go.Proofs.YtieacbccadbdbaaGreatDoor
set_option linter.unusedVariables false

def mbad (zs : List Int) (i : Nat) : Int := if 0 ≤ zs.getD i 0 ∧ zs.getD i 0 ≤ 65535 then 0 else 2
/-- The error of a mask. -/
def mchk (W H : Int) (zs : List Int) : Int :=
  if W < 0 ∨ 256 < W ∨ H < 0 ∨ 256 < H ∨ (W = 0 ∧ H ≠ 0) ∨ (W ≠ 0 ∧ H = 0) ∨ (zs.length : Int) ≠ W * H then 15 else ferr (mbad zs) (zs.length - 0) 0
theorem mchk_bad {W H : Int} {zs : List Int} (h : W < 0 ∨ 256 < W ∨ H < 0 ∨ 256 < H ∨ (W = 0 ∧ H ≠ 0) ∨ (W ≠ 0 ∧ H = 0) ∨ (zs.length : Int) ≠ W * H) : mchk W H zs = 15 := if_pos h
theorem mchk_good {W H : Int} {zs : List Int} (h1 : 0 ≤ W) (h2 : W ≤ 256) (h3 : 0 ≤ H) (h4 : H ≤ 256) (h5 : W = 0 ↔ H = 0) (h6 : (zs.length : Int) = W * H) : mchk W H zs = ferr (mbad zs) (zs.length - 0) 0 :=
  if_neg (by omega)
theorem mchk_len {W H : Int} {zs : List Int} (h : mchk W H zs = 0) : zs.length ≤ 65536 ∧ 0 ≤ W ∧ W ≤ 256 ∧ 0 ≤ H ∧ H ≤ 256 ∧ (W = 0 ↔ H = 0) ∧ (zs.length : Int) = W * H := by
  unfold mchk at h
  split at h
  · cases h
  · rename_i hn
    have := @area_bd W H (by omega) (by omega) (by omega) (by omega)
    omega
theorem mchk_vals {W H : Int} {zs : List Int} (h : mchk W H zs = 0) : ∀ i, i < zs.length → 0 ≤ zs.getD i 0 ∧ zs.getD i 0 ≤ 65535 := by
  unfold mchk at h
  split at h
  · cases h
  · intro i hi
    have := ferr_zero _ _ _ h i (by omega) (by omega)
    unfold mbad at this
    split at this
    · assumption
    · cases this
end Go.Proofs.YtieacbccadbdbaaGreatDoor


/- The error of an image, by package raster and by its reference (printed by genimg2.py). -/
namespace Go.Proofs.YtieacbccadbdbaaGreatDoor
open Go.RowKit
set_option linter.unusedVariables false
attribute [local go_sem] Oper.gAt gUponK Oper.sAt stilK

def szOk (W H : Int) : Bool := decide (0 ≤ W ∧ W ≤ 256 ∧ 0 ≤ H ∧ H ≤ 256 ∧ (W = 0 ↔ H = 0))

set_option maxHeartbeats 2000000 in
theorem sized_any (W H : Int) (w : World) :
    Calls Tryz.prog 86 #[.int .i64 W, .int .i64 H] w fun e w' => e = .returned (.bool (szOk W H)) ∧ w = w' := by
  have c : (¬ 0 ≤ W) ∨ (0 ≤ W ∧ ¬ W ≤ 256) ∨ (0 ≤ W ∧ W ≤ 256 ∧ ¬ 0 ≤ H) ∨ (0 ≤ W ∧ W ≤ 256 ∧ 0 ≤ H ∧ ¬ H ≤ 256) ∨ (0 ≤ W ∧ W ≤ 256 ∧ 0 ≤ H ∧ H ≤ 256) := by omega
  rcases c with c1 | ⟨c1, c2⟩ | ⟨c1, c2, c3⟩ | ⟨c1, c2, c3, c4⟩ | ⟨c1, c2, c3, c4⟩
  · have HE : Hid (szOk W H = false) := decide_eq_false (by omega)
    go_enter Tryz.func86, Tryz.ntmps86
    go_wp2
    go_ret
    exact ⟨ret_bool (by rw [HE.out]), rfl⟩
  · have HE : Hid (szOk W H = false) := decide_eq_false (by omega)
    go_enter Tryz.func86, Tryz.ntmps86
    go_wp2
    go_ret
    exact ⟨ret_bool (by rw [HE.out]), rfl⟩
  · have HE : Hid (szOk W H = false) := decide_eq_false (by omega)
    go_enter Tryz.func86, Tryz.ntmps86
    go_wp2
    go_ret
    exact ⟨ret_bool (by rw [HE.out]), rfl⟩
  · have HE : Hid (szOk W H = false) := decide_eq_false (by omega)
    go_enter Tryz.func86, Tryz.ntmps86
    go_wp2
    go_ret
    exact ⟨ret_bool (by rw [HE.out]), rfl⟩
  · by_cases z1 : W = 0
    · by_cases z2 : H = 0
      · have HE : Hid (szOk W H = true) := decide_eq_true (by omega)
        subst z1 z2
        go_enter Tryz.func86, Tryz.ntmps86
        go_wp2
        go_ret
        exact ⟨ret_bool (by rw [HE.out]), rfl⟩
      · have HE : Hid (szOk W H = false) := decide_eq_false (by omega)
        have b2 : (H == 0) = false := by simpa using z2
        subst z1
        go_enter Tryz.func86, Tryz.ntmps86
        go_wp2
        go_ret
        exact ⟨ret_bool (by rw [HE.out]), rfl⟩
    · have b1 : (W == 0) = false := by simpa using z1
      by_cases z2 : H = 0
      · have HE : Hid (szOk W H = false) := decide_eq_false (by omega)
        subst z2
        go_enter Tryz.func86, Tryz.ntmps86
        go_wp2
        go_ret
        exact ⟨ret_bool (by rw [HE.out]), rfl⟩
      · have HE : Hid (szOk W H = true) := decide_eq_true (by omega)
        have b2 : (H == 0) = false := by simpa using z2
        go_enter Tryz.func86, Tryz.ntmps86
        go_wp2
        go_ret
        exact ⟨ret_bool (by rw [HE.out]), rfl⟩

set_option maxHeartbeats 4000000 in
theorem rasterCheck_any (W H : Int) (v : Value) (ps : List Px) (w : World) (h : Pn w v ps) :
    Calls Tryz.prog 39 #[.agg #[.int .i64 W, .int .i64 H, v]] w fun e w' => e = .returned (.int .i64 (ichk W H ps)) ∧ Below w.heap.size w w' := by
  obtain ⟨a, cap, rfl⟩ := h.slice
  have HP := Lib.hid h
  have hlen := h.len.2
  clear h
  have BAD := Lib.hid (@ichk_bad W H ps)
  have GOOD := Lib.hid (@ichk_good W H ps)
  have FA := Lib.hid (ferr_at (pbad ps) ps.length)
  have FG := Lib.hid (ferr_go (pbad ps) ps.length)
  have FE := Lib.hid (ferr_end (pbad ps) ps.length)
  have FB : Hid (∀ i, pbad ps i = if pOk (pxAt ps i) = true then 0 else 2) := fun i => rfl
  have SZ := Lib.hid (fun w => sized_any W H w)
  generalize ps.length = n at *
  generalize ichk W H ps = R at *
  cases hsz : szOk W H with
  | false =>
    have hf := of_decide_eq_false hsz
    have HE := Lib.hid (BAD.out (by omega))
    rw [hsz] at SZ
    clear hf hsz BAD GOOD
    go_enter Tryz.func39, Tryz.ntmps39
    go_upto_region 1 with (fail)
    refine name1 (fun W1 k1 hb => ?_)
    have c1 := k1.c3
    go_wp2_with fail
    refine (SZ.out _).mono ?_
    rintro e w' ⟨rfl, rfl⟩
    go_wp2_with fail
    go_ret
    exact ⟨ret_int HE.out.symm, hb⟩
  | true =>
    have ht : 0 ≤ W ∧ W ≤ 256 ∧ 0 ≤ H ∧ H ≤ 256 ∧ (W = 0 ↔ H = 0) := of_decide_eq_true hsz
    obtain ⟨h1, h2, h3, h4, h5⟩ := ht
    have har := @area_bd W H h1 h2 h3 h4
    rw [hsz] at SZ
    clear hsz
    by_cases c7 : (n : Int) = W * H
    · have HQ := Lib.hid (GOOD.out h1 h2 h3 h4 h5 c7)
      have C7 := Lib.hid c7
      have c8 : IntKind.i64.wrap (W * H) = (n : Int) := by rw [← c7]; exact IntWalk.i64_in _ (by omega)
      clear BAD GOOD c7 h5
      go_enter Tryz.func39, Tryz.ntmps39
      go_upto_region 1 with (fail)
      refine name1 (fun W1 k1 hb => ?_)
      have c1 := k1.c3
      go_wp2_with fail
      refine (SZ.out _).mono ?_
      rintro e w' ⟨rfl, rfl⟩
      go_wp2_with fail
      clear c1 k1 c8
      go_loopw [25] (fun i wr => ∃ k : Nat, k ≤ n ∧ i = .int .i64 k ∧ Hid (R = ferr (pbad ps) (n - k) k) ∧ Below w.heap.size w wr) (fun i _ => n - (intOf i).toNat)
      case atStart => exact ⟨0, Nat.zero_le _, rfl, HQ, hb⟩
      case round =>
        clear hb HQ
        obtain ⟨k, hk, rfl, HR, hb⟩ := hrel
        by_cases hlt : k < n
        · obtain ⟨b, off, rfl, hbl, hcell⟩ := HP.out.at k hlt
          have hc := hcell wr hb
          clear hcell
          have V1 := Lib.hid (fun w => validx (pxAt ps k) w)
          have FB1 := Lib.hid (FB.out k)
          generalize pxAt ps k = p at *
          obtain ⟨p0, p1, p2, p3⟩ := p
          simp only at hc
          replace V1 : Hid (∀ w, Calls Tryz.prog 87 #[pv p0 p1 p2 p3] w fun e w' => e = .returned (.bool (pOk (p0, p1, p2, p3))) ∧ Below w.heap.size w w') := V1
          by_cases hok : pOk (p0, p1, p2, p3) = true
          · have FB2 : Hid (pbad ps k = 0) := by show _ = _; rw [FB1.out, if_pos hok]
            rw [hok] at V1
            clear hok
            go_wp2_with fail
            refine callName1 (fun W2 k2 hS => ?_)
            replace hb := hb.trans (hS.mono hb.size)
            clear hS
            refine (V1.out _).mono ?_
            rintro e W3 ⟨rfl, hS⟩
            replace hb := hb.trans (hS.mono hb.size)
            clear hS
            go_wp2_with fail
            go_roundw
            case rel => exact ⟨k + 1, by omega, by go_num, by show _ = _; rw [HR.out, FG.out k hlt FB2.out], hb⟩
            case measure => simp [intOf]; omega
          · have FB2 : Hid (pbad ps k = 2) := by show _ = _; rw [FB1.out, if_neg hok]
            rw [show pOk (p0, p1, p2, p3) = false by simpa using hok] at V1
            clear hok
            go_wp2_with fail
            refine callName1 (fun W2 k2 hS => ?_)
            replace hb := hb.trans (hS.mono hb.size)
            clear hS
            refine (V1.out _).mono ?_
            rintro e W3 ⟨rfl, hS⟩
            replace hb := hb.trans (hS.mono hb.size)
            clear hS
            go_wp2_with fail
            go_ret
            exact ⟨ret_int (by rw [HR.out, FA.out k hlt (by rw [FB2.out]; decide), FB2.out]), hb⟩
        · obtain rfl : k = n := by omega
          go_wp2_with fail
          go_ret
          exact ⟨ret_int (by rw [HR.out, FE.out]), hb⟩
    · have HE := Lib.hid (BAD.out (.inr (.inr (.inr (.inr (.inr (.inr c7)))))))
      have c9 : IntKind.i64.wrap (W * H) = W * H := IntWalk.i64_in _ (by omega)
      have c10 : ((n : Int) != W * H) = true := by simpa using c7
      clear BAD GOOD h5
      go_enter Tryz.func39, Tryz.ntmps39
      go_upto_region 1 with (fail)
      refine name1 (fun W1 k1 hb => ?_)
      have c1 := k1.c3
      go_wp2_with fail
      refine (SZ.out _).mono ?_
      rintro e w' ⟨rfl, rfl⟩
      go_wp2_with fail
      go_ret
      exact ⟨ret_int HE.out.symm, hb⟩

set_option maxHeartbeats 4000000 in
theorem refRasterCheck_any (W H : Int) (v : Value) (ps : List Px) (w : World) (h : Pn w v ps) :
    Calls Tryz.prog 49 #[.agg #[.int .i64 W, .int .i64 H, v]] w fun e w' => e = .returned (.int .i64 (ichk W H ps)) ∧ Below w.heap.size w w' := by
  obtain ⟨a, cap, rfl⟩ := h.slice
  have HP := Lib.hid h
  have hlen := h.len.2
  clear h
  have BAD := Lib.hid (@ichk_bad W H ps)
  have GOOD := Lib.hid (@ichk_good W H ps)
  have FA := Lib.hid (ferr_at (pbad ps) ps.length)
  have FG := Lib.hid (ferr_go (pbad ps) ps.length)
  have FE := Lib.hid (ferr_end (pbad ps) ps.length)
  have FB : Hid (∀ i, pbad ps i = if pOk (pxAt ps i) = true then 0 else 2) := fun i => rfl
  generalize ps.length = n at *
  generalize ichk W H ps = R at *
  by_cases c1 : W < 0
  · have HE := Lib.hid (BAD.out (.inl c1))
    go_enter Tryz.func49, Tryz.ntmps49
    go_wp2_with fail
    go_ret
    exact ⟨ret_int HE.out.symm, (Below.refl _ _).alloc (Nat.le_refl _) _⟩
  by_cases c2 : 256 < W
  · have HE := Lib.hid (BAD.out (.inr (.inl c2)))
    go_enter Tryz.func49, Tryz.ntmps49
    go_wp2_with fail
    go_ret
    exact ⟨ret_int HE.out.symm, (Below.refl _ _).alloc (Nat.le_refl _) _⟩
  by_cases c3 : H < 0
  · have HE := Lib.hid (BAD.out (.inr (.inr (.inl c3))))
    go_enter Tryz.func49, Tryz.ntmps49
    go_wp2_with fail
    go_ret
    exact ⟨ret_int HE.out.symm, (Below.refl _ _).alloc (Nat.le_refl _) _⟩
  by_cases c4 : 256 < H
  · have HE := Lib.hid (BAD.out (.inr (.inr (.inr (.inl c4)))))
    go_enter Tryz.func49, Tryz.ntmps49
    go_wp2_with fail
    go_ret
    exact ⟨ret_int HE.out.symm, (Below.refl _ _).alloc (Nat.le_refl _) _⟩
  by_cases c5 : W = 0 ∧ H ≠ 0
  · have HE := Lib.hid (BAD.out (.inr (.inr (.inr (.inr (.inl c5))))))
    obtain ⟨rfl, hh⟩ := c5
    have b2 : (H == 0) = false := by simpa using hh
    go_enter Tryz.func49, Tryz.ntmps49
    go_wp2_with fail
    go_ret
    exact ⟨ret_int HE.out.symm, (Below.refl _ _).alloc (Nat.le_refl _) _⟩
  by_cases c6 : W ≠ 0 ∧ H = 0
  · have HE := Lib.hid (BAD.out (.inr (.inr (.inr (.inr (.inr (.inl c6)))))))
    obtain ⟨hh, rfl⟩ := c6
    have b1 : (W == 0) = false := by simpa using hh
    go_enter Tryz.func49, Tryz.ntmps49
    go_wp2_with fail
    go_ret
    exact ⟨ret_int HE.out.symm, (Below.refl _ _).alloc (Nat.le_refl _) _⟩
  have hwh : W = 0 ↔ H = 0 := by omega
  have har := @area_bd W H (by omega) (by omega) (by omega) (by omega)
  by_cases c7 : (n : Int) = W * H
  · have HQ := Lib.hid (GOOD.out (by omega) (by omega) (by omega) (by omega) hwh c7)
    have C7 := Lib.hid c7
    clear BAD GOOD
    have both : (W = 0 ∧ H = 0) ∨ (W ≠ 0 ∧ H ≠ 0) := by omega
    clear hwh c5 c6
    rcases both with ⟨rfl, rfl⟩ | ⟨z1, z2⟩
    · have hn0 : n = 0 := by omega
      subst hn0
      have e0 := HQ.out.trans FE.out
      subst e0
      go_enter Tryz.func49, Tryz.ntmps49
      go_upto_region 1 with (fail)
      refine name1 (fun W1 k1 hb => ?_)
      have c1' := k1.c3
      go_wp2_with fail
      clear c1'
      go_loopw [3] (fun i wr => i = .int .i64 0 ∧ Blk wr w.heap.size (.cells #[.int .i64 0, .int .i64 0, .slice a 0 cap] 24 (0, 0)) ∧ Below w.heap.size w wr) (fun i _ => 0)
      case atStart => exact ⟨rfl, k1, hb⟩
      case round =>
        clear hb k1
        obtain ⟨rfl, k1, hb⟩ := hrel
        have c1' := k1.c3
        go_wp2_with fail
        go_ret
        exact ⟨rfl, hb⟩
    · have b1 : (W == 0) = false := by simpa using z1
      have b2 : (H == 0) = false := by simpa using z2
      go_enter Tryz.func49, Tryz.ntmps49
      go_upto_region 1 with (fail)
      refine name1 (fun W1 k1 hb => ?_)
      have c1' := k1.c3
      go_wp2_with fail
      clear c1'
      go_loopw [3] (fun i wr => ∃ k : Nat, k ≤ n ∧ i = .int .i64 k ∧ Hid (R = ferr (pbad ps) (n - k) k) ∧ Blk wr w.heap.size (.cells #[.int .i64 W, .int .i64 H, .slice a n cap] 24 (0, 0)) ∧ Below w.heap.size w wr) (fun i _ => n - (intOf i).toNat)
      case atStart => exact ⟨0, Nat.zero_le _, rfl, HQ, k1, hb⟩
      case round =>
        clear hb HQ k1
        obtain ⟨k, hk, rfl, HR, k1, hb⟩ := hrel
        have c1' := k1.c3
        by_cases hlt : k < n
        · obtain ⟨b, off, rfl, hbl, hcell⟩ := HP.out.at k hlt
          have hc := hcell wr hb
          clear hcell
          have V1 := Lib.hid (fun w => refValidx (pxAt ps k) w)
          have FB1 := Lib.hid (FB.out k)
          generalize pxAt ps k = p at *
          obtain ⟨p0, p1, p2, p3⟩ := p
          simp only at hc
          replace V1 : Hid (∀ w, Calls Tryz.prog 93 #[pv p0 p1 p2 p3] w fun e w' => e = .returned (.bool (pOk (p0, p1, p2, p3))) ∧ Below w.heap.size w w') := V1
          by_cases hok : pOk (p0, p1, p2, p3) = true
          · have FB2 : Hid (pbad ps k = 0) := by show _ = _; rw [FB1.out, if_pos hok]
            rw [hok] at V1
            clear hok
            go_wp2_with fail
            refine (V1.out _).mono ?_
            rintro e W3 ⟨rfl, hS⟩
            replace hb := hb.trans (hS.mono hb.size)
            replace k1 := k1.kept hS
            clear hS
            go_wp2_with fail
            go_roundw
            case rel => exact ⟨k + 1, by omega, by go_num, by show _ = _; rw [HR.out, FG.out k hlt FB2.out], k1, hb⟩
            case measure => simp [intOf]; omega
          · have FB2 : Hid (pbad ps k = 2) := by show _ = _; rw [FB1.out, if_neg hok]
            rw [show pOk (p0, p1, p2, p3) = false by simpa using hok] at V1
            clear hok
            go_wp2_with fail
            refine (V1.out _).mono ?_
            rintro e W3 ⟨rfl, hS⟩
            replace hb := hb.trans (hS.mono hb.size)
            clear hS
            go_wp2_with fail
            go_ret
            exact ⟨ret_int (by rw [HR.out, FA.out k hlt (by rw [FB2.out]; decide), FB2.out]), hb⟩
        · obtain rfl : k = n := by omega
          go_wp2_with fail
          go_ret
          exact ⟨ret_int (by rw [HR.out, FE.out]), hb⟩
  · have HE := Lib.hid (BAD.out (.inr (.inr (.inr (.inr (.inr (.inr c7)))))))
    have both : (W = 0 ∧ H = 0) ∨ (W ≠ 0 ∧ H ≠ 0) := by omega
    clear hwh c5 c6
    rcases both with ⟨rfl, rfl⟩ | ⟨z1, z2⟩
    · go_enter Tryz.func49, Tryz.ntmps49
      go_wp2_with fail
      go_ret
      exact ⟨ret_int HE.out.symm, (Below.refl _ _).alloc (Nat.le_refl _) _⟩
    · have b1 : (W == 0) = false := by simpa using z1
      have b2 : (H == 0) = false := by simpa using z2
      go_enter Tryz.func49, Tryz.ntmps49
      go_wp2_with fail
      go_ret
      exact ⟨ret_int HE.out.symm, (Below.refl _ _).alloc (Nat.le_refl _) _⟩

end Go.Proofs.YtieacbccadbdbaaGreatDoor


/- The error of a mask, by the program and by the reference (printed by genmask.py). -/
namespace Go.Proofs.YtieacbccadbdbaaGreatDoor
open Go.RowKit
set_option linter.unusedVariables false
attribute [local go_sem] Oper.gAt gUponK Oper.sAt stilK

theorem nnAtB {w : World} {a : Option Addr} {n cap : Nat} {zs : List Int} (h : Nn w (.slice a n cap) zs) (i : Nat) (hi : i < n) : ∃ b off, a = some ⟨b, off, none⟩ ∧ ∀ w' : World, Below w.heap.size w w' → w'.cell? ⟨b, off + i, none⟩ = some (.int .i64 (zs.getD i 0)) := by
  obtain ⟨b, off, ha, hc⟩ := h.at i hi
  refine ⟨b, off, ha, fun w' hb => ?_⟩
  rw [hb.cell (p := ⟨b, off + i, none⟩) (lt_of_cell hc)]
  exact hc

set_option maxHeartbeats 400000 in
theorem maskUnit_any (x : Int) (w : World) :
    Calls Tryz.prog 88 #[.int .i64 x] w fun e w' => e = .returned (.bool (inB x 0 65535)) ∧ w = w' := by
  have c : (¬ 0 ≤ x) ∨ (0 ≤ x ∧ ¬ x ≤ 65535) ∨ (0 ≤ x ∧ x ≤ 65535) := by omega
  rcases c with c1 | ⟨c1, c2⟩ | ⟨c1, c2⟩
  · have HE : Hid (inB x 0 65535 = false) := decide_eq_false (by omega)
    go_enter Tryz.func88, Tryz.ntmps88
    go_wp2
    go_ret
    exact ⟨ret_bool (by rw [HE.out]), rfl⟩
  · have HE : Hid (inB x 0 65535 = false) := decide_eq_false (by omega)
    go_enter Tryz.func88, Tryz.ntmps88
    go_wp2
    go_ret
    exact ⟨ret_bool (by rw [HE.out]), rfl⟩
  · have HE : Hid (inB x 0 65535 = true) := decide_eq_true (by omega)
    go_enter Tryz.func88, Tryz.ntmps88
    go_wp2
    go_ret
    exact ⟨ret_bool (by rw [HE.out]), rfl⟩

set_option maxHeartbeats 4000000 in
theorem maskCheck_any (W H : Int) (v : Value) (zs : List Int) (w : World) (h : Nn w v zs) :
    Calls Tryz.prog 40 #[.agg #[.int .i64 W, .int .i64 H, v]] w fun e w' => e = .returned (.int .i64 (mchk W H zs)) ∧ Below w.heap.size w w' := by
  obtain ⟨a, cap, rfl, hlen⟩ := h.slice
  have HP := Lib.hid h
  clear h
  have BAD := Lib.hid (@mchk_bad W H zs)
  have GOOD := Lib.hid (@mchk_good W H zs)
  have FA := Lib.hid (ferr_at (mbad zs) zs.length)
  have FG := Lib.hid (ferr_go (mbad zs) zs.length)
  have FE := Lib.hid (ferr_end (mbad zs) zs.length)
  have FB : Hid (∀ i, mbad zs i = if 0 ≤ zs.getD i 0 ∧ zs.getD i 0 ≤ 65535 then 0 else 2) := fun i => rfl
  generalize zs.length = n at *
  generalize mchk W H zs = R at *
  by_cases c1 : W < 0
  · have HE := Lib.hid (BAD.out (.inl c1))
    go_enter Tryz.func40, Tryz.ntmps40
    go_wp2_with fail
    go_ret
    exact ⟨ret_int HE.out.symm, (Below.refl _ _).alloc (Nat.le_refl _) _⟩
  by_cases c2 : 256 < W
  · have HE := Lib.hid (BAD.out (.inr (.inl c2)))
    go_enter Tryz.func40, Tryz.ntmps40
    go_wp2_with fail
    go_ret
    exact ⟨ret_int HE.out.symm, (Below.refl _ _).alloc (Nat.le_refl _) _⟩
  by_cases c3 : H < 0
  · have HE := Lib.hid (BAD.out (.inr (.inr (.inl c3))))
    go_enter Tryz.func40, Tryz.ntmps40
    go_wp2_with fail
    go_ret
    exact ⟨ret_int HE.out.symm, (Below.refl _ _).alloc (Nat.le_refl _) _⟩
  by_cases c4 : 256 < H
  · have HE := Lib.hid (BAD.out (.inr (.inr (.inr (.inl c4)))))
    go_enter Tryz.func40, Tryz.ntmps40
    go_wp2_with fail
    go_ret
    exact ⟨ret_int HE.out.symm, (Below.refl _ _).alloc (Nat.le_refl _) _⟩
  by_cases c5 : W = 0 ∧ H ≠ 0
  · have HE := Lib.hid (BAD.out (.inr (.inr (.inr (.inr (.inl c5))))))
    obtain ⟨rfl, hh⟩ := c5
    have b2 : (H == 0) = false := by simpa using hh
    go_enter Tryz.func40, Tryz.ntmps40
    go_wp2_with fail
    go_ret
    exact ⟨ret_int HE.out.symm, (Below.refl _ _).alloc (Nat.le_refl _) _⟩
  by_cases c6 : W ≠ 0 ∧ H = 0
  · have HE := Lib.hid (BAD.out (.inr (.inr (.inr (.inr (.inr (.inl c6)))))))
    obtain ⟨hh, rfl⟩ := c6
    have b1 : (W == 0) = false := by simpa using hh
    go_enter Tryz.func40, Tryz.ntmps40
    go_wp2_with fail
    go_ret
    exact ⟨ret_int HE.out.symm, (Below.refl _ _).alloc (Nat.le_refl _) _⟩
  have hwh : W = 0 ↔ H = 0 := by omega
  have har := @area_bd W H (by omega) (by omega) (by omega) (by omega)
  by_cases c7 : (n : Int) = W * H
  · have HQ := Lib.hid (GOOD.out (by omega) (by omega) (by omega) (by omega) hwh c7)
    have C7 := Lib.hid c7
    clear BAD GOOD
    have both : (W = 0 ∧ H = 0) ∨ (W ≠ 0 ∧ H ≠ 0) := by omega
    clear hwh c5 c6
    rcases both with ⟨rfl, rfl⟩ | ⟨z1, z2⟩
    · have hn0 : n = 0 := by omega
      subst hn0
      have e0 := HQ.out.trans FE.out
      subst e0
      go_enter Tryz.func40, Tryz.ntmps40
      go_upto_region 1 with (fail)
      refine name1 (fun W1 k1 hb => ?_)
      have c1' := k1.c3
      go_wp2_with fail
      go_loopw [44] (fun i wr => i = .int .i64 0 ∧ Below w.heap.size w wr) (fun i _ => 0)
      case atStart => exact ⟨rfl, hb⟩
      case round =>
        obtain ⟨rfl, hb⟩ := hrel
        go_wp2_with fail
        go_ret
        exact ⟨rfl, hb⟩
    · have b1 : (W == 0) = false := by simpa using z1
      have b2 : (H == 0) = false := by simpa using z2
      go_enter Tryz.func40, Tryz.ntmps40
      go_upto_region 1 with (fail)
      refine name1 (fun W1 k1 hb => ?_)
      have c1' := k1.c3
      go_wp2_with fail
      clear c1' k1
      go_loopw [44] (fun i wr => ∃ k : Nat, k ≤ n ∧ i = .int .i64 k ∧ Hid (R = ferr (mbad zs) (n - k) k) ∧ Below w.heap.size w wr) (fun i _ => n - (intOf i).toNat)
      case atStart => exact ⟨0, Nat.zero_le _, rfl, HQ, hb⟩
      case round =>
        clear hb HQ
        obtain ⟨k, hk, rfl, HR, hb⟩ := hrel
        by_cases hlt : k < n
        · obtain ⟨b, off, rfl, hc0⟩ := nnAtB HP.out k hlt
          have hc := hc0 wr hb
          clear hc0
          have V1 := Lib.hid (fun w => maskUnit_any (zs.getD k 0) w)
          have FB1 := Lib.hid (FB.out k)
          generalize zs.getD k 0 = z at *
          by_cases hok : 0 ≤ z ∧ z ≤ 65535
          · have FB2 : Hid (mbad zs k = 0) := by show _ = _; rw [FB1.out, if_pos hok]
            rw [show inB z 0 65535 = true from decide_eq_true hok] at V1
            clear hok
            go_wp2_with fail
            refine (V1.out _).mono ?_
            rintro e w' ⟨rfl, rfl⟩
            go_wp2_with fail
            go_roundw
            case rel => exact ⟨k + 1, by omega, by go_num, by show _ = _; rw [HR.out, FG.out k hlt FB2.out], hb⟩
            case measure => simp [intOf]; omega
          · have FB2 : Hid (mbad zs k = 2) := by show _ = _; rw [FB1.out, if_neg hok]
            rw [show inB z 0 65535 = false from decide_eq_false hok] at V1
            clear hok
            go_wp2_with fail
            refine (V1.out _).mono ?_
            rintro e w' ⟨rfl, rfl⟩
            go_wp2_with fail
            go_ret
            exact ⟨ret_int (by rw [HR.out, FA.out k hlt (by rw [FB2.out]; decide), FB2.out]), hb⟩
        · obtain rfl : k = n := by omega
          go_wp2_with fail
          go_ret
          exact ⟨ret_int (by rw [HR.out, FE.out]), hb⟩
  · have HE := Lib.hid (BAD.out (.inr (.inr (.inr (.inr (.inr (.inr c7)))))))
    have both : (W = 0 ∧ H = 0) ∨ (W ≠ 0 ∧ H ≠ 0) := by omega
    clear hwh c5 c6
    rcases both with ⟨rfl, rfl⟩ | ⟨z1, z2⟩
    · go_enter Tryz.func40, Tryz.ntmps40
      go_wp2_with fail
      go_ret
      exact ⟨ret_int HE.out.symm, (Below.refl _ _).alloc (Nat.le_refl _) _⟩
    · have b1 : (W == 0) = false := by simpa using z1
      have b2 : (H == 0) = false := by simpa using z2
      go_enter Tryz.func40, Tryz.ntmps40
      go_wp2_with fail
      go_ret
      exact ⟨ret_int HE.out.symm, (Below.refl _ _).alloc (Nat.le_refl _) _⟩

end Go.Proofs.YtieacbccadbdbaaGreatDoor


/- The error of a mask, by the reference (printed by genmask.py). -/
namespace Go.Proofs.YtieacbccadbdbaaGreatDoor
open Go.RowKit
set_option linter.unusedVariables false
attribute [local go_sem] Oper.gAt gUponK Oper.sAt stilK

theorem nnAtC {w : World} {a : Option Addr} {n cap : Nat} {zs : List Int} (h : Nn w (.slice a n cap) zs) (i : Nat) (hi : i < n) : ∃ b off, a = some ⟨b, off, none⟩ ∧ ∀ w' : World, Below w.heap.size w w' → w'.cell? ⟨b, off + i, none⟩ = some (.int .i64 (zs.getD i 0)) := by
  obtain ⟨b, off, ha, hc⟩ := h.at i hi
  refine ⟨b, off, ha, fun w' hb => ?_⟩
  rw [hb.cell (p := ⟨b, off + i, none⟩) (lt_of_cell hc)]
  exact hc

set_option maxHeartbeats 4000000 in
theorem refMaskCheck_any (W H : Int) (v : Value) (zs : List Int) (w : World) (h : Nn w v zs) :
    Calls Tryz.prog 50 #[.agg #[.int .i64 W, .int .i64 H, v]] w fun e w' => e = .returned (.int .i64 (mchk W H zs)) ∧ Below w.heap.size w w' := by
  obtain ⟨a, cap, rfl, hlen⟩ := h.slice
  have HP := Lib.hid h
  clear h
  have BAD := Lib.hid (@mchk_bad W H zs)
  have GOOD := Lib.hid (@mchk_good W H zs)
  have FA := Lib.hid (ferr_at (mbad zs) zs.length)
  have FG := Lib.hid (ferr_go (mbad zs) zs.length)
  have FE := Lib.hid (ferr_end (mbad zs) zs.length)
  have FB : Hid (∀ i, mbad zs i = if 0 ≤ zs.getD i 0 ∧ zs.getD i 0 ≤ 65535 then 0 else 2) := fun i => rfl
  generalize zs.length = n at *
  generalize mchk W H zs = R at *
  by_cases c1 : W < 0
  · have HE := Lib.hid (BAD.out (.inl c1))
    go_enter Tryz.func50, Tryz.ntmps50
    go_wp2_with fail
    go_ret
    exact ⟨ret_int HE.out.symm, (Below.refl _ _).alloc (Nat.le_refl _) _⟩
  by_cases c2 : 256 < W
  · have HE := Lib.hid (BAD.out (.inr (.inl c2)))
    go_enter Tryz.func50, Tryz.ntmps50
    go_wp2_with fail
    go_ret
    exact ⟨ret_int HE.out.symm, (Below.refl _ _).alloc (Nat.le_refl _) _⟩
  by_cases c3 : H < 0
  · have HE := Lib.hid (BAD.out (.inr (.inr (.inl c3))))
    go_enter Tryz.func50, Tryz.ntmps50
    go_wp2_with fail
    go_ret
    exact ⟨ret_int HE.out.symm, (Below.refl _ _).alloc (Nat.le_refl _) _⟩
  by_cases c4 : 256 < H
  · have HE := Lib.hid (BAD.out (.inr (.inr (.inr (.inl c4)))))
    go_enter Tryz.func50, Tryz.ntmps50
    go_wp2_with fail
    go_ret
    exact ⟨ret_int HE.out.symm, (Below.refl _ _).alloc (Nat.le_refl _) _⟩
  by_cases c5 : W = 0 ∧ H ≠ 0
  · have HE := Lib.hid (BAD.out (.inr (.inr (.inr (.inr (.inl c5))))))
    obtain ⟨rfl, hh⟩ := c5
    have b2 : (H == 0) = false := by simpa using hh
    go_enter Tryz.func50, Tryz.ntmps50
    go_wp2_with fail
    go_ret
    exact ⟨ret_int HE.out.symm, (Below.refl _ _).alloc (Nat.le_refl _) _⟩
  by_cases c6 : W ≠ 0 ∧ H = 0
  · have HE := Lib.hid (BAD.out (.inr (.inr (.inr (.inr (.inr (.inl c6)))))))
    obtain ⟨hh, rfl⟩ := c6
    have b1 : (W == 0) = false := by simpa using hh
    go_enter Tryz.func50, Tryz.ntmps50
    go_wp2_with fail
    go_ret
    exact ⟨ret_int HE.out.symm, (Below.refl _ _).alloc (Nat.le_refl _) _⟩
  have hwh : W = 0 ↔ H = 0 := by omega
  have har := @area_bd W H (by omega) (by omega) (by omega) (by omega)
  by_cases c7 : (n : Int) = W * H
  · have HQ := Lib.hid (GOOD.out (by omega) (by omega) (by omega) (by omega) hwh c7)
    have C7 := Lib.hid c7
    clear BAD GOOD
    have both : (W = 0 ∧ H = 0) ∨ (W ≠ 0 ∧ H ≠ 0) := by omega
    clear hwh c5 c6
    rcases both with ⟨rfl, rfl⟩ | ⟨z1, z2⟩
    · have hn0 : n = 0 := by omega
      subst hn0
      have e0 := HQ.out.trans FE.out
      subst e0
      go_enter Tryz.func50, Tryz.ntmps50
      go_upto_region 1 with (fail)
      refine name1 (fun W1 k1 hb => ?_)
      have c1' := k1.c3
      go_wp2_with fail
      clear c1'
      go_loopw [3] (fun i wr => i = .int .i64 0 ∧ Blk wr w.heap.size (.cells #[.int .i64 0, .int .i64 0, .slice a 0 cap] 35 (0, 0)) ∧ Below w.heap.size w wr) (fun i _ => 0)
      case atStart => exact ⟨rfl, k1, hb⟩
      case round =>
        clear hb k1
        obtain ⟨rfl, k1, hb⟩ := hrel
        have c1' := k1.c3
        go_wp2_with fail
        go_ret
        exact ⟨rfl, hb⟩
    · have b1 : (W == 0) = false := by simpa using z1
      have b2 : (H == 0) = false := by simpa using z2
      go_enter Tryz.func50, Tryz.ntmps50
      go_upto_region 1 with (fail)
      refine name1 (fun W1 k1 hb => ?_)
      have c1' := k1.c3
      go_wp2_with fail
      clear c1'
      go_loopw [3] (fun i wr => ∃ k : Nat, k ≤ n ∧ i = .int .i64 k ∧ Hid (R = ferr (mbad zs) (n - k) k) ∧ Blk wr w.heap.size (.cells #[.int .i64 W, .int .i64 H, .slice a n cap] 35 (0, 0)) ∧ Below w.heap.size w wr) (fun i _ => n - (intOf i).toNat)
      case atStart => exact ⟨0, Nat.zero_le _, rfl, HQ, k1, hb⟩
      case round =>
        clear hb HQ k1
        obtain ⟨k, hk, rfl, HR, k1, hb⟩ := hrel
        have c1' := k1.c3
        by_cases hlt : k < n
        · obtain ⟨b, off, rfl, hc0⟩ := nnAtC HP.out k hlt
          have hc := hc0 wr hb
          clear hc0
          have FB1 := Lib.hid (FB.out k)
          generalize zs.getD k 0 = z at *
          have i1 : (0 : Int) ≤ (k : Int) := by omega
          have i2 : (k : Int) < (n : Int) := by omega
          by_cases z1 : z < 0
          · have FB2 : Hid (mbad zs k = 2) := by show _ = _; rw [FB1.out, if_neg (by omega)]
            go_wp2_with fail
            go_ret
            exact ⟨ret_int (by rw [HR.out, FA.out k hlt (by rw [FB2.out]; decide), FB2.out]), hb⟩
          · by_cases z2 : 65535 < z
            · have FB2 : Hid (mbad zs k = 2) := by show _ = _; rw [FB1.out, if_neg (by omega)]
              go_wp2_with fail
              go_ret
              exact ⟨ret_int (by rw [HR.out, FA.out k hlt (by rw [FB2.out]; decide), FB2.out]), hb⟩
            · have FB2 : Hid (mbad zs k = 0) := by show _ = _; rw [FB1.out, if_pos (by omega)]
              go_wp2_with fail
              go_roundw
              case rel => exact ⟨k + 1, by omega, by go_num, by show _ = _; rw [HR.out, FG.out k hlt FB2.out], k1, hb⟩
              case measure => simp [intOf]; omega
        · obtain rfl : k = n := by omega
          go_wp2_with fail
          go_ret
          exact ⟨ret_int (by rw [HR.out, FE.out]), hb⟩
  · have HE := Lib.hid (BAD.out (.inr (.inr (.inr (.inr (.inr (.inr c7)))))))
    have both : (W = 0 ∧ H = 0) ∨ (W ≠ 0 ∧ H ≠ 0) := by omega
    clear hwh c5 c6
    rcases both with ⟨rfl, rfl⟩ | ⟨z1, z2⟩
    · go_enter Tryz.func50, Tryz.ntmps50
      go_wp2_with fail
      go_ret
      exact ⟨ret_int HE.out.symm, (Below.refl _ _).alloc (Nat.le_refl _) _⟩
    · have b1 : (W == 0) = false := by simpa using z1
      have b2 : (H == 0) = false := by simpa using z2
      go_enter Tryz.func50, Tryz.ntmps50
      go_wp2_with fail
      go_ret
      exact ⟨ret_int HE.out.symm, (Below.refl _ _).alloc (Nat.le_refl _) _⟩

end Go.Proofs.YtieacbccadbdbaaGreatDoor


/- Two images with the same pixels are the same. -/
namespace Go.Proofs.YtieacbccadbdbaaGreatDoor
open Go.RowKit
set_option linter.unusedVariables false
attribute [local go_sem] Oper.gAt gUponK Oper.sAt stilK
theorem Blk.c23 {w : World} {b : Nat} {x0 x1 x2 x3 x4 x5 x6 x7 x8 x9 x10 x11 x12 x13 x14 x15 x16 x17 x18 x19 x20 x21 x22 : Value} {t : TypeId} (k : Blk w b (.cells #[x0, x1, x2, x3, x4, x5, x6, x7, x8, x9, x10, x11, x12, x13, x14, x15, x16, x17, x18, x19, x20, x21, x22] t (0, 0))) :
    w.cell? ⟨b, 0, none⟩ = some x0 ∧ w.cell? ⟨b, 1, none⟩ = some x1 ∧ w.cell? ⟨b, 2, none⟩ = some x2 ∧ w.cell? ⟨b, 3, none⟩ = some x3 ∧ w.cell? ⟨b, 4, none⟩ = some x4 ∧ w.cell? ⟨b, 5, none⟩ = some x5 ∧ w.cell? ⟨b, 6, none⟩ = some x6 ∧ w.cell? ⟨b, 7, none⟩ = some x7 ∧ w.cell? ⟨b, 8, none⟩ = some x8 ∧ w.cell? ⟨b, 9, none⟩ = some x9 ∧ w.cell? ⟨b, 10, none⟩ = some x10 ∧ w.cell? ⟨b, 11, none⟩ = some x11 ∧ w.cell? ⟨b, 12, none⟩ = some x12 ∧ w.cell? ⟨b, 13, none⟩ = some x13 ∧ w.cell? ⟨b, 14, none⟩ = some x14 ∧ w.cell? ⟨b, 15, none⟩ = some x15 ∧ w.cell? ⟨b, 16, none⟩ = some x16 ∧ w.cell? ⟨b, 17, none⟩ = some x17 ∧ w.cell? ⟨b, 18, none⟩ = some x18 ∧ w.cell? ⟨b, 19, none⟩ = some x19 ∧ w.cell? ⟨b, 20, none⟩ = some x20 ∧ w.cell? ⟨b, 21, none⟩ = some x21 ∧ w.cell? ⟨b, 22, none⟩ = some x22 ∧ ∀ o, w.frozen? ⟨b, o, none⟩ = false :=
  ⟨cell_blk k rfl, cell_blk k rfl, cell_blk k rfl, cell_blk k rfl, cell_blk k rfl, cell_blk k rfl, cell_blk k rfl, cell_blk k rfl, cell_blk k rfl, cell_blk k rfl, cell_blk k rfl, cell_blk k rfl, cell_blk k rfl, cell_blk k rfl, cell_blk k rfl, cell_blk k rfl, cell_blk k rfl, cell_blk k rfl, cell_blk k rfl, cell_blk k rfl, cell_blk k rfl, cell_blk k rfl, cell_blk k rfl, fun _ => free_blk k⟩
theorem infoImg : (Tryz.prog.info? 24).map (·.size) = some 3 := by kernel_rfl

end Go.Proofs.YtieacbccadbdbaaGreatDoor

