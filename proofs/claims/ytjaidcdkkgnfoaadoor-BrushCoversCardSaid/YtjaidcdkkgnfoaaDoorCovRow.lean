/- What one dab adds to the coverage, plainly: pixel by pixel of its mask. -/
import Derived.Test.YtjaidcdkkgnfoaaDoorCovPlain
import Derived.Test.YtjaidcdkkgnfoaaDoorRectPlain
import Derived.Test.YtjaidcdkkgnfoaaDoorTipPlain
namespace Go.Proofs.YtjaidcdkkgnfoaaDoor
set_option linter.unusedVariables false

theorem dcov_cvr {B : Bru} {d : Dab} {x y : Int} (h0 : bchk B = 0) (hd : dOk d = true) (hx : -1048576 ≤ x ∧ x ≤ 1048576) (hy : -1048576 ≤ y ∧ y ≤ 1048576) : dcov B d x y = cvr B d x y := by
  unfold dcov
  rw [if_pos h0, dOk_lim hd, show cc x = x by unfold cc; omega, show cc y = y by unfold cc; omega]
/-- The coverage of pixel i by the first k dabs. -/
def ckat (B : Bru) (ds : List Dab) (W k i : Nat) : Int := cfold B (ds.take k) ((i % W : Nat) : Int) ((i / W : Nat) : Int) 0
theorem ckat_zero (B : Bru) (ds : List Dab) (W i : Nat) : ckat B ds W 0 i = 0 := rfl
theorem ckat_succ (B : Bru) (ds : List Dab) (W k i : Nat) (hk : k < ds.length) : ckat B ds W (k + 1) i = cst (ckat B ds W k i) (dcov B (dbAt ds k) ((i % W : Nat) : Int) ((i / W : Nat) : Int)) := by
  have e : ds.take (k + 1) = ds.take k ++ [dbAt ds k] := by
    rw [List.take_add_one, List.getElem?_eq_getElem hk]
    unfold dbAt
    rw [List.getD_eq_getElem?_getD, List.getElem?_eq_getElem hk]
    rfl
  unfold ckat
  rw [e, cfold_snoc]
theorem ckat_all (B : Bru) (ds : List Dab) (W i : Nat) : ckat B ds W ds.length i = cpix B ds W i := by
  unfold ckat cpix
  rw [List.take_length]
theorem ckat_bd (B : Bru) (ds : List Dab) (W k i : Nat) : 0 ≤ ckat B ds W k i ∧ ckat B ds W k i ≤ 65535 := by
  have := cfold_bd B ((i % W : Nat) : Int) ((i / W : Nat) : Int) (ds.take k) 0 (by omega)
  unfold ckat
  omega
/-- Outside of the part of the box that lies in the image nothing is covered. -/
theorem cov_out (B : Bru) (d : Dab) (W H i : Nat) (hW : W ≤ 256) (hH : H ≤ 256) (hi : i < W * H)
    (hn : ¬ hasR (rmeet (dbox d) (0, 0, (W : Int), (H : Int))).1 (rmeet (dbox d) (0, 0, (W : Int), (H : Int))).2.1 (rmeet (dbox d) (0, 0, (W : Int), (H : Int))).2.2.1 (rmeet (dbox d) (0, 0, (W : Int), (H : Int))).2.2.2 ((i % W : Nat) : Int) ((i / W : Nat) : Int)) :
    dcov B d ((i % W : Nat) : Int) ((i / W : Nat) : Int) = 0 := by
  by_cases h : dcov B d ((i % W : Nat) : Int) ((i / W : Nat) : Int) = 0
  · exact h
  · exfalso
    have hW0 : 0 < W := Nat.pos_of_ne_zero (fun h => by rw [h, Nat.zero_mul] at hi; omega)
    have l1 : i % W < W := Nat.mod_lt _ hW0
    have l2 : i / W < H := Nat.div_lt_of_lt_mul hi
    have n1 : (0 : Int) ≤ ((i % W : Nat) : Int) := Int.natCast_nonneg _
    have n2 : (0 : Int) ≤ ((i / W : Nat) : Int) := Int.natCast_nonneg _
    obtain ⟨b1, b2, b3⟩ := in_box B d _ _ (by omega) (by omega) h
    exact hn ((rmeet_img (dbox d) W H (by omega) (by omega)).2.2 _ _ (by omega) (by omega) ((rOk_iff _).2 ⟨b1, b2⟩) b3)

theorem cov_round (B : Bru) (ds : List Dab) (W H k : Nat) (hk : k < ds.length) (h0 : bchk B = 0) (hd : dOk (dbAt ds k) = true) (hW : W ≤ 256) (hH : H ≤ 256) :
    ∃ (X Y TW TH : Nat) (zs : List Int) (F : Nat → Nat → Int),
      rmeet (dbox (dbAt ds k)) (0, 0, (W : Int), (H : Int)) = ((X : Int), (Y : Int), (TW : Int), (TH : Int)) ∧
      ((zs = [] ∧ TipBad B (dbAt ds k) X Y TW TH 0) ∨ (rValid X Y TW TH = true ∧ (0 < TW ∧ TW ≤ 256) ∧ (0 < TH ∧ TH ≤ 256) ∧ zs = tipOut B (dbAt ds k) X Y TW TH)) ∧
      zs.length ≤ 65536 ∧ (0 < zs.length → 0 < TW ∧ TW ≤ 256 ∧ X ≤ 256 ∧ Y ≤ 256) ∧ (∀ m, m < zs.length → m / TW ≤ 256) ∧
      (∀ i, F 0 i = ckat B ds W k i) ∧ (∀ i, i < W * H → F zs.length i = ckat B ds W (k + 1) i) ∧
      (∀ m, m < zs.length → nIdx X Y TW W m < W * H ∧ ∀ i, F (m + 1) i = if i = nIdx X Y TW W m then cst (F m i) (zs.getD m 0) else F m i) ∧ (∀ m i, 0 ≤ F m i ∧ F m i ≤ 65535) := by
  obtain ⟨hok, hc, _⟩ := rmeet_img (dbox (dbAt ds k)) W H (by omega) (by omega)
  have hout := fun i hi hn => cov_out B (dbAt ds k) W H i hW hH hi hn
  generalize hr : rmeet (dbox (dbAt ds k)) (0, 0, (W : Int), (H : Int)) = r at *
  obtain ⟨a, b, c, e⟩ := r
  simp only at hc hout
  rcases hc with hc | ⟨hx, hy⟩
  · simp only [r0, Prod.mk.injEq] at hc
    obtain ⟨rfl, rfl, rfl, rfl⟩ := hc
    refine ⟨0, 0, 0, 0, [], fun _ i => ckat B ds W k i, rfl, .inl ⟨rfl, .inr (.inr (.inr (.inr (.inr ⟨h0, hd, by decide, by decide, by decide, by decide, rfl⟩))))⟩, by simp, fun h => absurd h (by simp), fun m h => absurd h (by simp), fun _ => rfl, fun i hi => ?_, fun m h => absurd h (by simp), fun _ i => ckat_bd _ _ _ _ _⟩
    rw [ckat_succ _ _ _ _ _ hk, hout i hi (by unfold hasR; omega), cst_zero]
  · obtain ⟨X, rfl⟩ : ∃ n : Nat, a = n := ⟨a.toNat, by omega⟩
    obtain ⟨Y, rfl⟩ : ∃ n : Nat, b = n := ⟨b.toNat, by omega⟩
    obtain ⟨TW, rfl⟩ : ∃ n : Nat, c = n := ⟨c.toNat, by omega⟩
    obtain ⟨TH, rfl⟩ : ∃ n : Nat, e = n := ⟨e.toNat, by omega⟩
    have hW1 : 0 < TW := by omega
    have hX : X + TW ≤ W := by omega
    have hY : Y + TH ≤ H := by omega
    have hl := tipOut_len B (dbAt ds k) X Y TW TH
    have hWH : TW * TH ≤ 65536 := Nat.mul_le_mul (show TW ≤ 256 by omega) (show TH ≤ 256 by omega)
    refine ⟨X, Y, TW, TH, tipOut B (dbAt ds k) X Y TW TH, fun m i => if isDone X Y TW TH W m i then ckat B ds W (k + 1) i else ckat B ds W k i, rfl, .inr ⟨hok, by omega, by omega, rfl⟩, by omega, fun _ => by omega, fun m hm => ?_, fun i => if_neg (isDone_zero _ _ _ _ _ _), fun i hi => ?_, fun m hm => ⟨?_, fun i => ?_⟩, fun m i => ?_⟩
    · rw [hl] at hm
      have : m / TW < TH := Nat.div_lt_of_lt_mul hm
      omega
    · simp only [hl, isDone_all]
      split
      · rfl
      · rename_i hn
        have l1 : i % W < W := Nat.mod_lt _ (by omega)
        have e0 := hout i hi (fun h => hn (by unfold hasR at h; unfold inR; omega))
        rw [ckat_succ _ _ _ _ _ hk, e0, cst_zero]
    · rw [hl] at hm
      exact nIdx_lt X Y TW TH W H m hW1 hX hY hm
    · rw [hl] at hm
      simp only [isDone_succ X Y TW TH W m i hW1 hX hm]
      by_cases he : i = nIdx X Y TW W m
      · rw [if_pos he, if_pos (.inr he), he, if_neg (not_isDone X Y TW TH W m hW1 hX), ckat_succ _ _ _ _ _ hk, tipOut_at _ _ _ _ _ _ _ hm]
        obtain ⟨p1, p2⟩ := nIdx_parts X Y TW W m hW1 hX
        have q1 : m % TW < TW := Nat.mod_lt _ hW1
        have q2 : m / TW < TH := Nat.div_lt_of_lt_mul hm
        have n1 : (0 : Int) ≤ ((m % TW : Nat) : Int) := Int.natCast_nonneg _
        have n2 : (0 : Int) ≤ ((m / TW : Nat) : Int) := Int.natCast_nonneg _
        rw [p1, p2, dcov_cvr h0 hd (by omega) (by omega)]
        unfold tipAt
        rw [Int.natCast_add, Int.natCast_add]
      · rw [if_neg he]
        by_cases h2 : isDone X Y TW TH W m i
        · rw [if_pos (.inl h2), if_pos h2]
        · rw [if_neg (by rintro (h | h); exact h2 h; exact he h), if_neg h2]
    · simp only
      split
      · exact ckat_bd _ _ _ _ _
      · exact ckat_bd _ _ _ _ _
end Go.Proofs.YtjaidcdkkgnfoaaDoor

