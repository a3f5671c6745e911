/- Healing 3 by 3 pixels of an opaque image: the healed image is good, and its middle by the four neighbours' sums. -/
import Derived.Test.YtieacbccadbdbaaDoorSmallP
namespace Go.Proofs.YtieacbccadbdbaaDoor
open Go.RowKit
set_option linter.unusedVariables false

/-- The four neighbours of the middle. -/
def dX (j : Nat) : Int := if j = 0 then -1 else if j = 1 then 1 else 0
def dY (j : Nat) : Int := if j = 2 then -1 else if j = 3 then 1 else 0
theorem dX_bd (j : Nat) : -1 ≤ dX j ∧ dX j ≤ 1 := by unfold dX; split <;> (try split) <;> omega
theorem dY_bd (j : Nat) : -1 ≤ dY j ∧ dY j ≤ 1 := by unfold dY; split <;> (try split) <;> omega
def sumN (A B : Nat → Px) (c : Nat) : Nat → Int
  | 0 => 0
  | n + 1 => sumN A B c n + (cmp c (A n) - cmp c (B n))
theorem sumN_bd (A B : Nat → Px) (c : Nat) (hA : ∀ j, 0 ≤ cmp c (A j) ∧ cmp c (A j) ≤ 65535) (hB : ∀ j, 0 ≤ cmp c (B j) ∧ cmp c (B j) ≤ 65535) : ∀ n, -((65535 : Int) * n) ≤ sumN A B c n ∧ sumN A B c n ≤ 65535 * n
  | 0 => by simp [sumN]
  | n + 1 => by
    have h := sumN_bd A B c hA hB n
    have h1 := hA n
    have h2 := hB n
    show -((65535 : Int) * ((n + 1 : Nat) : Int)) ≤ sumN A B c n + (cmp c (A n) - cmp c (B n)) ∧ sumN A B c n + (cmp c (A n) - cmp c (B n)) ≤ 65535 * ((n + 1 : Nat) : Int)
    omega
theorem cmp_ok (c : Nat) (p : Px) (h : pOk p = true) : 0 ≤ cmp c p ∧ cmp c p ≤ 65535 := by
  obtain ⟨h1, h2, h3, h4⟩ := pOk_bd h
  unfold cmp
  split
  · exact h1
  · split
    · exact h2
    · split
      · exact h3
      · exact h4
/-- The neighbour j of the middle at (X + 1, Y + 1). -/
def nbK (j : Nat) : Nat := if j = 0 then 3 else if j = 1 then 5 else if j = 2 then 1 else 7
theorem atP_nb (W H X Y : Nat) (ps : List Px) (j : Nat) (hX : X + 3 ≤ W) (hY : Y + 3 ≤ H) (hj : j < 4) : atP W H ps ((X : Int) + 1 + dX j) ((Y : Int) + 1 + dY j) = pxAt ps (nIdx X Y 3 W (nbK j)) := by
  have hx := dX_bd j
  have hy := dY_bd j
  rw [atP_in (by omega) (by omega) (by omega) (by omega)]
  congr 1
  have hc : j = 0 ∨ j = 1 ∨ j = 2 ∨ j = 3 := by omega
  have k : ∀ (a b : Nat), ((Y : Int) + b) * (W : Int) + ((X : Int) + a) = (((Y + b) * W + X + a : Nat) : Int) := fun a b => by
    rw [show ((Y : Int) + b) = ((Y + b : Nat) : Int) by omega, ← Int.natCast_mul]
    omega
  rcases hc with rfl | rfl | rfl | rfl
  · rw [show (Y : Int) + 1 + dY 0 = (Y : Int) + ((1 : Nat) : Int) by simp [dY], show (X : Int) + 1 + dX 0 = (X : Int) + ((0 : Nat) : Int) by simp [dX]; omega, k]
    rfl
  · rw [show (Y : Int) + 1 + dY 1 = (Y : Int) + ((1 : Nat) : Int) by simp [dY], show (X : Int) + 1 + dX 1 = (X : Int) + ((2 : Nat) : Int) by simp [dX]; omega, k]
    rfl
  · rw [show (Y : Int) + 1 + dY 2 = (Y : Int) + ((0 : Nat) : Int) by simp [dY]; omega, show (X : Int) + 1 + dX 2 = (X : Int) + ((1 : Nat) : Int) by simp [dX], k]
    rfl
  · rw [show (Y : Int) + 1 + dY 3 = (Y : Int) + ((2 : Nat) : Int) by simp [dY]; omega, show (X : Int) + 1 + dX 3 = (X : Int) + ((1 : Nat) : Int) by simp [dX], k]
    rfl
/-- The middle's value by the sums. -/
theorem smV_sum (c : Nat) (A B : Nat → Px) (s : Px) : smV c (A 0) (A 1) (A 2) (A 3) (B 0) (B 1) (B 2) (B 3) s = cl (cmp c s + dv (sumN A B c 4) 4) := by
  unfold smV
  congr 2
  show dv _ 4 = dv (0 + _ + _ + _ + _) 4
  rw [Int.zero_add]
/-- The healed image is good. -/
theorem healed_ok (W H X Y SX SY : Nat) (ps : List Px) (hW : X + 3 ≤ W) (hY : Y + 3 ≤ H) (hSW : SX + 3 ≤ W) (hSY : SY + 3 ≤ H) (hl : ps.length = W * H) (hp : ∀ k, k < ps.length → pOk (pxAt ps k) = true) (ha : ∀ k, k < ps.length → (pxAt ps k).2.2.2 = 65535) (k : Nat) (hk : k < ps.length) :
    pOk (healAt W 3 3 X Y SX SY 0 [] ps k) = true := by
  by_cases hin : inH W 3 3 X Y k
  · obtain ⟨h1, h2, h3, h4⟩ := hin
    have e := Nat.div_add_mod k W
    have e1 : k / W = Y + 1 := by omega
    have e2 : k % W = X + 1 := by omega
    rw [e1, e2, Nat.mul_comm] at e
    have ek : k = (Y + 1) * W + X + 1 := by omega
    rw [ek, heal_mid W H X Y SX SY ps hW hY hSW hSY hl hp ha]
    have id : ∀ x : Int, cl (cl x) = cl x := fun x => cl_id _ (cl_bd x).1 (cl_bd x).2
    unfold pOk smV
    simp only [id, cl_id 65535 (by omega) (by omega)]
    exact decide_eq_true ⟨trivial, trivial, trivial, trivial⟩
  · rw [healAt_out hin]
    exact hp k hk
theorem healed_chk (W H X Y SX SY : Nat) (ps : List Px) (hc : ichk W H ps = 0) (hW : X + 3 ≤ W) (hY : Y + 3 ≤ H) (hSW : SX + 3 ≤ W) (hSY : SY + 3 ≤ H) (ha : ∀ k, k < ps.length → (pxAt ps k).2.2.2 = 65535) :
    ichk W H (heals W 3 3 X Y SX SY 0 [] ps) = 0 := by
  obtain ⟨hn, a1, a2, a3, a4, hnl⟩ := ichk_len hc
  have hl : ps.length = W * H := by have := Int.natCast_mul W H; omega
  have hp := (ichk_px hc).2
  rw [ichk_good a1 a2 a3 a4 (by omega) (by rw [heals_len]; exact hnl)]
  refine ferr_of _ _ _ (fun j _ hj => ?_)
  rw [heals_len] at hj
  unfold pbad
  rw [heals_at _ _ _ _ _ _ _ _ _ _ _ (by omega), if_pos (healed_ok W H X Y SX SY ps hW hY hSW hSY hl hp ha j (by omega))]
/-- The points' block: the neighbour j. -/
theorem pts_at {w : World} {b : Nat} {t : TypeId} (k : Blk w b (.cells #[.int .i64 (-1), .int .i64 0, .int .i64 1, .int .i64 0, .int .i64 0, .int .i64 (-1), .int .i64 0, .int .i64 1] t (0, 0))) (j : Nat) (hj : j < 4) :
    w.cell? ⟨b, j * 2, none⟩ = some (.int .i64 (dX j)) ∧ w.cell? ⟨b, j * 2 + 1, none⟩ = some (.int .i64 (dY j)) := by
  have hc : j = 0 ∨ j = 1 ∨ j = 2 ∨ j = 3 := by omega
  rcases hc with rfl | rfl | rfl | rfl
  · exact ⟨cell_blk k rfl, cell_blk k rfl⟩
  · exact ⟨cell_blk k rfl, cell_blk k rfl⟩
  · exact ⟨cell_blk k rfl, cell_blk k rfl⟩
  · exact ⟨cell_blk k rfl, cell_blk k rfl⟩
end Go.Proofs.YtieacbccadbdbaaDoor

