/- The coverage of dabs, plainly; the pixels of a rectangle, row by row, in the rows of an image. -/
import Derived.Test.YtjaidcdkkgnfoaaDoorBrushPlain
import Derived.Test.YtjaidcdkkgnfoaaDoorLPlain
namespace Go.Proofs.YtjaidcdkkgnfoaaDoor
set_option linter.unusedVariables false

/-- One more coverage upon another. -/
def cst (c v : Int) : Int := c + dv (cl (65535 - c) * cl v) 65535
theorem dv_zero (b : Int) (hb : 0 < b) : dv 0 b = 0 := by
  have := dv_mul 0 b hb
  simpa using this
theorem mulU_le (a v : Int) : 0 ≤ dv (cl a * cl v) 65535 ∧ dv (cl a * cl v) 65535 ≤ cl a ∧ dv (cl a * cl v) 65535 ≤ cl v := by
  have ha := cl_bd a
  have hv := cl_bd v
  refine ⟨(mulU_bd' a v).1, dv_le _ _ _ (by omega) (Int.mul_le_mul_of_nonneg_left hv.2 ha.1), dv_le _ _ _ (by omega) ?_⟩
  rw [Int.mul_comm]
  exact Int.mul_le_mul_of_nonneg_left ha.2 hv.1
theorem mulU_one (v : Int) (h : 0 ≤ v ∧ v ≤ 65535) : dv (cl 65535 * cl v) 65535 = v := by
  rw [cl_id 65535 (by omega) (by omega), cl_id v h.1 h.2, Int.mul_comm]
  exact dv_mul _ _ (by omega)
theorem mulU_mono (a b v : Int) (h : a ≤ b) : dv (cl a * cl v) 65535 ≤ dv (cl b * cl v) 65535 := by
  have hv := cl_bd v
  have : cl a ≤ cl b := by rw [← cl_min, ← cl_min]; omega
  exact dv_mono _ _ _ (by omega) (Int.mul_le_mul_of_nonneg_right this hv.1)
theorem cst_zero (c : Int) : cst c 0 = c := by
  unfold cst
  rw [show cl 0 = 0 from rfl, Int.mul_zero, dv_zero _ (by omega)]
  omega
theorem cst_bd (c v : Int) (h : 0 ≤ c ∧ c ≤ 65535) : c ≤ cst c v ∧ cst c v ≤ 65535 := by
  have := mulU_le (65535 - c) v
  rw [cl_id (65535 - c) (by omega) (by omega)] at this
  unfold cst
  rw [cl_id (65535 - c) (by omega) (by omega)]
  omega
theorem cst_first (v : Int) (h : 0 ≤ v ∧ v ≤ 65535) : cst 0 v = v := by
  have := mulU_one v h
  unfold cst
  rw [show (65535 : Int) - 0 = 65535 by omega, this]
  omega
/-- What dabs cover of a place, before the opacity. -/
def cfold (B : Bru) (ds : List Dab) (x y c : Int) : Int := ds.foldl (fun c d => cst c (dcov B d x y)) c
theorem cfold_bd (B : Bru) (x y : Int) : ∀ (ds : List Dab) (c : Int), 0 ≤ c ∧ c ≤ 65535 → c ≤ cfold B ds x y c ∧ cfold B ds x y c ≤ 65535
  | [], c, h => ⟨Int.le_refl _, h.2⟩
  | d :: ds, c, h => by
    have h1 := cst_bd c (dcov B d x y) h
    have h2 := cfold_bd B x y ds (cst c (dcov B d x y)) (by omega)
    have e : cfold B (d :: ds) x y c = cfold B ds x y (cst c (dcov B d x y)) := rfl
    rw [e]
    omega
theorem cfold_snoc (B : Bru) (ds : List Dab) (d : Dab) (x y c : Int) : cfold B (ds ++ [d]) x y c = cst (cfold B ds x y c) (dcov B d x y) := by
  unfold cfold
  rw [List.foldl_append]
  rfl
def cpix (B : Bru) (ds : List Dab) (W : Nat) (i : Nat) : Int := cfold B ds ((i % W : Nat) : Int) ((i / W : Nat) : Int) 0
def cout (B : Bru) (ds : List Dab) (W : Nat) (i : Nat) : Int := dv (cl (cpix B ds W i) * cl B.op) 65535
def couts (B : Bru) (ds : List Dab) (W H : Nat) : List Int := (List.range (W * H)).map (cout B ds W)
theorem couts_len (B : Bru) (ds : List Dab) (W H : Nat) : (couts B ds W H).length = W * H := by simp [couts]
theorem couts_at (B : Bru) (ds : List Dab) (W H i : Nat) (hi : i < W * H) : (couts B ds W H).getD i 0 = cout B ds W i := by simp [couts, List.getD, hi]
theorem cpix_bd (B : Bru) (ds : List Dab) (W i : Nat) : 0 ≤ cpix B ds W i ∧ cpix B ds W i ≤ 65535 := by
  have := cfold_bd B ((i % W : Nat) : Int) ((i / W : Nat) : Int) ds 0 (by omega)
  unfold cpix
  omega
theorem cout_bd (B : Bru) (ds : List Dab) (W i : Nat) : 0 ≤ cout B ds W i ∧ cout B ds W i ≤ 65535 := mulU_bd' _ _
theorem dcov_unit (B : Bru) (d : Dab) (x y : Int) : 0 ≤ dcov B d x y ∧ dcov B d x y ≤ 65535 := by
  unfold dcov
  split
  · rename_i h0
    have hb := bchk_ok h0
    have := cvr_bd B (lim d) (cc x) (cc y) hb.2.1.1 (cl_bd d.fl)
    have e : (lim d).fl = cl d.fl := rfl
    have := cl_bd d.fl
    omega
  · omega

/-- The pixels of a rectangle in an image of the width w. -/
def nIdx (X Y W w k : Nat) : Nat := (Y + k / W) * w + X + k % W
theorem nIdx_parts (X Y W w k : Nat) (hW : 0 < W) (hX : X + W ≤ w) : nIdx X Y W w k / w = Y + k / W ∧ nIdx X Y W w k % w = X + k % W := by
  have h1 : k % W < W := Nat.mod_lt _ hW
  have h2 : X + k % W < w := by omega
  have e : nIdx X Y W w k = (X + k % W) + w * (Y + k / W) := by unfold nIdx; rw [Nat.mul_comm]; omega
  rw [e, Nat.add_mul_div_left _ _ (by omega), Nat.add_mul_mod_self_left, Nat.div_eq_of_lt h2, Nat.mod_eq_of_lt h2]
  omega
theorem nIdx_lt (X Y W H w h k : Nat) (hW : 0 < W) (hX : X + W ≤ w) (hY : Y + H ≤ h) (hk : k < W * H) : nIdx X Y W w k < w * h := by
  have h1 : k / W < H := Nat.div_lt_of_lt_mul hk
  have h2 := (nIdx_parts X Y W w k hW hX).1
  have h3 : nIdx X Y W w k / w < h := by omega
  rw [Nat.mul_comm]
  exact (Nat.div_lt_iff_lt_mul (by omega)).1 h3
theorem nIdx_of (X Y W w k i : Nat) (h1 : i / w = Y + k / W) (h2 : i % w = X + k % W) : i = nIdx X Y W w k := by
  have := Nat.div_add_mod i w
  rw [h1, h2, Nat.mul_comm] at this
  unfold nIdx
  omega
/-- Pixel i of the image is one of the first k of the rectangle. -/
def inR (X Y W H w i : Nat) : Prop := X ≤ i % w ∧ i % w < X + W ∧ Y ≤ i / w ∧ i / w < Y + H
instance (X Y W H w i : Nat) : Decidable (inR X Y W H w i) := by unfold inR; exact inferInstance
def isDone (X Y W H w k i : Nat) : Prop := inR X Y W H w i ∧ (i / w - Y) * W + (i % w - X) < k
instance (X Y W H w k i : Nat) : Decidable (isDone X Y W H w k i) := by unfold isDone; exact inferInstance
theorem isDone_zero (X Y W H w i : Nat) : ¬ isDone X Y W H w 0 i := fun h => absurd h.2 (Nat.not_lt_zero _)
theorem isDone_all (X Y W H w i : Nat) : isDone X Y W H w (W * H) i ↔ inR X Y W H w i := by
  refine ⟨fun h => h.1, fun h => ⟨h, ?_⟩⟩
  obtain ⟨h1, h2, h3, h4⟩ := h
  have a : i / w - Y + 1 ≤ H := by omega
  have b : (i / w - Y + 1) * W ≤ H * W := Nat.mul_le_mul_right _ a
  rw [Nat.add_mul, Nat.one_mul, Nat.mul_comm H W] at b
  omega
theorem nIdx_in (X Y W H w k : Nat) (hW : 0 < W) (hX : X + W ≤ w) (hk : k < W * H) : inR X Y W H w (nIdx X Y W w k) := by
  obtain ⟨h1, h2⟩ := nIdx_parts X Y W w k hW hX
  have h3 : k / W < H := Nat.div_lt_of_lt_mul hk
  have h4 : k % W < W := Nat.mod_lt _ hW
  unfold inR
  rw [h1, h2]
  clear h1 h2
  generalize k / W = q at *
  generalize k % W = r at *
  omega
theorem isDone_succ (X Y W H w k i : Nat) (hW : 0 < W) (hX : X + W ≤ w) (hk : k < W * H) : isDone X Y W H w (k + 1) i ↔ isDone X Y W H w k i ∨ i = nIdx X Y W w k := by
  constructor
  · intro h
    by_cases hl : (i / w - Y) * W + (i % w - X) < k
    · exact .inl ⟨h.1, hl⟩
    · right
      have he : k = (i % w - X) + W * (i / w - Y) := by have := h.2; rw [Nat.mul_comm W]; omega
      obtain ⟨h1, h2, h3, h4⟩ := h.1
      have hlt : i % w - X < W := by omega
      have e1 : k / W = i / w - Y := by rw [he, Nat.add_mul_div_left _ _ hW, Nat.div_eq_of_lt hlt]; omega
      have e2 : k % W = i % w - X := by rw [he, Nat.add_mul_mod_self_left, Nat.mod_eq_of_lt hlt]
      clear he h
      exact nIdx_of X Y W w k i (by rw [e1]; omega) (by rw [e2]; omega)
  · rintro (h | rfl)
    · exact ⟨h.1, by have := h.2; omega⟩
    · refine ⟨nIdx_in X Y W H w k hW hX hk, ?_⟩
      obtain ⟨h1, h2⟩ := nIdx_parts X Y W w k hW hX
      rw [h1, h2]
      have := Nat.div_add_mod k W
      rw [Nat.add_sub_cancel_left, Nat.add_sub_cancel_left, Nat.mul_comm]
      omega
theorem not_isDone (X Y W H w k : Nat) (hW : 0 < W) (hX : X + W ≤ w) : ¬ isDone X Y W H w k (nIdx X Y W w k) := by
  intro h
  obtain ⟨h1, h2⟩ := nIdx_parts X Y W w k hW hX
  have := h.2
  rw [h1, h2, Nat.add_sub_cancel_left, Nat.add_sub_cancel_left, Nat.mul_comm] at this
  have := Nat.div_add_mod k W
  omega
end Go.Proofs.YtjaidcdkkgnfoaaDoor

