/- Plain functions for curves: what Check and At come to. -/
import Derived.Test.YtflegfoalkkkdaaDoorNumPlain
namespace Go.Proofs.YtflegfoalkkkdaaDoor
set_option linter.unusedVariables false

/-- The first of n errors from the index i on, or 0. -/
def ferr (f : Nat → Int) : Nat → Nat → Int
  | 0, _ => 0
  | m + 1, i => if f i = 0 then ferr f m (i + 1) else f i
theorem ferr_go (f : Nat → Int) (n k : Nat) (h : k < n) (h0 : f k = 0) : ferr f (n - k) k = ferr f (n - (k + 1)) (k + 1) := by
  rw [show n - k = (n - (k + 1)) + 1 from by omega]
  show (if f k = 0 then _ else _) = _
  rw [if_pos h0]
theorem ferr_at (f : Nat → Int) (n k : Nat) (h : k < n) (h0 : f k ≠ 0) : ferr f (n - k) k = f k := by
  rw [show n - k = (n - (k + 1)) + 1 from by omega]
  show (if f k = 0 then _ else _) = _
  rw [if_neg h0]
theorem ferr_end (f : Nat → Int) (n : Nat) : ferr f (n - n) n = 0 := by rw [Nat.sub_self]; rfl
theorem ferr_zero (f : Nat → Int) : ∀ (m i : Nat), ferr f m i = 0 → ∀ j, i ≤ j → j < i + m → f j = 0
  | 0, i, _, j, h1, h2 => by omega
  | m + 1, i, h, j, h1, h2 => by
    have h' : (if f i = 0 then ferr f m (i + 1) else f i) = 0 := h
    by_cases h0 : f i = 0
    · rw [if_pos h0] at h'
      by_cases hj : j = i
      · rw [hj]; exact h0
      · exact ferr_zero f m (i + 1) h' j (by omega) (by omega)
    · rw [if_neg h0] at h'
      exact absurd h' h0
theorem ferr_of (f : Nat → Int) : ∀ (m i : Nat), (∀ j, i ≤ j → j < i + m → f j = 0) → ferr f m i = 0
  | 0, i, _ => rfl
  | m + 1, i, h => by
    show (if f i = 0 then ferr f m (i + 1) else f i) = 0
    rw [if_pos (h i (by omega) (by omega))]
    exact ferr_of f m (i + 1) (fun j h1 h2 => h j (by omega) (by omega))
theorem ferr_congr (f g : Nat → Int) : ∀ (m i : Nat), (∀ j, i ≤ j → j < i + m → f j = g j) → ferr f m i = ferr g m i
  | 0, i, _ => rfl
  | m + 1, i, h => by
    show (if f i = 0 then ferr f m (i + 1) else f i) = (if g i = 0 then ferr g m (i + 1) else g i)
    rw [h i (by omega) (by omega), ferr_congr f g m (i + 1) (fun j h1 h2 => h j (by omega) (by omega))]

abbrev Knots := List (Int × Int)
def kX (ks : Knots) (i : Nat) : Int := (ks.getD i (0, 0)).1
def kY (ks : Knots) (i : Nat) : Int := (ks.getD i (0, 0)).2
def kbad (ks : Knots) (i : Nat) : Int :=
  if kX ks i ≠ cl (kX ks i) then 2 else if kY ks i ≠ cl (kY ks i) then 2 else if 0 < i ∧ kX ks i ≤ kX ks (i - 1) then 24 else 0
def kchk (ks : Knots) : Int := if ks.length < 2 then 1 else if 16 < ks.length then 3 else ferr (kbad ks) (ks.length - 0) 0
theorem cl_iff (x : Int) : x = cl x ↔ 0 ≤ x ∧ x ≤ 65535 := by
  constructor
  · intro h; have := cl_bd x; omega
  · intro h; exact (cl_id x h.1 h.2).symm
/-- What a curve that is in order is good for. -/
theorem kchk_ok (ks : Knots) (h : kchk ks = 0) : 2 ≤ ks.length ∧ ks.length ≤ 16 ∧ (∀ i, i < ks.length → 0 ≤ kX ks i ∧ kX ks i ≤ 65535 ∧ 0 ≤ kY ks i ∧ kY ks i ≤ 65535) ∧ (∀ i, 0 < i → i < ks.length → kX ks (i - 1) < kX ks i) := by
  unfold kchk at h
  split at h
  · omega
  · split at h
    · omega
    · have h0 := ferr_zero _ _ _ h
      refine ⟨by omega, by omega, fun i hi => ?_, fun i h1 hi => ?_⟩
      · have := h0 i (by omega) (by omega)
        unfold kbad at this
        by_cases c1 : kX ks i ≠ cl (kX ks i)
        · rw [if_pos c1] at this; omega
        · rw [if_neg c1] at this
          by_cases c2 : kY ks i ≠ cl (kY ks i)
          · rw [if_pos c2] at this; omega
          · have c1' := (cl_iff _).1 (Decidable.not_not.1 c1)
            have c2' := (cl_iff _).1 (Decidable.not_not.1 c2)
            exact ⟨c1'.1, c1'.2, c2'.1, c2'.2⟩
      · have := h0 i (by omega) (by omega)
        unfold kbad at this
        by_cases c1 : kX ks i ≠ cl (kX ks i)
        · rw [if_pos c1] at this; omega
        · rw [if_neg c1] at this
          by_cases c2 : kY ks i ≠ cl (kY ks i)
          · rw [if_pos c2] at this; omega
          · rw [if_neg c2] at this
            by_cases c3 : 0 < i ∧ kX ks i ≤ kX ks (i - 1)
            · rw [if_pos c3] at this; omega
            · omega

/-- The value between the knots i - 1 and i. -/
def kmid (ks : Knots) (x : Int) (i : Nat) : Int := kY ks (i - 1) + dv ((kY ks i - kY ks (i - 1)) * (x - kX ks (i - 1))) (kX ks i - kX ks (i - 1))
def kfrom (ks : Knots) (x : Int) : Nat → Nat → Int
  | 0, _ => kY ks (ks.length - 1)
  | m + 1, i => if x < kX ks i then kmid ks x i else kfrom ks x m (i + 1)
def kval (ks : Knots) (x : Int) : Int := if x ≤ kX ks 0 then kY ks 0 else kfrom ks x (ks.length - 1) 1
def kat (ks : Knots) (x : Int) : Int := if kchk ks = 0 then kval ks x else cl x
theorem kfrom_go (ks : Knots) (x : Int) (n k : Nat) (h : k < n) (h0 : ¬ x < kX ks k) : kfrom ks x (n - k) k = kfrom ks x (n - (k + 1)) (k + 1) := by
  rw [show n - k = (n - (k + 1)) + 1 from by omega]
  show (if _ then _ else _) = _
  rw [if_neg h0]
theorem kfrom_at (ks : Knots) (x : Int) (n k : Nat) (h : k < n) (h0 : x < kX ks k) : kfrom ks x (n - k) k = kmid ks x k := by
  rw [show n - k = (n - (k + 1)) + 1 from by omega]
  show (if _ then _ else _) = _
  rw [if_pos h0]
theorem kfrom_end (ks : Knots) (x : Int) (n : Nat) : kfrom ks x (n - n) n = kY ks (ks.length - 1) := by rw [Nat.sub_self]; rfl
theorem abs_mul_bd (a b A B : Int) (ha1 : -A ≤ a) (ha2 : a ≤ A) (hb1 : 0 ≤ b) (hb2 : b ≤ B) (hA : 0 ≤ A) : -(A * B) ≤ a * b ∧ a * b ≤ A * B := by
  have h1 : a * b ≤ A * b := Int.mul_le_mul_of_nonneg_right ha2 hb1
  have h2 : A * b ≤ A * B := Int.mul_le_mul_of_nonneg_left hb2 hA
  have h3 : -A * b ≤ a * b := Int.mul_le_mul_of_nonneg_right ha1 hb1
  rw [Int.neg_mul] at h3
  omega
/-- What the interpolation needs: the product's bound, the quotient's. -/
theorem kmid_bd (p q x y0 y1 : Int) (h1 : 0 ≤ y0) (h2 : y0 ≤ 65535) (h3 : 0 ≤ y1) (h4 : y1 ≤ 65535) (hp : 0 ≤ p) (hq : q ≤ 65535) (hx : p ≤ x) (hx2 : x < q) :
    -4294836225 ≤ (y1 - y0) * (x - p) ∧ (y1 - y0) * (x - p) ≤ 4294836225 ∧ -65535 ≤ dv ((y1 - y0) * (x - p)) (q - p) ∧ dv ((y1 - y0) * (x - p)) (q - p) ≤ 65535 := by
  have b1 := abs_mul_bd (y1 - y0) (x - p) 65535 65535 (by omega) (by omega) (by omega) (by omega) (by omega)
  have b2 := abs_mul_bd (y1 - y0) (x - p) 65535 (q - p) (by omega) (by omega) (by omega) (by omega) (by omega)
  refine ⟨by omega, by omega, dv_ge _ _ _ (by omega) (by rw [Int.neg_mul]; exact b2.1), dv_le _ _ _ (by omega) b2.2⟩
end Go.Proofs.YtflegfoalkkkdaaDoor
