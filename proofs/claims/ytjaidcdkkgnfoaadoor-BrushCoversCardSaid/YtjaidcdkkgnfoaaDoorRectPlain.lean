/- Rectangles, plainly: intersection, bounding box, growth. -/
import Derived.Test.YtjaidcdkkgnfoaaDoorLRect
import Derived.Test.YtjaidcdkkgnfoaaDoorLPlain
import Derived.Test.YtjaidcdkkgnfoaaDoorSeq
namespace Go.Proofs.YtjaidcdkkgnfoaaDoor
set_option linter.unusedVariables false

abbrev R4 := Int × Int × Int × Int
def r0 : R4 := (0, 0, 0, 0)
def rvx (a : R4) : Value := rv a.1 a.2.1 a.2.2.1 a.2.2.2
def rOk (a : R4) : Bool := rValid a.1 a.2.1 a.2.2.1 a.2.2.2
def rEmp (a : R4) : Bool := !rOk a || (a.2.2.1 == 0 || a.2.2.2 == 0)
theorem rOk_iff (a : R4) : rOk a = true ↔ (-1048576 ≤ a.1 ∧ a.1 ≤ 1048576 ∧ 0 ≤ a.2.2.1 ∧ a.2.2.1 ≤ 1048576 - a.1) ∧ (-1048576 ≤ a.2.1 ∧ a.2.1 ≤ 1048576 ∧ 0 ≤ a.2.2.2 ∧ a.2.2.2 ≤ 1048576 - a.2.1) := by
  unfold rOk rValid rSpan
  rw [Bool.and_eq_true, decide_eq_true_eq, decide_eq_true_eq]
theorem rEmp_false {a : R4} (h : rEmp a = false) : (-1048576 ≤ a.1 ∧ a.1 ≤ 1048576 ∧ 0 < a.2.2.1 ∧ a.2.2.1 ≤ 1048576 - a.1) ∧ (-1048576 ≤ a.2.1 ∧ a.2.1 ≤ 1048576 ∧ 0 < a.2.2.2 ∧ a.2.2.2 ≤ 1048576 - a.2.1) := by
  unfold rEmp at h
  simp only [Bool.or_eq_false_iff, Bool.not_eq_false', beq_eq_false_iff_ne] at h
  have := (rOk_iff a).1 h.1
  omega
theorem rEmp_true {a : R4} (h : rEmp a = true) : rOk a = false ∨ a.2.2.1 = 0 ∨ a.2.2.2 = 0 := by
  unfold rEmp at h
  simp only [Bool.or_eq_true, Bool.not_eq_true', beq_iff_eq] at h
  exact h
def rlo (x : Int) : Int := max x (-1048576)
def rhi (x : Int) : Int := min x 1048576
def rbtw (x0 y0 x1 y1 : Int) : R4 := if rhi x1 ≤ rlo x0 ∨ rhi y1 ≤ rlo y0 then r0 else (rlo x0, rlo y0, rhi x1 - rlo x0, rhi y1 - rlo y0)
def rmeet (a b : R4) : R4 := if rEmp a = true then r0 else if rEmp b = true then r0 else rbtw (max a.1 b.1) (max a.2.1 b.2.1) (min (a.1 + a.2.2.1) (b.1 + b.2.2.1)) (min (a.2.1 + a.2.2.2) (b.2.1 + b.2.2.2))
def rjoin (a b : R4) : R4 := if rEmp a = true then if rEmp b = true then r0 else b else if rEmp b = true then a else rbtw (min a.1 b.1) (min a.2.1 b.2.1) (max (a.1 + a.2.2.1) (b.1 + b.2.2.1)) (max (a.2.1 + a.2.2.2) (b.2.1 + b.2.2.2))
theorem rbtw_ok (x0 y0 x1 y1 : Int) : rOk (rbtw x0 y0 x1 y1) = true := by
  rw [rOk_iff]
  unfold rbtw
  split
  · simp [r0]
  · unfold rlo rhi at *
    simp only
    omega
theorem r0_ok : rOk r0 = true := by decide
theorem r0_emp : rEmp r0 = true := by decide
/-- Where two rectangles that are not empty meet or are joined, the limits of the world do not matter. -/
theorem rjoin_in {a b : R4} (ha : rEmp a = false) (hb : rEmp b = false) :
    rjoin a b = (min a.1 b.1, min a.2.1 b.2.1, max (a.1 + a.2.2.1) (b.1 + b.2.2.1) - min a.1 b.1, max (a.2.1 + a.2.2.2) (b.2.1 + b.2.2.2) - min a.2.1 b.2.1) := by
  have h1 := rEmp_false ha
  have h2 := rEmp_false hb
  unfold rjoin
  rw [ha, hb, if_neg (by decide), if_neg (by decide)]
  unfold rbtw rlo rhi
  rw [if_neg (by omega)]
  simp only [Prod.mk.injEq]
  omega
/-- A box, cut to an image. -/
theorem rmeet_img (b : R4) (w h : Int) (hw : 0 ≤ w ∧ w ≤ 256) (hh : 0 ≤ h ∧ h ≤ 256) :
    rOk (rmeet b (0, 0, w, h)) = true ∧ (rmeet b (0, 0, w, h) = r0 ∨ ((0 ≤ (rmeet b (0, 0, w, h)).1 ∧ 0 < (rmeet b (0, 0, w, h)).2.2.1 ∧ (rmeet b (0, 0, w, h)).1 + (rmeet b (0, 0, w, h)).2.2.1 ≤ w) ∧ (0 ≤ (rmeet b (0, 0, w, h)).2.1 ∧ 0 < (rmeet b (0, 0, w, h)).2.2.2 ∧ (rmeet b (0, 0, w, h)).2.1 + (rmeet b (0, 0, w, h)).2.2.2 ≤ h))) ∧
    (∀ x y, 0 ≤ x ∧ x < w → 0 ≤ y ∧ y < h → rOk b = true → hasR b.1 b.2.1 b.2.2.1 b.2.2.2 x y → hasR (rmeet b (0, 0, w, h)).1 (rmeet b (0, 0, w, h)).2.1 (rmeet b (0, 0, w, h)).2.2.1 (rmeet b (0, 0, w, h)).2.2.2 x y) := by
  cases he : rEmp b with
  | true =>
    have e : rmeet b (0, 0, w, h) = r0 := by unfold rmeet; rw [he, if_pos rfl]
    rw [e]
    refine ⟨r0_ok, .inl rfl, fun x y hx hy hv hr => ?_⟩
    unfold hasR at hr
    rcases rEmp_true he with h1 | h1 | h1
    · rw [hv] at h1; cases h1
    · omega
    · omega
  | false =>
    have h1 := rEmp_false he
    cases he2 : rEmp (0, 0, w, h) with
    | true =>
      have e : rmeet b (0, 0, w, h) = r0 := by unfold rmeet; rw [he, if_neg (by decide), he2, if_pos rfl]
      rw [e]
      refine ⟨r0_ok, .inl rfl, fun x y hx hy hv hr => ?_⟩
      rcases rEmp_true he2 with h2 | h2 | h2
      · have : rOk (0, 0, w, h) = true := (rOk_iff _).2 (by simp only; omega)
        rw [this] at h2; cases h2
      · simp only at h2; omega
      · simp only at h2; omega
    | false =>
      have h2 := rEmp_false he2
      simp only at h2
      have e : rmeet b (0, 0, w, h) = rbtw (max b.1 0) (max b.2.1 0) (min (b.1 + b.2.2.1) (0 + w)) (min (b.2.1 + b.2.2.2) (0 + h)) := by
        unfold rmeet
        rw [he, he2, if_neg (by decide), if_neg (by decide)]
      rw [e]
      refine ⟨rbtw_ok _ _ _ _, ?_, ?_⟩
      · unfold rbtw
        split
        · exact .inl rfl
        · right
          unfold rlo rhi at *
          simp only
          omega
      · intro x y hx hy hv hr
        unfold hasR at *
        unfold rbtw
        split
        · unfold rlo rhi at *
          simp only [r0]
          omega
        · unfold rlo rhi at *
          simp only
          omega
/-- The box of dabs. -/
def bfrom (ds : List Dab) : Nat → Nat → R4 → R4
  | 0, _, r => r
  | m + 1, i, r => bfrom ds m (i + 1) (rjoin r (dbox (dbAt ds i)))
def bbox (ds : List Dab) : R4 := bfrom ds (ds.length - 0) 0 r0
theorem bfrom_go (ds : List Dab) (n k : Nat) (r : R4) (h : k < n) : bfrom ds (n - k) k r = bfrom ds (n - (k + 1)) (k + 1) (rjoin r (dbox (dbAt ds k))) := by
  rw [show n - k = (n - (k + 1)) + 1 from by omega]
  rfl
theorem bfrom_end (ds : List Dab) (n : Nat) (r : R4) : bfrom ds (n - n) n r = r := by rw [Nat.sub_self]; rfl
end Go.Proofs.YtjaidcdkkgnfoaaDoor

