/- Plain functions for brush dynamics. -/
import Derived.Test.YtflegfoalkkkdaaDoorCurvePlain
import Derived.Test.YtflegfoalkkkdaaDoorHypPlain
import Derived.Test.YtflegfoalkkkdaaDoorRandPlain
namespace Go.Proofs.YtflegfoalkkkdaaDoor
set_option linter.unusedVariables false

abbrev Dyns := List (Int × Int × Knots)
def dT (ds : Dyns) (i : Nat) : Int := (ds.getD i (0, 0, [])).1
def dS (ds : Dyns) (i : Nat) : Int := (ds.getD i (0, 0, [])).2.1
def dC (ds : Dyns) (i : Nat) : Knots := (ds.getD i (0, 0, [])).2.2
def dbad (ds : Dyns) (i : Nat) : Int :=
  if dT ds i < 1 then 8 else if 4 < dT ds i then 8 else if dS ds i < 1 then 8 else if 5 < dS ds i then 8 else kchk (dC ds i)
def dchk (ds : Dyns) : Int := if 8 < ds.length then 3 else ferr (dbad ds) (ds.length - 0) 0

/-- A coordinate, a time, limited. -/
def co (n : Int) : Int := min 16777216 (max n (-16777216))
def tm (n : Int) : Int := min 1073741824 (max n 0)
theorem co_bd (n : Int) : -16777216 ≤ co n ∧ co n ≤ 16777216 := by unfold co; omega
theorem tm_bd (n : Int) : 0 ≤ tm n ∧ tm n ≤ 1073741824 := by unfold tm; omega
def spd (ax ay at_ bx by_ bt : Int) : Int :=
  if tm bt - tm at_ ≤ 0 then 0 else cl (dv (hypot (co bx - co ax) (co by_ - co ay) * 65535) (64 * (tm bt - tm at_)))
theorem sq_le (x B : Int) (h1 : -B ≤ x) (h2 : x ≤ B) : x * x ≤ B * B := by
  rcases Int.le_total 0 x with h | h
  · exact Int.mul_le_mul h2 h2 h (by omega)
  · have := Int.mul_le_mul (show -x ≤ B by omega) (show -x ≤ B by omega) (by omega) (by omega)
    rw [Int.neg_mul_neg] at this
    exact this
theorem hyp_bd (x y B : Int) (hx1 : -B ≤ x) (hx2 : x ≤ B) (hy1 : -B ≤ y) (hy2 : y ≤ B) : 0 ≤ hypot x y ∧ hypot x y ≤ 2 * B := by
  refine ⟨hypot_nonneg _ _, hypot_le _ _ _ (by omega) ?_⟩
  have h1 := sq_le x B hx1 hx2
  have h2 := sq_le y B hy1 hy2
  have h3 : 0 ≤ B * B := Int.mul_nonneg (by omega) (by omega)
  have e : 2 * B * (2 * B) = 4 * (B * B) := by rw [Int.mul_assoc, Int.mul_comm B, Int.mul_assoc]; omega
  omega

/-- The value of a source (of a sample's pressure and tilt). -/
def src (kind p t speed index seed : Int) : Int :=
  if kind = 1 then cl p else if kind = 2 then cl t else if kind = 3 then cl speed else if kind = 4 then atI seed index 1 / 65537
  else if kind = 5 then 65535 - min 65535 (1024 * min 64 (max index 0)) else 0
theorem src_bd (kind p t speed index seed : Int) : 0 ≤ src kind p t speed index seed ∧ src kind p t speed index seed ≤ 65535 := by
  have h1 := cl_bd p
  have h2 := cl_bd t
  have h3 := cl_bd speed
  have h4 := at_bd seed index 1
  unfold src
  repeat' split
  all_goals omega

def dstep (ds : Dyns) (target : Int) (f : Int → Int) (i : Nat) (v : Int) : Int :=
  if dT ds i = target then dv (cl v * cl (kat (dC ds i) (f (dS ds i)))) 65535 else v
def dfrom (ds : Dyns) (target : Int) (f : Int → Int) : Nat → Nat → Int → Int
  | 0, _, v => v
  | m + 1, i, v => dfrom ds target f m (i + 1) (dstep ds target f i v)
def dvalue (ds : Dyns) (target : Int) (f : Int → Int) : Int := if dchk ds = 0 then dfrom ds target f (ds.length - 0) 0 65535 else 65535
theorem dfrom_go (ds : Dyns) (target : Int) (f : Int → Int) (n k : Nat) (v : Int) (h : k < n) : dfrom ds target f (n - k) k v = dfrom ds target f (n - (k + 1)) (k + 1) (dstep ds target f k v) := by
  rw [show n - k = (n - (k + 1)) + 1 from by omega]
  rfl
theorem dfrom_end (ds : Dyns) (target : Int) (f : Int → Int) (n : Nat) (v : Int) : dfrom ds target f (n - n) n v = v := by rw [Nat.sub_self]; rfl
theorem mulU_bd' (a b : Int) : 0 ≤ dv (cl a * cl b) 65535 ∧ dv (cl a * cl b) 65535 ≤ 65535 := by
  have ha := cl_bd a
  have hb := cl_bd b
  have h1 : 0 ≤ cl a * cl b := Int.mul_nonneg ha.1 hb.1
  have h2 : cl a * cl b ≤ 65535 * 65535 := Int.mul_le_mul ha.2 hb.2 hb.1 (by omega)
  exact ⟨dv_nonneg _ _ (by omega) h1, dv_le _ _ _ (by omega) h2⟩
theorem dstep_bd (ds : Dyns) (target : Int) (f : Int → Int) (i : Nat) (v : Int) (h : 0 ≤ v ∧ v ≤ 65535) : 0 ≤ dstep ds target f i v ∧ dstep ds target f i v ≤ 65535 := by
  unfold dstep
  split
  · exact mulU_bd' _ _
  · exact h
end Go.Proofs.YtflegfoalkkkdaaDoor
