/- Brushes and dabs, plainly. -/
import Derived.Test.YtflegfoalkkkdaaDoorDynPlain
import Derived.Test.YtflegfoalkkkdaaDoorTurnPlain
import Derived.Test.YtflegfoalkkkdaaDoorGPlain
namespace Go.Proofs.YtflegfoalkkkdaaDoor
set_option linter.unusedVariables false

structure Bru where
  (sz hd rn fl op sp an sc md r g b a sd : Int)
  ds : Dyns
  er : Bool
structure Dab where
  (x y sz fl an : Int)
def inB (x lo hi : Int) : Bool := decide (lo ≤ x ∧ x ≤ hi)
def pxOk (r g b a : Int) : Bool := decide (r = cl r ∧ g = cl g ∧ b = cl b ∧ a = cl a)
/-- The error of a brush. -/
def bchk (B : Bru) : Int :=
  if (inB B.sz 1 1024 && (inB B.hd 0 65535 && (inB B.fl 0 65535 && (inB B.op 0 65535 && (inB B.rn 4096 65535 && (inB B.sp 1 1000 && (inB B.an 0 65535 && inB B.sc 0 1000))))))) = true then
    if inB B.md 0 17 = true then if (pxOk B.r B.g B.b B.a && inB B.sd 0 1073741824) = true then dchk B.ds else 2 else 8 else 2
theorem bchk_def (B : Bru) : bchk B = (if (inB B.sz 1 1024 && (inB B.hd 0 65535 && (inB B.fl 0 65535 && (inB B.op 0 65535 && (inB B.rn 4096 65535 && (inB B.sp 1 1000 && (inB B.an 0 65535 && inB B.sc 0 1000))))))) = true then
    if inB B.md 0 17 = true then if (pxOk B.r B.g B.b B.a && inB B.sd 0 1073741824) = true then dchk B.ds else 2 else 8 else 2) := rfl
theorem bchk_ok {B : Bru} (h : bchk B = 0) : (1 ≤ B.sz ∧ B.sz ≤ 1024) ∧ (0 ≤ B.hd ∧ B.hd ≤ 65535) ∧ (0 ≤ B.fl ∧ B.fl ≤ 65535) ∧ (0 ≤ B.op ∧ B.op ≤ 65535) ∧ (4096 ≤ B.rn ∧ B.rn ≤ 65535) ∧ (1 ≤ B.sp ∧ B.sp ≤ 1000) ∧ (0 ≤ B.an ∧ B.an ≤ 65535) ∧ (0 ≤ B.sc ∧ B.sc ≤ 1000) ∧ (0 ≤ B.md ∧ B.md ≤ 17) ∧ (B.r = cl B.r ∧ B.g = cl B.g ∧ B.b = cl B.b ∧ B.a = cl B.a) ∧ (0 ≤ B.sd ∧ B.sd ≤ 1073741824) ∧ dchk B.ds = 0 := by
  unfold bchk inB pxOk at h
  repeat' split at h
  · rename_i h1 h2 h3
    simp only [Bool.and_eq_true, decide_eq_true_eq] at h1 h2 h3
    exact ⟨h1.1, h1.2.1, h1.2.2.1, h1.2.2.2.1, h1.2.2.2.2.1, h1.2.2.2.2.2.1, h1.2.2.2.2.2.2.1, h1.2.2.2.2.2.2.2, h2, h3.1, h3.2, h⟩
  all_goals cases h
/-- A size, limited; a dab, limited. -/
def sz1 (n : Int) : Int := min 1024 (max n 0)
theorem sz1_bd (n : Int) : 0 ≤ sz1 n ∧ sz1 n ≤ 1024 := by unfold sz1; omega
def lim (d : Dab) : Dab := ⟨co d.x, co d.y, sz1 d.sz, cl d.fl, d.an % 65536⟩
def dOk (d : Dab) : Bool := decide (d.x = co d.x ∧ d.y = co d.y ∧ d.sz = sz1 d.sz ∧ d.fl = cl d.fl ∧ d.an = d.an % 65536)
theorem dOk_lim {d : Dab} (h : dOk d = true) : lim d = d := by
  have h := of_decide_eq_true h
  cases d
  simp only [lim, Dab.mk.injEq]
  exact ⟨h.1.symm, h.2.1.symm, h.2.2.1.symm, h.2.2.2.1.symm, h.2.2.2.2.symm⟩
/-- The pixels of a dab. -/
def bxLo (x h : Int) : Int := max ((x - h) / 16) (-1048576)
def bxHi (x h : Int) : Int := min ((x + h) / 16) 1048575
def boxL (x y sz : Int) : Int × Int × Int × Int :=
  if bxHi x ((sz + 1) / 2) < bxLo x ((sz + 1) / 2) ∨ bxHi y ((sz + 1) / 2) < bxLo y ((sz + 1) / 2) then (0, 0, 0, 0)
  else (bxLo x ((sz + 1) / 2), bxLo y ((sz + 1) / 2), bxHi x ((sz + 1) / 2) - bxLo x ((sz + 1) / 2) + 1, bxHi y ((sz + 1) / 2) - bxLo y ((sz + 1) / 2) + 1)
def dbox (d : Dab) : Int × Int × Int × Int := boxL (co d.x) (co d.y) (sz1 d.sz)
/-- The distance of a place from the center of a dab, and what is covered there. -/
def cvP (u v s c : Int) : Int := dv (c * u + s * v) 65536
def cvQ (u v s c : Int) : Int := dv (c * v - s * u) 65536
def cvZ (q rn : Int) : Int := dv (65535 * max q (-q)) rn
def cvR (p z sz : Int) : Int := dv (65535 * hypot p z) (8 * sz)
def cvF (hd fl r : Int) : Int := if r ≤ hd then fl else if 65535 ≤ r then 0 else dv (fl * (65535 - r)) (65535 - hd)
def cvr (B : Bru) (d : Dab) (x y : Int) : Int :=
  if d.sz = 0 then 0 else
    cvF B.hd d.fl (cvR (cvP (16 * (16 * x + 8 - d.x)) (16 * (16 * y + 8 - d.y)) (tS (B.an + d.an)) (tC (B.an + d.an)))
      (cvZ (cvQ (16 * (16 * x + 8 - d.x)) (16 * (16 * y + 8 - d.y)) (tS (B.an + d.an)) (tC (B.an + d.an))) B.rn) d.sz)
def dcov (B : Bru) (d : Dab) (x y : Int) : Int := if bchk B = 0 then cvr B (lim d) (cc x) (cc y) else 0
theorem absmul (a b A B : Int) (h1 : -A ≤ a) (h2 : a ≤ A) (h3 : -B ≤ b) (h4 : b ≤ B) : -(A * B) ≤ a * b ∧ a * b ≤ A * B := by
  have e : ∀ p q : Int, 0 ≤ p → p ≤ A → 0 ≤ q → q ≤ B → 0 ≤ p * q ∧ p * q ≤ A * B := fun p q a1 a2 a3 a4 => ⟨Int.mul_nonneg a1 a3, Int.mul_le_mul a2 a4 a3 (by omega)⟩
  rcases Int.le_total 0 a with ha | ha <;> rcases Int.le_total 0 b with hb | hb
  · have := e a b ha h2 hb h4; omega
  · have := e a (-b) ha h2 (by omega) (by omega); rw [Int.mul_neg] at this; omega
  · have := e (-a) b (by omega) (by omega) hb h4; rw [Int.neg_mul] at this; omega
  · have := e (-a) (-b) (by omega) (by omega) (by omega) (by omega); rw [Int.neg_mul_neg] at this; omega
theorem rot_in (u v s c : Int) (hu : -536871040 ≤ u ∧ u ≤ 536871040) (hv : -536871040 ≤ v ∧ v ≤ 536871040) (hs : -65536 ≤ s ∧ s ≤ 65536) (hc : -65536 ≤ c ∧ c ≤ 65536) :
    (-35184380477440 ≤ c * u ∧ c * u ≤ 35184380477440) ∧ (-35184380477440 ≤ s * v ∧ s * v ≤ 35184380477440) := by
  have a1 := absmul c u 65536 536871040 (by omega) (by omega) (by omega) (by omega)
  have a2 := absmul s v 65536 536871040 (by omega) (by omega) (by omega) (by omega)
  omega
theorem dv_abs (a b M : Int) (hb : 0 < b) (h1 : -(M * b) ≤ a) (h2 : a ≤ M * b) : -M ≤ dv a b ∧ dv a b ≤ M :=
  ⟨dv_ge _ _ _ hb (by rw [Int.neg_mul]; exact h1), dv_le _ _ _ hb h2⟩
theorem cvP_bd (u v s c : Int) (hu : -536871040 ≤ u ∧ u ≤ 536871040) (hv : -536871040 ≤ v ∧ v ≤ 536871040) (hs : -65536 ≤ s ∧ s ≤ 65536) (hc : -65536 ≤ c ∧ c ≤ 65536) : -1073742080 ≤ cvP u v s c ∧ cvP u v s c ≤ 1073742080 := by
  have a := rot_in u v s c hu hv hs hc
  exact dv_abs _ _ _ (by omega) (by omega) (by omega)
theorem cvQ_bd (u v s c : Int) (hu : -536871040 ≤ u ∧ u ≤ 536871040) (hv : -536871040 ≤ v ∧ v ≤ 536871040) (hs : -65536 ≤ s ∧ s ≤ 65536) (hc : -65536 ≤ c ∧ c ≤ 65536) : -1073742080 ≤ cvQ u v s c ∧ cvQ u v s c ≤ 1073742080 := by
  have a := rot_in v u s c hv hu hs hc
  exact dv_abs _ _ _ (by omega) (by omega) (by omega)
theorem cvZ_bd (q rn : Int) (hq : -1073742080 ≤ q ∧ q ≤ 1073742080) (hr : 4096 ≤ rn) : 0 ≤ cvZ q rn ∧ cvZ q rn ≤ 17179611137 := by
  refine ⟨dv_nonneg _ _ (by omega) (by omega), dv_le _ _ _ (by omega) ?_⟩
  have := Int.mul_le_mul_of_nonneg_left hr (show (0 : Int) ≤ 17179611137 by omega)
  omega
theorem cvH_bd (p z : Int) (hp : -1073742080 ≤ p ∧ p ≤ 1073742080) (hz : 0 ≤ z ∧ z ≤ 17179611137) : 0 ≤ hypot p z ∧ hypot p z ≤ 34359222274 :=
  hyp_bd p z 17179611137 (by omega) (by omega) (by omega) (by omega)
theorem cvR_bd (p z sz : Int) (hs : 0 < sz) : 0 ≤ cvR p z sz := by
  have := hypot_nonneg p z
  exact dv_nonneg _ _ (by omega) (by omega)
theorem cvF_in (hd fl r : Int) (h0 : 0 ≤ hd) (h1 : hd < r) (h2 : r < 65535) (hf : 0 ≤ fl ∧ fl ≤ 65535) : 0 ≤ fl * (65535 - r) ∧ fl * (65535 - r) ≤ fl * (65535 - hd) ∧ fl * (65535 - hd) ≤ 4294836225 := by
  refine ⟨Int.mul_nonneg hf.1 (by omega), Int.mul_le_mul_of_nonneg_left (by omega) hf.1, ?_⟩
  have := Int.mul_le_mul hf.2 (show 65535 - hd ≤ 65535 by omega) (by omega) (by omega)
  omega
theorem cvF_bd (hd fl r : Int) (h0 : 0 ≤ hd) (hf : 0 ≤ fl ∧ fl ≤ 65535) : 0 ≤ cvF hd fl r ∧ cvF hd fl r ≤ fl := by
  unfold cvF
  split
  · omega
  · split
    · omega
    · have h := cvF_in hd fl r h0 (by omega) (by omega) hf
      exact ⟨dv_nonneg _ _ (by omega) h.1, dv_le _ _ _ (by omega) h.2.1⟩
theorem cvr_bd (B : Bru) (d : Dab) (x y : Int) (h0 : 0 ≤ B.hd) (hf : 0 ≤ d.fl ∧ d.fl ≤ 65535) : 0 ≤ cvr B d x y ∧ cvr B d x y ≤ d.fl := by
  unfold cvr
  split
  · omega
  · exact cvF_bd _ _ _ h0 hf
end Go.Proofs.YtflegfoalkkkdaaDoor
