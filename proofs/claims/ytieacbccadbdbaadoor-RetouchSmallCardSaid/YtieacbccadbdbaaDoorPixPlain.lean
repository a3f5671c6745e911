/- Plain laws of pixels: premultiplying and back, mixing, distances. No program in sight. -/
import Derived.Test.YtieacbccadbdbaaDoorLPix
namespace Go.Proofs.YtieacbccadbdbaaDoor
set_option linter.unusedVariables false

theorem stC_id (x a : Int) (hx : 0 ≤ x ∧ x ≤ 65535) (ha : 1 ≤ a ∧ a ≤ 65535) :
    stC (dv (cl x * cl a) 65535) a = min 65535 (dv (dv (x * a) 65535 * 65535) a) := by
  have m := mul_unit_bd _ _ hx.1 hx.2 (show 0 ≤ a by omega) ha.2
  have h0 := dv_nonneg (x * a) 65535 (by omega) m.1
  have h1 := dv_le (x * a) 65535 65535 (by omega) (by
    have := Int.mul_le_mul hx.2 ha.2 (by omega) (by omega)
    omega)
  unfold stC
  rw [cl_id x hx.1 hx.2, cl_id a (by omega) ha.2, cl_id _ h0 h1]

/-- What straightening a premultiplied value gives. -/
def sp (x a : Int) : Int := min 65535 (dv (dv (x * a) 65535 * 65535) a)

theorem sp_bd (x a : Int) (hx : 0 ≤ x ∧ x ≤ 65535) (ha : 1 ≤ a ∧ a ≤ 65535) : 0 ≤ sp x a ∧ sp x a ≤ 65535 := by
  have m := mul_unit_bd _ _ hx.1 hx.2 (show 0 ≤ a by omega) ha.2
  have h0 := dv_nonneg (x * a) 65535 (by omega) m.1
  have h1 := dv_nonneg (dv (x * a) 65535 * 65535) a (by omega) (by omega)
  unfold sp
  omega

theorem sp_opaque (x : Int) (hx : 0 ≤ x ∧ x ≤ 65535) : sp x 65535 = x := by
  unfold sp
  rw [dv_mul x 65535 (by omega), dv_mul x 65535 (by omega)]
  omega

theorem sp_near (x a : Int) (hx : 0 ≤ x ∧ x ≤ 65535) (ha : 1 ≤ a ∧ a ≤ 65535) : x - sp x a ≤ (65535 + a) / (2 * a) ∧ sp x a - x ≤ (65535 + a) / (2 * a) := by
  have s1 := dv_spec (x * a) 65535 (by omega)
  generalize hm : dv (x * a) 65535 = m at s1
  have s2 := dv_spec (m * 65535) a (by omega)
  have hsp : sp x a = min 65535 (dv (m * 65535) a) := by unfold sp; rw [hm]
  generalize dv (m * 65535) a = q at s2 hsp
  have e1 : 2 * a * q = 2 * (a * q) := Int.mul_assoc _ _ _
  have e2 : 2 * (m * 65535) = 131070 * m := by omega
  have up : q - x ≤ (65535 + a) / (2 * a) := by
    rw [Int.le_ediv_iff_mul_le (by omega)]
    have : (q - x) * (2 * a) = 2 * (a * q) - 2 * (x * a) := by
      rw [Int.sub_mul, ← Int.mul_assoc q, Int.mul_comm q 2, Int.mul_assoc 2 q a, Int.mul_comm q a, ← Int.mul_assoc x, Int.mul_comm x 2, Int.mul_assoc 2 x a]
    omega
  have lo : x - q ≤ (65535 + a) / (2 * a) := by
    rw [Int.le_ediv_iff_mul_le (by omega)]
    have : (x - q) * (2 * a) = 2 * (x * a) - 2 * (a * q) := by
      rw [Int.sub_mul, ← Int.mul_assoc q, Int.mul_comm q 2, Int.mul_assoc 2 q a, Int.mul_comm q a, ← Int.mul_assoc x, Int.mul_comm x 2, Int.mul_assoc 2 x a]
    omega
  have hn : 0 ≤ (65535 + a) / (2 * a) := Int.ediv_nonneg (by omega) (by omega)
  omega

/-- Mixing, of limited values. -/
def mU (a t : Int) : Int := a * (65535 - t)
def mV (a t : Int) : Int := a * t
def mA (a a' t : Int) : Int := dv (mU a t + mV a' t) 65535
def mC (x x' a a' t : Int) : Int := dv (x * mU a t + x' * mV a' t) (mU a t + mV a' t)

theorem mx_lim (x x' a a' t : Int) : mxC (cl x) (cl x') (cl a) (cl a') (cl t) = mC (cl x) (cl x') (cl a) (cl a') (cl t) ∧ mxA (cl a) (cl a') (cl t) = mA (cl a) (cl a') (cl t) := by
  unfold mxC mxA mxU mxV mC mA mU mV
  simp only [cl_cl]
  exact ⟨trivial, trivial⟩

theorem m_bounds (a a' t : Int) (ha : 1 ≤ a ∧ a ≤ 65535) (ha' : 1 ≤ a' ∧ a' ≤ 65535) (ht : 0 ≤ t ∧ t ≤ 65535) :
    0 ≤ mU a t ∧ 0 ≤ mV a' t ∧ min a a' * 65535 ≤ mU a t + mV a' t ∧ mU a t + mV a' t ≤ max a a' * 65535 ∧ 65535 ≤ mU a t + mV a' t := by
  have h1 : 0 ≤ mU a t := Int.mul_nonneg (by omega) (by omega)
  have h2 : 0 ≤ mV a' t := Int.mul_nonneg (by omega) (by omega)
  have l1 : min a a' * (65535 - t) ≤ mU a t := Int.mul_le_mul_of_nonneg_right (by omega) (by omega)
  have l2 : min a a' * t ≤ mV a' t := Int.mul_le_mul_of_nonneg_right (by omega) (by omega)
  have u1 : mU a t ≤ max a a' * (65535 - t) := Int.mul_le_mul_of_nonneg_right (by omega) (by omega)
  have u2 : mV a' t ≤ max a a' * t := Int.mul_le_mul_of_nonneg_right (by omega) (by omega)
  have e1 : min a a' * (65535 - t) + min a a' * t = min a a' * 65535 := by rw [← Int.mul_add]; congr 1; omega
  have e2 : max a a' * (65535 - t) + max a a' * t = max a a' * 65535 := by rw [← Int.mul_add]; congr 1; omega
  refine ⟨h1, h2, by omega, by omega, ?_⟩
  have : 1 * 65535 ≤ min a a' * 65535 := Int.mul_le_mul_of_nonneg_right (by omega) (by omega)
  omega

theorem mA_between (a a' t : Int) (ha : 1 ≤ a ∧ a ≤ 65535) (ha' : 1 ≤ a' ∧ a' ≤ 65535) (ht : 0 ≤ t ∧ t ≤ 65535) : min a a' ≤ mA a a' t ∧ mA a a' t ≤ max a a' := by
  have h := m_bounds a a' t ha ha' ht
  exact ⟨dv_ge _ _ _ (by omega) h.2.2.1, dv_le _ _ _ (by omega) h.2.2.2.1⟩

theorem mC_between (x x' a a' t : Int) (ha : 1 ≤ a ∧ a ≤ 65535) (ha' : 1 ≤ a' ∧ a' ≤ 65535) (ht : 0 ≤ t ∧ t ≤ 65535) : min x x' ≤ mC x x' a a' t ∧ mC x x' a a' t ≤ max x x' := by
  have h := m_bounds a a' t ha ha' ht
  generalize hu : mU a t = u at h
  generalize hv : mV a' t = v at h
  unfold mC
  rw [hu, hv]
  have l1 : min x x' * u ≤ x * u := Int.mul_le_mul_of_nonneg_right (by omega) h.1
  have l2 : min x x' * v ≤ x' * v := Int.mul_le_mul_of_nonneg_right (by omega) h.2.1
  have u1 : x * u ≤ max x x' * u := Int.mul_le_mul_of_nonneg_right (by omega) h.1
  have u2 : x' * v ≤ max x x' * v := Int.mul_le_mul_of_nonneg_right (by omega) h.2.1
  refine ⟨dv_ge _ _ _ (by omega) ?_, dv_le _ _ _ (by omega) ?_⟩
  · rw [Int.mul_add]; omega
  · rw [Int.mul_add]; omega

theorem mC_self (x a t : Int) (ha : 1 ≤ a ∧ a ≤ 65535) (ht : 0 ≤ t ∧ t ≤ 65535) : mC x x a a t = x := by
  have h := mC_between x x a a t ha ha ht
  omega
theorem mA_self (a t : Int) (ha : 1 ≤ a ∧ a ≤ 65535) (ht : 0 ≤ t ∧ t ≤ 65535) : mA a a t = a := by
  have h := mA_between a a t ha ha ht
  omega
theorem mA_zero (a a' : Int) : mA a a' 0 = a := by
  unfold mA mU mV
  rw [Int.mul_zero, Int.add_zero, Int.sub_zero]
  exact dv_mul a 65535 (by omega)
theorem mA_one (a a' : Int) : mA a a' 65535 = a' := by
  unfold mA mU mV
  rw [Int.sub_self, Int.mul_zero, Int.zero_add]
  exact dv_mul a' 65535 (by omega)
theorem mC_zero (x x' a a' : Int) (ha : 1 ≤ a) : mC x x' a a' 0 = x := by
  unfold mC mU mV
  rw [Int.mul_zero, Int.add_zero, Int.sub_zero, Int.mul_zero, Int.add_zero]
  exact dv_mul x (a * 65535) (by omega)
theorem mC_one (x x' a a' : Int) (ha : 1 ≤ a') : mC x x' a a' 65535 = x' := by
  unfold mC mU mV
  rw [Int.sub_self, Int.mul_zero, Int.zero_add, Int.mul_zero, Int.zero_add]
  exact dv_mul x' (a' * 65535) (by omega)
theorem m_swap (x x' a a' t : Int) : mC x' x a' a (65535 - t) = mC x x' a a' t ∧ mA a' a (65535 - t) = mA a a' t := by
  have e : 65535 - (65535 - t) = t := by omega
  unfold mC mA mU mV
  rw [e, Int.add_comm (a' * t), Int.add_comm (x' * (a' * t))]
  exact ⟨rfl, rfl⟩
end Go.Proofs.YtieacbccadbdbaaDoor

