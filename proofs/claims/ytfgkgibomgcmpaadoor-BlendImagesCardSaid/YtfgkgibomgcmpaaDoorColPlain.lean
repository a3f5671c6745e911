/- Plain functions for colors of three channels. -/
import Derived.Test.YtfgkgibomgcmpaaDoorBlendPlain
namespace Go.Proofs.YtfgkgibomgcmpaaDoor
set_option linter.unusedVariables false

def U (x : Int) : Prop := 0 ≤ x ∧ x ≤ 65535
def lumU (a b c : Int) : Int := dv (30 * a + 59 * b + 11 * c) 100
theorem lumU_bd (a b c : Int) (ha : U a) (hb : U b) (hc : U c) : U (lumU a b c) := by
  unfold U at *
  exact ⟨dv_nonneg _ _ (by omega) (by omega), dv_le _ _ _ (by omega) (by omega)⟩
def mn3 (a b c : Int) : Int := min (min a b) c
def mx3 (a b c : Int) : Int := max (max a b) c
/-- One channel of a color with another saturation. -/
def ssC (s n x c : Int) : Int := if x = n then 0 else dv ((c - n) * s) (x - n)
theorem ssC_bd (s n x c : Int) (hs : U s) (h1 : n ≤ c) (h2 : c ≤ x) : U (ssC s n x c) := by
  unfold U at *
  unfold ssC
  split
  · omega
  · have a1 : 0 ≤ (c - n) * s := Int.mul_nonneg (by omega) hs.1
    have a2 : (c - n) * s ≤ (x - n) * s := Int.mul_le_mul_of_nonneg_right (by omega) hs.1
    have a3 := dv_nonneg _ (x - n) (by omega) a1
    have a4 := dv_le ((c - n) * s) (x - n) s (by omega) (by rw [Int.mul_comm s]; exact a2)
    omega
def slA (n l c : Int) : Int := l + dv ((c - l) * l) (l - n)
def slB (x l c : Int) : Int := l + dv ((c - l) * (65535 - l)) (x - l)
/-- One channel of a color with another luminosity. -/
def slC (n x l c : Int) : Int := cl (if 65535 < x then slB x l (if n < 0 then slA n l c else c) else (if n < 0 then slA n l c else c))
/-- One channel v of the color (a, b, c) with the luminosity l. -/
def slF (a b c l v : Int) : Int := slC (mn3 (a + (l - lumU a b c)) (b + (l - lumU a b c)) (c + (l - lumU a b c))) (mx3 (a + (l - lumU a b c)) (b + (l - lumU a b c)) (c + (l - lumU a b c))) l (v + (l - lumU a b c))
theorem slF_eq (a b c l v : Int) : slF a b c l v = cl (if 65535 < mx3 (a + (l - lumU a b c)) (b + (l - lumU a b c)) (c + (l - lumU a b c)) then slB (mx3 (a + (l - lumU a b c)) (b + (l - lumU a b c)) (c + (l - lumU a b c))) l (if mn3 (a + (l - lumU a b c)) (b + (l - lumU a b c)) (c + (l - lumU a b c)) < 0 then slA (mn3 (a + (l - lumU a b c)) (b + (l - lumU a b c)) (c + (l - lumU a b c))) l (v + (l - lumU a b c)) else v + (l - lumU a b c)) else (if mn3 (a + (l - lumU a b c)) (b + (l - lumU a b c)) (c + (l - lumU a b c)) < 0 then slA (mn3 (a + (l - lumU a b c)) (b + (l - lumU a b c)) (c + (l - lumU a b c))) l (v + (l - lumU a b c)) else v + (l - lumU a b c))) := rfl
theorem slF_bd (a b c l v : Int) : U (slF a b c l v) := cl_bd _
theorem dv_abs (a b : Int) (hb : 0 < b) (M : Int) (h1 : -M ≤ a) (h2 : a ≤ M) (hM : 0 ≤ M) : -M ≤ dv a b ∧ dv a b ≤ M := by
  have e1 : a ≤ M * b := by
    have := Int.mul_le_mul_of_nonneg_left (show 1 ≤ b by omega) hM
    omega
  have e2 : -M * b ≤ a := by
    have := Int.mul_le_mul_of_nonneg_left (show 1 ≤ b by omega) hM
    rw [Int.neg_mul]
    omega
  exact ⟨dv_ge _ _ _ hb e2, dv_le _ _ _ hb e1⟩
theorem prod_bd (a b A : Int) (h1 : -A ≤ a) (h2 : a ≤ A) (hb : 0 ≤ b ∧ b ≤ 65535) (hA : 0 ≤ A) : -(A * 65535) ≤ a * b ∧ a * b ≤ A * 65535 := by
  have h3 : a * b ≤ A * b := Int.mul_le_mul_of_nonneg_right h2 hb.1
  have h4 : A * b ≤ A * 65535 := Int.mul_le_mul_of_nonneg_left hb.2 hA
  have h5 : -A * b ≤ a * b := Int.mul_le_mul_of_nonneg_right h1 hb.1
  rw [Int.neg_mul] at h5
  omega
/-- The bounds of the two steps. -/
theorem slA_bd (n l c : Int) (hl : 0 ≤ l ∧ l ≤ 65535) (hn : n < 0) (h1 : -65535 ≤ c) (h2 : c ≤ 131070) :
    -12884508675 ≤ (c - l) * l ∧ (c - l) * l ≤ 12884508675 ∧ -12884508675 ≤ dv ((c - l) * l) (l - n) ∧ dv ((c - l) * l) (l - n) ≤ 12884508675 := by
  have b1 := prod_bd (c - l) l 196605 (by omega) (by omega) hl (by omega)
  have b2 := dv_abs ((c - l) * l) (l - n) (by omega) 12884508675 (by omega) (by omega) (by omega)
  omega
theorem slB_bd (x l c : Int) (hl : 0 ≤ l ∧ l ≤ 65535) (hx : 65535 < x) (h1 : -12884508675 ≤ c) (h2 : c ≤ 12884574210) :
    -1000000000000000 ≤ (c - l) * (65535 - l) ∧ (c - l) * (65535 - l) ≤ 1000000000000000 ∧ -1000000000000000 ≤ dv ((c - l) * (65535 - l)) (x - l) ∧ dv ((c - l) * (65535 - l)) (x - l) ≤ 1000000000000000 := by
  have b1 := prod_bd (c - l) (65535 - l) 12884574210 (by omega) (by omega) (by omega) (by omega)
  have b2 := dv_abs ((c - l) * (65535 - l)) (x - l) (by omega) 1000000000000000 (by omega) (by omega) (by omega)
  omega
end Go.Proofs.YtfgkgibomgcmpaaDoor
