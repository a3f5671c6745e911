/- Plain functions for the texts of pixels. -/
import Derived.Test.YtmkieeaikhndcaaNumPlain
namespace Go.Proofs.Ytmkieeaikhndcaa
set_option linter.unusedVariables false

/-- The value of a hexadecimal digit, or -1. -/
def dg (c : Int) : Int := if 48 ≤ c ∧ c ≤ 57 then c - 48 else if 97 ≤ c ∧ c ≤ 102 then c - 87 else if 65 ≤ c ∧ c ≤ 70 then c - 55 else -1
theorem dg_bd (c : Int) : -1 ≤ dg c ∧ dg c ≤ 15 := by
  unfold dg
  repeat' split
  all_goals omega
/-- The digits of a text, each twice in the short form. -/
def dgs (four : Bool) : List UInt8 → List Int
  | [] => []
  | c :: r => (if four then [dg c.toNat, dg c.toNat] else [dg c.toNat]) ++ dgs four r
theorem dgs_append (four : Bool) (a b : List UInt8) : dgs four (a ++ b) = dgs four a ++ dgs four b := by
  induction a with
  | nil => rfl
  | cons c r ih => simp [dgs, ih]
theorem dgs_length (four : Bool) (a : List UInt8) : (dgs four a).length = (if four then 2 else 1) * a.length := by
  induction a with
  | nil => simp [dgs]
  | cons c r ih => cases four <;> simp [dgs] at ih ⊢ <;> omega
/-- What an index of the digits reads as. -/
def pad (l : List Int) : List Int := if l.length = 6 then l ++ [15, 15] else l
def ch8 (l : List Int) (i : Nat) : Int := 257 * min 255 (max (16 * (l.getD (2 * i) 0) + l.getD (2 * i + 1) 0) 0)
end Go.Proofs.Ytmkieeaikhndcaa
