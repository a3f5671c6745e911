/- The coverage of a stroke, or the error, plainly. -/
import Derived.Test.YtjaidcdkkgnfoaaDoorStrokeP
import Derived.Test.YtjaidcdkkgnfoaaDoorCovRow
namespace Go.Proofs.YtjaidcdkkgnfoaaDoor
set_option linter.unusedVariables false

/-- What Stroke gives: the mask's size, the error, the mask's values. -/
def StrkOut (B : Bru) (ls : List Smp) (W H Wm Hm E : Int) (zs : List Int) : Prop :=
  ((dabs B ls).2 ≠ 0 ∧ Wm = 0 ∧ Hm = 0 ∧ E = (dabs B ls).2 ∧ zs = []) ∨
  ((dabs B ls).2 = 0 ∧ (W < 1 ∨ 256 < W ∨ H < 1 ∨ 256 < H) ∧ Wm = 0 ∧ Hm = 0 ∧ E = 15 ∧ zs = []) ∨
  ((dabs B ls).2 = 0 ∧ (1 ≤ W ∧ W ≤ 256 ∧ 1 ≤ H ∧ H ≤ 256) ∧ Wm = W ∧ Hm = H ∧ E = 0 ∧ zs = couts B (dabs B ls).1 W.toNat H.toNat)
theorem strk_out (B : Bru) (ls : List Smp) (W H : Int) : ∃ Wm Hm E zs, StrkOut B ls W H Wm Hm E zs := by
  by_cases h : (dabs B ls).2 = 0
  · by_cases h2 : W < 1 ∨ 256 < W ∨ H < 1 ∨ 256 < H
    · exact ⟨0, 0, 15, [], .inr (.inl ⟨h, h2, rfl, rfl, rfl, rfl⟩)⟩
    · exact ⟨W, H, 0, _, .inr (.inr ⟨h, by omega, rfl, rfl, rfl, rfl⟩)⟩
  · exact ⟨0, 0, _, [], .inl ⟨h, rfl, rfl, rfl, rfl⟩⟩
theorem cf_succ (B : Bru) (ds : List Dab) (x y : Int) (k : Nat) (hk : k < ds.length) : cfold B (ds.take (k + 1)) x y 0 = cst (cfold B (ds.take k) x y 0) (dcov B (dbAt ds k) x y) := by
  have e : ds.take (k + 1) = ds.take k ++ [dbAt ds k] := by
    rw [List.take_add_one, List.getElem?_eq_getElem hk]
    unfold dbAt
    rw [List.getD_eq_getElem?_getD, List.getElem?_eq_getElem hk]
    rfl
  rw [e, cfold_snoc]
theorem cf_bd (B : Bru) (ds : List Dab) (x y : Int) (k : Nat) : 0 ≤ cfold B (ds.take k) x y 0 ∧ cfold B (ds.take k) x y 0 ≤ 65535 := by
  have := cfold_bd B x y (ds.take k) 0 (by omega)
  omega
theorem cf_end (B : Bru) (ds : List Dab) (x y : Int) : cfold B (ds.take ds.length) x y 0 = cfold B ds x y 0 := by rw [List.take_length]
theorem cout_eq (B : Bru) (ds : List Dab) (W k j : Nat) (hj : j < W) : cout B ds W (k * W + j) = dv (cl (cfold B ds (j : Int) (k : Int) 0) * cl B.op) 65535 := by
  have e1 : (k * W + j) % W = j := by rw [Nat.mul_comm, Nat.mul_add_mod]; exact Nat.mod_eq_of_lt hj
  have e2 : (k * W + j) / W = k := by rw [Nat.mul_comm, Nat.mul_add_div (by omega)]; rw [Nat.div_eq_of_lt hj]; omega
  unfold cout cpix
  rw [e1, e2]
end Go.Proofs.YtjaidcdkkgnfoaaDoor

