/- One more element of brush dynamics, plainly. -/
import Derived.Test.YtjaidcdkkgnfoaaLPlain
namespace Go.Proofs.Ytjaidcdkkgnfoaa
set_option linter.unusedVariables false

theorem getD_snoc {α : Type} (ds : List α) (x z : α) (i : Nat) : (ds ++ [x]).getD i z = if i < ds.length then ds.getD i z else if i = ds.length then x else z := by
  by_cases h : i < ds.length
  · rw [if_pos h, List.getD_eq_getElem?_getD, List.getElem?_append_left h, List.getD_eq_getElem?_getD]
  · rw [if_neg h]
    by_cases h2 : i = ds.length
    · subst h2; simp [List.getD]
    · rw [if_neg h2, List.getD_eq_getElem?_getD, List.getElem?_eq_none (by simp; omega)]
      rfl
theorem dbad_old (ds : Dyns) (d : Int × Int × Knots) (i : Nat) (h : i < ds.length) : dbad (ds ++ [d]) i = dbad ds i := by
  unfold dbad dT dS dC
  rw [getD_snoc, if_pos h]
def dbad1 (d : Int × Int × Knots) : Int := if d.1 < 1 then 8 else if 4 < d.1 then 8 else if d.2.1 < 1 then 8 else if 5 < d.2.1 then 8 else kchk d.2.2
theorem dbad_new (ds : Dyns) (d : Int × Int × Knots) : dbad (ds ++ [d]) ds.length = dbad1 d := by
  unfold dbad dT dS dC dbad1
  rw [getD_snoc, if_neg (Nat.lt_irrefl _), if_pos rfl]
theorem dchk_iff (ds : Dyns) : dchk ds = 0 ↔ ds.length ≤ 8 ∧ ∀ i, i < ds.length → dbad ds i = 0 := by
  unfold dchk
  constructor
  · intro h
    split at h
    · cases h
    · exact ⟨by omega, fun i hi => ferr_zero _ _ _ h i (by omega) (by omega)⟩
  · rintro ⟨h1, h2⟩
    rw [if_neg (by omega)]
    exact ferr_of _ _ _ (fun j h3 h4 => h2 j (by omega))
theorem dchk_snoc (ds : Dyns) (d : Int × Int × Knots) : dchk (ds ++ [d]) = 0 ↔ dchk ds = 0 ∧ ds.length < 8 ∧ dbad1 d = 0 := by
  rw [dchk_iff, dchk_iff]
  simp only [List.length_append, List.length_cons, List.length_nil]
  constructor
  · rintro ⟨h1, h2⟩
    refine ⟨⟨by omega, fun i hi => ?_⟩, by omega, ?_⟩
    · rw [← dbad_old ds d i hi]; exact h2 i (by omega)
    · rw [← dbad_new ds d]; exact h2 _ (by omega)
  · rintro ⟨⟨h1, h2⟩, h3, h4⟩
    refine ⟨by omega, fun i hi => ?_⟩
    by_cases h : i < ds.length
    · rw [dbad_old ds d i h]; exact h2 i h
    · obtain rfl : i = ds.length := by omega
      rw [dbad_new]; exact h4
theorem dfrom_last (ds : Dyns) (t : Int) (f : Int → Int) : ∀ (m i : Nat) (v : Int), dfrom ds t f (m + 1) i v = dstep ds t f (i + m) (dfrom ds t f m i v)
  | 0, i, v => rfl
  | m + 1, i, v => by
    show dfrom ds t f (m + 1) (i + 1) (dstep ds t f i v) = dstep ds t f (i + (m + 1)) (dfrom ds t f m (i + 1) (dstep ds t f i v))
    rw [dfrom_last ds t f m (i + 1), show i + 1 + m = i + (m + 1) by omega]
theorem dfrom_old (ds : Dyns) (d : Int × Int × Knots) (t : Int) (f : Int → Int) : ∀ (m i : Nat) (v : Int), i + m ≤ ds.length → dfrom (ds ++ [d]) t f m i v = dfrom ds t f m i v
  | 0, i, v, _ => rfl
  | m + 1, i, v, h => by
    have e : dstep (ds ++ [d]) t f i v = dstep ds t f i v := by
      unfold dstep dT dC dS
      rw [getD_snoc, if_pos (show i < ds.length by omega)]
    show dfrom (ds ++ [d]) t f m (i + 1) (dstep (ds ++ [d]) t f i v) = dfrom ds t f m (i + 1) (dstep ds t f i v)
    rw [e, dfrom_old ds d t f m (i + 1) _ (by omega)]
def dstep1 (d : Int × Int × Knots) (t : Int) (f : Int → Int) (v : Int) : Int := if d.1 = t then dv (cl v * cl (kat d.2.2 (f d.2.1))) 65535 else v
theorem dvalue_snoc (ds : Dyns) (d : Int × Int × Knots) (t : Int) (f : Int → Int) (h : dchk (ds ++ [d]) = 0) : dvalue (ds ++ [d]) t f = dstep1 d t f (dvalue ds t f) := by
  have h2 := (dchk_snoc ds d).1 h
  unfold dvalue
  rw [if_pos h, if_pos h2.1]
  rw [show (ds ++ [d]).length - 0 = ds.length + 1 by simp, dfrom_last, dfrom_old ds d t f _ _ _ (by omega), Nat.zero_add, Nat.sub_zero]
  unfold dstep dstep1 dT dC dS
  rw [getD_snoc, if_neg (Nat.lt_irrefl _), if_pos rfl]
theorem dvalue_in (ds : Dyns) (target : Int) (f : Int → Int) : 0 ≤ dvalue ds target f ∧ dvalue ds target f ≤ 65535 := by
  have go : ∀ (m i : Nat) (v : Int), 0 ≤ v ∧ v ≤ 65535 → 0 ≤ dfrom ds target f m i v ∧ dfrom ds target f m i v ≤ 65535 := by
    intro m
    induction m with
    | zero => intro i v h; exact h
    | succ m ih => intro i v h; exact ih (i + 1) _ (dstep_bd ds target f i v h)
  unfold dvalue
  split
  · exact go _ _ _ (by omega)
  · omega
def unitK : Knots := [(0, 65535), (1, 65535)]
theorem unitK_chk : kchk unitK = 0 := by decide
theorem unitK_at (x : Int) : kat unitK x = 65535 := by
  unfold kat
  rw [if_pos unitK_chk]
  unfold kval
  by_cases h : x ≤ kX unitK 0
  · rw [if_pos h]; rfl
  · rw [if_neg h]
    have h' : ¬ x ≤ 0 := h
    show (if x < 1 then _ else (65535 : Int)) = 65535
    rw [if_neg (by omega)]
theorem dbad1_unit {d : Int × Int × Knots} (h : dbad1 d = 0) : dbad1 (d.1, d.2.1, unitK) = 0 := by
  unfold dbad1 at *
  simp only
  repeat' split at h
  all_goals first | (exfalso; omega) | skip
  rename_i a b c e
  rw [if_neg a, if_neg b, if_neg c, if_neg e]
  exact unitK_chk
theorem dvalue_unit (ds : Dyns) (d : Int × Int × Knots) (t : Int) (f : Int → Int) (h : dchk (ds ++ [d]) = 0) : dvalue (ds ++ [(d.1, d.2.1, unitK)]) t f = dvalue ds t f := by
  have h2 := (dchk_snoc ds d).1 h
  have h3 := (dchk_snoc ds (d.1, d.2.1, unitK)).2 ⟨h2.1, h2.2.1, dbad1_unit h2.2.2⟩
  rw [dvalue_snoc _ _ _ _ h3]
  unfold dstep1
  have hb := dvalue_in ds t f
  split
  · simp only
    rw [unitK_at, cl_id _ hb.1 hb.2, show cl 65535 = 65535 from rfl]
    exact dv_mul _ _ (by omega)
  · rfl
end Go.Proofs.Ytjaidcdkkgnfoaa

