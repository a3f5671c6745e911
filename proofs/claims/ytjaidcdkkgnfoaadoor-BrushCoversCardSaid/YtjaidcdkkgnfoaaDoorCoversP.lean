/- The coverage of a stroke is at most the opacity and at least that of the first dab, plainly. -/
import Derived.Test.YtjaidcdkkgnfoaaDoorStrkPlain
import Derived.Test.YtjaidcdkkgnfoaaDoorBeginsP
import Derived.Test.YtjaidcdkkgnfoaaDoorMaskP
namespace Go.Proofs.YtjaidcdkkgnfoaaDoor
set_option linter.unusedVariables false

theorem dabs_one {B : Bru} {ls : List Smp} (h : (dabs B ls).2 = 0) : (dabs B (ls.take 1)).2 = 0 ∧ (dabs B (ls.take 1)).1 = [dab0 B ls] ∧ 1 ≤ ls.length := by
  obtain ⟨h0, hs, _⟩ := dabs_ok h
  have hl1 := (schk_ok hs).1
  have ht := schk_take hs 1 (by omega) hl1
  have hl : (ls.take 1).length = 1 := by simp; omega
  have e0 : dab0 B (ls.take 1) = dab0 B ls := by unfold dab0; rw [smAt_take ls 1 0 (by omega)]
  have e1 : stroke B (ls.take 1) = some [dab0 B ls] := by
    unfold stroke
    rw [hl, e0]
    rfl
  unfold dabs
  rw [if_pos h0, if_pos ht, e1]
  exact ⟨rfl, rfl, hl1⟩
theorem cfold_ge (B : Bru) (ds : List Dab) (d : Dab) (x y : Int) (hp : [d] <+: ds) : dcov B d x y ≤ cfold B ds x y 0 := by
  obtain ⟨r, rfl⟩ := hp
  have hd := dcov_unit B d x y
  have e : cfold B ([d] ++ r) x y 0 = cfold B r x y (cst 0 (dcov B d x y)) := rfl
  rw [e, cst_first _ hd]
  exact (cfold_bd B x y r _ hd).1
theorem cfold_one (B : Bru) (d : Dab) (x y : Int) : cfold B [d] x y 0 = dcov B d x y := by
  have e : cfold B [d] x y 0 = cst 0 (dcov B d x y) := rfl
  rw [e, cst_first _ (dcov_unit B d x y)]
/-- What BrushCovers asks of pixel k. -/
theorem covers_at {B : Bru} {ls : List Smp} (h : (dabs B ls).2 = 0) (W k : Nat) :
    cout B [dab0 B ls] W k = dv (cl (dcov B (dab0 B ls) ((k % W : Nat) : Int) ((k / W : Nat) : Int)) * cl B.op) 65535 ∧ cout B (dabs B ls).1 W k ≤ B.op ∧
    dv (cl (dcov B (dab0 B ls) ((k % W : Nat) : Int) ((k / W : Nat) : Int)) * cl B.op) 65535 ≤ cout B (dabs B ls).1 W k := by
  obtain ⟨h0, _, _, _, _, hp⟩ := dabs_ok h
  have hb := bchk_ok h0
  refine ⟨?_, ?_, ?_⟩
  · unfold cout cpix
    rw [cfold_one]
  · have := (mulU_le (cpix B (dabs B ls).1 W k) B.op).2.2
    rw [cl_id B.op hb.2.2.2.1.1 hb.2.2.2.1.2] at this
    unfold cout
    rw [cl_id B.op hb.2.2.2.1.1 hb.2.2.2.1.2]
    exact this
  · unfold cout cpix
    exact mulU_mono _ _ _ (cfold_ge B _ _ _ _ hp)
theorem couts_mchk (B : Bru) (ds : List Dab) (W H : Nat) (hW : 1 ≤ W ∧ W ≤ 256) (hH : 1 ≤ H ∧ H ≤ 256) : mchk W H (couts B ds W H) = 0 := by
  rw [mchk_good (by omega) (by omega) (by omega) (by omega) (by omega) (by rw [couts_len]; exact Int.natCast_mul W H)]
  refine ferr_of _ _ _ (fun j _ hj => ?_)
  rw [couts_len] at hj
  unfold mbad
  rw [couts_at _ _ _ _ _ (by omega), if_pos (cout_bd _ _ _ _)]
end Go.Proofs.YtjaidcdkkgnfoaaDoor

