/- What Clone and Smudge leave as it was, plainly; rect.Has by the program. -/
import Derived.Test.YtieacbccadbdbaaDoorHealP
import Derived.Test.YtieacbccadbdbaaDoorKeepsP
import Derived.Test.YtieacbccadbdbaaDoorLCovR
import Derived.Test.YtieacbccadbdbaaDoorLRect
import Derived.Deep.Cut
namespace Go.Proofs.YtieacbccadbdbaaDoor
open Go.RowKit
set_option linter.unusedVariables false
attribute [local go_sem] Oper.gAt gUponK Oper.sAt stilK

/-- No dab covers, or the selection is 0. -/
def outK (ds : List Dab) (W : Nat) (sw : Int) (zs : List Int) (k : Nat) : Prop := (sw ≠ 0 ∧ zs.getD k 0 = 0) ∨ ¬ hasR (bbox ds).1 (bbox ds).2.1 (bbox ds).2.2.1 (bbox ds).2.2.2 ((k % W : Nat) : Int) ((k / W : Nat) : Int)
theorem selK_zero {sw : Int} {zs : List Int} {k : Nat} (h1 : sw ≠ 0) (h2 : zs.getD k 0 = 0) : selK sw zs k = 0 := by
  unfold selK
  rw [if_neg h1, h2]
theorem dvr0 (v : Int) : dv (v * cl 0) 65535 = 0 := by
  rw [show cl 0 = 0 from rfl, Int.mul_zero, dv_zero _ (by omega)]
theorem clone_out_at (B : Bru) (ds : List Dab) (W H : Nat) (sw : Int) (zs : List Int) (ps : List Px) (ox oy : Int) (k : Nat) (hx : k % W ≤ 256) (hy : k / W ≤ 65536) (h : outK ds W sw zs k) : cloneAt B ds W H sw zs ps ox oy k = pxAt ps k := by
  have hk : retK B ds W sw zs k = 0 := by
    unfold retK
    rcases h with ⟨h1, h2⟩ | h
    · rw [selK_zero h1 h2]
      exact dvr0 _
    · have hc : cout B ds W k = 0 := by
        unfold cout cpix
        have n1 : (0 : Int) ≤ ((k % W : Nat) : Int) := Int.natCast_nonneg _
        have n2 : (0 : Int) ≤ ((k / W : Nat) : Int) := Int.natCast_nonneg _
        rw [cfold_zero B _ _ ds (fun d hd => by
          obtain ⟨j, hj, rfl⟩ := mem_dbAt hd
          exact out_cov B ds _ _ (by omega) (by omega) h j hj)]
        exact dv0 _
      rw [hc]
      exact dv0 _
  unfold cloneAt
  rw [if_pos hk]
theorem smu1_none {sw : Int} {zs : List Int} {c p : Px} {v : Int} {k : Nat} (h : selK sw zs k = 0 ∨ v = 0) : smu1 sw zs c p v k = p := by
  unfold smu1
  refine if_pos ?_
  unfold smuV
  rcases h with h | h
  · rw [h]; exact dvr0 _
  · rw [h]; exact dv0 _
theorem smuF_out (B : Bru) (W H : Nat) (sw : Int) (zs : List Int) (k : Nat) : ∀ (l : List Dab) (s : (Nat → Px) × Px), (∀ d ∈ l, selK sw zs k = 0 ∨ dcov B d ((k % W : Nat) : Int) ((k / W : Nat) : Int) = 0) → (smuF B W H sw zs l s).1 k = s.1 k
  | [], s, _ => rfl
  | d :: l, s, h => by
    have e : smuF B W H sw zs (d :: l) s = smuF B W H sw zs l (smuS B W H sw zs s d) := rfl
    rw [e, smuF_out B W H sw zs k l _ (fun d hd => h d (List.mem_cons_of_mem _ hd))]
    exact smu1_none (h d (List.mem_cons_self ..))
theorem smud_out_at (B : Bru) (ds : List Dab) (W H : Nat) (sw : Int) (zs : List Int) (ps : List Px) (k : Nat) (hx : k % W ≤ 256) (hy : k / W ≤ 65536) (h : outK ds W sw zs k) (hk : k < ps.length) : pxAt (smuds B ds W H sw zs ps) k = pxAt ps k := by
  rw [smuds_at _ _ _ _ _ _ _ _ hk, smuF_out]
  intro d hd
  rcases h with ⟨h1, h2⟩ | h
  · exact .inl (selK_zero h1 h2)
  · right
    obtain ⟨j, hj, rfl⟩ := mem_dbAt hd
    have n1 : (0 : Int) ≤ ((k % W : Nat) : Int) := Int.natCast_nonneg _
    have n2 : (0 : Int) ≤ ((k / W : Nat) : Int) := Int.natCast_nonneg _
    exact out_cov B ds _ _ (by omega) (by omega) h j hj

/-- Whether a point is a pixel of a valid rectangle. -/
def hasP (x y wd ht px py : Int) : Bool := decide (x ≤ px ∧ px < x + wd ∧ y ≤ py ∧ py < y + ht)
set_option maxHeartbeats 4000000 in
theorem hasRect_any (x y wd ht px py : Int) (w : World) (hv : rValid x y wd ht = true) :
    Calls Tryd.prog 13 #[.agg #[.int .i64 x, .int .i64 y, .int .i64 wd, .int .i64 ht], .agg #[.int .i64 px, .int .i64 py]] w fun e w' => e = .returned (.bool (hasP x y wd ht px py)) ∧ Below w.heap.size w w' := by
  have V1 : Hid (∀ w, Calls Tryd.prog 32 #[.agg #[.int .i64 x, .int .i64 y, .int .i64 wd, .int .i64 ht]] w fun e w' => e = .returned (.bool true) ∧ Below w.heap.size w w') := fun w => by rw [← hv]; exact rvalid_any x y wd ht w
  have hr := (rOk_iff (x, y, wd, ht)).1 hv
  simp only at hr
  clear hv
  have e1 : IntKind.i64.wrap (x + wd) = x + wd := IntWalk.i64_in _ (by omega)
  have e2 : IntKind.i64.wrap (y + ht) = y + ht := IntWalk.i64_in _ (by omega)
  have c : ¬ x ≤ px ∨ (x ≤ px ∧ ¬ px < x + wd) ∨ (x ≤ px ∧ px < x + wd ∧ ¬ y ≤ py) ∨ (x ≤ px ∧ px < x + wd ∧ y ≤ py ∧ ¬ py < y + ht) ∨ (x ≤ px ∧ px < x + wd ∧ y ≤ py ∧ py < y + ht) := by omega
  clear hr
  rcases c with d1 | ⟨d1, d2⟩ | ⟨d1, d2, d3⟩ | ⟨d1, d2, d3, d4⟩ | ⟨d1, d2, d3, d4⟩
  all_goals
    first
    | (have HE : Hid (hasP x y wd ht px py = true) := decide_eq_true (by omega))
    | (have HE : Hid (hasP x y wd ht px py = false) := decide_eq_false (by omega))
  all_goals
    go_enter Tryd.func13, Tryd.ntmps13
    go_upto_region 1 with (fail)
    refine name2 (fun W1 k1 k2 hb => ?_)
    have c1 := k1.c4
    go_wp2_with fail
    clear c1
    refine (V1.out _).mono ?_
    rintro e W2 ⟨rfl, hS⟩
    replace k1 := k1.kept hS
    replace k2 := k2.kept hS
    replace hb := hb.trans (hS.mono hb.size)
    clear hS
    have c1 := k1.c4
    have c2 := k2.c2
    go_wp2_with fail
    go_ret
    exact ⟨ret_bool (by first | (rw [HE.out]; done) | (rw [HE.out]; simp; omega)), hb⟩
end Go.Proofs.YtieacbccadbdbaaDoor

