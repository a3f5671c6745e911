/- Several texts in one: Dyn, DynV, DabKit, StrRow, DabStr. -/
import Derived.Test.YtieacbccadbdbaaGreatDoorLCurve
import Derived.Test.YtieacbccadbdbaaGreatDoorLHyp
import Derived.Test.YtieacbccadbdbaaGreatDoorLNum
import Derived.Test.YtieacbccadbdbaaGreatDoorLPlain
import Derived.Lib.MinMax
import Derived.Test.YtieacbccadbdbaaGreatDoorLKit
import Derived.Laws.Tables
import Derived.Laws.CopyOwn
import Derived.Deep.WholeRow

/- The walks of package dynamics and of its reference: Check, Speed, Source. -/
namespace Go.Proofs.YtieacbccadbdbaaGreatDoor
open Go.RowKit
set_option linter.unusedVariables false
attribute [local go_sem] Oper.gAt gUponK

abbrev sv (x y p t m : Int) : Value := .agg #[.int .i64 x, .int .i64 y, .int .i64 p, .int .i64 t, .int .i64 m]

/-- The slice value v reads as the elements ds. -/
def Dn (w : World) (v : Value) (ds : Dyns) : Prop :=
  ∃ a cap, v = .slice a ds.length cap ∧ ds.length ≤ 9223372036854775807 ∧ (ds.length = 0 ∨ ∃ b off, a = some ⟨b, off, none⟩ ∧ b < w.heap.size ∧
    ∀ i, i < ds.length → w.cell? ⟨b, off + i * 3, none⟩ = some (.int .i64 (dT ds i)) ∧ w.cell? ⟨b, off + i * 3 + 1, none⟩ = some (.int .i64 (dS ds i)) ∧ ∃ c, w.cell? ⟨b, off + i * 3 + 2, none⟩ = some c ∧ Kn w c (dC ds i))
theorem Dn.kept {w w' : World} {v : Value} {ds : Dyns} (h : Dn w v ds) (hb : Below w.heap.size w w') : Dn w' v ds := by
  obtain ⟨a, cap, hv, hl, hr⟩ := h
  refine ⟨a, cap, hv, hl, ?_⟩
  rcases hr with h0 | ⟨b, off, ha, hlt, hc⟩
  · exact .inl h0
  · refine .inr ⟨b, off, ha, Nat.lt_of_lt_of_le hlt hb.size, fun i hi => ?_⟩
    rw [hb.cell (p := ⟨b, off + i * 3, none⟩) hlt, hb.cell (p := ⟨b, off + i * 3 + 1, none⟩) hlt, hb.cell (p := ⟨b, off + i * 3 + 2, none⟩) hlt]
    obtain ⟨h1, h2, c, h3, h4⟩ := hc i hi
    exact ⟨h1, h2, c, h3, h4.kept hb⟩
/-- The cells of element i, in any later world. -/
theorem Dn.at {w : World} {b off : Nat} {ds : Dyns} (hlt : b < w.heap.size)
    (hc : ∀ i, i < ds.length → w.cell? ⟨b, off + i * 3, none⟩ = some (.int .i64 (dT ds i)) ∧ w.cell? ⟨b, off + i * 3 + 1, none⟩ = some (.int .i64 (dS ds i)) ∧ ∃ c, w.cell? ⟨b, off + i * 3 + 2, none⟩ = some c ∧ Kn w c (dC ds i)) (i : Nat) (hi : i < ds.length) :
    ∃ a n cap, Kn w (.slice a n cap) (dC ds i) ∧ ∀ w' : World, Below w.heap.size w w' → w'.cell? ⟨b, off + i * 3, none⟩ = some (.int .i64 (dT ds i)) ∧ w'.cell? ⟨b, off + i * 3 + 1, none⟩ = some (.int .i64 (dS ds i)) ∧ w'.cell? ⟨b, off + i * 3 + 2, none⟩ = some (.slice a n cap) := by
  obtain ⟨h1, h2, c, h3, h4⟩ := hc i hi
  have h5 := h4
  obtain ⟨a, cap, rfl, _⟩ := h5
  refine ⟨a, _, cap, h4, fun w' hb => ?_⟩
  rw [hb.cell (p := ⟨b, off + i * 3, none⟩) hlt, hb.cell (p := ⟨b, off + i * 3 + 1, none⟩) hlt, hb.cell (p := ⟨b, off + i * 3 + 2, none⟩) hlt]
  exact ⟨h1, h2, h3⟩

set_option maxHeartbeats 400000 in
theorem unit_d (x : Int) (w : World) :
    Calls Tryz.prog 134 #[.int .i64 x] w fun e w' => e = .returned (.int .i64 (cl x)) ∧ w = w' := by
  go_enter Tryz.func134, Tryz.ntmps134
  go_wp2_with fail
  refine (clamp_any _ _ _ _).mono ?_
  rintro e w' ⟨rfl, rfl⟩
  go_wp2_with fail
  go_ret
  exact ⟨ret_int (cl_min x), rfl⟩
set_option maxHeartbeats 400000 in
theorem refUnit_d (x : Int) (w : World) :
    Calls Tryz.prog 150 #[.int .i64 x] w fun e w' => e = .returned (.int .i64 (cl x)) ∧ w = w' := by
  go_enter Tryz.func150, Tryz.ntmps150
  go_wp2
  all_goals go_ret
  all_goals refine ⟨ret_int ?_, rfl⟩
  all_goals rw [← cl_min]
  all_goals omega
set_option maxHeartbeats 400000 in
theorem co_any (x : Int) (w : World) :
    Calls Tryz.prog 133 #[.int .i64 x] w fun e w' => e = .returned (.int .i64 (co x)) ∧ w = w' := by
  go_enter Tryz.func133, Tryz.ntmps133
  go_wp2_with fail
  refine (clamp_any _ _ _ _).mono ?_
  rintro e w' ⟨rfl, rfl⟩
  go_wp2_with fail
  go_ret
  exact ⟨rfl, rfl⟩
set_option maxHeartbeats 400000 in
theorem refCo_any (x : Int) (w : World) :
    Calls Tryz.prog 149 #[.int .i64 x] w fun e w' => e = .returned (.int .i64 (co x)) ∧ w = w' := by
  go_enter Tryz.func149, Tryz.ntmps149
  go_wp2
  all_goals go_ret
  all_goals refine ⟨ret_int ?_, rfl⟩
  all_goals unfold co
  all_goals omega
/-- A time, limited: the clamp under its own name. -/
theorem tm_any (x : Int) (w : World) :
    Calls Tryz.prog 91 #[.int .i64 x, .int .i64 0, .int .i64 1073741824] w fun e w' => e = .returned (.int .i64 (tm x)) ∧ w = w' := clamp_any _ _ _ _

set_option maxHeartbeats 1000000 in
theorem speed_any (ax ay ap at_ am bx by_ bp bt bm : Int) (w : World) :
    Calls Tryz.prog 100 #[sv ax ay ap at_ am, sv bx by_ bp bt bm] w fun e w' => e = .returned (.int .i64 (spd ax ay am bx by_ bm)) ∧ Below w.heap.size w w' := by
  have ta := tm_bd am
  have tb := tm_bd bm
  have c1 := co_bd ax
  have c2 := co_bd ay
  have c3 := co_bd bx
  have c4 := co_bd by_
  have hh := hyp_bd (co bx - co ax) (co by_ - co ay) 33554432 (by omega) (by omega) (by omega) (by omega)
  have e0 : IntKind.i64.wrap (tm bm - tm am) = tm bm - tm am := IntWalk.i64_in _ (by omega)
  by_cases ht : tm bm - tm am ≤ 0
  · have HQ : Hid (spd ax ay am bx by_ bm = 0) := by show _ = _; unfold spd; rw [if_pos ht]
    go_enter Tryz.func100, Tryz.ntmps100
    go_wp2
    refine name2 (fun W k1 k2 hb => ?_)
    refine wp_region_grow 8 (fun w' => Below (World.heap W).size W w') (by kernel_rfl) (by kernel_rfl) (Below.refl _ _).drew ?_
    simp only [List.take_succ_cons, List.take_zero, List.drop_succ_cons, List.drop_zero]
    repeat (first | (apply wpG_on; rfl; (intro w' hS K hK; have hc0 := (k1.kept hS).c5; have hc1 := (k2.kept hS).c5; go_simp; (first | exact hK.out _ hS | (go_at_call 91; (with_reducible refine (tm_any _ _).mono ?_); rintro e w'' ⟨rfl, rfl⟩; exact ⟨_, rfl, hK.out _ hS⟩))); simp only [Act.put, List.setIfInBounds_toArray, List.set_cons_succ, List.set_cons_zero]) | (apply wpG_off; rfl; simp only [Act.put, List.setIfInBounds_toArray, List.set_cons_succ, List.set_cons_zero]))
    apply wpG_nil
    intro W1 hS
    replace k1 := k1.kept hS
    replace k2 := k2.kept hS
    replace hb := hb.trans (hS.mono hb.size)
    clear hS
    clear e0
    go_wp2_with fail
    go_ret
    exact ⟨ret_int HQ.out.symm, hb⟩
  · have HQ : Hid (spd ax ay am bx by_ bm = cl (dv (hypot (co bx - co ax) (co by_ - co ay) * 65535) (64 * (tm bm - tm am)))) := by show _ = _; unfold spd; rw [if_neg ht]
    have e1 : IntKind.i64.wrap (co bx - co ax) = co bx - co ax := IntWalk.i64_in _ (by omega)
    have e2 : IntKind.i64.wrap (co by_ - co ay) = co by_ - co ay := IntWalk.i64_in _ (by omega)
    have f1 : -1073741824 ≤ co bx - co ax := by omega
    have f2 : co bx - co ax ≤ 1073741824 := by omega
    have f3 : -1073741824 ≤ co by_ - co ay := by omega
    have f4 : co by_ - co ay ≤ 1073741824 := by omega
    go_enter Tryz.func100, Tryz.ntmps100
    go_wp2
    refine name2 (fun W k1 k2 hb => ?_)
    refine wp_region_grow 8 (fun w' => Below (World.heap W).size W w') (by kernel_rfl) (by kernel_rfl) (Below.refl _ _).drew ?_
    simp only [List.take_succ_cons, List.take_zero, List.drop_succ_cons, List.drop_zero]
    repeat (first | (apply wpG_on; rfl; (intro w' hS K hK; have hc0 := (k1.kept hS).c5; have hc1 := (k2.kept hS).c5; go_simp; (first | exact hK.out _ hS | (go_at_call 91; (with_reducible refine (tm_any _ _).mono ?_); rintro e w'' ⟨rfl, rfl⟩; exact ⟨_, rfl, hK.out _ hS⟩))); simp only [Act.put, List.setIfInBounds_toArray, List.set_cons_succ, List.set_cons_zero]) | (apply wpG_off; rfl; simp only [Act.put, List.setIfInBounds_toArray, List.set_cons_succ, List.set_cons_zero]))
    apply wpG_nil
    intro W1 hS
    replace k1 := k1.kept hS
    replace k2 := k2.kept hS
    replace hb := hb.trans (hS.mono hb.size)
    clear hS
    clear e0
    go_wp2_with fail
    refine wp_region_grow 16 (fun w' => Below (World.heap W1).size W1 w') (by kernel_rfl) (by kernel_rfl) (Below.refl _ _).drew ?_
    simp only [List.take_succ_cons, List.take_zero, List.drop_succ_cons, List.drop_zero]
    repeat (first | (apply wpG_on; rfl; (intro w' hS K hK; have hc0 := (k1.kept hS).c5; have hc1 := (k2.kept hS).c5; go_simp; (first | exact hK.out _ hS | (go_at_call 133; (with_reducible refine (co_any _ _).mono ?_); rintro e w'' ⟨rfl, rfl⟩; exact ⟨_, rfl, hK.out _ hS⟩) | (go_at_call 99; (with_reducible refine (hypot_any _ _ _ f1 f2 f3 f4).mono ?_); rintro e w'' ⟨rfl, rfl⟩; exact ⟨_, rfl, hK.out _ hS⟩))); simp only [Act.put, List.setIfInBounds_toArray, List.set_cons_succ, List.set_cons_zero]) | (apply wpG_off; rfl; simp only [Act.put, List.setIfInBounds_toArray, List.set_cons_succ, List.set_cons_zero]))
    apply wpG_nil
    intro W2 hS
    replace k1 := k1.kept hS
    replace k2 := k2.kept hS
    replace hb := hb.trans (hS.mono hb.size)
    clear hS
    clear e1 e2
    go_wp2_with fail
    refine (div_any _ _ _ (by omega) (by omega) (by omega) (by omega)).mono ?_
    rintro e w' ⟨rfl, rfl⟩
    go_wp2_with fail
    refine (unit_d _ _).mono ?_
    rintro e w' ⟨rfl, rfl⟩
    go_wp2_with fail
    go_ret
    exact ⟨ret_int HQ.out.symm, hb⟩

theorem tm_ref (x : Int) : min (max x 0) 1073741824 = tm x := by unfold tm; omega

set_option maxHeartbeats 1000000 in
theorem refSpeed_any (ax ay ap at_ am bx by_ bp bt bm : Int) (w : World) :
    Calls Tryz.prog 107 #[sv ax ay ap at_ am, sv bx by_ bp bt bm] w fun e w' => e = .returned (.int .i64 (spd ax ay am bx by_ bm)) ∧ Below w.heap.size w w' := by
  have ta := tm_bd am
  have tb := tm_bd bm
  have c1 := co_bd ax
  have c2 := co_bd ay
  have c3 := co_bd bx
  have c4 := co_bd by_
  have hh := hyp_bd (co bx - co ax) (co by_ - co ay) 33554432 (by omega) (by omega) (by omega) (by omega)
  have r1 := tm_ref am
  have r2 := tm_ref bm
  by_cases ht : tm bm - tm am ≤ 0
  · have HQ : Hid (spd ax ay am bx by_ bm = 0) := by show _ = _; unfold spd; rw [if_pos ht]
    go_enter Tryz.func107, Tryz.ntmps107
    go_wp2
    go_ret
    exact ⟨ret_int HQ.out.symm, ((Below.refl _ _).alloc (Nat.le_refl _) _).alloc (by simp) _⟩
  · have HQ : Hid (spd ax ay am bx by_ bm = cl (dv (hypot (co bx - co ax) (co by_ - co ay) * 65535) (64 * (tm bm - tm am)))) := by show _ = _; unfold spd; rw [if_neg ht]
    have f1 : -1073741824 ≤ co bx - co ax := by omega
    have f2 : co bx - co ax ≤ 1073741824 := by omega
    have f3 : -1073741824 ≤ co by_ - co ay := by omega
    have f4 : co by_ - co ay ≤ 1073741824 := by omega
    go_enter Tryz.func107, Tryz.ntmps107
    go_wp2
    clear r1 r2
    refine name2 (fun W k1 k2 hb => ?_)
    have e1 : IntKind.i64.wrap (co bx - co ax) = co bx - co ax := IntWalk.i64_in _ (by omega)
    have e2 : IntKind.i64.wrap (co by_ - co ay) = co by_ - co ay := IntWalk.i64_in _ (by omega)
    refine wp_region_grow 16 (fun w' => Below (World.heap W).size W w') (by kernel_rfl) (by kernel_rfl) (Below.refl _ _).drew ?_
    simp only [List.take_succ_cons, List.take_zero, List.drop_succ_cons, List.drop_zero]
    repeat (first | (apply wpG_on; rfl; (intro w' hS K hK; have hc0 := (k1.kept hS).c5; have hc1 := (k2.kept hS).c5; go_simp; (first | exact hK.out _ hS | (go_at_call 149; (with_reducible refine (refCo_any _ _).mono ?_); rintro e w'' ⟨rfl, rfl⟩; exact ⟨_, rfl, hK.out _ hS⟩) | (go_at_call 85; (with_reducible refine (refHypot_any _ _ _ f1 f2 f3 f4).mono ?_); rintro e w'' ⟨rfl, rfl⟩; exact ⟨_, rfl, hK.out _ hS⟩))); simp only [Act.put, List.setIfInBounds_toArray, List.set_cons_succ, List.set_cons_zero]) | (apply wpG_off; rfl; simp only [Act.put, List.setIfInBounds_toArray, List.set_cons_succ, List.set_cons_zero]))
    apply wpG_nil
    intro W2 hS
    replace k1 := k1.kept hS
    replace k2 := k2.kept hS
    replace hb := hb.trans (hS.mono hb.size)
    clear hS
    clear e1 e2
    go_wp2_with fail
    refine (refDiv_any _ _ _ (by omega) (by omega) (by omega) (by omega)).mono ?_
    rintro e w' ⟨rfl, n, rfl⟩
    go_wp2_with fail
    refine (refUnit_d _ _).mono ?_
    rintro e w' ⟨rfl, rfl⟩
    go_wp2_with fail
    go_ret
    exact ⟨ret_int HQ.out.symm, belowN hb _⟩

theorem src_1 (p t speed index seed : Int) : src 1 p t speed index seed = cl p := rfl
theorem src_2 (p t speed index seed : Int) : src 2 p t speed index seed = cl t := rfl
theorem src_3 (p t speed index seed : Int) : src 3 p t speed index seed = cl speed := rfl
theorem src_4 (p t speed index seed : Int) : src 4 p t speed index seed = atI seed index 1 / 65537 := rfl
theorem src_5 (p t speed index seed : Int) : src 5 p t speed index seed = 65535 - min 65535 (1024 * min 64 (max index 0)) := rfl
theorem src_0 (kind p t speed index seed : Int) (h : kind < 1 ∨ 5 < kind) : src kind p t speed index seed = 0 := by
  unfold src
  repeat' rw [if_neg (by omega)]
theorem fade_min (m : Int) (h0 : 0 ≤ m) : (if 1024 * m < 65535 then 1024 * m else 65535) = min 65535 (1024 * m) := by split <;> omega

set_option maxHeartbeats 1000000 in
theorem source_any (kind x y p t m speed index seed : Int) (w : World) :
    Calls Tryz.prog 160 #[.int .i64 kind, sv x y p t m, .int .i64 speed, .int .i64 index, .int .i64 seed] w fun e w' => e = .returned (.int .i64 (src kind p t speed index seed)) ∧ Below w.heap.size w w' := by
  have hB : Below w.heap.size w (w.alloc (.cells #[.int .i64 x, .int .i64 y, .int .i64 p, .int .i64 t, .int .i64 m] 94)) := (Below.refl _ _).alloc (Nat.le_refl _) _
  by_cases h1 : kind = 1
  · subst h1
    go_enter Tryz.func160, Tryz.ntmps160
    go_wp2_with fail
    refine (unit_d _ _).mono ?_
    rintro e w' ⟨rfl, rfl⟩
    go_wp2_with fail
    go_ret
    exact ⟨ret_int (src_1 ..).symm, hB⟩
  by_cases h2 : kind = 2
  · subst h2
    clear h1
    go_enter Tryz.func160, Tryz.ntmps160
    go_wp2_with fail
    refine (unit_d _ _).mono ?_
    rintro e w' ⟨rfl, rfl⟩
    go_wp2_with fail
    go_ret
    exact ⟨ret_int (src_2 ..).symm, hB⟩
  by_cases h3 : kind = 3
  · subst h3
    clear h1 h2
    go_enter Tryz.func160, Tryz.ntmps160
    go_wp2_with fail
    refine (unit_d _ _).mono ?_
    rintro e w' ⟨rfl, rfl⟩
    go_wp2_with fail
    go_ret
    exact ⟨ret_int (src_3 ..).symm, hB⟩
  by_cases h4 : kind = 4
  · subst h4
    clear h1 h2 h3
    go_enter Tryz.func160, Tryz.ntmps160
    go_wp2_with fail
    refine (unit_any _ _ _ _).mono ?_
    rintro e w' ⟨rfl, rfl⟩
    go_wp2_with fail
    go_ret
    exact ⟨ret_int (src_4 ..).symm, hB⟩
  by_cases h5 : kind = 5
  · subst h5
    clear h1 h2 h3 h4
    have HQ := Lib.hid (src_5 p t speed index seed)
    have hm : 0 ≤ min 64 (max index 0) ∧ min 64 (max index 0) ≤ 64 := by omega
    go_enter Tryz.func160, Tryz.ntmps160
    go_wp2_with fail
    refine (clamp_any _ _ _ _).mono ?_
    rintro e w' ⟨rfl, rfl⟩
    generalize min 64 (max index 0) = q at *
    go_wp2_with fail
    all_goals go_ret
    all_goals exact ⟨ret_int (by rw [HQ.out]), hB⟩
  · have HQ := Lib.hid (src_0 kind p t speed index seed (by omega))
    have g1 : (kind == 1) = false := by simpa using h1
    have g2 : (kind == 2) = false := by simpa using h2
    have g3 : (kind == 3) = false := by simpa using h3
    have g4 : (kind == 4) = false := by simpa using h4
    have g5 : (kind == 5) = false := by simpa using h5
    clear h1 h2 h3 h4 h5
    go_enter Tryz.func160, Tryz.ntmps160
    go_wp2
    go_ret
    exact ⟨ret_int HQ.out.symm, hB⟩
set_option maxHeartbeats 1000000 in
theorem refSource_any (kind x y p t m speed index seed : Int) (w : World) :
    Calls Tryz.prog 166 #[.int .i64 kind, sv x y p t m, .int .i64 speed, .int .i64 index, .int .i64 seed] w fun e w' => e = .returned (.int .i64 (src kind p t speed index seed)) ∧ Below w.heap.size w w' := by
  have hB : Below w.heap.size w (w.alloc (.cells #[.int .i64 x, .int .i64 y, .int .i64 p, .int .i64 t, .int .i64 m] 94)) := (Below.refl _ _).alloc (Nat.le_refl _) _
  by_cases h1 : kind = 1
  · subst h1
    go_enter Tryz.func166, Tryz.ntmps166
    go_wp2_with fail
    refine (refUnit_d _ _).mono ?_
    rintro e w' ⟨rfl, rfl⟩
    go_wp2_with fail
    go_ret
    exact ⟨ret_int (src_1 ..).symm, hB⟩
  by_cases h2 : kind = 2
  · subst h2
    clear h1
    go_enter Tryz.func166, Tryz.ntmps166
    go_wp2_with fail
    refine (refUnit_d _ _).mono ?_
    rintro e w' ⟨rfl, rfl⟩
    go_wp2_with fail
    go_ret
    exact ⟨ret_int (src_2 ..).symm, hB⟩
  by_cases h3 : kind = 3
  · subst h3
    clear h1 h2
    go_enter Tryz.func166, Tryz.ntmps166
    go_wp2_with fail
    refine (refUnit_d _ _).mono ?_
    rintro e w' ⟨rfl, rfl⟩
    go_wp2_with fail
    go_ret
    exact ⟨ret_int (src_3 ..).symm, hB⟩
  by_cases h4 : kind = 4
  · subst h4
    clear h1 h2 h3
    go_enter Tryz.func166, Tryz.ntmps166
    go_wp2_with fail
    refine (refUnit_any _ _ _ _).mono ?_
    rintro e w' ⟨rfl, rfl⟩
    go_wp2_with fail
    go_ret
    exact ⟨ret_int (src_4 ..).symm, hB⟩
  by_cases h5 : kind = 5
  · subst h5
    clear h1 h2 h3 h4
    have HQ := Lib.hid (src_5 p t speed index seed)
    have hm : 0 ≤ min 64 (max index 0) ∧ min 64 (max index 0) ≤ 64 := by omega
    have r1 : min (max 0 index) 64 = min 64 (max index 0) := by omega
    generalize min 64 (max index 0) = q at *
    go_enter Tryz.func166, Tryz.ntmps166
    go_wp2_with fail
    all_goals go_ret
    all_goals exact ⟨ret_int (by rw [HQ.out]), hB⟩
  · have HQ := Lib.hid (src_0 kind p t speed index seed (by omega))
    have g1 : (kind == 1) = false := by simpa using h1
    have g2 : (kind == 2) = false := by simpa using h2
    have g3 : (kind == 3) = false := by simpa using h3
    have g4 : (kind == 4) = false := by simpa using h4
    have g5 : (kind == 5) = false := by simpa using h5
    clear h1 h2 h3 h4 h5
    go_enter Tryz.func166, Tryz.ntmps166
    go_wp2
    go_ret
    exact ⟨ret_int HQ.out.symm, hB⟩

set_option maxHeartbeats 1000000 in
theorem dynCheck_any (v : Value) (ds : Dyns) (w : World) (h : Dn w v ds) :
    Calls Tryz.prog 116 #[v] w fun e w' => e = .returned (.int .i64 (dchk ds)) ∧ Below w.heap.size w w' := by
  obtain ⟨a, cap, rfl, hl, hr⟩ := h
  by_cases h8 : 8 < ds.length
  · have HQ : Hid (dchk ds = 3) := by show _ = _; unfold dchk; rw [if_pos h8]
    go_enter Tryz.func116, Tryz.ntmps116
    go_wp2
    go_ret
    exact ⟨ret_int HQ.out.symm, Below.refl _ _⟩
  · have HQ : Hid (dchk ds = ferr (dbad ds) (ds.length - 0) 0) := by show _ = _; unfold dchk; rw [if_neg h8]
    have HC : Hid (∀ i, i < ds.length → ∃ b off ac nc cc, a = some ⟨b, off, none⟩ ∧ Kn w (.slice ac nc cc) (dC ds i) ∧ ∀ w' : World, Below w.heap.size w w' → w'.cell? ⟨b, off + i * 3, none⟩ = some (.int .i64 (dT ds i)) ∧ w'.cell? ⟨b, off + i * 3 + 1, none⟩ = some (.int .i64 (dS ds i)) ∧ w'.cell? ⟨b, off + i * 3 + 2, none⟩ = some (.slice ac nc cc)) := fun i hi => by
      rcases hr with h0 | ⟨b, off, ha, hlt, hc⟩
      · omega
      · obtain ⟨ac, nc, cc, hk, hcell⟩ := Dn.at hlt hc i hi
        exact ⟨b, off, ac, nc, cc, ha, hk, hcell⟩
    clear hr
    have d8 : decide (8 < (ds.length : Int)) = false := by simp; omega
    generalize hn : ds.length = n at *
    have HN := Lib.hid hn
    clear hn
    go_enter Tryz.func116, Tryz.ntmps116
    go_wp2
    clear d8
    go_loopw [4, 5, 11] (fun _ _ i wr => ∃ k : Nat, k ≤ n ∧ i = .int .i64 k ∧ Hid (dchk ds = ferr (dbad ds) (n - k) k) ∧ Below w.heap.size w wr) (fun _ _ i _ => n - (intOf i).toNat)
    case atStart => exact ⟨0, Nat.zero_le _, rfl, HQ, Below.refl _ _⟩
    case round =>
      obtain ⟨k, hk, rfl, HR, hb⟩ := hrel
      by_cases hlt2 : k < n
      · obtain ⟨b, off, ac, nc, cc, rfl, hkn, hcell⟩ := HC.out k hlt2
        obtain ⟨c1, c2, c3⟩ := hcell wr hb
        clear hcell
        have HK : Hid (dbad ds k = if dT ds k < 1 then 8 else if 4 < dT ds k then 8 else if dS ds k < 1 then 8 else if 5 < dS ds k then 8 else kchk (dC ds k)) := rfl
        have HF := Lib.hid (ferr_at (dbad ds) n k hlt2)
        have HG := Lib.hid (ferr_go (dbad ds) n k hlt2)
        have HKN := Lib.hid hkn
        clear hkn HC
        generalize dT ds k = T at *
        generalize dS ds k = S at *
        generalize dC ds k = C at *
        have bad : ∀ w2 : World, Below w.heap.size w w2 → dbad ds k = 8 → Hid (Ending.returned (.int .i64 8) = Ending.returned (.int .i64 (dchk ds))) := fun w2 hb2 h8' => ret_int (by rw [HR.out, HF.out (by rw [h8']; decide), h8'])
        have BAD := Lib.hid bad
        clear bad
        have hbA : Below w.heap.size w (wr.alloc (.cells #[.int .i64 T, .int .i64 S, .slice ac nc cc] 131)) := hb.alloc hb.size _
        by_cases t1 : T < 1
        · have HE : Hid (dbad ds k = 8) := by show _ = _; rw [HK.out, if_pos t1]
          go_wp2
          go_ret
          exact ⟨(BAD.out _ hb HE.out).out, hbA⟩
        by_cases t2 : 4 < T
        · have HE : Hid (dbad ds k = 8) := by show _ = _; rw [HK.out, if_neg t1, if_pos t2]
          go_wp2
          go_ret
          exact ⟨(BAD.out _ hb HE.out).out, hbA⟩
        by_cases t3 : S < 1
        · have HE : Hid (dbad ds k = 8) := by show _ = _; rw [HK.out, if_neg t1, if_neg t2, if_pos t3]
          go_wp2
          go_ret
          exact ⟨(BAD.out _ hb HE.out).out, hbA⟩
        by_cases t4 : 5 < S
        · have HE : Hid (dbad ds k = 8) := by show _ = _; rw [HK.out, if_neg t1, if_neg t2, if_neg t3, if_pos t4]
          go_wp2
          go_ret
          exact ⟨(BAD.out _ hb HE.out).out, hbA⟩
        have HE : Hid (dbad ds k = kchk C) := by show _ = _; rw [HK.out, if_neg t1, if_neg t2, if_neg t3, if_neg t4]
        by_cases t5 : kchk C = 0
        · have T5 := Lib.hid t5
          clear t5
          go_wp2_with fail
          refine callName1 (fun W k1 hb1 => ?_)
          replace hb := hb.trans (hb1.mono hb.size)
          clear hbA hb1
          refine (curveCheck_any _ C _ (HKN.out.kept hb)).mono ?_
          rintro e w2 ⟨rfl, hb2⟩
          replace hb := hb.trans (hb2.mono hb.size)
          rw [T5.out]
          clear hb2
          go_wp2_with fail
          go_roundw
          case rel => exact ⟨k + 1, by omega, by go_num, by show _ = _; rw [HR.out, HG.out (by rw [HE.out, T5.out])], hb⟩
          case measure => simp [intOf]; omega
        · have g5 : (kchk C != 0) = true := by simpa using t5
          have T5 := Lib.hid t5
          clear t5
          go_wp2_with fail
          refine callName1 (fun W k1 hb1 => ?_)
          replace hb := hb.trans (hb1.mono hb.size)
          clear hbA hb1
          refine (curveCheck_any _ C _ (HKN.out.kept hb)).mono ?_
          rintro e w2 ⟨rfl, hb2⟩
          replace hb := hb.trans (hb2.mono hb.size)
          clear hb2
          go_wp2_with fail
          go_ret
          exact ⟨ret_int (by rw [HR.out, HF.out (by rw [HE.out]; exact T5.out), HE.out]), hb⟩
      · obtain rfl : k = n := by omega
        go_wp2
        go_ret
        exact ⟨ret_int (by rw [HR.out, ferr_end]), hb⟩
end Go.Proofs.YtieacbccadbdbaaGreatDoor


/- The walks of package dynamics and of its reference, continued: Value. -/
namespace Go.Proofs.YtieacbccadbdbaaGreatDoor
open Go.RowKit
set_option linter.unusedVariables false
attribute [local go_sem] Oper.gAt gUponK

set_option maxHeartbeats 1000000 in
theorem refDynCheck_any (v : Value) (ds : Dyns) (w : World) (h : Dn w v ds) :
    Calls Tryz.prog 120 #[v] w fun e w' => e = .returned (.int .i64 (dchk ds)) ∧ Below w.heap.size w w' := by
  obtain ⟨a, cap, rfl, hl, hr⟩ := h
  by_cases h8 : 8 < ds.length
  · have HQ : Hid (dchk ds = 3) := by show _ = _; unfold dchk; rw [if_pos h8]
    go_enter Tryz.func120, Tryz.ntmps120
    go_wp2
    go_ret
    exact ⟨ret_int HQ.out.symm, Below.refl _ _⟩
  · have HQ : Hid (dchk ds = ferr (dbad ds) (ds.length - 0) 0) := by show _ = _; unfold dchk; rw [if_neg h8]
    have HC : Hid (∀ i, i < ds.length → ∃ b off ac nc cc, a = some ⟨b, off, none⟩ ∧ Kn w (.slice ac nc cc) (dC ds i) ∧ ∀ w' : World, Below w.heap.size w w' → w'.cell? ⟨b, off + i * 3, none⟩ = some (.int .i64 (dT ds i)) ∧ w'.cell? ⟨b, off + i * 3 + 1, none⟩ = some (.int .i64 (dS ds i)) ∧ w'.cell? ⟨b, off + i * 3 + 2, none⟩ = some (.slice ac nc cc)) := fun i hi => by
      rcases hr with h0 | ⟨b, off, ha, hlt, hc⟩
      · omega
      · obtain ⟨ac, nc, cc, hk, hcell⟩ := Dn.at hlt hc i hi
        exact ⟨b, off, ac, nc, cc, ha, hk, hcell⟩
    clear hr
    have d8 : decide (8 < (ds.length : Int)) = false := by simp; omega
    generalize hn : ds.length = n at *
    have HN := Lib.hid hn
    clear hn
    go_enter Tryz.func120, Tryz.ntmps120
    go_wp2
    clear d8
    go_loopw [3, 4] (fun i _ wr => ∃ k : Nat, k ≤ n ∧ i = .int .i64 k ∧ Hid (dchk ds = ferr (dbad ds) (n - k) k) ∧ Below w.heap.size w wr) (fun i _ _ => n - (intOf i).toNat)
    case atStart => exact ⟨0, Nat.zero_le _, rfl, HQ, Below.refl _ _⟩
    case round =>
      obtain ⟨k, hk, rfl, HR, hb⟩ := hrel
      by_cases hlt2 : k < n
      · obtain ⟨b, off, ac, nc, cc, rfl, hkn, hcell⟩ := HC.out k hlt2
        obtain ⟨c1, c2, c3⟩ := hcell wr hb
        clear hcell
        have HK : Hid (dbad ds k = if dT ds k < 1 then 8 else if 4 < dT ds k then 8 else if dS ds k < 1 then 8 else if 5 < dS ds k then 8 else kchk (dC ds k)) := rfl
        have HF := Lib.hid (ferr_at (dbad ds) n k hlt2)
        have HG := Lib.hid (ferr_go (dbad ds) n k hlt2)
        have HKN := Lib.hid hkn
        clear hkn HC
        generalize dT ds k = T at *
        generalize dS ds k = S at *
        generalize dC ds k = C at *
        have bad : ∀ w2 : World, Below w.heap.size w w2 → dbad ds k = 8 → Hid (Ending.returned (.int .i64 8) = Ending.returned (.int .i64 (dchk ds))) := fun w2 hb2 h8' => ret_int (by rw [HR.out, HF.out (by rw [h8']; decide), h8'])
        have BAD := Lib.hid bad
        clear bad
        by_cases t1 : T < 1
        · have HE : Hid (dbad ds k = 8) := by show _ = _; rw [HK.out, if_pos t1]
          go_wp2
          go_ret
          exact ⟨(BAD.out _ hb HE.out).out, hb⟩
        by_cases t2 : 4 < T
        · have HE : Hid (dbad ds k = 8) := by show _ = _; rw [HK.out, if_neg t1, if_pos t2]
          go_wp2
          go_ret
          exact ⟨(BAD.out _ hb HE.out).out, hb⟩
        by_cases t3 : S < 1
        · have HE : Hid (dbad ds k = 8) := by show _ = _; rw [HK.out, if_neg t1, if_neg t2, if_pos t3]
          go_wp2
          go_ret
          exact ⟨(BAD.out _ hb HE.out).out, hb⟩
        by_cases t4 : 5 < S
        · have HE : Hid (dbad ds k = 8) := by show _ = _; rw [HK.out, if_neg t1, if_neg t2, if_neg t3, if_pos t4]
          go_wp2
          go_ret
          exact ⟨(BAD.out _ hb HE.out).out, hb⟩
        have HE : Hid (dbad ds k = kchk C) := by show _ = _; rw [HK.out, if_neg t1, if_neg t2, if_neg t3, if_neg t4]
        by_cases t5 : kchk C = 0
        · have T5 := Lib.hid t5
          clear t5
          go_wp2_with fail
          refine (refCurveCheck_any _ C _ (HKN.out.kept hb)).mono ?_
          rintro e w2 ⟨rfl, hb2⟩
          replace hb := hb.trans (hb2.mono hb.size)
          rw [T5.out]
          clear hb2
          go_wp2_with fail
          go_roundw
          case rel => exact ⟨k + 1, by omega, by go_num, by show _ = _; rw [HR.out, HG.out (by rw [HE.out, T5.out])], hb⟩
          case measure => simp [intOf]; omega
        · have g5 : (kchk C != 0) = true := by simpa using t5
          have T5 := Lib.hid t5
          clear t5
          go_wp2_with fail
          refine (refCurveCheck_any _ C _ (HKN.out.kept hb)).mono ?_
          rintro e w2 ⟨rfl, hb2⟩
          replace hb := hb.trans (hb2.mono hb.size)
          clear hb2
          go_wp2_with fail
          go_ret
          exact ⟨ret_int (by rw [HR.out, HF.out (by rw [HE.out]; exact T5.out), HE.out]), hb⟩
      · obtain rfl : k = n := by omega
        go_wp2
        go_ret
        exact ⟨ret_int (by rw [HR.out, ferr_end]), hb⟩

theorem dvalue_ok (ds : Dyns) (target : Int) (f : Int → Int) (h : dchk ds = 0) : dvalue ds target f = dfrom ds target f (ds.length - 0) 0 65535 := by unfold dvalue; rw [if_pos h]
theorem dvalue_bad (ds : Dyns) (target : Int) (f : Int → Int) (h : dchk ds ≠ 0) : dvalue ds target f = 65535 := by unfold dvalue; rw [if_neg h]
theorem dstep_hit (ds : Dyns) (target : Int) (f : Int → Int) (i : Nat) (v : Int) (h : dT ds i = target) : dstep ds target f i v = dv (cl v * cl (kat (dC ds i) (f (dS ds i)))) 65535 := by unfold dstep; rw [if_pos h]
theorem dstep_miss (ds : Dyns) (target : Int) (f : Int → Int) (i : Nat) (v : Int) (h : dT ds i ≠ target) : dstep ds target f i v = v := by unfold dstep; rw [if_neg h]

set_option maxHeartbeats 1000000 in
theorem dynValue_any (v : Value) (ds : Dyns) (target x y p t m speed index seed : Int) (w : World) (h : Dn w v ds) :
    Calls Tryz.prog 128 #[v, .int .i64 target, sv x y p t m, .int .i64 speed, .int .i64 index, .int .i64 seed] w fun e w' => e = .returned (.int .i64 (dvalue ds target (fun k => src k p t speed index seed))) ∧ Below w.heap.size w w' := by
  have HH := Lib.hid h
  obtain ⟨a, cap, rfl, hl, hr⟩ := h
  generalize hf : (fun k => src k p t speed index seed) = f
  have HFn : Hid (∀ k, f k = src k p t speed index seed) := fun k => by rw [← hf]
  clear hf
  by_cases h0 : dchk ds = 0
  · have HQ := Lib.hid (dvalue_ok ds target f h0)
    have H0 := Lib.hid h0
    clear h0
    have HC : Hid (∀ i, i < ds.length → ∃ b off ac nc cc, a = some ⟨b, off, none⟩ ∧ Kn w (.slice ac nc cc) (dC ds i) ∧ ∀ w' : World, Below w.heap.size w w' → w'.cell? ⟨b, off + i * 3, none⟩ = some (.int .i64 (dT ds i)) ∧ w'.cell? ⟨b, off + i * 3 + 1, none⟩ = some (.int .i64 (dS ds i)) ∧ w'.cell? ⟨b, off + i * 3 + 2, none⟩ = some (.slice ac nc cc)) := fun i hi => by
      rcases hr with h0 | ⟨b, off, ha, hlt, hc⟩
      · omega
      · obtain ⟨ac, nc, cc, hk, hcell⟩ := Dn.at hlt hc i hi
        exact ⟨b, off, ac, nc, cc, ha, hk, hcell⟩
    clear hr
    go_enter Tryz.func128, Tryz.ntmps128
    go_wp2_with fail
    refine callName1 (fun W k1 hb => ?_)
    refine (dynCheck_any _ ds _ (HH.out.kept hb)).mono ?_
    rintro e w2 ⟨rfl, hb2⟩
    replace hb := hb.trans (hb2.mono hb.size)
    replace k1 := k1.kept hb2
    rw [H0.out]
    clear hb2 HH
    generalize hn : ds.length = n at *
    have HN := Lib.hid hn
    clear hn
    go_wp2_with fail
    go_loopw [13, 15, 22] (fun q _ i wr => ∃ (k : Nat) (z : Int), k ≤ n ∧ i = .int .i64 k ∧ q = .int .i64 z ∧ Hid (dvalue ds target f = dfrom ds target f (n - k) k z) ∧ Below w.heap.size w wr ∧ Blk wr w.heap.size (.cells #[.int .i64 x, .int .i64 y, .int .i64 p, .int .i64 t, .int .i64 m] 94)) (fun _ _ i _ => n - (intOf i).toNat)
    case atStart => exact ⟨0, 65535, Nat.zero_le _, rfl, rfl, HQ, hb, k1⟩
    case round =>
      clear hb k1
      obtain ⟨k, z, hk, rfl, rfl, HR, hb, k1⟩ := hrel
      by_cases hlt2 : k < n
      · obtain ⟨b, off, ac, nc, cc, rfl, hkn, hcell⟩ := HC.out k hlt2
        obtain ⟨c1, c2, c3⟩ := hcell wr hb
        clear hcell
        have HG := Lib.hid (dfrom_go ds target f n k z hlt2)
        have HKN := Lib.hid hkn
        clear hkn HC
        by_cases ht : dT ds k = target
        · have HS := Lib.hid (dstep_hit ds target f k z ht)
          have g1 : (dT ds k == target) = true := by simpa using ht
          clear ht
          generalize dT ds k = T at *
          generalize dS ds k = S at *
          generalize dC ds k = C at *
          have hsb := src_bd S p t speed index seed
          have f1 : -9223372036854775808 ≤ src S p t speed index seed := by omega
          have f2 : src S p t speed index seed ≤ 9223372036854775807 := by omega
          go_wp2_with fail
          refine name1 (fun W2 k2 hb1 => ?_)
          replace k1 := k1.kept hb1
          replace hb := hb.trans (hb1.mono hb.size)
          clear hb1
          refine wp_region_grow 13 (fun w' => Below (World.heap W2).size W2 w') (by kernel_rfl) (by kernel_rfl) (Below.refl _ _).drew ?_
          simp only [List.take_succ_cons, List.take_zero, List.drop_succ_cons, List.drop_zero]
          repeat (first | (apply wpG_on; rfl; (intro w' hS K hK; have hc0 := (k1.kept hS).c5; have hc1 := (k2.kept hS).c3; go_simp; (first | exact hK.out _ hS | (go_at_call 160; (with_reducible refine (source_any _ _ _ _ _ _ _ _ _ _).mono ?_); rintro e w'' ⟨rfl, hbb⟩; exact ⟨_, rfl, hK.out _ (hS.trans (hbb.mono hS.size))⟩) | (go_at_call 159; (with_reducible refine (curveAt_any _ C _ _ (HKN.out.kept (hb.trans (hS.mono hb.size))) f1 f2).mono ?_); rintro e w'' ⟨rfl, hbb⟩; exact ⟨_, rfl, hK.out _ (hS.trans (hbb.mono hS.size))⟩) | (go_at_call 17; (with_reducible refine (mul_any _ _ _).mono ?_); rintro e w'' ⟨rfl, rfl⟩; exact ⟨_, rfl, hK.out _ hS⟩))); simp only [Act.put, List.setIfInBounds_toArray, List.set_cons_succ, List.set_cons_zero]) | (apply wpG_off; rfl; simp only [Act.put, List.setIfInBounds_toArray, List.set_cons_succ, List.set_cons_zero]))
          apply wpG_nil
          intro W3 hS
          replace k1 := k1.kept hS
          replace k2 := k2.kept hS
          replace hb := hb.trans (hS.mono hb.size)
          clear hS
          go_wp2_with fail
          go_roundw
          case rel => exact ⟨k + 1, _, by omega, by go_num, rfl, by show _ = _; rw [HR.out, HG.out, HS.out, HFn.out], hb, k1⟩
          case measure => simp [intOf]; omega
        · have HS := Lib.hid (dstep_miss ds target f k z ht)
          have g1 : (dT ds k == target) = false := by simpa using ht
          clear ht
          generalize dT ds k = T at *
          generalize dS ds k = S at *
          go_wp2_with fail
          go_roundw
          case rel => exact ⟨k + 1, _, by omega, by go_num, rfl, by show _ = _; rw [HR.out, HG.out, HS.out], hb.alloc hb.size _, k1.alloc _⟩
          case measure => simp [intOf]; omega
      · obtain rfl : k = n := by omega
        go_wp2
        go_ret
        exact ⟨ret_int (by rw [HR.out, dfrom_end]), hb⟩
  · have HQ := Lib.hid (dvalue_bad ds target f h0)
    have g0 : (dchk ds != 0) = true := by simpa using h0
    clear h0
    go_enter Tryz.func128, Tryz.ntmps128
    go_wp2_with fail
    refine callName1 (fun W k1 hb => ?_)
    refine (dynCheck_any _ ds _ (HH.out.kept hb)).mono ?_
    rintro e w2 ⟨rfl, hb2⟩
    replace hb := hb.trans (hb2.mono hb.size)
    go_wp2_with fail
    go_ret
    exact ⟨ret_int HQ.out.symm, hb⟩
set_option maxHeartbeats 1000000 in
theorem refDynValue_any (v : Value) (ds : Dyns) (target x y p t m speed index seed : Int) (w : World) (h : Dn w v ds) :
    Calls Tryz.prog 146 #[v, .int .i64 target, sv x y p t m, .int .i64 speed, .int .i64 index, .int .i64 seed] w fun e w' => e = .returned (.int .i64 (dvalue ds target (fun k => src k p t speed index seed))) ∧ Below w.heap.size w w' := by
  have HH := Lib.hid h
  obtain ⟨a, cap, rfl, hl, hr⟩ := h
  generalize hf : (fun k => src k p t speed index seed) = f
  have HFn : Hid (∀ k, f k = src k p t speed index seed) := fun k => by rw [← hf]
  clear hf
  by_cases h0 : dchk ds = 0
  · have HQ := Lib.hid (dvalue_ok ds target f h0)
    have H0 := Lib.hid h0
    clear h0
    have HC : Hid (∀ i, i < ds.length → ∃ b off ac nc cc, a = some ⟨b, off, none⟩ ∧ Kn w (.slice ac nc cc) (dC ds i) ∧ ∀ w' : World, Below w.heap.size w w' → w'.cell? ⟨b, off + i * 3, none⟩ = some (.int .i64 (dT ds i)) ∧ w'.cell? ⟨b, off + i * 3 + 1, none⟩ = some (.int .i64 (dS ds i)) ∧ w'.cell? ⟨b, off + i * 3 + 2, none⟩ = some (.slice ac nc cc)) := fun i hi => by
      rcases hr with h0 | ⟨b, off, ha, hlt, hc⟩
      · omega
      · obtain ⟨ac, nc, cc, hk, hcell⟩ := Dn.at hlt hc i hi
        exact ⟨b, off, ac, nc, cc, ha, hk, hcell⟩
    clear hr
    go_enter Tryz.func146, Tryz.ntmps146
    go_wp2_with fail
    refine callName1 (fun W k1 hb => ?_)
    refine (refDynCheck_any _ ds _ (HH.out.kept hb)).mono ?_
    rintro e w2 ⟨rfl, hb2⟩
    replace hb := hb.trans (hb2.mono hb.size)
    replace k1 := k1.kept hb2
    rw [H0.out]
    clear hb2 HH
    generalize hn : ds.length = n at *
    have HN := Lib.hid hn
    clear hn
    go_wp2_with fail
    go_loopw [13, 14] (fun q i wr => ∃ (k : Nat) (z : Int), k ≤ n ∧ i = .int .i64 k ∧ q = .int .i64 z ∧ Hid (dvalue ds target f = dfrom ds target f (n - k) k z) ∧ Below w.heap.size w wr ∧ Blk wr w.heap.size (.cells #[.int .i64 x, .int .i64 y, .int .i64 p, .int .i64 t, .int .i64 m] 94)) (fun _ i _ => n - (intOf i).toNat)
    case atStart => exact ⟨0, 65535, Nat.zero_le _, rfl, rfl, HQ, hb, k1⟩
    case round =>
      clear hb k1
      obtain ⟨k, z, hk, rfl, rfl, HR, hb, k1⟩ := hrel
      by_cases hlt2 : k < n
      · obtain ⟨b, off, ac, nc, cc, rfl, hkn, hcell⟩ := HC.out k hlt2
        obtain ⟨c1, c2, c3⟩ := hcell wr hb
        have HCE := Lib.hid hcell
        clear hcell
        have hi4 : (0 : Int) ≤ (k : Int) := by omega
        have hi5 : (k : Int) < (n : Int) := by omega
        have HG := Lib.hid (dfrom_go ds target f n k z hlt2)
        have HKN := Lib.hid hkn
        clear hkn HC
        by_cases ht : dT ds k = target
        · have HS := Lib.hid (dstep_hit ds target f k z ht)
          have g1 : (dT ds k == target) = true := by simpa using ht
          clear ht
          generalize dT ds k = T at *
          generalize dS ds k = S at *
          generalize dC ds k = C at *
          have hsb := src_bd S p t speed index seed
          have f1 : -9223372036854775808 ≤ src S p t speed index seed := by omega
          have f2 : src S p t speed index seed ≤ 9223372036854775807 := by omega
          go_wp2_with fail
          clear c1 c2 c3
          refine wp_region_grow 19 (fun w' => Below (World.heap wr).size wr w') (by kernel_rfl) (by kernel_rfl) (Below.refl _ _).drew ?_
          simp only [List.take_succ_cons, List.take_zero, List.drop_succ_cons, List.drop_zero]
          repeat (first | (apply wpG_on; rfl; (intro w' hS K hK; have hc0 := (k1.kept hS).c5; have hr0 := HCE.out _ (hb.trans (hS.mono hb.size)); go_simp; (first | exact hK.out _ hS | (go_at_call 166; (with_reducible refine (refSource_any _ _ _ _ _ _ _ _ _ _).mono ?_); rintro e w'' ⟨rfl, hbb⟩; exact ⟨_, rfl, hK.out _ (hS.trans (hbb.mono hS.size))⟩) | (go_at_call 165; (with_reducible refine (refCurveAt_any _ C _ _ (HKN.out.kept (hb.trans (hS.mono hb.size))) f1 f2).mono ?_); rintro e w'' ⟨rfl, hbb⟩; exact ⟨_, rfl, hK.out _ (hS.trans (hbb.mono hS.size))⟩) | (go_at_call 24; (with_reducible refine (refMul_any _ _ _).mono ?_); rintro e w'' ⟨rfl, nn, rfl⟩; exact ⟨_, rfl, hK.out _ (belowN hS nn)⟩))); simp only [Act.put, List.setIfInBounds_toArray, List.set_cons_succ, List.set_cons_zero]) | (apply wpG_off; rfl; simp only [Act.put, List.setIfInBounds_toArray, List.set_cons_succ, List.set_cons_zero]))
          apply wpG_nil
          intro W3 hS
          replace k1 := k1.kept hS
          replace hb := hb.trans (hS.mono hb.size)
          clear hS
          go_wp2_with fail
          go_roundw
          case rel => exact ⟨k + 1, _, by omega, by go_num, rfl, by show _ = _; rw [HR.out, HG.out, HS.out, HFn.out], hb, k1⟩
          case measure => simp [intOf]; omega
        · have HS := Lib.hid (dstep_miss ds target f k z ht)
          have g1 : (dT ds k == target) = false := by simpa using ht
          clear ht
          generalize dT ds k = T at *
          generalize dS ds k = S at *
          go_wp2_with fail
          go_roundw
          case rel => exact ⟨k + 1, _, by omega, by go_num, rfl, by show _ = _; rw [HR.out, HG.out, HS.out], hb, k1⟩
          case measure => simp [intOf]; omega
      · obtain rfl : k = n := by omega
        go_wp2
        go_ret
        exact ⟨ret_int (by rw [HR.out, dfrom_end]), hb⟩
  · have HQ := Lib.hid (dvalue_bad ds target f h0)
    have g0 : (dchk ds != 0) = true := by simpa using h0
    clear h0
    go_enter Tryz.func146, Tryz.ntmps146
    go_wp2_with fail
    refine callName1 (fun W k1 hb => ?_)
    refine (refDynCheck_any _ ds _ (HH.out.kept hb)).mono ?_
    rintro e w2 ⟨rfl, hb2⟩
    replace hb := hb.trans (hb2.mono hb.size)
    go_wp2_with fail
    go_ret
    exact ⟨ret_int HQ.out.symm, hb⟩
end Go.Proofs.YtieacbccadbdbaaGreatDoor


/- Brushes and dabs as values, and their cells. -/
namespace Go.Proofs.YtieacbccadbdbaaGreatDoor
open Go.RowKit
set_option linter.unusedVariables false

abbrev brv (B : Bru) (u : Value) : Value := .agg #[.int .i64 B.sz, .int .i64 B.hd, .int .i64 B.rn, .int .i64 B.fl, .int .i64 B.op, .int .i64 B.sp, .int .i64 B.an, .int .i64 B.sc, .int .i64 B.md, .int .i64 B.r, .int .i64 B.g, .int .i64 B.b, .int .i64 B.a, .int .i64 B.sd, u, .bool B.er]
abbrev dbv (d : Dab) : Value := .agg #[.int .i64 d.x, .int .i64 d.y, .int .i64 d.sz, .int .i64 d.fl, .int .i64 d.an]
theorem Blk.c16 {w : World} {b : Nat} {x0 x1 x2 x3 x4 x5 x6 x7 x8 x9 x10 x11 x12 x13 x14 x15 : Value} {t : TypeId} (k : Blk w b (.cells #[x0, x1, x2, x3, x4, x5, x6, x7, x8, x9, x10, x11, x12, x13, x14, x15] t (0, 0))) :
    w.cell? ⟨b, 0, none⟩ = some x0 ∧ w.cell? ⟨b, 1, none⟩ = some x1 ∧ w.cell? ⟨b, 2, none⟩ = some x2 ∧ w.cell? ⟨b, 3, none⟩ = some x3 ∧ w.cell? ⟨b, 4, none⟩ = some x4 ∧ w.cell? ⟨b, 5, none⟩ = some x5 ∧ w.cell? ⟨b, 6, none⟩ = some x6 ∧ w.cell? ⟨b, 7, none⟩ = some x7 ∧ w.cell? ⟨b, 8, none⟩ = some x8 ∧ w.cell? ⟨b, 9, none⟩ = some x9 ∧ w.cell? ⟨b, 10, none⟩ = some x10 ∧ w.cell? ⟨b, 11, none⟩ = some x11 ∧ w.cell? ⟨b, 12, none⟩ = some x12 ∧ w.cell? ⟨b, 13, none⟩ = some x13 ∧ w.cell? ⟨b, 14, none⟩ = some x14 ∧ w.cell? ⟨b, 15, none⟩ = some x15 ∧ ∀ o, w.frozen? ⟨b, o, none⟩ = false :=
  ⟨cell_blk k rfl, cell_blk k rfl, cell_blk k rfl, cell_blk k rfl, cell_blk k rfl, cell_blk k rfl, cell_blk k rfl, cell_blk k rfl, cell_blk k rfl, cell_blk k rfl, cell_blk k rfl, cell_blk k rfl, cell_blk k rfl, cell_blk k rfl, cell_blk k rfl, cell_blk k rfl, fun _ => free_blk k⟩
theorem inB_true {x lo hi : Int} (h : inB x lo hi = true) : lo ≤ x ∧ x ≤ hi := of_decide_eq_true h
theorem inB_false {x lo hi : Int} (h : inB x lo hi = false) : ¬ (lo ≤ x ∧ x ≤ hi) := of_decide_eq_false h

end Go.Proofs.YtieacbccadbdbaaGreatDoor


/- A struct stored whole into a block that is known: the world goes by a new name. -/
namespace Go.Proofs.YtieacbccadbdbaaGreatDoor
open Go.RowKit
set_option linter.unusedVariables false
theorem Blk.setRow {w : World} {g : Nat} {old cells : Array Value} {t : TypeId} {m : Nat × Nat} (k : Blk w g (.cells old t m)) : Blk (w.setRow g cells) g (.cells cells t m) := setRow_heap w g old cells t m k
theorem below_row (w : World) (g : Nat) (cells : Array Value) : Below g w (w.setRow g cells) := below_setRow (Below.refl _ _) (Nat.le_refl _) _
theorem wpList_store_blk {P : Program} {ops : Array Oper} {rest : List Oper} {o : Oper} {a : Act} {w : World} {Q : Exit → Act → World → Prop} (hgd : o.guard = none) (ty : TypeId) (x y : Operand) (ho : o.op = .store ty x y)
    (g : Nat) (cells : Array Value) (hx : a.eval x = .pointer (some ⟨g, 0, none⟩)) (hy : a.eval y = .agg cells)
    {t : TypeId} {old : Array Value} (k : Blk w g (.cells old t (0, 0))) (hi : (P.info? ty).map (·.size) = some cells.size)
    (hold : old.size = cells.size) (h1 : cells.all (·.oneCell') = true)
    (h : ∀ w2 : World, Blk w2 g (.cells cells t (0, 0)) → (∀ i o, i ≠ g → Blk w i o → Blk w2 i o) → Below g w w2 → wpList P ops Q rest (a.put o.dst undef) w2) : wpList P ops Q (o :: rest) a w :=
  wpList_store_row hgd ty x y ho g cells hx hy t old k hi hold h1
    (h _ k.setRow (fun i o hi hk => (setRow_other w g i cells hi).trans hk) (below_row w g cells))
theorem infoBr : (Tryz.prog.info? 29).map (·.size) = some 16 := by kernel_rfl
theorem infoDab : (Tryz.prog.info? 64).map (·.size) = some 5 := by kernel_rfl
end Go.Proofs.YtieacbccadbdbaaGreatDoor


/- Structs of five cells stored whole. -/
namespace Go.Proofs.YtieacbccadbdbaaGreatDoor
open Go.RowKit
set_option linter.unusedVariables false
theorem Chg.trans {b : Nat} {o o' : Obj} {w w' w2 : World} (h : Chg b o w w') (h' : Chg b o' w' w2) : Chg b o' w w2 :=
  ⟨h'.os.trans h.os, h'.tape.trans h.tape, h'.output.trans h.output, h'.size.trans h.size, h'.at_, fun k hk => (h'.other k hk).trans (h.other k hk)⟩
theorem set5 {w : World} {b : Nat} {x0 x1 x2 x3 x4 : Value} {t : TypeId} {m : Nat × Nat} (h : w.heap[b]? = some (.cells #[x0, x1, x2, x3, x4] t m)) (v0 v1 v2 v3 v4 : Value) :
    Chg b (.cells #[v0, v1, v2, v3, v4] t m) w (((((w.setCell ⟨b, 0, none⟩ v0).setCell ⟨b, 1, none⟩ v1).setCell ⟨b, 2, none⟩ v2).setCell ⟨b, 3, none⟩ v3).setCell ⟨b, 4, none⟩ v4) := by
  have h0 : Chg b (.cells #[v0, x1, x2, x3, x4] t m) (w) ((w).setCell ⟨b, 0, none⟩ v0) := chg_set h v0 (i := 0) (by simp)
  have h1 : Chg b (.cells #[v0, v1, x2, x3, x4] t m) ((w).setCell ⟨b, 0, none⟩ v0) (((w).setCell ⟨b, 0, none⟩ v0).setCell ⟨b, 1, none⟩ v1) := chg_set h0.at_ v1 (i := 1) (by simp)
  have h2 : Chg b (.cells #[v0, v1, v2, x3, x4] t m) (((w).setCell ⟨b, 0, none⟩ v0).setCell ⟨b, 1, none⟩ v1) ((((w).setCell ⟨b, 0, none⟩ v0).setCell ⟨b, 1, none⟩ v1).setCell ⟨b, 2, none⟩ v2) := chg_set h1.at_ v2 (i := 2) (by simp)
  have h3 : Chg b (.cells #[v0, v1, v2, v3, x4] t m) ((((w).setCell ⟨b, 0, none⟩ v0).setCell ⟨b, 1, none⟩ v1).setCell ⟨b, 2, none⟩ v2) (((((w).setCell ⟨b, 0, none⟩ v0).setCell ⟨b, 1, none⟩ v1).setCell ⟨b, 2, none⟩ v2).setCell ⟨b, 3, none⟩ v3) := chg_set h2.at_ v3 (i := 3) (by simp)
  have h4 : Chg b (.cells #[v0, v1, v2, v3, v4] t m) (((((w).setCell ⟨b, 0, none⟩ v0).setCell ⟨b, 1, none⟩ v1).setCell ⟨b, 2, none⟩ v2).setCell ⟨b, 3, none⟩ v3) ((((((w).setCell ⟨b, 0, none⟩ v0).setCell ⟨b, 1, none⟩ v1).setCell ⟨b, 2, none⟩ v2).setCell ⟨b, 3, none⟩ v3).setCell ⟨b, 4, none⟩ v4) := chg_set h3.at_ v4 (i := 4) (by simp)
  exact (((h0.trans h1).trans h2).trans h3).trans h4
theorem end5 {P : Program} {fn : Func} {R : Ending → World → Prop} {a : Act} {B : Nat} {w0 w : World} {b : Nat} {x0 x1 x2 x3 x4 v0 v1 v2 v3 v4 : Value} {t : TypeId} (hb : Below B w0 w) (k : Blk w b (.cells #[x0, x1, x2, x3, x4] t (0, 0))) (hB : B ≤ b)
    (hres : ∀ w3 : World, (w3.cell? ⟨b, 0, none⟩ = some v0 ∧ w3.cell? ⟨b, 1, none⟩ = some v1 ∧ w3.cell? ⟨b, 2, none⟩ = some v2 ∧ w3.cell? ⟨b, 3, none⟩ = some v3 ∧ w3.cell? ⟨b, 4, none⟩ = some v4 ∧ ∀ o, w3.frozen? ⟨b, o, none⟩ = false) → (results fn a.tmps).run P w3 = .ok (.agg #[v0, v1, v2, v3, v4]) w3)
    (hd : a.defers = []) (hn : ∀ w3 : World, Below B w0 w3 → R (.returned (.agg #[v0, v1, v2, v3, v4])) w3) :
    bodyPost P fn R .ret a (((((w.setCell ⟨b, 0, none⟩ v0).setCell ⟨b, 1, none⟩ v1).setCell ⟨b, 2, none⟩ v2).setCell ⟨b, 3, none⟩ v3).setCell ⟨b, 4, none⟩ v4) :=
  have ch := set5 k v0 v1 v2 v3 v4
  bodyPost_ret (hres _ ch.blk.c5) hd (hn _ (hb.trans (ch.below hB)))
theorem mid5 {P : Program} {c : Code} {Q : Exit → Act → World → Prop} {a : Act} {B : Nat} {w0 w : World} {b : Nat} {x0 x1 x2 x3 x4 v0 v1 v2 v3 v4 : Value} {t : TypeId} (hb : Below B w0 w) (k : Blk w b (.cells #[x0, x1, x2, x3, x4] t (0, 0))) (hB : B ≤ b)
    (hn : ∀ w2 : World, Blk w2 b (.cells #[v0, v1, v2, v3, v4] t (0, 0)) → (∀ i o, i ≠ b → Blk w i o → Blk w2 i o) → Below B w0 w2 → c.wp P Q a w2) :
    c.wp P Q a (((((w.setCell ⟨b, 0, none⟩ v0).setCell ⟨b, 1, none⟩ v1).setCell ⟨b, 2, none⟩ v2).setCell ⟨b, 3, none⟩ v3).setCell ⟨b, 4, none⟩ v4) :=
  have ch := set5 k v0 v1 v2 v3 v4
  hn _ ch.blk (fun i o hi => ch.keeps i o hi) (hb.trans (ch.below hB))
end Go.Proofs.YtieacbccadbdbaaGreatDoor

