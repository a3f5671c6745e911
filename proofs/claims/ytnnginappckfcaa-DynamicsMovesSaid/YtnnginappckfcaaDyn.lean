/- The walks of package dynamics and of its reference: Check, Speed, Source. -/
import Derived.Test.YtnnginappckfcaaCurveRef
import Derived.Test.YtnnginappckfcaaHyp
import Derived.Test.YtnnginappckfcaaRand
import Derived.Test.YtnnginappckfcaaDynPlain
import Derived.Lib.MinMax
namespace Go.Proofs.Ytnnginappckfcaa
open Go.RowKit
set_option linter.unusedVariables false
attribute [local go_sem] Oper.gAt gUponK

abbrev sv (x y p t m : Int) : Value := .agg #[.int .i64 x, .int .i64 y, .int .i64 p, .int .i64 t, .int .i64 m]

/-- The slice value v reads as the elements ds. -/
def Dn (w : World) (v : Value) (ds : Dyns) : Prop :=
  ∃ a cap, v = .slice a ds.length cap ∧ ds.length ≤ 9223372036854775807 ∧ (ds.length = 0 ∨ ∃ b off, a = some ⟨b, off, none⟩ ∧ b < w.heap.size ∧
    ∀ i, i < ds.length → w.cell? ⟨b, off + i * 3, none⟩ = some (.int .i64 (dT ds i)) ∧ w.cell? ⟨b, off + i * 3 + 1, none⟩ = some (.int .i64 (dS ds i)) ∧ ∃ c, w.cell? ⟨b, off + i * 3 + 2, none⟩ = some c ∧ Kn w c (dC ds i))
theorem Dn.kept {w w' : World} {v : Value} {ds : Dyns} (h : Dn w v ds) (hb : Below w.heap.size w w') : Dn w' v ds := by
  obtain ⟨a, cap, hv, hl, hr⟩ := h
  refine ⟨a, cap, hv, hl, ?_⟩
  rcases hr with h0 | ⟨b, off, ha, hlt, hc⟩
  · exact .inl h0
  · refine .inr ⟨b, off, ha, Nat.lt_of_lt_of_le hlt hb.size, fun i hi => ?_⟩
    rw [hb.cell (p := ⟨b, off + i * 3, none⟩) hlt, hb.cell (p := ⟨b, off + i * 3 + 1, none⟩) hlt, hb.cell (p := ⟨b, off + i * 3 + 2, none⟩) hlt]
    obtain ⟨h1, h2, c, h3, h4⟩ := hc i hi
    exact ⟨h1, h2, c, h3, h4.kept hb⟩
/-- The cells of element i, in any later world. -/
theorem Dn.at {w : World} {b off : Nat} {ds : Dyns} (hlt : b < w.heap.size)
    (hc : ∀ i, i < ds.length → w.cell? ⟨b, off + i * 3, none⟩ = some (.int .i64 (dT ds i)) ∧ w.cell? ⟨b, off + i * 3 + 1, none⟩ = some (.int .i64 (dS ds i)) ∧ ∃ c, w.cell? ⟨b, off + i * 3 + 2, none⟩ = some c ∧ Kn w c (dC ds i)) (i : Nat) (hi : i < ds.length) :
    ∃ a n cap, Kn w (.slice a n cap) (dC ds i) ∧ ∀ w' : World, Below w.heap.size w w' → w'.cell? ⟨b, off + i * 3, none⟩ = some (.int .i64 (dT ds i)) ∧ w'.cell? ⟨b, off + i * 3 + 1, none⟩ = some (.int .i64 (dS ds i)) ∧ w'.cell? ⟨b, off + i * 3 + 2, none⟩ = some (.slice a n cap) := by
  obtain ⟨h1, h2, c, h3, h4⟩ := hc i hi
  have h5 := h4
  obtain ⟨a, cap, rfl, _⟩ := h5
  refine ⟨a, _, cap, h4, fun w' hb => ?_⟩
  rw [hb.cell (p := ⟨b, off + i * 3, none⟩) hlt, hb.cell (p := ⟨b, off + i * 3 + 1, none⟩) hlt, hb.cell (p := ⟨b, off + i * 3 + 2, none⟩) hlt]
  exact ⟨h1, h2, h3⟩

set_option maxHeartbeats 400000 in
theorem unit_d (x : Int) (w : World) :
    Calls Try.prog 26 #[.int .i64 x] w fun e w' => e = .returned (.int .i64 (cl x)) ∧ w = w' := by
  go_enter Try.func26, Try.ntmps26
  go_wp2_with fail
  refine (clamp_any _ _ _ _).mono ?_
  rintro e w' ⟨rfl, rfl⟩
  go_wp2_with fail
  go_ret
  exact ⟨ret_int (cl_min x), rfl⟩
set_option maxHeartbeats 400000 in
theorem refUnit_d (x : Int) (w : World) :
    Calls Try.prog 30 #[.int .i64 x] w fun e w' => e = .returned (.int .i64 (cl x)) ∧ w = w' := by
  go_enter Try.func30, Try.ntmps30
  go_wp2
  all_goals go_ret
  all_goals refine ⟨ret_int ?_, rfl⟩
  all_goals rw [← cl_min]
  all_goals omega
set_option maxHeartbeats 400000 in
theorem co_any (x : Int) (w : World) :
    Calls Try.prog 25 #[.int .i64 x] w fun e w' => e = .returned (.int .i64 (co x)) ∧ w = w' := by
  go_enter Try.func25, Try.ntmps25
  go_wp2_with fail
  refine (clamp_any _ _ _ _).mono ?_
  rintro e w' ⟨rfl, rfl⟩
  go_wp2_with fail
  go_ret
  exact ⟨rfl, rfl⟩
set_option maxHeartbeats 400000 in
theorem refCo_any (x : Int) (w : World) :
    Calls Try.prog 29 #[.int .i64 x] w fun e w' => e = .returned (.int .i64 (co x)) ∧ w = w' := by
  go_enter Try.func29, Try.ntmps29
  go_wp2
  all_goals go_ret
  all_goals refine ⟨ret_int ?_, rfl⟩
  all_goals unfold co
  all_goals omega
/-- A time, limited: the clamp under its own name. -/
theorem tm_any (x : Int) (w : World) :
    Calls Try.prog 23 #[.int .i64 x, .int .i64 0, .int .i64 1073741824] w fun e w' => e = .returned (.int .i64 (tm x)) ∧ w = w' := clamp_any _ _ _ _

set_option maxHeartbeats 1000000 in
theorem speed_any (ax ay ap at_ am bx by_ bp bt bm : Int) (w : World) :
    Calls Try.prog 13 #[sv ax ay ap at_ am, sv bx by_ bp bt bm] w fun e w' => e = .returned (.int .i64 (spd ax ay am bx by_ bm)) ∧ Below w.heap.size w w' := by
  have ta := tm_bd am
  have tb := tm_bd bm
  have c1 := co_bd ax
  have c2 := co_bd ay
  have c3 := co_bd bx
  have c4 := co_bd by_
  have hh := hyp_bd (co bx - co ax) (co by_ - co ay) 33554432 (by omega) (by omega) (by omega) (by omega)
  have e0 : IntKind.i64.wrap (tm bm - tm am) = tm bm - tm am := IntWalk.i64_in _ (by omega)
  by_cases ht : tm bm - tm am ≤ 0
  · have HQ : Hid (spd ax ay am bx by_ bm = 0) := by show _ = _; unfold spd; rw [if_pos ht]
    go_enter Try.func13, Try.ntmps13
    go_wp2
    refine name2 (fun W k1 k2 hb => ?_)
    refine wp_region_grow 8 (fun w' => Below (World.heap W).size W w') (by kernel_rfl) (by kernel_rfl) (Below.refl _ _).drew ?_
    simp only [List.take_succ_cons, List.take_zero, List.drop_succ_cons, List.drop_zero]
    repeat (first | (apply wpG_on; rfl; (intro w' hS K hK; have hc0 := (k1.kept hS).c5; have hc1 := (k2.kept hS).c5; go_simp; (first | exact hK.out _ hS | (go_at_call 23; (with_reducible refine (tm_any _ _).mono ?_); rintro e w'' ⟨rfl, rfl⟩; exact ⟨_, rfl, hK.out _ hS⟩))); simp only [Act.put, List.setIfInBounds_toArray, List.set_cons_succ, List.set_cons_zero]) | (apply wpG_off; rfl; simp only [Act.put, List.setIfInBounds_toArray, List.set_cons_succ, List.set_cons_zero]))
    apply wpG_nil
    intro W1 hS
    replace k1 := k1.kept hS
    replace k2 := k2.kept hS
    replace hb := hb.trans (hS.mono hb.size)
    clear hS
    clear e0
    go_wp2_with fail
    go_ret
    exact ⟨ret_int HQ.out.symm, hb⟩
  · have HQ : Hid (spd ax ay am bx by_ bm = cl (dv (hypot (co bx - co ax) (co by_ - co ay) * 65535) (64 * (tm bm - tm am)))) := by show _ = _; unfold spd; rw [if_neg ht]
    have e1 : IntKind.i64.wrap (co bx - co ax) = co bx - co ax := IntWalk.i64_in _ (by omega)
    have e2 : IntKind.i64.wrap (co by_ - co ay) = co by_ - co ay := IntWalk.i64_in _ (by omega)
    have f1 : -1073741824 ≤ co bx - co ax := by omega
    have f2 : co bx - co ax ≤ 1073741824 := by omega
    have f3 : -1073741824 ≤ co by_ - co ay := by omega
    have f4 : co by_ - co ay ≤ 1073741824 := by omega
    go_enter Try.func13, Try.ntmps13
    go_wp2
    refine name2 (fun W k1 k2 hb => ?_)
    refine wp_region_grow 8 (fun w' => Below (World.heap W).size W w') (by kernel_rfl) (by kernel_rfl) (Below.refl _ _).drew ?_
    simp only [List.take_succ_cons, List.take_zero, List.drop_succ_cons, List.drop_zero]
    repeat (first | (apply wpG_on; rfl; (intro w' hS K hK; have hc0 := (k1.kept hS).c5; have hc1 := (k2.kept hS).c5; go_simp; (first | exact hK.out _ hS | (go_at_call 23; (with_reducible refine (tm_any _ _).mono ?_); rintro e w'' ⟨rfl, rfl⟩; exact ⟨_, rfl, hK.out _ hS⟩))); simp only [Act.put, List.setIfInBounds_toArray, List.set_cons_succ, List.set_cons_zero]) | (apply wpG_off; rfl; simp only [Act.put, List.setIfInBounds_toArray, List.set_cons_succ, List.set_cons_zero]))
    apply wpG_nil
    intro W1 hS
    replace k1 := k1.kept hS
    replace k2 := k2.kept hS
    replace hb := hb.trans (hS.mono hb.size)
    clear hS
    clear e0
    go_wp2_with fail
    refine wp_region_grow 16 (fun w' => Below (World.heap W1).size W1 w') (by kernel_rfl) (by kernel_rfl) (Below.refl _ _).drew ?_
    simp only [List.take_succ_cons, List.take_zero, List.drop_succ_cons, List.drop_zero]
    repeat (first | (apply wpG_on; rfl; (intro w' hS K hK; have hc0 := (k1.kept hS).c5; have hc1 := (k2.kept hS).c5; go_simp; (first | exact hK.out _ hS | (go_at_call 25; (with_reducible refine (co_any _ _).mono ?_); rintro e w'' ⟨rfl, rfl⟩; exact ⟨_, rfl, hK.out _ hS⟩) | (go_at_call 24; (with_reducible refine (hypot_any _ _ _ f1 f2 f3 f4).mono ?_); rintro e w'' ⟨rfl, rfl⟩; exact ⟨_, rfl, hK.out _ hS⟩))); simp only [Act.put, List.setIfInBounds_toArray, List.set_cons_succ, List.set_cons_zero]) | (apply wpG_off; rfl; simp only [Act.put, List.setIfInBounds_toArray, List.set_cons_succ, List.set_cons_zero]))
    apply wpG_nil
    intro W2 hS
    replace k1 := k1.kept hS
    replace k2 := k2.kept hS
    replace hb := hb.trans (hS.mono hb.size)
    clear hS
    clear e1 e2
    go_wp2_with fail
    refine (div_any _ _ _ (by omega) (by omega) (by omega) (by omega)).mono ?_
    rintro e w' ⟨rfl, rfl⟩
    go_wp2_with fail
    refine (unit_d _ _).mono ?_
    rintro e w' ⟨rfl, rfl⟩
    go_wp2_with fail
    go_ret
    exact ⟨ret_int HQ.out.symm, hb⟩

theorem tm_ref (x : Int) : min (max x 0) 1073741824 = tm x := by unfold tm; omega

set_option maxHeartbeats 1000000 in
theorem refSpeed_any (ax ay ap at_ am bx by_ bp bt bm : Int) (w : World) :
    Calls Try.prog 14 #[sv ax ay ap at_ am, sv bx by_ bp bt bm] w fun e w' => e = .returned (.int .i64 (spd ax ay am bx by_ bm)) ∧ Below w.heap.size w w' := by
  have ta := tm_bd am
  have tb := tm_bd bm
  have c1 := co_bd ax
  have c2 := co_bd ay
  have c3 := co_bd bx
  have c4 := co_bd by_
  have hh := hyp_bd (co bx - co ax) (co by_ - co ay) 33554432 (by omega) (by omega) (by omega) (by omega)
  have r1 := tm_ref am
  have r2 := tm_ref bm
  by_cases ht : tm bm - tm am ≤ 0
  · have HQ : Hid (spd ax ay am bx by_ bm = 0) := by show _ = _; unfold spd; rw [if_pos ht]
    go_enter Try.func14, Try.ntmps14
    go_wp2
    go_ret
    exact ⟨ret_int HQ.out.symm, ((Below.refl _ _).alloc (Nat.le_refl _) _).alloc (by simp) _⟩
  · have HQ : Hid (spd ax ay am bx by_ bm = cl (dv (hypot (co bx - co ax) (co by_ - co ay) * 65535) (64 * (tm bm - tm am)))) := by show _ = _; unfold spd; rw [if_neg ht]
    have f1 : -1073741824 ≤ co bx - co ax := by omega
    have f2 : co bx - co ax ≤ 1073741824 := by omega
    have f3 : -1073741824 ≤ co by_ - co ay := by omega
    have f4 : co by_ - co ay ≤ 1073741824 := by omega
    go_enter Try.func14, Try.ntmps14
    go_wp2
    clear r1 r2
    refine name2 (fun W k1 k2 hb => ?_)
    have e1 : IntKind.i64.wrap (co bx - co ax) = co bx - co ax := IntWalk.i64_in _ (by omega)
    have e2 : IntKind.i64.wrap (co by_ - co ay) = co by_ - co ay := IntWalk.i64_in _ (by omega)
    refine wp_region_grow 16 (fun w' => Below (World.heap W).size W w') (by kernel_rfl) (by kernel_rfl) (Below.refl _ _).drew ?_
    simp only [List.take_succ_cons, List.take_zero, List.drop_succ_cons, List.drop_zero]
    repeat (first | (apply wpG_on; rfl; (intro w' hS K hK; have hc0 := (k1.kept hS).c5; have hc1 := (k2.kept hS).c5; go_simp; (first | exact hK.out _ hS | (go_at_call 29; (with_reducible refine (refCo_any _ _).mono ?_); rintro e w'' ⟨rfl, rfl⟩; exact ⟨_, rfl, hK.out _ hS⟩) | (go_at_call 28; (with_reducible refine (refHypot_any _ _ _ f1 f2 f3 f4).mono ?_); rintro e w'' ⟨rfl, rfl⟩; exact ⟨_, rfl, hK.out _ hS⟩))); simp only [Act.put, List.setIfInBounds_toArray, List.set_cons_succ, List.set_cons_zero]) | (apply wpG_off; rfl; simp only [Act.put, List.setIfInBounds_toArray, List.set_cons_succ, List.set_cons_zero]))
    apply wpG_nil
    intro W2 hS
    replace k1 := k1.kept hS
    replace k2 := k2.kept hS
    replace hb := hb.trans (hS.mono hb.size)
    clear hS
    clear e1 e2
    go_wp2_with fail
    refine (refDiv_any _ _ _ (by omega) (by omega) (by omega) (by omega)).mono ?_
    rintro e w' ⟨rfl, n, rfl⟩
    go_wp2_with fail
    refine (refUnit_d _ _).mono ?_
    rintro e w' ⟨rfl, rfl⟩
    go_wp2_with fail
    go_ret
    exact ⟨ret_int HQ.out.symm, belowN hb _⟩

theorem src_1 (p t speed index seed : Int) : src 1 p t speed index seed = cl p := rfl
theorem src_2 (p t speed index seed : Int) : src 2 p t speed index seed = cl t := rfl
theorem src_3 (p t speed index seed : Int) : src 3 p t speed index seed = cl speed := rfl
theorem src_4 (p t speed index seed : Int) : src 4 p t speed index seed = atI seed index 1 / 65537 := rfl
theorem src_5 (p t speed index seed : Int) : src 5 p t speed index seed = 65535 - min 65535 (1024 * min 64 (max index 0)) := rfl
theorem src_0 (kind p t speed index seed : Int) (h : kind < 1 ∨ 5 < kind) : src kind p t speed index seed = 0 := by
  unfold src
  repeat' rw [if_neg (by omega)]
theorem fade_min (m : Int) (h0 : 0 ≤ m) : (if 1024 * m < 65535 then 1024 * m else 65535) = min 65535 (1024 * m) := by split <;> omega

set_option maxHeartbeats 1000000 in
theorem source_any (kind x y p t m speed index seed : Int) (w : World) :
    Calls Try.prog 15 #[.int .i64 kind, sv x y p t m, .int .i64 speed, .int .i64 index, .int .i64 seed] w fun e w' => e = .returned (.int .i64 (src kind p t speed index seed)) ∧ Below w.heap.size w w' := by
  have hB : Below w.heap.size w (w.alloc (.cells #[.int .i64 x, .int .i64 y, .int .i64 p, .int .i64 t, .int .i64 m] 28)) := (Below.refl _ _).alloc (Nat.le_refl _) _
  by_cases h1 : kind = 1
  · subst h1
    go_enter Try.func15, Try.ntmps15
    go_wp2_with fail
    refine (unit_d _ _).mono ?_
    rintro e w' ⟨rfl, rfl⟩
    go_wp2_with fail
    go_ret
    exact ⟨ret_int (src_1 ..).symm, hB⟩
  by_cases h2 : kind = 2
  · subst h2
    clear h1
    go_enter Try.func15, Try.ntmps15
    go_wp2_with fail
    refine (unit_d _ _).mono ?_
    rintro e w' ⟨rfl, rfl⟩
    go_wp2_with fail
    go_ret
    exact ⟨ret_int (src_2 ..).symm, hB⟩
  by_cases h3 : kind = 3
  · subst h3
    clear h1 h2
    go_enter Try.func15, Try.ntmps15
    go_wp2_with fail
    refine (unit_d _ _).mono ?_
    rintro e w' ⟨rfl, rfl⟩
    go_wp2_with fail
    go_ret
    exact ⟨ret_int (src_3 ..).symm, hB⟩
  by_cases h4 : kind = 4
  · subst h4
    clear h1 h2 h3
    go_enter Try.func15, Try.ntmps15
    go_wp2_with fail
    refine (unit_any _ _ _ _).mono ?_
    rintro e w' ⟨rfl, rfl⟩
    go_wp2_with fail
    go_ret
    exact ⟨ret_int (src_4 ..).symm, hB⟩
  by_cases h5 : kind = 5
  · subst h5
    clear h1 h2 h3 h4
    have HQ := Lib.hid (src_5 p t speed index seed)
    have hm : 0 ≤ min 64 (max index 0) ∧ min 64 (max index 0) ≤ 64 := by omega
    go_enter Try.func15, Try.ntmps15
    go_wp2_with fail
    refine (clamp_any _ _ _ _).mono ?_
    rintro e w' ⟨rfl, rfl⟩
    generalize min 64 (max index 0) = q at *
    go_wp2_with fail
    all_goals go_ret
    all_goals exact ⟨ret_int (by rw [HQ.out]), hB⟩
  · have HQ := Lib.hid (src_0 kind p t speed index seed (by omega))
    have g1 : (kind == 1) = false := by simpa using h1
    have g2 : (kind == 2) = false := by simpa using h2
    have g3 : (kind == 3) = false := by simpa using h3
    have g4 : (kind == 4) = false := by simpa using h4
    have g5 : (kind == 5) = false := by simpa using h5
    clear h1 h2 h3 h4 h5
    go_enter Try.func15, Try.ntmps15
    go_wp2
    go_ret
    exact ⟨ret_int HQ.out.symm, hB⟩
set_option maxHeartbeats 1000000 in
theorem refSource_any (kind x y p t m speed index seed : Int) (w : World) :
    Calls Try.prog 16 #[.int .i64 kind, sv x y p t m, .int .i64 speed, .int .i64 index, .int .i64 seed] w fun e w' => e = .returned (.int .i64 (src kind p t speed index seed)) ∧ Below w.heap.size w w' := by
  have hB : Below w.heap.size w (w.alloc (.cells #[.int .i64 x, .int .i64 y, .int .i64 p, .int .i64 t, .int .i64 m] 28)) := (Below.refl _ _).alloc (Nat.le_refl _) _
  by_cases h1 : kind = 1
  · subst h1
    go_enter Try.func16, Try.ntmps16
    go_wp2_with fail
    refine (refUnit_d _ _).mono ?_
    rintro e w' ⟨rfl, rfl⟩
    go_wp2_with fail
    go_ret
    exact ⟨ret_int (src_1 ..).symm, hB⟩
  by_cases h2 : kind = 2
  · subst h2
    clear h1
    go_enter Try.func16, Try.ntmps16
    go_wp2_with fail
    refine (refUnit_d _ _).mono ?_
    rintro e w' ⟨rfl, rfl⟩
    go_wp2_with fail
    go_ret
    exact ⟨ret_int (src_2 ..).symm, hB⟩
  by_cases h3 : kind = 3
  · subst h3
    clear h1 h2
    go_enter Try.func16, Try.ntmps16
    go_wp2_with fail
    refine (refUnit_d _ _).mono ?_
    rintro e w' ⟨rfl, rfl⟩
    go_wp2_with fail
    go_ret
    exact ⟨ret_int (src_3 ..).symm, hB⟩
  by_cases h4 : kind = 4
  · subst h4
    clear h1 h2 h3
    go_enter Try.func16, Try.ntmps16
    go_wp2_with fail
    refine (refUnit_any _ _ _ _).mono ?_
    rintro e w' ⟨rfl, rfl⟩
    go_wp2_with fail
    go_ret
    exact ⟨ret_int (src_4 ..).symm, hB⟩
  by_cases h5 : kind = 5
  · subst h5
    clear h1 h2 h3 h4
    have HQ := Lib.hid (src_5 p t speed index seed)
    have hm : 0 ≤ min 64 (max index 0) ∧ min 64 (max index 0) ≤ 64 := by omega
    have r1 : min (max 0 index) 64 = min 64 (max index 0) := by omega
    generalize min 64 (max index 0) = q at *
    go_enter Try.func16, Try.ntmps16
    go_wp2_with fail
    all_goals go_ret
    all_goals exact ⟨ret_int (by rw [HQ.out]), hB⟩
  · have HQ := Lib.hid (src_0 kind p t speed index seed (by omega))
    have g1 : (kind == 1) = false := by simpa using h1
    have g2 : (kind == 2) = false := by simpa using h2
    have g3 : (kind == 3) = false := by simpa using h3
    have g4 : (kind == 4) = false := by simpa using h4
    have g5 : (kind == 5) = false := by simpa using h5
    clear h1 h2 h3 h4 h5
    go_enter Try.func16, Try.ntmps16
    go_wp2
    go_ret
    exact ⟨ret_int HQ.out.symm, hB⟩

set_option maxHeartbeats 1000000 in
theorem dynCheck_any (v : Value) (ds : Dyns) (w : World) (h : Dn w v ds) :
    Calls Try.prog 11 #[v] w fun e w' => e = .returned (.int .i64 (dchk ds)) ∧ Below w.heap.size w w' := by
  obtain ⟨a, cap, rfl, hl, hr⟩ := h
  by_cases h8 : 8 < ds.length
  · have HQ : Hid (dchk ds = 3) := by show _ = _; unfold dchk; rw [if_pos h8]
    go_enter Try.func11, Try.ntmps11
    go_wp2
    go_ret
    exact ⟨ret_int HQ.out.symm, Below.refl _ _⟩
  · have HQ : Hid (dchk ds = ferr (dbad ds) (ds.length - 0) 0) := by show _ = _; unfold dchk; rw [if_neg h8]
    have HC : Hid (∀ i, i < ds.length → ∃ b off ac nc cc, a = some ⟨b, off, none⟩ ∧ Kn w (.slice ac nc cc) (dC ds i) ∧ ∀ w' : World, Below w.heap.size w w' → w'.cell? ⟨b, off + i * 3, none⟩ = some (.int .i64 (dT ds i)) ∧ w'.cell? ⟨b, off + i * 3 + 1, none⟩ = some (.int .i64 (dS ds i)) ∧ w'.cell? ⟨b, off + i * 3 + 2, none⟩ = some (.slice ac nc cc)) := fun i hi => by
      rcases hr with h0 | ⟨b, off, ha, hlt, hc⟩
      · omega
      · obtain ⟨ac, nc, cc, hk, hcell⟩ := Dn.at hlt hc i hi
        exact ⟨b, off, ac, nc, cc, ha, hk, hcell⟩
    clear hr
    have d8 : decide (8 < (ds.length : Int)) = false := by simp; omega
    generalize hn : ds.length = n at *
    have HN := Lib.hid hn
    clear hn
    go_enter Try.func11, Try.ntmps11
    go_wp2
    clear d8
    go_loopw [4, 5, 11] (fun _ _ i wr => ∃ k : Nat, k ≤ n ∧ i = .int .i64 k ∧ Hid (dchk ds = ferr (dbad ds) (n - k) k) ∧ Below w.heap.size w wr) (fun _ _ i _ => n - (intOf i).toNat)
    case atStart => exact ⟨0, Nat.zero_le _, rfl, HQ, Below.refl _ _⟩
    case round =>
      obtain ⟨k, hk, rfl, HR, hb⟩ := hrel
      by_cases hlt2 : k < n
      · obtain ⟨b, off, ac, nc, cc, rfl, hkn, hcell⟩ := HC.out k hlt2
        obtain ⟨c1, c2, c3⟩ := hcell wr hb
        clear hcell
        have HK : Hid (dbad ds k = if dT ds k < 1 then 8 else if 4 < dT ds k then 8 else if dS ds k < 1 then 8 else if 5 < dS ds k then 8 else kchk (dC ds k)) := rfl
        have HF := Lib.hid (ferr_at (dbad ds) n k hlt2)
        have HG := Lib.hid (ferr_go (dbad ds) n k hlt2)
        have HKN := Lib.hid hkn
        clear hkn HC
        generalize dT ds k = T at *
        generalize dS ds k = S at *
        generalize dC ds k = C at *
        have bad : ∀ w2 : World, Below w.heap.size w w2 → dbad ds k = 8 → Hid (Ending.returned (.int .i64 8) = Ending.returned (.int .i64 (dchk ds))) := fun w2 hb2 h8' => ret_int (by rw [HR.out, HF.out (by rw [h8']; decide), h8'])
        have BAD := Lib.hid bad
        clear bad
        have hbA : Below w.heap.size w (wr.alloc (.cells #[.int .i64 T, .int .i64 S, .slice ac nc cc] 37)) := hb.alloc hb.size _
        by_cases t1 : T < 1
        · have HE : Hid (dbad ds k = 8) := by show _ = _; rw [HK.out, if_pos t1]
          go_wp2
          go_ret
          exact ⟨(BAD.out _ hb HE.out).out, hbA⟩
        by_cases t2 : 4 < T
        · have HE : Hid (dbad ds k = 8) := by show _ = _; rw [HK.out, if_neg t1, if_pos t2]
          go_wp2
          go_ret
          exact ⟨(BAD.out _ hb HE.out).out, hbA⟩
        by_cases t3 : S < 1
        · have HE : Hid (dbad ds k = 8) := by show _ = _; rw [HK.out, if_neg t1, if_neg t2, if_pos t3]
          go_wp2
          go_ret
          exact ⟨(BAD.out _ hb HE.out).out, hbA⟩
        by_cases t4 : 5 < S
        · have HE : Hid (dbad ds k = 8) := by show _ = _; rw [HK.out, if_neg t1, if_neg t2, if_neg t3, if_pos t4]
          go_wp2
          go_ret
          exact ⟨(BAD.out _ hb HE.out).out, hbA⟩
        have HE : Hid (dbad ds k = kchk C) := by show _ = _; rw [HK.out, if_neg t1, if_neg t2, if_neg t3, if_neg t4]
        by_cases t5 : kchk C = 0
        · have T5 := Lib.hid t5
          clear t5
          go_wp2_with fail
          refine callName1 (fun W k1 hb1 => ?_)
          replace hb := hb.trans (hb1.mono hb.size)
          clear hbA hb1
          refine (curveCheck_any _ C _ (HKN.out.kept hb)).mono ?_
          rintro e w2 ⟨rfl, hb2⟩
          replace hb := hb.trans (hb2.mono hb.size)
          rw [T5.out]
          clear hb2
          go_wp2_with fail
          go_roundw
          case rel => exact ⟨k + 1, by omega, by go_num, by show _ = _; rw [HR.out, HG.out (by rw [HE.out, T5.out])], hb⟩
          case measure => simp [intOf]; omega
        · have g5 : (kchk C != 0) = true := by simpa using t5
          have T5 := Lib.hid t5
          clear t5
          go_wp2_with fail
          refine callName1 (fun W k1 hb1 => ?_)
          replace hb := hb.trans (hb1.mono hb.size)
          clear hbA hb1
          refine (curveCheck_any _ C _ (HKN.out.kept hb)).mono ?_
          rintro e w2 ⟨rfl, hb2⟩
          replace hb := hb.trans (hb2.mono hb.size)
          clear hb2
          go_wp2_with fail
          go_ret
          exact ⟨ret_int (by rw [HR.out, HF.out (by rw [HE.out]; exact T5.out), HE.out]), hb⟩
      · obtain rfl : k = n := by omega
        go_wp2
        go_ret
        exact ⟨ret_int (by rw [HR.out, ferr_end]), hb⟩
end Go.Proofs.Ytnnginappckfcaa
