/- The walks of package pixel: each function returns what the plain functions compute; nothing that was in memory before changes. -/
import Derived.Test.YtmkieeaikhndcaaNum
import Derived.Test.YtmkieeaikhndcaaBlk
namespace Go.Proofs.Ytmkieeaikhndcaa
open Go.RowKit
set_option linter.unusedVariables false
attribute [local go_sem] Oper.gAt gUponK

abbrev pv (r g b a : Int) : Value := .agg #[.int .i64 r, .int .i64 g, .int .i64 b, .int .i64 a]

set_option maxHeartbeats 400000 in
theorem limit_any (r g b a : Int) (w : World) :
    Calls Try.prog 13 #[pv r g b a] w fun e w' => e = .returned (pv (cl r) (cl g) (cl b) (cl a)) ∧ Below w.heap.size w w' := by
  go_enter Try.func13, Try.ntmps13
  go_wp2
  refine name2 (fun W k1 k2 hb => ?_)
  refine wp_region_grow 13 (fun w' => Below (World.heap W).size W w') (by kernel_rfl) (by kernel_rfl) (Below.refl _ _).drew ?_
  simp only [List.take_succ_cons, List.take_zero, List.drop_succ_cons, List.drop_zero]
  repeat (first | (apply wpG_on; rfl; (intro w' hS K hK; have hc0 := (k1.kept hS).c4; have hc1 := (k2.kept hS).c4; go_simp; (first | exact hK.out _ hS | (go_at_call 40; refine (unit_p _ _).mono ?_; rintro e w'' ⟨rfl, rfl⟩; exact ⟨_, rfl, hK.out _ hS⟩))); simp only [Act.put, List.setIfInBounds_toArray, List.set_cons_succ, List.set_cons_zero]) | (apply wpG_off; rfl; simp only [Act.put, List.setIfInBounds_toArray, List.set_cons_succ, List.set_cons_zero]))
  apply wpG_nil
  intro W1 hS
  replace k1 := k1.kept hS
  replace k2 := k2.kept hS
  replace hb := hb.trans (hS.mono hb.size)
  clear hS
  have c2 := k2.c4
  go_wp2
  refine end4 hb k2 (by omega) (fun w3 e => by simp [results, Try.results13, go_sem, e]) rfl (fun w3 hb3 => ⟨rfl, hb3⟩)

set_option maxHeartbeats 400000 in
theorem pre_any (r g b a : Int) (w : World) :
    Calls Try.prog 15 #[pv r g b a] w fun e w' => e = .returned (pv (dv (cl r * cl a) 65535) (dv (cl g * cl a) 65535) (dv (cl b * cl a) 65535) (cl a)) ∧ Below w.heap.size w w' := by
  go_enter Try.func15, Try.ntmps15
  go_wp2_with fail
  refine callName2 (fun W k1 k2 hb => ?_)
  refine (limit_any _ _ _ _ _).mono ?_
  rintro e W1 ⟨rfl, hS⟩
  replace k1 := k1.kept hS
  replace k2 := k2.kept hS
  replace hb := hb.trans (hS.mono hb.size)
  clear hS
  have c1 := k1.c4
  go_wp2_with fail
  clear c1
  refine mid4 hb k1 (by omega) (fun W2 k1' kk hb => ?_)
  replace k2 := kk _ _ (by omega) k2
  clear kk k1
  refine wp_region_grow 18 (fun w' => Below (World.heap W2).size W2 w') (by kernel_rfl) (by kernel_rfl) (Below.refl _ _).drew ?_
  simp only [List.take_succ_cons, List.take_zero, List.drop_succ_cons, List.drop_zero]
  repeat (first | (apply wpG_on; rfl; (intro w' hS K hK; have hc0 := (k1'.kept hS).c4; have hc1 := (k2.kept hS).c4; go_simp; (first | exact hK.out _ hS | (go_at_call 41; refine (mul_any _ _ _).mono ?_; rintro e w'' ⟨rfl, rfl⟩; exact ⟨_, rfl, hK.out _ hS⟩))); simp only [Act.put, List.setIfInBounds_toArray, List.set_cons_succ, List.set_cons_zero]) | (apply wpG_off; rfl; simp only [Act.put, List.setIfInBounds_toArray, List.set_cons_succ, List.set_cons_zero]))
  apply wpG_nil
  intro W3 hS
  replace k1' := k1'.kept hS
  replace k2 := k2.kept hS
  replace hb := hb.trans (hS.mono hb.size)
  clear hS
  have c2 := k2.c4
  go_wp2
  simp only [cl_cl]
  refine end4 hb k2 (by omega) (fun w3 e => by simp [results, Try.results15, go_sem, e]) rfl (fun w3 hb3 => ⟨rfl, hb3⟩)

def ap (x y : Int) : Int := max (x - y) (y - x)
theorem ap_bd (x y : Int) (h : 0 ≤ x ∧ x ≤ 65535) (h' : 0 ≤ y ∧ y ≤ 65535) : 0 ≤ ap x y ∧ ap x y ≤ 65535 := by unfold ap; omega

set_option maxHeartbeats 400000 in
theorem apart_any (x y : Int) (w : World) (h : 0 ≤ x ∧ x ≤ 65535) (h' : 0 ≤ y ∧ y ≤ 65535) :
    Calls Try.prog 45 #[.int .i64 x, .int .i64 y] w fun e w' => e = .returned (.int .i64 (ap x y)) ∧ w = w' := by
  go_enter Try.func45, Try.ntmps45
  go_wp2
  all_goals go_ret
  all_goals exact ⟨ret_int (by unfold ap; omega), rfl⟩

theorem run_max_int4 {P : Program} {w : World} (ts : Array TypeId) (t : TypeId) (k : IntKind) (x y z u : Int) : (Builtin.max_ ts t #[.int k x, .int k y, .int k z, .int k u]).run P w = .ok (.int k (max (max (max x y) z) u)) w := by
  simp [Builtin.max_, Builtin.max2]
  omega
attribute [local go_sem] run_max_int4

set_option maxHeartbeats 400000 in
theorem dist_any (r g b a r' g' b' a' : Int) (w : World) :
    Calls Try.prog 26 #[pv r g b a, pv r' g' b' a'] w fun e w' => e = .returned (.int .i64 (max (max (max (ap (cl r) (cl r')) (ap (cl g) (cl g'))) (ap (cl b) (cl b'))) (ap (cl a) (cl a')))) ∧ Below w.heap.size w w' := by
  go_enter Try.func26, Try.ntmps26
  go_wp2
  refine name2 (fun W k1 k2 hb => ?_)
  refine wp_region_grow 4 (fun w' => Below (World.heap W).size W w') (by kernel_rfl) (by kernel_rfl) (Below.refl _ _).drew ?_
  simp only [List.take_succ_cons, List.take_zero, List.drop_succ_cons, List.drop_zero]
  repeat (first | (apply wpG_on; rfl; (intro w' hS K hK; have hc0 := (k1.kept hS).c4; have hc1 := (k2.kept hS).c4; go_simp; (first | exact hK.out _ hS | (go_at_call 13; refine (limit_any _ _ _ _ _).mono ?_; rintro e w'' ⟨rfl, hbb⟩; exact ⟨_, rfl, hK.out _ (hS.trans (hbb.mono hS.size))⟩))); simp only [Act.put, List.setIfInBounds_toArray, List.set_cons_succ, List.set_cons_zero]) | (apply wpG_off; rfl; simp only [Act.put, List.setIfInBounds_toArray, List.set_cons_succ, List.set_cons_zero]))
  apply wpG_nil
  intro W1 hS
  replace k1 := k1.kept hS
  replace k2 := k2.kept hS
  replace hb := hb.trans (hS.mono hb.size)
  clear hS
  have c1 := k1.c4
  have c2 := k2.c4
  go_wp2
  clear c1 c2
  refine mid44 hb k1 k2 (by omega) (by omega) (by omega) (fun W2 k1' k2' kk hb => ?_)
  clear kk k1 k2
  refine wp_region_grow 20 (fun w' => Below (World.heap W2).size W2 w') (by kernel_rfl) (by kernel_rfl) (Below.refl _ _).drew ?_
  simp only [List.take_succ_cons, List.take_zero, List.drop_succ_cons, List.drop_zero]
  repeat (first | (apply wpG_on; rfl; (intro w' hS K hK; have hc0 := (k1'.kept hS).c4; have hc1 := (k2'.kept hS).c4; go_simp; (first | exact hK.out _ hS | (go_at_call 45; refine (apart_any _ _ _ (cl_bd _) (cl_bd _)).mono ?_; rintro e w'' ⟨rfl, rfl⟩; exact ⟨_, rfl, hK.out _ hS⟩))); simp only [Act.put, List.setIfInBounds_toArray, List.set_cons_succ, List.set_cons_zero]) | (apply wpG_off; rfl; simp only [Act.put, List.setIfInBounds_toArray, List.set_cons_succ, List.set_cons_zero]))
  apply wpG_nil
  intro W3 hS
  replace k1' := k1'.kept hS
  replace k2' := k2'.kept hS
  replace hb := hb.trans (hS.mono hb.size)
  clear hS
  go_wp2
  all_goals go_ret
  all_goals exact ⟨ret_int (by omega), hb⟩
end Go.Proofs.Ytmkieeaikhndcaa
