/- Colors of the reference of package blend. -/
import Derived.Test.YtfgkgibomgcmpaaDoorColFn
import Derived.Test.YtfgkgibomgcmpaaDoorPixRef
import Derived.Test.YtfgkgibomgcmpaaDoorMake
import Derived.Test.YtfgkgibomgcmpaaDoorColSep
import Derived.Deep.Cut
import Derived.Deep.RegionHeld3
namespace Go.Proofs.YtfgkgibomgcmpaaDoor
open Go.RowKit
set_option linter.unusedVariables false
attribute [local go_sem] Oper.gAt gUponK Oper.sAt stilK

set_option maxHeartbeats 2000000 in
theorem refColors14 (r g b a r' g' b' a' : Int) (w : World) :
    Calls Tryd.prog 16 #[.int .i64 14, pv r g b a, pv r' g' b' a'] w fun e w' => e = .returned (pv (col3 14 (cl r, cl g, cl b) (cl r', cl g', cl b')).1 (col3 14 (cl r, cl g, cl b) (cl r', cl g', cl b')).2.1 (col3 14 (cl r, cl g, cl b) (cl r', cl g', cl b')).2.2 65535) ∧ Below w.heap.size w w' := by
  have u1 : U3 (cl r, cl g, cl b) := ⟨cl_bd _, cl_bd _, cl_bd _⟩
  have u2 : U3 (cl r', cl g', cl b') := ⟨cl_bd _, cl_bd _, cl_bd _⟩
  have E1 := lum3_u _ u1
  have E2 := lum3_u _ u2
  have E3 := sat3_u _ u1
  have E4 := sat3_u _ u2
  have E5 := setSat3_u _ _ u2 E3
  have E6 := setSat3_u _ _ u1 E4
  go_enter Tryd.func16, Tryd.ntmps16
  go_wp2
  refine name3 (fun W k1 k2 k3 hb => ?_)
  refine wp_region_grow 4 (fun w' => Below (World.heap W).size W w') (by kernel_rfl) (by kernel_rfl) (Below.refl _ _).drew ?_
  simp only [List.take_succ_cons, List.take_zero, List.drop_succ_cons, List.drop_zero]
  repeat (first | (apply wpG_on; rfl; (intro w' hS K hK; have hc0 := (k1.kept hS).c4; have hc1 := (k2.kept hS).c4; have hc2 := (k3.kept hS).c4; go_simp; (first | exact hK.out _ hS | (go_at_call 23; (with_reducible refine (refLimit_any _ _ _ _ _).mono ?_); rintro e w'' ⟨rfl, hbb⟩; exact ⟨_, rfl, hK.out _ (hS.trans (hbb.mono hS.size))⟩))); simp only [Act.put, List.setIfInBounds_toArray, List.set_cons_succ, List.set_cons_zero]) | (apply wpG_off; rfl; simp only [Act.put, List.setIfInBounds_toArray, List.set_cons_succ, List.set_cons_zero]))
  apply wpG_nil
  intro W1 hS
  replace k1 := k1.kept hS
  replace k2 := k2.kept hS
  replace k3 := k3.kept hS
  replace hb := hb.trans (hS.mono hb.size)
  clear hS
  have c1 := k1.c4
  have c2 := k2.c4
  go_upto_region 2 with (fail)
  clear c1 c2
  refine mid44 hb k1 k2 (by omega) (Nat.le_refl _) (by omega) (fun W2 k1' k2' kk hb => ?_)
  replace k3 := kk _ _ (by omega) (by omega) k3
  clear kk k1 k2
  have hlt3 := k3.lt
  have c1 := k1'.c4
  have c2 := k2'.c4
  go_region_held3 (fun w' => w'.cell? ⟨w.heap.size, 0, none⟩ = some (.int .i64 (cl r)) ∧ w'.cell? ⟨w.heap.size, 1, none⟩ = some (.int .i64 (cl g)) ∧ w'.cell? ⟨w.heap.size, 2, none⟩ = some (.int .i64 (cl b)) ∧ w'.cell? ⟨w.heap.size + 1, 0, none⟩ = some (.int .i64 (cl r')) ∧ w'.cell? ⟨w.heap.size + 1, 1, none⟩ = some (.int .i64 (cl g')) ∧ w'.cell? ⟨w.heap.size + 1, 2, none⟩ = some (.int .i64 (cl b'))) (go_keep) (fail)
  all_goals clear c1 c2
  · go_upto_region 3 with (fail)
    refine name2d (fun W4 kx ky hS => ?_)
    have kr := k3.kept hS
    have hb4 := hb.trans (hS.mono hb.size)
    have hsz := hS.size
    clear hS k3 hb k1' k2'
    go_upto_region 10 with (fail)
    refine name1 (fun W5 k9 hS => ?_)
    replace kx := kx.kept hS
    replace ky := ky.kept hS
    replace kr := kr.kept hS
    have n9 : W4.heap.size ≠ w.heap.size + 1 + 1 := by omega
    have g9 : w.heap.size ≤ W4.heap.size := hb4.size
    have hb := hb4.trans (hS.mono hb4.size)
    clear hS hb4
    refine wp_region_grow 7 (fun w' => Below (World.heap W5).size W5 w') (by kernel_rfl) (by kernel_rfl) (Below.refl _ _).drew ?_
    simp only [List.take_succ_cons, List.take_zero, List.drop_succ_cons, List.drop_zero]
    repeat (first | (apply wpG_on; rfl; (intro w' hS K hK; have hc0 := (kx.kept hS).c3; have hc1 := (ky.kept hS).c3; have hc2 := (kr.kept hS).c4; have hc3 := (k9.kept hS).c3; go_simp; (first | exact hK.out _ hS | (go_at_call 46; (with_reducible refine (refSatC (cl r, cl g, cl b) _ u1).mono ?_); rintro e w'' ⟨rfl, hbb⟩; exact ⟨_, rfl, hK.out _ (hS.trans (hbb.mono hS.size))⟩) | (go_at_call 45; (with_reducible refine (refSetSatC (cl r', cl g', cl b') _ _ u2 E3).mono ?_); rintro e w'' ⟨rfl, hbb⟩; exact ⟨_, rfl, hK.out _ (hS.trans (hbb.mono hS.size))⟩) | (go_at_call 47; (with_reducible refine (refLumC (cl r, cl g, cl b) _ u1).mono ?_); rintro e w'' ⟨rfl, hbb⟩; exact ⟨_, rfl, hK.out _ (hS.trans (hbb.mono hS.size))⟩) | (go_at_call 44; (with_reducible refine (refSetLumC _ _ _ E5 E1).mono ?_); rintro e w'' ⟨rfl, hbb⟩; exact ⟨_, rfl, hK.out _ (hS.trans (hbb.mono hS.size))⟩))); simp only [Act.put, List.setIfInBounds_toArray, List.set_cons_succ, List.set_cons_zero]) | (apply wpG_off; rfl; simp only [Act.put, List.setIfInBounds_toArray, List.set_cons_succ, List.set_cons_zero]))
    apply wpG_nil
    intro W6 hS
    replace kx := kx.kept hS
    replace ky := ky.kept hS
    replace kr := kr.kept hS
    replace k9 := k9.kept hS
    replace hb := hb.trans (hS.mono hb.size)
    clear hS
    have c9 := k9.c3
    have cr := kr.c4
    go_wp2_with fail
    refine end4 (((hb.setCell g9 _).setCell g9 _).setCell g9 _) (((kr.other (Ne.symm n9) _).other (Ne.symm n9) _).other (Ne.symm n9) _) (by omega) (fun w3 e => by simp [results, Tryd.results16, go_sem, e]) rfl (fun w3 hb3 => ⟨rfl, hb3⟩)
  · go_upto_region 3 with (fail)
    refine name2d (fun W4 ky kx hS => ?_)
    have kr := k3.kept hS
    have hb4 := hb.trans (hS.mono hb.size)
    have hsz := hS.size
    clear hS k3 hb k1' k2'
    go_upto_region 10 with (fail)
    refine name1 (fun W5 k9 hS => ?_)
    replace kx := kx.kept hS
    replace ky := ky.kept hS
    replace kr := kr.kept hS
    have n9 : W4.heap.size ≠ w.heap.size + 1 + 1 := by omega
    have g9 : w.heap.size ≤ W4.heap.size := hb4.size
    have hb := hb4.trans (hS.mono hb4.size)
    clear hS hb4
    refine wp_region_grow 7 (fun w' => Below (World.heap W5).size W5 w') (by kernel_rfl) (by kernel_rfl) (Below.refl _ _).drew ?_
    simp only [List.take_succ_cons, List.take_zero, List.drop_succ_cons, List.drop_zero]
    repeat (first | (apply wpG_on; rfl; (intro w' hS K hK; have hc0 := (kx.kept hS).c3; have hc1 := (ky.kept hS).c3; have hc2 := (kr.kept hS).c4; have hc3 := (k9.kept hS).c3; go_simp; (first | exact hK.out _ hS | (go_at_call 46; (with_reducible refine (refSatC (cl r, cl g, cl b) _ u1).mono ?_); rintro e w'' ⟨rfl, hbb⟩; exact ⟨_, rfl, hK.out _ (hS.trans (hbb.mono hS.size))⟩) | (go_at_call 45; (with_reducible refine (refSetSatC (cl r', cl g', cl b') _ _ u2 E3).mono ?_); rintro e w'' ⟨rfl, hbb⟩; exact ⟨_, rfl, hK.out _ (hS.trans (hbb.mono hS.size))⟩) | (go_at_call 47; (with_reducible refine (refLumC (cl r, cl g, cl b) _ u1).mono ?_); rintro e w'' ⟨rfl, hbb⟩; exact ⟨_, rfl, hK.out _ (hS.trans (hbb.mono hS.size))⟩) | (go_at_call 44; (with_reducible refine (refSetLumC _ _ _ E5 E1).mono ?_); rintro e w'' ⟨rfl, hbb⟩; exact ⟨_, rfl, hK.out _ (hS.trans (hbb.mono hS.size))⟩))); simp only [Act.put, List.setIfInBounds_toArray, List.set_cons_succ, List.set_cons_zero]) | (apply wpG_off; rfl; simp only [Act.put, List.setIfInBounds_toArray, List.set_cons_succ, List.set_cons_zero]))
    apply wpG_nil
    intro W6 hS
    replace kx := kx.kept hS
    replace ky := ky.kept hS
    replace kr := kr.kept hS
    replace k9 := k9.kept hS
    replace hb := hb.trans (hS.mono hb.size)
    clear hS
    have c9 := k9.c3
    have cr := kr.c4
    go_wp2_with fail
    refine end4 (((hb.setCell g9 _).setCell g9 _).setCell g9 _) (((kr.other (Ne.symm n9) _).other (Ne.symm n9) _).other (Ne.symm n9) _) (by omega) (fun w3 e => by simp [results, Tryd.results16, go_sem, e]) rfl (fun w3 hb3 => ⟨rfl, hb3⟩)

set_option maxHeartbeats 2000000 in
theorem refColors15 (r g b a r' g' b' a' : Int) (w : World) :
    Calls Tryd.prog 16 #[.int .i64 15, pv r g b a, pv r' g' b' a'] w fun e w' => e = .returned (pv (col3 15 (cl r, cl g, cl b) (cl r', cl g', cl b')).1 (col3 15 (cl r, cl g, cl b) (cl r', cl g', cl b')).2.1 (col3 15 (cl r, cl g, cl b) (cl r', cl g', cl b')).2.2 65535) ∧ Below w.heap.size w w' := by
  have u1 : U3 (cl r, cl g, cl b) := ⟨cl_bd _, cl_bd _, cl_bd _⟩
  have u2 : U3 (cl r', cl g', cl b') := ⟨cl_bd _, cl_bd _, cl_bd _⟩
  have E1 := lum3_u _ u1
  have E2 := lum3_u _ u2
  have E3 := sat3_u _ u1
  have E4 := sat3_u _ u2
  have E5 := setSat3_u _ _ u2 E3
  have E6 := setSat3_u _ _ u1 E4
  go_enter Tryd.func16, Tryd.ntmps16
  go_wp2
  refine name3 (fun W k1 k2 k3 hb => ?_)
  refine wp_region_grow 4 (fun w' => Below (World.heap W).size W w') (by kernel_rfl) (by kernel_rfl) (Below.refl _ _).drew ?_
  simp only [List.take_succ_cons, List.take_zero, List.drop_succ_cons, List.drop_zero]
  repeat (first | (apply wpG_on; rfl; (intro w' hS K hK; have hc0 := (k1.kept hS).c4; have hc1 := (k2.kept hS).c4; have hc2 := (k3.kept hS).c4; go_simp; (first | exact hK.out _ hS | (go_at_call 23; (with_reducible refine (refLimit_any _ _ _ _ _).mono ?_); rintro e w'' ⟨rfl, hbb⟩; exact ⟨_, rfl, hK.out _ (hS.trans (hbb.mono hS.size))⟩))); simp only [Act.put, List.setIfInBounds_toArray, List.set_cons_succ, List.set_cons_zero]) | (apply wpG_off; rfl; simp only [Act.put, List.setIfInBounds_toArray, List.set_cons_succ, List.set_cons_zero]))
  apply wpG_nil
  intro W1 hS
  replace k1 := k1.kept hS
  replace k2 := k2.kept hS
  replace k3 := k3.kept hS
  replace hb := hb.trans (hS.mono hb.size)
  clear hS
  have c1 := k1.c4
  have c2 := k2.c4
  go_upto_region 2 with (fail)
  clear c1 c2
  refine mid44 hb k1 k2 (by omega) (Nat.le_refl _) (by omega) (fun W2 k1' k2' kk hb => ?_)
  replace k3 := kk _ _ (by omega) (by omega) k3
  clear kk k1 k2
  have hlt3 := k3.lt
  have c1 := k1'.c4
  have c2 := k2'.c4
  go_region_held3 (fun w' => w'.cell? ⟨w.heap.size, 0, none⟩ = some (.int .i64 (cl r)) ∧ w'.cell? ⟨w.heap.size, 1, none⟩ = some (.int .i64 (cl g)) ∧ w'.cell? ⟨w.heap.size, 2, none⟩ = some (.int .i64 (cl b)) ∧ w'.cell? ⟨w.heap.size + 1, 0, none⟩ = some (.int .i64 (cl r')) ∧ w'.cell? ⟨w.heap.size + 1, 1, none⟩ = some (.int .i64 (cl g')) ∧ w'.cell? ⟨w.heap.size + 1, 2, none⟩ = some (.int .i64 (cl b'))) (go_keep) (fail)
  all_goals clear c1 c2
  · go_upto_region 3 with (fail)
    refine name2d (fun W4 kx ky hS => ?_)
    have kr := k3.kept hS
    have hb4 := hb.trans (hS.mono hb.size)
    have hsz := hS.size
    clear hS k3 hb k1' k2'
    go_upto_region 12 with (fail)
    refine name1 (fun W5 k9 hS => ?_)
    replace kx := kx.kept hS
    replace ky := ky.kept hS
    replace kr := kr.kept hS
    have n9 : W4.heap.size ≠ w.heap.size + 1 + 1 := by omega
    have g9 : w.heap.size ≤ W4.heap.size := hb4.size
    have hb := hb4.trans (hS.mono hb4.size)
    clear hS hb4
    refine wp_region_grow 7 (fun w' => Below (World.heap W5).size W5 w') (by kernel_rfl) (by kernel_rfl) (Below.refl _ _).drew ?_
    simp only [List.take_succ_cons, List.take_zero, List.drop_succ_cons, List.drop_zero]
    repeat (first | (apply wpG_on; rfl; (intro w' hS K hK; have hc0 := (kx.kept hS).c3; have hc1 := (ky.kept hS).c3; have hc2 := (kr.kept hS).c4; have hc3 := (k9.kept hS).c3; go_simp; (first | exact hK.out _ hS | (go_at_call 46; (with_reducible refine (refSatC (cl r', cl g', cl b') _ u2).mono ?_); rintro e w'' ⟨rfl, hbb⟩; exact ⟨_, rfl, hK.out _ (hS.trans (hbb.mono hS.size))⟩) | (go_at_call 45; (with_reducible refine (refSetSatC (cl r, cl g, cl b) _ _ u1 E4).mono ?_); rintro e w'' ⟨rfl, hbb⟩; exact ⟨_, rfl, hK.out _ (hS.trans (hbb.mono hS.size))⟩) | (go_at_call 47; (with_reducible refine (refLumC (cl r, cl g, cl b) _ u1).mono ?_); rintro e w'' ⟨rfl, hbb⟩; exact ⟨_, rfl, hK.out _ (hS.trans (hbb.mono hS.size))⟩) | (go_at_call 44; (with_reducible refine (refSetLumC _ _ _ E6 E1).mono ?_); rintro e w'' ⟨rfl, hbb⟩; exact ⟨_, rfl, hK.out _ (hS.trans (hbb.mono hS.size))⟩))); simp only [Act.put, List.setIfInBounds_toArray, List.set_cons_succ, List.set_cons_zero]) | (apply wpG_off; rfl; simp only [Act.put, List.setIfInBounds_toArray, List.set_cons_succ, List.set_cons_zero]))
    apply wpG_nil
    intro W6 hS
    replace kx := kx.kept hS
    replace ky := ky.kept hS
    replace kr := kr.kept hS
    replace k9 := k9.kept hS
    replace hb := hb.trans (hS.mono hb.size)
    clear hS
    have c9 := k9.c3
    have cr := kr.c4
    go_wp2_with fail
    refine end4 (((hb.setCell g9 _).setCell g9 _).setCell g9 _) (((kr.other (Ne.symm n9) _).other (Ne.symm n9) _).other (Ne.symm n9) _) (by omega) (fun w3 e => by simp [results, Tryd.results16, go_sem, e]) rfl (fun w3 hb3 => ⟨rfl, hb3⟩)
  · go_upto_region 3 with (fail)
    refine name2d (fun W4 ky kx hS => ?_)
    have kr := k3.kept hS
    have hb4 := hb.trans (hS.mono hb.size)
    have hsz := hS.size
    clear hS k3 hb k1' k2'
    go_upto_region 12 with (fail)
    refine name1 (fun W5 k9 hS => ?_)
    replace kx := kx.kept hS
    replace ky := ky.kept hS
    replace kr := kr.kept hS
    have n9 : W4.heap.size ≠ w.heap.size + 1 + 1 := by omega
    have g9 : w.heap.size ≤ W4.heap.size := hb4.size
    have hb := hb4.trans (hS.mono hb4.size)
    clear hS hb4
    refine wp_region_grow 7 (fun w' => Below (World.heap W5).size W5 w') (by kernel_rfl) (by kernel_rfl) (Below.refl _ _).drew ?_
    simp only [List.take_succ_cons, List.take_zero, List.drop_succ_cons, List.drop_zero]
    repeat (first | (apply wpG_on; rfl; (intro w' hS K hK; have hc0 := (kx.kept hS).c3; have hc1 := (ky.kept hS).c3; have hc2 := (kr.kept hS).c4; have hc3 := (k9.kept hS).c3; go_simp; (first | exact hK.out _ hS | (go_at_call 46; (with_reducible refine (refSatC (cl r', cl g', cl b') _ u2).mono ?_); rintro e w'' ⟨rfl, hbb⟩; exact ⟨_, rfl, hK.out _ (hS.trans (hbb.mono hS.size))⟩) | (go_at_call 45; (with_reducible refine (refSetSatC (cl r, cl g, cl b) _ _ u1 E4).mono ?_); rintro e w'' ⟨rfl, hbb⟩; exact ⟨_, rfl, hK.out _ (hS.trans (hbb.mono hS.size))⟩) | (go_at_call 47; (with_reducible refine (refLumC (cl r, cl g, cl b) _ u1).mono ?_); rintro e w'' ⟨rfl, hbb⟩; exact ⟨_, rfl, hK.out _ (hS.trans (hbb.mono hS.size))⟩) | (go_at_call 44; (with_reducible refine (refSetLumC _ _ _ E6 E1).mono ?_); rintro e w'' ⟨rfl, hbb⟩; exact ⟨_, rfl, hK.out _ (hS.trans (hbb.mono hS.size))⟩))); simp only [Act.put, List.setIfInBounds_toArray, List.set_cons_succ, List.set_cons_zero]) | (apply wpG_off; rfl; simp only [Act.put, List.setIfInBounds_toArray, List.set_cons_succ, List.set_cons_zero]))
    apply wpG_nil
    intro W6 hS
    replace kx := kx.kept hS
    replace ky := ky.kept hS
    replace kr := kr.kept hS
    replace k9 := k9.kept hS
    replace hb := hb.trans (hS.mono hb.size)
    clear hS
    have c9 := k9.c3
    have cr := kr.c4
    go_wp2_with fail
    refine end4 (((hb.setCell g9 _).setCell g9 _).setCell g9 _) (((kr.other (Ne.symm n9) _).other (Ne.symm n9) _).other (Ne.symm n9) _) (by omega) (fun w3 e => by simp [results, Tryd.results16, go_sem, e]) rfl (fun w3 hb3 => ⟨rfl, hb3⟩)

set_option maxHeartbeats 2000000 in
theorem refColors16 (r g b a r' g' b' a' : Int) (w : World) :
    Calls Tryd.prog 16 #[.int .i64 16, pv r g b a, pv r' g' b' a'] w fun e w' => e = .returned (pv (col3 16 (cl r, cl g, cl b) (cl r', cl g', cl b')).1 (col3 16 (cl r, cl g, cl b) (cl r', cl g', cl b')).2.1 (col3 16 (cl r, cl g, cl b) (cl r', cl g', cl b')).2.2 65535) ∧ Below w.heap.size w w' := by
  have u1 : U3 (cl r, cl g, cl b) := ⟨cl_bd _, cl_bd _, cl_bd _⟩
  have u2 : U3 (cl r', cl g', cl b') := ⟨cl_bd _, cl_bd _, cl_bd _⟩
  have E1 := lum3_u _ u1
  have E2 := lum3_u _ u2
  have E3 := sat3_u _ u1
  have E4 := sat3_u _ u2
  have E5 := setSat3_u _ _ u2 E3
  have E6 := setSat3_u _ _ u1 E4
  go_enter Tryd.func16, Tryd.ntmps16
  go_wp2
  refine name3 (fun W k1 k2 k3 hb => ?_)
  refine wp_region_grow 4 (fun w' => Below (World.heap W).size W w') (by kernel_rfl) (by kernel_rfl) (Below.refl _ _).drew ?_
  simp only [List.take_succ_cons, List.take_zero, List.drop_succ_cons, List.drop_zero]
  repeat (first | (apply wpG_on; rfl; (intro w' hS K hK; have hc0 := (k1.kept hS).c4; have hc1 := (k2.kept hS).c4; have hc2 := (k3.kept hS).c4; go_simp; (first | exact hK.out _ hS | (go_at_call 23; (with_reducible refine (refLimit_any _ _ _ _ _).mono ?_); rintro e w'' ⟨rfl, hbb⟩; exact ⟨_, rfl, hK.out _ (hS.trans (hbb.mono hS.size))⟩))); simp only [Act.put, List.setIfInBounds_toArray, List.set_cons_succ, List.set_cons_zero]) | (apply wpG_off; rfl; simp only [Act.put, List.setIfInBounds_toArray, List.set_cons_succ, List.set_cons_zero]))
  apply wpG_nil
  intro W1 hS
  replace k1 := k1.kept hS
  replace k2 := k2.kept hS
  replace k3 := k3.kept hS
  replace hb := hb.trans (hS.mono hb.size)
  clear hS
  have c1 := k1.c4
  have c2 := k2.c4
  go_upto_region 2 with (fail)
  clear c1 c2
  refine mid44 hb k1 k2 (by omega) (Nat.le_refl _) (by omega) (fun W2 k1' k2' kk hb => ?_)
  replace k3 := kk _ _ (by omega) (by omega) k3
  clear kk k1 k2
  have hlt3 := k3.lt
  have c1 := k1'.c4
  have c2 := k2'.c4
  go_region_held3 (fun w' => w'.cell? ⟨w.heap.size, 0, none⟩ = some (.int .i64 (cl r)) ∧ w'.cell? ⟨w.heap.size, 1, none⟩ = some (.int .i64 (cl g)) ∧ w'.cell? ⟨w.heap.size, 2, none⟩ = some (.int .i64 (cl b)) ∧ w'.cell? ⟨w.heap.size + 1, 0, none⟩ = some (.int .i64 (cl r')) ∧ w'.cell? ⟨w.heap.size + 1, 1, none⟩ = some (.int .i64 (cl g')) ∧ w'.cell? ⟨w.heap.size + 1, 2, none⟩ = some (.int .i64 (cl b'))) (go_keep) (fail)
  all_goals clear c1 c2
  · go_upto_region 3 with (fail)
    refine name2d (fun W4 kx ky hS => ?_)
    have kr := k3.kept hS
    have hb4 := hb.trans (hS.mono hb.size)
    have hsz := hS.size
    clear hS k3 hb k1' k2'
    go_upto_region 14 with (fail)
    refine name1 (fun W5 k9 hS => ?_)
    replace kx := kx.kept hS
    replace ky := ky.kept hS
    replace kr := kr.kept hS
    have n9 : W4.heap.size ≠ w.heap.size + 1 + 1 := by omega
    have g9 : w.heap.size ≤ W4.heap.size := hb4.size
    have hb := hb4.trans (hS.mono hb4.size)
    clear hS hb4
    refine wp_region_grow 4 (fun w' => Below (World.heap W5).size W5 w') (by kernel_rfl) (by kernel_rfl) (Below.refl _ _).drew ?_
    simp only [List.take_succ_cons, List.take_zero, List.drop_succ_cons, List.drop_zero]
    repeat (first | (apply wpG_on; rfl; (intro w' hS K hK; have hc0 := (kx.kept hS).c3; have hc1 := (ky.kept hS).c3; have hc2 := (kr.kept hS).c4; have hc3 := (k9.kept hS).c3; go_simp; (first | exact hK.out _ hS | (go_at_call 47; (with_reducible refine (refLumC (cl r, cl g, cl b) _ u1).mono ?_); rintro e w'' ⟨rfl, hbb⟩; exact ⟨_, rfl, hK.out _ (hS.trans (hbb.mono hS.size))⟩) | (go_at_call 44; (with_reducible refine (refSetLumC (cl r', cl g', cl b') _ _ u2 E1).mono ?_); rintro e w'' ⟨rfl, hbb⟩; exact ⟨_, rfl, hK.out _ (hS.trans (hbb.mono hS.size))⟩))); simp only [Act.put, List.setIfInBounds_toArray, List.set_cons_succ, List.set_cons_zero]) | (apply wpG_off; rfl; simp only [Act.put, List.setIfInBounds_toArray, List.set_cons_succ, List.set_cons_zero]))
    apply wpG_nil
    intro W6 hS
    replace kx := kx.kept hS
    replace ky := ky.kept hS
    replace kr := kr.kept hS
    replace k9 := k9.kept hS
    replace hb := hb.trans (hS.mono hb.size)
    clear hS
    have c9 := k9.c3
    have cr := kr.c4
    go_wp2_with fail
    refine end4 (((hb.setCell g9 _).setCell g9 _).setCell g9 _) (((kr.other (Ne.symm n9) _).other (Ne.symm n9) _).other (Ne.symm n9) _) (by omega) (fun w3 e => by simp [results, Tryd.results16, go_sem, e]) rfl (fun w3 hb3 => ⟨rfl, hb3⟩)
  · go_upto_region 3 with (fail)
    refine name2d (fun W4 ky kx hS => ?_)
    have kr := k3.kept hS
    have hb4 := hb.trans (hS.mono hb.size)
    have hsz := hS.size
    clear hS k3 hb k1' k2'
    go_upto_region 14 with (fail)
    refine name1 (fun W5 k9 hS => ?_)
    replace kx := kx.kept hS
    replace ky := ky.kept hS
    replace kr := kr.kept hS
    have n9 : W4.heap.size ≠ w.heap.size + 1 + 1 := by omega
    have g9 : w.heap.size ≤ W4.heap.size := hb4.size
    have hb := hb4.trans (hS.mono hb4.size)
    clear hS hb4
    refine wp_region_grow 4 (fun w' => Below (World.heap W5).size W5 w') (by kernel_rfl) (by kernel_rfl) (Below.refl _ _).drew ?_
    simp only [List.take_succ_cons, List.take_zero, List.drop_succ_cons, List.drop_zero]
    repeat (first | (apply wpG_on; rfl; (intro w' hS K hK; have hc0 := (kx.kept hS).c3; have hc1 := (ky.kept hS).c3; have hc2 := (kr.kept hS).c4; have hc3 := (k9.kept hS).c3; go_simp; (first | exact hK.out _ hS | (go_at_call 47; (with_reducible refine (refLumC (cl r, cl g, cl b) _ u1).mono ?_); rintro e w'' ⟨rfl, hbb⟩; exact ⟨_, rfl, hK.out _ (hS.trans (hbb.mono hS.size))⟩) | (go_at_call 44; (with_reducible refine (refSetLumC (cl r', cl g', cl b') _ _ u2 E1).mono ?_); rintro e w'' ⟨rfl, hbb⟩; exact ⟨_, rfl, hK.out _ (hS.trans (hbb.mono hS.size))⟩))); simp only [Act.put, List.setIfInBounds_toArray, List.set_cons_succ, List.set_cons_zero]) | (apply wpG_off; rfl; simp only [Act.put, List.setIfInBounds_toArray, List.set_cons_succ, List.set_cons_zero]))
    apply wpG_nil
    intro W6 hS
    replace kx := kx.kept hS
    replace ky := ky.kept hS
    replace kr := kr.kept hS
    replace k9 := k9.kept hS
    replace hb := hb.trans (hS.mono hb.size)
    clear hS
    have c9 := k9.c3
    have cr := kr.c4
    go_wp2_with fail
    refine end4 (((hb.setCell g9 _).setCell g9 _).setCell g9 _) (((kr.other (Ne.symm n9) _).other (Ne.symm n9) _).other (Ne.symm n9) _) (by omega) (fun w3 e => by simp [results, Tryd.results16, go_sem, e]) rfl (fun w3 hb3 => ⟨rfl, hb3⟩)

set_option maxHeartbeats 2000000 in
theorem refColors17 (r g b a r' g' b' a' : Int) (w : World) :
    Calls Tryd.prog 16 #[.int .i64 17, pv r g b a, pv r' g' b' a'] w fun e w' => e = .returned (pv (col3 17 (cl r, cl g, cl b) (cl r', cl g', cl b')).1 (col3 17 (cl r, cl g, cl b) (cl r', cl g', cl b')).2.1 (col3 17 (cl r, cl g, cl b) (cl r', cl g', cl b')).2.2 65535) ∧ Below w.heap.size w w' := by
  have u1 : U3 (cl r, cl g, cl b) := ⟨cl_bd _, cl_bd _, cl_bd _⟩
  have u2 : U3 (cl r', cl g', cl b') := ⟨cl_bd _, cl_bd _, cl_bd _⟩
  have E1 := lum3_u _ u1
  have E2 := lum3_u _ u2
  have E3 := sat3_u _ u1
  have E4 := sat3_u _ u2
  have E5 := setSat3_u _ _ u2 E3
  have E6 := setSat3_u _ _ u1 E4
  go_enter Tryd.func16, Tryd.ntmps16
  go_wp2
  refine name3 (fun W k1 k2 k3 hb => ?_)
  refine wp_region_grow 4 (fun w' => Below (World.heap W).size W w') (by kernel_rfl) (by kernel_rfl) (Below.refl _ _).drew ?_
  simp only [List.take_succ_cons, List.take_zero, List.drop_succ_cons, List.drop_zero]
  repeat (first | (apply wpG_on; rfl; (intro w' hS K hK; have hc0 := (k1.kept hS).c4; have hc1 := (k2.kept hS).c4; have hc2 := (k3.kept hS).c4; go_simp; (first | exact hK.out _ hS | (go_at_call 23; (with_reducible refine (refLimit_any _ _ _ _ _).mono ?_); rintro e w'' ⟨rfl, hbb⟩; exact ⟨_, rfl, hK.out _ (hS.trans (hbb.mono hS.size))⟩))); simp only [Act.put, List.setIfInBounds_toArray, List.set_cons_succ, List.set_cons_zero]) | (apply wpG_off; rfl; simp only [Act.put, List.setIfInBounds_toArray, List.set_cons_succ, List.set_cons_zero]))
  apply wpG_nil
  intro W1 hS
  replace k1 := k1.kept hS
  replace k2 := k2.kept hS
  replace k3 := k3.kept hS
  replace hb := hb.trans (hS.mono hb.size)
  clear hS
  have c1 := k1.c4
  have c2 := k2.c4
  go_upto_region 2 with (fail)
  clear c1 c2
  refine mid44 hb k1 k2 (by omega) (Nat.le_refl _) (by omega) (fun W2 k1' k2' kk hb => ?_)
  replace k3 := kk _ _ (by omega) (by omega) k3
  clear kk k1 k2
  have hlt3 := k3.lt
  have c1 := k1'.c4
  have c2 := k2'.c4
  go_region_held3 (fun w' => w'.cell? ⟨w.heap.size, 0, none⟩ = some (.int .i64 (cl r)) ∧ w'.cell? ⟨w.heap.size, 1, none⟩ = some (.int .i64 (cl g)) ∧ w'.cell? ⟨w.heap.size, 2, none⟩ = some (.int .i64 (cl b)) ∧ w'.cell? ⟨w.heap.size + 1, 0, none⟩ = some (.int .i64 (cl r')) ∧ w'.cell? ⟨w.heap.size + 1, 1, none⟩ = some (.int .i64 (cl g')) ∧ w'.cell? ⟨w.heap.size + 1, 2, none⟩ = some (.int .i64 (cl b'))) (go_keep) (fail)
  all_goals clear c1 c2
  · go_upto_region 3 with (fail)
    refine name2d (fun W4 kx ky hS => ?_)
    have kr := k3.kept hS
    have hb4 := hb.trans (hS.mono hb.size)
    have hsz := hS.size
    clear hS k3 hb k1' k2'
    go_upto_region 16 with (fail)
    refine name1 (fun W5 k9 hS => ?_)
    replace kx := kx.kept hS
    replace ky := ky.kept hS
    replace kr := kr.kept hS
    have n9 : W4.heap.size ≠ w.heap.size + 1 + 1 := by omega
    have g9 : w.heap.size ≤ W4.heap.size := hb4.size
    have hb := hb4.trans (hS.mono hb4.size)
    clear hS hb4
    refine wp_region_grow 4 (fun w' => Below (World.heap W5).size W5 w') (by kernel_rfl) (by kernel_rfl) (Below.refl _ _).drew ?_
    simp only [List.take_succ_cons, List.take_zero, List.drop_succ_cons, List.drop_zero]
    repeat (first | (apply wpG_on; rfl; (intro w' hS K hK; have hc0 := (kx.kept hS).c3; have hc1 := (ky.kept hS).c3; have hc2 := (kr.kept hS).c4; have hc3 := (k9.kept hS).c3; go_simp; (first | exact hK.out _ hS | (go_at_call 47; (with_reducible refine (refLumC (cl r', cl g', cl b') _ u2).mono ?_); rintro e w'' ⟨rfl, hbb⟩; exact ⟨_, rfl, hK.out _ (hS.trans (hbb.mono hS.size))⟩) | (go_at_call 44; (with_reducible refine (refSetLumC (cl r, cl g, cl b) _ _ u1 E2).mono ?_); rintro e w'' ⟨rfl, hbb⟩; exact ⟨_, rfl, hK.out _ (hS.trans (hbb.mono hS.size))⟩))); simp only [Act.put, List.setIfInBounds_toArray, List.set_cons_succ, List.set_cons_zero]) | (apply wpG_off; rfl; simp only [Act.put, List.setIfInBounds_toArray, List.set_cons_succ, List.set_cons_zero]))
    apply wpG_nil
    intro W6 hS
    replace kx := kx.kept hS
    replace ky := ky.kept hS
    replace kr := kr.kept hS
    replace k9 := k9.kept hS
    replace hb := hb.trans (hS.mono hb.size)
    clear hS
    have c9 := k9.c3
    have cr := kr.c4
    go_wp2_with fail
    refine end4 (((hb.setCell g9 _).setCell g9 _).setCell g9 _) (((kr.other (Ne.symm n9) _).other (Ne.symm n9) _).other (Ne.symm n9) _) (by omega) (fun w3 e => by simp [results, Tryd.results16, go_sem, e]) rfl (fun w3 hb3 => ⟨rfl, hb3⟩)
  · go_upto_region 3 with (fail)
    refine name2d (fun W4 ky kx hS => ?_)
    have kr := k3.kept hS
    have hb4 := hb.trans (hS.mono hb.size)
    have hsz := hS.size
    clear hS k3 hb k1' k2'
    go_upto_region 16 with (fail)
    refine name1 (fun W5 k9 hS => ?_)
    replace kx := kx.kept hS
    replace ky := ky.kept hS
    replace kr := kr.kept hS
    have n9 : W4.heap.size ≠ w.heap.size + 1 + 1 := by omega
    have g9 : w.heap.size ≤ W4.heap.size := hb4.size
    have hb := hb4.trans (hS.mono hb4.size)
    clear hS hb4
    refine wp_region_grow 4 (fun w' => Below (World.heap W5).size W5 w') (by kernel_rfl) (by kernel_rfl) (Below.refl _ _).drew ?_
    simp only [List.take_succ_cons, List.take_zero, List.drop_succ_cons, List.drop_zero]
    repeat (first | (apply wpG_on; rfl; (intro w' hS K hK; have hc0 := (kx.kept hS).c3; have hc1 := (ky.kept hS).c3; have hc2 := (kr.kept hS).c4; have hc3 := (k9.kept hS).c3; go_simp; (first | exact hK.out _ hS | (go_at_call 47; (with_reducible refine (refLumC (cl r', cl g', cl b') _ u2).mono ?_); rintro e w'' ⟨rfl, hbb⟩; exact ⟨_, rfl, hK.out _ (hS.trans (hbb.mono hS.size))⟩) | (go_at_call 44; (with_reducible refine (refSetLumC (cl r, cl g, cl b) _ _ u1 E2).mono ?_); rintro e w'' ⟨rfl, hbb⟩; exact ⟨_, rfl, hK.out _ (hS.trans (hbb.mono hS.size))⟩))); simp only [Act.put, List.setIfInBounds_toArray, List.set_cons_succ, List.set_cons_zero]) | (apply wpG_off; rfl; simp only [Act.put, List.setIfInBounds_toArray, List.set_cons_succ, List.set_cons_zero]))
    apply wpG_nil
    intro W6 hS
    replace kx := kx.kept hS
    replace ky := ky.kept hS
    replace kr := kr.kept hS
    replace k9 := k9.kept hS
    replace hb := hb.trans (hS.mono hb.size)
    clear hS
    have c9 := k9.c3
    have cr := kr.c4
    go_wp2_with fail
    refine end4 (((hb.setCell g9 _).setCell g9 _).setCell g9 _) (((kr.other (Ne.symm n9) _).other (Ne.symm n9) _).other (Ne.symm n9) _) (by omega) (fun w3 e => by simp [results, Tryd.results16, go_sem, e]) rfl (fun w3 hb3 => ⟨rfl, hb3⟩)
end Go.Proofs.YtfgkgibomgcmpaaDoor
