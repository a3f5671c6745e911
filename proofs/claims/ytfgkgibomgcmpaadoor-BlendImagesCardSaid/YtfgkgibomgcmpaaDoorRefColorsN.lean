/- Colors of the reference of package blend. -/
import Derived.Test.YtfgkgibomgcmpaaDoorColFn
import Derived.Test.YtfgkgibomgcmpaaDoorPixRef
import Derived.Test.YtfgkgibomgcmpaaDoorRefColors
import Derived.Test.YtfgkgibomgcmpaaDoorMake
import Derived.Test.YtfgkgibomgcmpaaDoorColSep
import Derived.Deep.Cut
import Derived.Deep.RegionHeld3
namespace Go.Proofs.YtfgkgibomgcmpaaDoor
open Go.RowKit
set_option linter.unusedVariables false
attribute [local go_sem] Oper.gAt gUponK Oper.sAt stilK

set_option maxHeartbeats 2000000 in
theorem refColorsN (m r g b a r' g' b' a' : Int) (w : World) (hm : m < 14 ∨ 17 < m) :
    Calls Tryd.prog 16 #[.int .i64 m, pv r g b a, pv r' g' b' a'] w fun e w' => e = .returned (pv (chU m (cl r) (cl r')) (chU m (cl g) (cl g')) (chU m (cl b) (cl b')) 65535) ∧ Below w.heap.size w w' := by
  have g1 : (m == 14) = false := by simpa using (show m ≠ 14 by omega)
  have g2 : (m == 15) = false := by simpa using (show m ≠ 15 by omega)
  have g3 : (m == 16) = false := by simpa using (show m ≠ 16 by omega)
  have g4 : (m == 17) = false := by simpa using (show m ≠ 17 by omega)
  have z0 : U (cl r) := cl_bd r
  have y0 : U (cl r') := cl_bd r'
  have z1 : U (cl g) := cl_bd g
  have y1 : U (cl g') := cl_bd g'
  have z2 : U (cl b) := cl_bd b
  have y2 : U (cl b') := cl_bd b'
  clear hm
  go_enter Tryd.func16, Tryd.ntmps16
  go_wp2
  refine name3 (fun W k1 k2 k3 hb => ?_)
  refine wp_region_grow 4 (fun w' => Below (World.heap W).size W w') (by kernel_rfl) (by kernel_rfl) (Below.refl _ _).drew ?_
  simp only [List.take_succ_cons, List.take_zero, List.drop_succ_cons, List.drop_zero]
  repeat (first | (apply wpG_on; rfl; (intro w' hS K hK; have hc0 := (k1.kept hS).c4; have hc1 := (k2.kept hS).c4; have hc2 := (k3.kept hS).c4; go_simp; (first | exact hK.out _ hS | (go_at_call 23; (with_reducible refine (refLimit_any _ _ _ _ _).mono ?_); rintro e w'' ⟨rfl, hbb⟩; exact ⟨_, rfl, hK.out _ (hS.trans (hbb.mono hS.size))⟩))); simp only [Act.put, List.setIfInBounds_toArray, List.set_cons_succ, List.set_cons_zero]) | (apply wpG_off; rfl; simp only [Act.put, List.setIfInBounds_toArray, List.set_cons_succ, List.set_cons_zero]))
  apply wpG_nil
  intro W1 hS
  replace k1 := k1.kept hS
  replace k2 := k2.kept hS
  replace k3 := k3.kept hS
  replace hb := hb.trans (hS.mono hb.size)
  clear hS
  have c1 := k1.c4
  have c2 := k2.c4
  go_upto_region 2 with (fail)
  clear c1 c2
  refine mid44 hb k1 k2 (by omega) (Nat.le_refl _) (by omega) (fun W2 k1' k2' kk hb => ?_)
  replace k3 := kk _ _ (by omega) (by omega) k3
  clear kk k1 k2
  have hlt3 := k3.lt
  have c1 := k1'.c4
  have c2 := k2'.c4
  go_region_held3 (fun w' => w'.cell? ⟨w.heap.size, 0, none⟩ = some (.int .i64 (cl r)) ∧ w'.cell? ⟨w.heap.size, 1, none⟩ = some (.int .i64 (cl g)) ∧ w'.cell? ⟨w.heap.size, 2, none⟩ = some (.int .i64 (cl b)) ∧ w'.cell? ⟨w.heap.size + 1, 0, none⟩ = some (.int .i64 (cl r')) ∧ w'.cell? ⟨w.heap.size + 1, 1, none⟩ = some (.int .i64 (cl g')) ∧ w'.cell? ⟨w.heap.size + 1, 2, none⟩ = some (.int .i64 (cl b'))) (go_keep) (fail)
  all_goals clear c1 c2
  · go_upto_region 3 with (fail)
    refine name2d (fun W4 kx ky hS => ?_)
    have kr := k3.kept hS
    have hb4 := hb.trans (hS.mono hb.size)
    have hsz : W2.heap.size + 1 < W4.heap.size := by first | exact kx.lt | exact ky.lt
    clear hS k3 hb k1' k2'
    go_upto_region 5 with (fail)
    refine name1 (fun W5 k9 hS => ?_)
    replace kx := kx.kept hS
    replace ky := ky.kept hS
    replace kr := kr.kept hS
    have n9 : W4.heap.size ≠ w.heap.size + 1 + 1 := by omega
    have n7 : W2.heap.size ≠ W4.heap.size := by omega
    have n8 : W2.heap.size + 1 ≠ W4.heap.size := by omega
    have g9 : w.heap.size ≤ W4.heap.size := hb4.size
    have hb := hb4.trans (hS.mono hb4.size)
    clear hS hb4
    go_wp2_with fail
    go_loopw [10] (fun i wr => ∃ (k : Nat) (j : Int), k ≤ 3 ∧ j = k ∧ i = .int .i64 j ∧ Blk wr W4.heap.size (.cells (q3 0 0 0 (chU m (cl r) (cl r')) (chU m (cl g) (cl g')) (chU m (cl b) (cl b')) k) 51 (0, 0)) ∧ Blk wr (W2.heap.size) (ob (cl r) (cl g) (cl b) 51) ∧ Blk wr (W2.heap.size + 1) (ob (cl r') (cl g') (cl b') 51) ∧ Blk wr (w.heap.size + 1 + 1) (.cells #[.int .i64 0, .int .i64 0, .int .i64 0, .int .i64 0] 26 (0, 0)) ∧ Below w.heap.size w wr) (fun i _ => 3 - (intOf i).toNat)
    case atStart => exact ⟨0, 0, by omega, rfl, rfl, k9, kx, ky, kr, hb⟩
    case round =>
      clear k9 kx ky kr hb
      obtain ⟨k, j, hk, hj, rfl, k9, kx, ky, kr, hb⟩ := hrel
      obtain rfl | rfl | rfl | rfl : k = 0 ∨ k = 1 ∨ k = 2 ∨ k = 3 := by omega
      · obtain rfl : j = 0 := hj
        replace k9 : Blk wr W4.heap.size (ob 0 0 0 51) := k9
        go_wp2_with fail
        refine wp_region_grow 10 (fun w' => Below (World.heap wr).size wr w') (by kernel_rfl) (by kernel_rfl) (Below.refl _ _).drew ?_
        simp only [List.take_succ_cons, List.take_zero, List.drop_succ_cons, List.drop_zero]
        repeat (first | (apply wpG_on; rfl; (intro w' hS K hK; have hc0 := (k9.kept hS).c3; have hc1 := (kx.kept hS).c3; have hc2 := (ky.kept hS).c3; have hc3 := (kr.kept hS).c4; go_simp; (first | exact hK.out _ hS | (go_at_call 13; (with_reducible refine (refChanU _ _ _ _ z0 y0).mono ?_); rintro e w'' ⟨rfl, hbb⟩; exact ⟨_, rfl, hK.out _ (hS.trans (hbb.mono hS.size))⟩))); simp only [Act.put, List.setIfInBounds_toArray, List.set_cons_succ, List.set_cons_zero]) | (apply wpG_off; rfl; simp only [Act.put, List.setIfInBounds_toArray, List.set_cons_succ, List.set_cons_zero]))
        apply wpG_nil
        intro W6 hS
        replace k9 := k9.kept hS
        replace kx := kx.kept hS
        replace ky := ky.kept hS
        replace kr := kr.kept hS
        replace hb := hb.trans (hS.mono hb.size)
        clear hS
        have c9 := k9.c3
        go_wp2_with fail
        go_roundw
        case rel => exact ⟨1, 1, by omega, rfl, rfl, k9.set1 0 _ (by simp) rfl, kx.other n7 _, ky.other n8 _, kr.other (Ne.symm n9) _, hb.setCell g9 _⟩
        case measure => simp [intOf]
      · obtain rfl : j = 1 := hj
        replace k9 : Blk wr W4.heap.size (ob (chU m (cl r) (cl r')) 0 0 51) := k9
        go_wp2_with fail
        refine wp_region_grow 10 (fun w' => Below (World.heap wr).size wr w') (by kernel_rfl) (by kernel_rfl) (Below.refl _ _).drew ?_
        simp only [List.take_succ_cons, List.take_zero, List.drop_succ_cons, List.drop_zero]
        repeat (first | (apply wpG_on; rfl; (intro w' hS K hK; have hc0 := (k9.kept hS).c3; have hc1 := (kx.kept hS).c3; have hc2 := (ky.kept hS).c3; have hc3 := (kr.kept hS).c4; go_simp; (first | exact hK.out _ hS | (go_at_call 13; (with_reducible refine (refChanU _ _ _ _ z1 y1).mono ?_); rintro e w'' ⟨rfl, hbb⟩; exact ⟨_, rfl, hK.out _ (hS.trans (hbb.mono hS.size))⟩))); simp only [Act.put, List.setIfInBounds_toArray, List.set_cons_succ, List.set_cons_zero]) | (apply wpG_off; rfl; simp only [Act.put, List.setIfInBounds_toArray, List.set_cons_succ, List.set_cons_zero]))
        apply wpG_nil
        intro W6 hS
        replace k9 := k9.kept hS
        replace kx := kx.kept hS
        replace ky := ky.kept hS
        replace kr := kr.kept hS
        replace hb := hb.trans (hS.mono hb.size)
        clear hS
        have c9 := k9.c3
        go_wp2_with fail
        go_roundw
        case rel => exact ⟨2, 2, by omega, rfl, rfl, k9.set1 1 _ (by simp) rfl, kx.other n7 _, ky.other n8 _, kr.other (Ne.symm n9) _, hb.setCell g9 _⟩
        case measure => simp [intOf]
      · obtain rfl : j = 2 := hj
        replace k9 : Blk wr W4.heap.size (ob (chU m (cl r) (cl r')) (chU m (cl g) (cl g')) 0 51) := k9
        go_wp2_with fail
        refine wp_region_grow 10 (fun w' => Below (World.heap wr).size wr w') (by kernel_rfl) (by kernel_rfl) (Below.refl _ _).drew ?_
        simp only [List.take_succ_cons, List.take_zero, List.drop_succ_cons, List.drop_zero]
        repeat (first | (apply wpG_on; rfl; (intro w' hS K hK; have hc0 := (k9.kept hS).c3; have hc1 := (kx.kept hS).c3; have hc2 := (ky.kept hS).c3; have hc3 := (kr.kept hS).c4; go_simp; (first | exact hK.out _ hS | (go_at_call 13; (with_reducible refine (refChanU _ _ _ _ z2 y2).mono ?_); rintro e w'' ⟨rfl, hbb⟩; exact ⟨_, rfl, hK.out _ (hS.trans (hbb.mono hS.size))⟩))); simp only [Act.put, List.setIfInBounds_toArray, List.set_cons_succ, List.set_cons_zero]) | (apply wpG_off; rfl; simp only [Act.put, List.setIfInBounds_toArray, List.set_cons_succ, List.set_cons_zero]))
        apply wpG_nil
        intro W6 hS
        replace k9 := k9.kept hS
        replace kx := kx.kept hS
        replace ky := ky.kept hS
        replace kr := kr.kept hS
        replace hb := hb.trans (hS.mono hb.size)
        clear hS
        have c9 := k9.c3
        go_wp2_with fail
        go_roundw
        case rel => exact ⟨3, 3, by omega, rfl, rfl, k9.set1 2 _ (by simp) rfl, kx.other n7 _, ky.other n8 _, kr.other (Ne.symm n9) _, hb.setCell g9 _⟩
        case measure => simp [intOf]
      · obtain rfl : j = 3 := hj
        replace k9 : Blk wr W4.heap.size (ob (chU m (cl r) (cl r')) (chU m (cl g) (cl g')) (chU m (cl b) (cl b')) 51) := k9
        have c9 := k9.c3
        have cr := kr.c4
        go_wp2_with fail
        refine end4 hb kr (by omega) (fun w3 e => by simp [results, Tryd.results16, go_sem, e]) rfl (fun w3 hb3 => ⟨rfl, hb3⟩)
  · go_upto_region 3 with (fail)
    refine name2d (fun W4 ky kx hS => ?_)
    have kr := k3.kept hS
    have hb4 := hb.trans (hS.mono hb.size)
    have hsz : W2.heap.size + 1 < W4.heap.size := by first | exact kx.lt | exact ky.lt
    clear hS k3 hb k1' k2'
    go_upto_region 5 with (fail)
    refine name1 (fun W5 k9 hS => ?_)
    replace kx := kx.kept hS
    replace ky := ky.kept hS
    replace kr := kr.kept hS
    have n9 : W4.heap.size ≠ w.heap.size + 1 + 1 := by omega
    have n7 : W2.heap.size + 1 ≠ W4.heap.size := by omega
    have n8 : W2.heap.size ≠ W4.heap.size := by omega
    have g9 : w.heap.size ≤ W4.heap.size := hb4.size
    have hb := hb4.trans (hS.mono hb4.size)
    clear hS hb4
    go_wp2_with fail
    go_loopw [10] (fun i wr => ∃ (k : Nat) (j : Int), k ≤ 3 ∧ j = k ∧ i = .int .i64 j ∧ Blk wr W4.heap.size (.cells (q3 0 0 0 (chU m (cl r) (cl r')) (chU m (cl g) (cl g')) (chU m (cl b) (cl b')) k) 51 (0, 0)) ∧ Blk wr (W2.heap.size + 1) (ob (cl r) (cl g) (cl b) 51) ∧ Blk wr (W2.heap.size) (ob (cl r') (cl g') (cl b') 51) ∧ Blk wr (w.heap.size + 1 + 1) (.cells #[.int .i64 0, .int .i64 0, .int .i64 0, .int .i64 0] 26 (0, 0)) ∧ Below w.heap.size w wr) (fun i _ => 3 - (intOf i).toNat)
    case atStart => exact ⟨0, 0, by omega, rfl, rfl, k9, kx, ky, kr, hb⟩
    case round =>
      clear k9 kx ky kr hb
      obtain ⟨k, j, hk, hj, rfl, k9, kx, ky, kr, hb⟩ := hrel
      obtain rfl | rfl | rfl | rfl : k = 0 ∨ k = 1 ∨ k = 2 ∨ k = 3 := by omega
      · obtain rfl : j = 0 := hj
        replace k9 : Blk wr W4.heap.size (ob 0 0 0 51) := k9
        go_wp2_with fail
        refine wp_region_grow 10 (fun w' => Below (World.heap wr).size wr w') (by kernel_rfl) (by kernel_rfl) (Below.refl _ _).drew ?_
        simp only [List.take_succ_cons, List.take_zero, List.drop_succ_cons, List.drop_zero]
        repeat (first | (apply wpG_on; rfl; (intro w' hS K hK; have hc0 := (k9.kept hS).c3; have hc1 := (kx.kept hS).c3; have hc2 := (ky.kept hS).c3; have hc3 := (kr.kept hS).c4; go_simp; (first | exact hK.out _ hS | (go_at_call 13; (with_reducible refine (refChanU _ _ _ _ z0 y0).mono ?_); rintro e w'' ⟨rfl, hbb⟩; exact ⟨_, rfl, hK.out _ (hS.trans (hbb.mono hS.size))⟩))); simp only [Act.put, List.setIfInBounds_toArray, List.set_cons_succ, List.set_cons_zero]) | (apply wpG_off; rfl; simp only [Act.put, List.setIfInBounds_toArray, List.set_cons_succ, List.set_cons_zero]))
        apply wpG_nil
        intro W6 hS
        replace k9 := k9.kept hS
        replace kx := kx.kept hS
        replace ky := ky.kept hS
        replace kr := kr.kept hS
        replace hb := hb.trans (hS.mono hb.size)
        clear hS
        have c9 := k9.c3
        go_wp2_with fail
        go_roundw
        case rel => exact ⟨1, 1, by omega, rfl, rfl, k9.set1 0 _ (by simp) rfl, kx.other n7 _, ky.other n8 _, kr.other (Ne.symm n9) _, hb.setCell g9 _⟩
        case measure => simp [intOf]
      · obtain rfl : j = 1 := hj
        replace k9 : Blk wr W4.heap.size (ob (chU m (cl r) (cl r')) 0 0 51) := k9
        go_wp2_with fail
        refine wp_region_grow 10 (fun w' => Below (World.heap wr).size wr w') (by kernel_rfl) (by kernel_rfl) (Below.refl _ _).drew ?_
        simp only [List.take_succ_cons, List.take_zero, List.drop_succ_cons, List.drop_zero]
        repeat (first | (apply wpG_on; rfl; (intro w' hS K hK; have hc0 := (k9.kept hS).c3; have hc1 := (kx.kept hS).c3; have hc2 := (ky.kept hS).c3; have hc3 := (kr.kept hS).c4; go_simp; (first | exact hK.out _ hS | (go_at_call 13; (with_reducible refine (refChanU _ _ _ _ z1 y1).mono ?_); rintro e w'' ⟨rfl, hbb⟩; exact ⟨_, rfl, hK.out _ (hS.trans (hbb.mono hS.size))⟩))); simp only [Act.put, List.setIfInBounds_toArray, List.set_cons_succ, List.set_cons_zero]) | (apply wpG_off; rfl; simp only [Act.put, List.setIfInBounds_toArray, List.set_cons_succ, List.set_cons_zero]))
        apply wpG_nil
        intro W6 hS
        replace k9 := k9.kept hS
        replace kx := kx.kept hS
        replace ky := ky.kept hS
        replace kr := kr.kept hS
        replace hb := hb.trans (hS.mono hb.size)
        clear hS
        have c9 := k9.c3
        go_wp2_with fail
        go_roundw
        case rel => exact ⟨2, 2, by omega, rfl, rfl, k9.set1 1 _ (by simp) rfl, kx.other n7 _, ky.other n8 _, kr.other (Ne.symm n9) _, hb.setCell g9 _⟩
        case measure => simp [intOf]
      · obtain rfl : j = 2 := hj
        replace k9 : Blk wr W4.heap.size (ob (chU m (cl r) (cl r')) (chU m (cl g) (cl g')) 0 51) := k9
        go_wp2_with fail
        refine wp_region_grow 10 (fun w' => Below (World.heap wr).size wr w') (by kernel_rfl) (by kernel_rfl) (Below.refl _ _).drew ?_
        simp only [List.take_succ_cons, List.take_zero, List.drop_succ_cons, List.drop_zero]
        repeat (first | (apply wpG_on; rfl; (intro w' hS K hK; have hc0 := (k9.kept hS).c3; have hc1 := (kx.kept hS).c3; have hc2 := (ky.kept hS).c3; have hc3 := (kr.kept hS).c4; go_simp; (first | exact hK.out _ hS | (go_at_call 13; (with_reducible refine (refChanU _ _ _ _ z2 y2).mono ?_); rintro e w'' ⟨rfl, hbb⟩; exact ⟨_, rfl, hK.out _ (hS.trans (hbb.mono hS.size))⟩))); simp only [Act.put, List.setIfInBounds_toArray, List.set_cons_succ, List.set_cons_zero]) | (apply wpG_off; rfl; simp only [Act.put, List.setIfInBounds_toArray, List.set_cons_succ, List.set_cons_zero]))
        apply wpG_nil
        intro W6 hS
        replace k9 := k9.kept hS
        replace kx := kx.kept hS
        replace ky := ky.kept hS
        replace kr := kr.kept hS
        replace hb := hb.trans (hS.mono hb.size)
        clear hS
        have c9 := k9.c3
        go_wp2_with fail
        go_roundw
        case rel => exact ⟨3, 3, by omega, rfl, rfl, k9.set1 2 _ (by simp) rfl, kx.other n7 _, ky.other n8 _, kr.other (Ne.symm n9) _, hb.setCell g9 _⟩
        case measure => simp [intOf]
      · obtain rfl : j = 3 := hj
        replace k9 : Blk wr W4.heap.size (ob (chU m (cl r) (cl r')) (chU m (cl g) (cl g')) (chU m (cl b) (cl b')) 51) := k9
        have c9 := k9.c3
        have cr := kr.c4
        go_wp2_with fail
        refine end4 hb kr (by omega) (fun w3 e => by simp [results, Tryd.results16, go_sem, e]) rfl (fun w3 hb3 => ⟨rfl, hb3⟩)

theorem refColors_any (m r g b a r' g' b' a' : Int) (w : World) :
    Calls Tryd.prog 16 #[.int .i64 m, pv r g b a, pv r' g' b' a'] w fun e w' => e = .returned (pv (col3 m (cl r, cl g, cl b) (cl r', cl g', cl b')).1 (col3 m (cl r, cl g, cl b) (cl r', cl g', cl b')).2.1 (col3 m (cl r, cl g, cl b) (cl r', cl g', cl b')).2.2 65535) ∧ Below w.heap.size w w' := by
  by_cases h : m < 14 ∨ 17 < m
  · rw [col3_other m _ _ h]
    exact refColorsN m r g b a r' g' b' a' w h
  · obtain rfl | rfl | rfl | rfl : m = 14 ∨ m = 15 ∨ m = 16 ∨ m = 17 := by omega
    · exact refColors14 r g b a r' g' b' a' w
    · exact refColors15 r g b a r' g' b' a' w
    · exact refColors16 r g b a r' g' b' a' w
    · exact refColors17 r g b a r' g' b' a' w
end Go.Proofs.YtfgkgibomgcmpaaDoor
