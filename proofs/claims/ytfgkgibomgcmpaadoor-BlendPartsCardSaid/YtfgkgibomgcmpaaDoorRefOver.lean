/- Over of the reference of package blend. -/
import Derived.Test.YtfgkgibomgcmpaaDoorRefColorsN
import Derived.Test.YtfgkgibomgcmpaaDoorOverPlain
import Derived.Deep.Cut
namespace Go.Proofs.YtfgkgibomgcmpaaDoor
open Go.RowKit
set_option linter.unusedVariables false
attribute [local go_sem] Oper.gAt gUponK Oper.sAt stilK

set_option maxHeartbeats 1000000 in
theorem refOverCh (b s m ba sa d : Int) (w : World) (hb : U b) (hs : U s) (hm : U m) (hba : U ba) (hsa : U sa) (hd : 0 < d) (hd2 : d ≤ 4294836225) :
    Calls Tryd.prog 49 #[.int .i64 b, .int .i64 s, .int .i64 m, .int .i64 ba, .int .i64 sa, .int .i64 d] w fun e w' => e = .returned (.int .i64 (dv (nU b s m ba sa) d)) ∧ Below w.heap.size w w' := by
  unfold U at hb hs hm hba hsa
  have m1 := mul_u2 s sa hs hsa
  have m2 := mul_u3 s sa (65535 - ba) hs hsa (by omega)
  have m3 := mul_u2 b ba hb hba
  have m4 := mul_u3 b ba (65535 - sa) hb hba (by omega)
  have m5 := mul_u2 m sa hm hsa
  have m6 := mul_u3 m sa ba hm hsa hba
  have HN : Hid (nU b s m ba sa = s * sa * (65535 - ba) + b * ba * (65535 - sa) + m * sa * ba) := rfl
  go_enter Tryd.func49, Tryd.ntmps49
  go_wp2_with fail
  refine (refDiv_new _ _ _ hd (by omega) (by omega) (by omega)).mono ?_
  rintro e w1 ⟨rfl, hB⟩
  go_wp2_with fail
  go_ret
  exact ⟨ret_int (by rw [HN.out]), hB⟩
theorem refAlpha (d al : Int) (w : World) (h : dv d 65535 = al) (h0 : 0 ≤ d) (h1 : d ≤ 4294836225) :
    Calls Tryd.prog 41 #[.int .i64 d, .int .i64 65535] w fun e w' => e = .returned (.int .i64 al) ∧ Below w.heap.size w w' := by
  rw [← h]
  exact refDiv_new _ _ _ (by omega) (by omega) (by omega) (by omega)

set_option maxHeartbeats 2000000 in
theorem refOver_zero (m r g b a r' g' b' a' : Int) (w : World) (hz : alU (cl a) (cl a') = 0) :
    Calls Tryd.prog 18 #[.int .i64 m, pv r g b a, pv r' g' b' a'] w fun e w' => e = .returned (pv 0 0 0 0) ∧ Below w.heap.size w w' := by
  have ha := cl_bd a
  have ha' := cl_bd a'
  have hd := dU_bd _ _ ha ha'
  have hm := mul_u2 (cl a') (cl a) ha' ha
  have HD : Hid (dU (cl a) (cl a') = 65535 * (cl a' + cl a) - cl a' * cl a) := rfl
  have HZ : Hid (dv (dU (cl a) (cl a')) 65535 = 0) := hz
  clear hz
  go_enter Tryd.func18, Tryd.ntmps18
  go_wp2
  refine name3 (fun W k1 k2 k3 hb => ?_)
  refine wp_region_grow 4 (fun w' => Below (World.heap W).size W w') (by kernel_rfl) (by kernel_rfl) (Below.refl _ _).drew ?_
  simp only [List.take_succ_cons, List.take_zero, List.drop_succ_cons, List.drop_zero]
  repeat (first | (apply wpG_on; rfl; (intro w' hS K hK; have hc0 := (k1.kept hS).c4; have hc1 := (k2.kept hS).c4; have hc2 := (k3.kept hS).c4; go_simp; (first | exact hK.out _ hS | (go_at_call 23; (with_reducible refine (refLimit_any _ _ _ _ _).mono ?_); rintro e w'' ⟨rfl, hbb⟩; exact ⟨_, rfl, hK.out _ (hS.trans (hbb.mono hS.size))⟩))); simp only [Act.put, List.setIfInBounds_toArray, List.set_cons_succ, List.set_cons_zero]) | (apply wpG_off; rfl; simp only [Act.put, List.setIfInBounds_toArray, List.set_cons_succ, List.set_cons_zero]))
  apply wpG_nil
  intro W1 hS
  replace k1 := k1.kept hS
  replace k2 := k2.kept hS
  replace k3 := k3.kept hS
  replace hb := hb.trans (hS.mono hb.size)
  clear hS
  have c1 := k1.c4
  have c2 := k2.c4
  go_upto_region 2 with (fail)
  clear c1 c2
  refine mid44 hb k1 k2 (by omega) (Nat.le_refl _) (by omega) (fun W2 k1' k2' kk hb => ?_)
  replace k3 := kk _ _ (by omega) (by omega) k3
  clear kk k1 k2
  have c1 := k1'.c4
  have c2 := k2'.c4
  have r1 : 65535 * (cl a' + cl a) - cl a' * cl a = dU (cl a) (cl a') := HD.out.symm
  by_cases hd0 : dU (cl a) (cl a') = 0
  · have hq : (dU (cl a) (cl a') == 0) = true := by simpa using hd0
    clear hd0
    generalize dU (cl a) (cl a') = d at *
    have c3 := k3.c4
    go_wp2_with fail
    refine bodyPost_ret (v := pv 0 0 0 0) (by simp [results, Tryd.results18, go_sem, c3]) rfl ⟨rfl, ?_⟩
    exact below4 hb (by omega) _ _ _ _
  · have hq : (dU (cl a) (cl a') == 0) = false := by simpa using hd0
    generalize dU (cl a) (cl a') = d at *
    go_wp2_with fail
    clear c1 c2 r1
    refine (refDiv_new _ _ _ (by omega) (by omega) (by omega) (by omega)).mono ?_
    rintro e W3 ⟨rfl, hS⟩
    replace k3 := k3.kept hS
    replace hb := hb.trans (hS.mono hb.size)
    clear hS
    rw [HZ.out]
    have c3 := k3.c4
    go_wp2_with fail
    refine bodyPost_ret (v := pv 0 0 0 0) (by simp [results, Tryd.results18, go_sem, c3]) rfl ⟨rfl, ?_⟩
    exact below4 hb (by omega) _ _ _ _

set_option maxHeartbeats 4000000 in
theorem refOver_pos (m r g b a r' g' b' a' : Int) (w : World) (hz : alU (cl a) (cl a') ≠ 0) :
    Calls Tryd.prog 18 #[.int .i64 m, pv r g b a, pv r' g' b' a'] w fun e w' => e = .returned (pv (ovC (cl r) (cl r') (col3 m (cl r, cl g, cl b) (cl r', cl g', cl b')).1 (cl a) (cl a')) (ovC (cl g) (cl g') (col3 m (cl r, cl g, cl b) (cl r', cl g', cl b')).2.1 (cl a) (cl a')) (ovC (cl b) (cl b') (col3 m (cl r, cl g, cl b) (cl r', cl g', cl b')).2.2 (cl a) (cl a')) (alU (cl a) (cl a'))) ∧ Below w.heap.size w w' := by
  have ha := cl_bd a
  have ha' := cl_bd a'
  have hd := dU_bd _ _ ha ha'
  have hd0 := alU_pos _ _ ha ha' hz
  have hm := mul_u2 (cl a') (cl a) ha' ha
  have HD : Hid (dU (cl a) (cl a') = 65535 * (cl a' + cl a) - cl a' * cl a) := rfl
  have HA : Hid (dv (dU (cl a) (cl a')) 65535 = alU (cl a) (cl a')) := rfl
  have hf : (alU (cl a) (cl a') == 0) = false := by simpa using hz
  have HC := Lib.hid (fun w => refColors_any m (cl r) (cl g) (cl b) (cl a) (cl r') (cl g') (cl b') (cl a') w)
  have hu := col3_u m (cl r, cl g, cl b) (cl r', cl g', cl b') ⟨cl_bd _, cl_bd _, cl_bd _⟩ ⟨cl_bd _, cl_bd _, cl_bd _⟩
  simp only [cl_cl] at HC
  have HV : Hid (∀ b s q, ovC b s q (cl a) (cl a') = dv (nU b s q (cl a) (cl a')) (dU (cl a) (cl a'))) := fun _ _ _ => rfl
  generalize col3 m (cl r, cl g, cl b) (cl r', cl g', cl b') = q at *
  obtain ⟨q0, q1, q2⟩ := q
  obtain ⟨u0, u1, u2⟩ := hu
  replace u0 : U q0 := u0
  replace u1 : U q1 := u1
  replace u2 : U q2 := u2
  have z1 : U (cl r) := cl_bd r
  have z2 : U (cl r') := cl_bd r'
  have z3 : U (cl g) := cl_bd g
  have z4 : U (cl g') := cl_bd g'
  have z5 : U (cl b) := cl_bd b
  have z6 : U (cl b') := cl_bd b'
  have za : U (cl a) := ha
  have za' : U (cl a') := ha'
  simp only [HV.out]
  clear hz HV
  generalize alU (cl a) (cl a') = al at *
  go_enter Tryd.func18, Tryd.ntmps18
  go_wp2
  refine name3 (fun W k1 k2 k3 hb => ?_)
  refine wp_region_grow 4 (fun w' => Below (World.heap W).size W w') (by kernel_rfl) (by kernel_rfl) (Below.refl _ _).drew ?_
  simp only [List.take_succ_cons, List.take_zero, List.drop_succ_cons, List.drop_zero]
  repeat (first | (apply wpG_on; rfl; (intro w' hS K hK; have hc0 := (k1.kept hS).c4; have hc1 := (k2.kept hS).c4; have hc2 := (k3.kept hS).c4; go_simp; (first | exact hK.out _ hS | (go_at_call 23; (with_reducible refine (refLimit_any _ _ _ _ _).mono ?_); rintro e w'' ⟨rfl, hbb⟩; exact ⟨_, rfl, hK.out _ (hS.trans (hbb.mono hS.size))⟩))); simp only [Act.put, List.setIfInBounds_toArray, List.set_cons_succ, List.set_cons_zero]) | (apply wpG_off; rfl; simp only [Act.put, List.setIfInBounds_toArray, List.set_cons_succ, List.set_cons_zero]))
  apply wpG_nil
  intro W1 hS
  replace k1 := k1.kept hS
  replace k2 := k2.kept hS
  replace k3 := k3.kept hS
  replace hb := hb.trans (hS.mono hb.size)
  clear hS
  have c1 := k1.c4
  have c2 := k2.c4
  go_upto_region 2 with (fail)
  clear c1 c2
  refine mid44 hb k1 k2 (by omega) (Nat.le_refl _) (by omega) (fun W2 k1' k2' kk hb => ?_)
  replace k3 := kk _ _ (by omega) (by omega) k3
  clear kk k1 k2
  have c1 := k1'.c4
  have c2 := k2'.c4
  have r1 : 65535 * (cl a' + cl a) - cl a' * cl a = dU (cl a) (cl a') := HD.out.symm
  generalize hdd : dU (cl a) (cl a') = d at *
  have HDD := Lib.hid hdd
  have hq : (d == 0) = false := by simp; omega
  clear hdd
  go_wp2_with fail
  clear c1 c2 r1
  refine (refDiv_new _ _ _ (by omega) (by omega) (by omega) (by omega)).mono ?_
  rintro e W3 ⟨rfl, hS⟩
  replace k1' := k1'.kept hS
  replace k2' := k2'.kept hS
  replace k3 := k3.kept hS
  replace hb := hb.trans (hS.mono hb.size)
  clear hS
  rw [HA.out]
  have c1 := k1'.c4
  have c2 := k2'.c4
  go_wp2_with fail
  clear c1 c2
  refine (HC.out _).mono ?_
  rintro e W4 ⟨rfl, hS⟩
  replace k1' := k1'.kept hS
  replace k2' := k2'.kept hS
  replace k3 := k3.kept hS
  replace hb := hb.trans (hS.mono hb.size)
  clear hS HC
  go_wp2_with fail
  refine name1 (fun W5 k5 hS => ?_)
  replace k1' := k1'.kept hS
  replace k2' := k2'.kept hS
  replace k3 := k3.kept hS
  replace hb := hb.trans (hS.mono hb.size)
  clear hS
  have HAL := Lib.hid (fun w => refAlpha d al w HA.out hd.1 hd.2)
  refine wp_region_grow 39 (fun w' => Below (World.heap W5).size W5 w') (by kernel_rfl) (by kernel_rfl) (Below.refl _ _).drew ?_
  simp only [List.take_succ_cons, List.take_zero, List.drop_succ_cons, List.drop_zero]
  repeat (first | (apply wpG_on; rfl; (intro w' hS K hK; have hc0 := (k1'.kept hS).c4; have hc1 := (k2'.kept hS).c4; have hc2 := (k3.kept hS).c4; have hc3 := (k5.kept hS).c4; go_simp; (first | exact hK.out _ hS | (go_at_call 49; (with_reducible refine (refOverCh (cl r) (cl r') q0 (cl a) (cl a') _ _ z1 z2 u0 za za' hd0 hd.2).mono ?_); rintro e w'' ⟨rfl, hbb⟩; exact ⟨_, rfl, hK.out _ (hS.trans (hbb.mono hS.size))⟩) | (go_at_call 49; (with_reducible refine (refOverCh (cl g) (cl g') q1 (cl a) (cl a') _ _ z3 z4 u1 za za' hd0 hd.2).mono ?_); rintro e w'' ⟨rfl, hbb⟩; exact ⟨_, rfl, hK.out _ (hS.trans (hbb.mono hS.size))⟩) | (go_at_call 49; (with_reducible refine (refOverCh (cl b) (cl b') q2 (cl a) (cl a') _ _ z5 z6 u2 za za' hd0 hd.2).mono ?_); rintro e w'' ⟨rfl, hbb⟩; exact ⟨_, rfl, hK.out _ (hS.trans (hbb.mono hS.size))⟩) | (go_at_call 41; (with_reducible refine (HAL.out _).mono ?_); rintro e w'' ⟨rfl, hbb⟩; exact ⟨_, rfl, hK.out _ (hS.trans (hbb.mono hS.size))⟩))); simp only [Act.put, List.setIfInBounds_toArray, List.set_cons_succ, List.set_cons_zero]) | (apply wpG_off; rfl; simp only [Act.put, List.setIfInBounds_toArray, List.set_cons_succ, List.set_cons_zero]))
  apply wpG_nil
  intro W6 hS
  replace k1' := k1'.kept hS
  replace k2' := k2'.kept hS
  replace k3 := k3.kept hS
  replace k5 := k5.kept hS
  replace hb := hb.trans (hS.mono hb.size)
  clear hS
  have c3 := k3.c4
  go_wp2_with fail
  refine end4 hb k3 (by omega) (fun w3 e => by simp [results, Tryd.results18, go_sem, e]) rfl (fun w3 hb3 => ⟨by rw [HDD.out], hb3⟩)
end Go.Proofs.YtfgkgibomgcmpaaDoor
