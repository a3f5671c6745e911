/- blend.Over. -/
import Derived.Test.YtfgkgibomgcmpaaDoorColSep
import Derived.Test.YtfgkgibomgcmpaaDoorOverPlain
import Derived.Deep.Cut
namespace Go.Proofs.YtfgkgibomgcmpaaDoor
open Go.RowKit
set_option linter.unusedVariables false
attribute [local go_sem] Oper.gAt gUponK Oper.sAt stilK

set_option maxHeartbeats 1000000 in
theorem overCh (b s m ba sa d : Int) (x0 x1 x2 y0 y1 y2 : Value) (sb bb db : Nat) (t t' t2 : TypeId) (w : World) (hb : U b) (hs : U s) (hm : U m) (hba : U ba) (hsa : U sa) (hd : 0 < d) (hd2 : d ≤ 4294836225)
    (k1 : Blk w sb (.cells #[x0, x1, x2, .int .i64 sa] t (0, 0))) (k2 : Blk w bb (.cells #[y0, y1, y2, .int .i64 ba] t' (0, 0))) (k3 : Blk w db (.cells #[.int .i64 d] t2 (0, 0))) :
    Calls Tryd.prog 48 #[.int .i64 b, .int .i64 s, .int .i64 m, .pointer (some ⟨sb, 0, none⟩), .pointer (some ⟨bb, 0, none⟩), .pointer (some ⟨db, 0, none⟩)] w fun e w' => e = .returned (.int .i64 (dv (nU b s m ba sa) d)) ∧ w = w' := by
  unfold U at hb hs hm hba hsa
  have m1 := mul_u2 s sa hs hsa
  have m2 := mul_u3 s sa (65535 - ba) hs hsa (by omega)
  have m3 := mul_u2 b ba hb hba
  have m4 := mul_u3 b ba (65535 - sa) hb hba (by omega)
  have m5 := mul_u2 m sa hm hsa
  have m6 := mul_u3 m sa ba hm hsa hba
  have HN : Hid (nU b s m ba sa = s * sa * (65535 - ba) + b * ba * (65535 - sa) + m * sa * ba) := rfl
  have c1 := k1.c4
  have c2 := k2.c4
  have c3 := k3.c1
  go_enter Tryd.func48, Tryd.ntmps48
  go_wp2_with fail
  refine (div_any _ _ _ hd (by omega) (by omega) (by omega)).mono ?_
  rintro e w' ⟨rfl, rfl⟩
  go_wp2_with fail
  go_ret
  exact ⟨ret_int (by rw [HN.out]), rfl⟩

set_option maxHeartbeats 2000000 in
theorem over_zero (m r g b a r' g' b' a' : Int) (w : World) (hz : alU (cl a) (cl a') = 0) :
    Calls Tryd.prog 17 #[.int .i64 m, pv r g b a, pv r' g' b' a'] w fun e w' => e = .returned (pv 0 0 0 0) ∧ Below w.heap.size w w' := by
  have ha := cl_bd a
  have ha' := cl_bd a'
  have hd := dU_bd _ _ ha ha'
  have hm := mul_u2 (cl a') (cl a) ha' ha
  have HD : Hid (dU (cl a) (cl a') = 65535 * (cl a' + cl a) - cl a' * cl a) := rfl
  have HZ : Hid (dv (dU (cl a) (cl a')) 65535 = 0) := hz
  clear hz
  go_enter Tryd.func17, Tryd.ntmps17
  go_wp2
  refine name3 (fun W k1 k2 k3 hb => ?_)
  refine wp_region_grow 4 (fun w' => Below (World.heap W).size W w') (by kernel_rfl) (by kernel_rfl) (Below.refl _ _).drew ?_
  simp only [List.take_succ_cons, List.take_zero, List.drop_succ_cons, List.drop_zero]
  repeat (first | (apply wpG_on; rfl; (intro w' hS K hK; have hc0 := (k1.kept hS).c4; have hc1 := (k2.kept hS).c4; have hc2 := (k3.kept hS).c4; go_simp; (first | exact hK.out _ hS | (go_at_call 42; (with_reducible refine (limit_any _ _ _ _ _).mono ?_); rintro e w'' ⟨rfl, hbb⟩; exact ⟨_, rfl, hK.out _ (hS.trans (hbb.mono hS.size))⟩))); simp only [Act.put, List.setIfInBounds_toArray, List.set_cons_succ, List.set_cons_zero]) | (apply wpG_off; rfl; simp only [Act.put, List.setIfInBounds_toArray, List.set_cons_succ, List.set_cons_zero]))
  apply wpG_nil
  intro W1 hS
  replace k1 := k1.kept hS
  replace k2 := k2.kept hS
  replace k3 := k3.kept hS
  replace hb := hb.trans (hS.mono hb.size)
  clear hS
  have c1 := k1.c4
  have c2 := k2.c4
  go_upto_region 2 with (fail)
  clear c1 c2
  refine mid44 hb k1 k2 (by omega) (Nat.le_refl _) (by omega) (fun W2 k1' k2' kk hb => ?_)
  replace k3 := kk _ _ (by omega) (by omega) k3
  clear kk k1 k2
  have c1 := k1'.c4
  have c2 := k2'.c4
  go_wp2_with fail
  clear c1 c2
  rw [← HD.out]
  refine callName1 (fun W3 k4 hS => ?_)
  replace k3 := k3.kept hS
  replace hb := hb.trans (hS.mono hb.size)
  clear hS
  refine (div_any _ _ _ (by omega) (by omega) (by omega) (by omega)).mono ?_
  rintro e w' ⟨rfl, rfl⟩
  rw [HZ.out]
  have c3 := k3.c4
  go_wp2_with fail
  refine bodyPost_ret (v := pv 0 0 0 0) (by simp [results, Tryd.results17, go_sem, c3]) rfl ⟨rfl, ?_⟩
  exact below4 hb (by omega) _ _ _ _

set_option maxHeartbeats 4000000 in
theorem over_pos (m r g b a r' g' b' a' : Int) (w : World) (hz : alU (cl a) (cl a') ≠ 0) :
    Calls Tryd.prog 17 #[.int .i64 m, pv r g b a, pv r' g' b' a'] w fun e w' => e = .returned (pv (ovC (cl r) (cl r') (col3 m (cl r, cl g, cl b) (cl r', cl g', cl b')).1 (cl a) (cl a')) (ovC (cl g) (cl g') (col3 m (cl r, cl g, cl b) (cl r', cl g', cl b')).2.1 (cl a) (cl a')) (ovC (cl b) (cl b') (col3 m (cl r, cl g, cl b) (cl r', cl g', cl b')).2.2 (cl a) (cl a')) (alU (cl a) (cl a'))) ∧ Below w.heap.size w w' := by
  have ha := cl_bd a
  have ha' := cl_bd a'
  have hd := dU_bd _ _ ha ha'
  have hd0 := alU_pos _ _ ha ha' hz
  have hm := mul_u2 (cl a') (cl a) ha' ha
  have HD : Hid (dU (cl a) (cl a') = 65535 * (cl a' + cl a) - cl a' * cl a) := rfl
  have HA : Hid (dv (dU (cl a) (cl a')) 65535 = alU (cl a) (cl a')) := rfl
  have hf : (alU (cl a) (cl a') == 0) = false := by simpa using hz
  have HC := Lib.hid (fun w => colors_any m (cl r) (cl g) (cl b) (cl a) (cl r') (cl g') (cl b') (cl a') w)
  have hu := col3_u m (cl r, cl g, cl b) (cl r', cl g', cl b') ⟨cl_bd _, cl_bd _, cl_bd _⟩ ⟨cl_bd _, cl_bd _, cl_bd _⟩
  simp only [cl_cl] at HC
  have HV : Hid (∀ b s q, ovC b s q (cl a) (cl a') = dv (nU b s q (cl a) (cl a')) (dU (cl a) (cl a'))) := fun _ _ _ => rfl
  generalize col3 m (cl r, cl g, cl b) (cl r', cl g', cl b') = q at *
  obtain ⟨q0, q1, q2⟩ := q
  obtain ⟨u0, u1, u2⟩ := hu
  replace u0 : U q0 := u0
  replace u1 : U q1 := u1
  replace u2 : U q2 := u2
  have z1 : U (cl r) := cl_bd r
  have z2 : U (cl r') := cl_bd r'
  have z3 : U (cl g) := cl_bd g
  have z4 : U (cl g') := cl_bd g'
  have z5 : U (cl b) := cl_bd b
  have z6 : U (cl b') := cl_bd b'
  have za : U (cl a) := ha
  have za' : U (cl a') := ha'
  simp only [HV.out]
  clear hz HV
  generalize alU (cl a) (cl a') = al at *
  go_enter Tryd.func17, Tryd.ntmps17
  go_wp2
  refine name3 (fun W k1 k2 k3 hb => ?_)
  refine wp_region_grow 4 (fun w' => Below (World.heap W).size W w') (by kernel_rfl) (by kernel_rfl) (Below.refl _ _).drew ?_
  simp only [List.take_succ_cons, List.take_zero, List.drop_succ_cons, List.drop_zero]
  repeat (first | (apply wpG_on; rfl; (intro w' hS K hK; have hc0 := (k1.kept hS).c4; have hc1 := (k2.kept hS).c4; have hc2 := (k3.kept hS).c4; go_simp; (first | exact hK.out _ hS | (go_at_call 42; (with_reducible refine (limit_any _ _ _ _ _).mono ?_); rintro e w'' ⟨rfl, hbb⟩; exact ⟨_, rfl, hK.out _ (hS.trans (hbb.mono hS.size))⟩))); simp only [Act.put, List.setIfInBounds_toArray, List.set_cons_succ, List.set_cons_zero]) | (apply wpG_off; rfl; simp only [Act.put, List.setIfInBounds_toArray, List.set_cons_succ, List.set_cons_zero]))
  apply wpG_nil
  intro W1 hS
  replace k1 := k1.kept hS
  replace k2 := k2.kept hS
  replace k3 := k3.kept hS
  replace hb := hb.trans (hS.mono hb.size)
  clear hS
  have c1 := k1.c4
  have c2 := k2.c4
  go_upto_region 2 with (fail)
  clear c1 c2
  refine mid44 hb k1 k2 (by omega) (Nat.le_refl _) (by omega) (fun W2 k1' k2' kk hb => ?_)
  replace k3 := kk _ _ (by omega) (by omega) k3
  clear kk k1 k2
  have c1 := k1'.c4
  have c2 := k2'.c4
  go_wp2_with fail
  clear c1 c2
  rw [← HD.out]
  generalize hdd : dU (cl a) (cl a') = d at *
  have HDD := Lib.hid hdd
  clear hdd
  refine callName1 (fun W3 k4 hS => ?_)
  replace k1' := k1'.kept hS
  replace k2' := k2'.kept hS
  replace k3 := k3.kept hS
  have hne4 := k3.lt
  replace hb := hb.trans (hS.mono hb.size)
  refine (div_any _ _ _ (by omega) (by omega) (by omega) (by omega)).mono ?_
  rintro e w' ⟨rfl, rfl⟩
  rw [HA.out]
  clear hS
  have c1 := k1'.c4
  have c2 := k2'.c4
  go_wp2_with fail
  clear c1 c2
  refine (HC.out _).mono ?_
  rintro e W4 ⟨rfl, hS⟩
  replace k1' := k1'.kept hS
  replace k2' := k2'.kept hS
  replace k3 := k3.kept hS
  replace k4 := k4.kept hS
  replace hb := hb.trans (hS.mono hb.size)
  clear hS HC
  go_wp2_with fail
  refine name1 (fun W5 k5 hS => ?_)
  replace k1' := k1'.kept hS
  replace k2' := k2'.kept hS
  replace k3 := k3.kept hS
  replace k4 := k4.kept hS
  replace hb := hb.trans (hS.mono hb.size)
  clear hS
  refine wp_region_grow 26 (fun w' => Below (World.heap W5).size W5 w') (by kernel_rfl) (by kernel_rfl) (Below.refl _ _).drew ?_
  simp only [List.take_succ_cons, List.take_zero, List.drop_succ_cons, List.drop_zero]
  repeat (first | (apply wpG_on; rfl; (intro w' hS K hK; have hc0 := (k1'.kept hS).c4; have hc1 := (k2'.kept hS).c4; have hc2 := (k3.kept hS).c4; have hc3 := (k4.kept hS).c1; have hc4 := (k5.kept hS).c4; go_simp; (first | exact hK.out _ hS | (go_at_call 48; (with_reducible refine (overCh (cl r) (cl r') q0 (cl a) (cl a') _ _ _ _ _ _ _ _ _ _ _ _ _ _ z1 z2 u0 za za' hd0 hd.2 (k2'.kept hS) (k1'.kept hS) (k4.kept hS)).mono ?_); rintro e w'' ⟨rfl, rfl⟩; exact ⟨_, rfl, hK.out _ hS⟩) | (go_at_call 48; (with_reducible refine (overCh (cl g) (cl g') q1 (cl a) (cl a') _ _ _ _ _ _ _ _ _ _ _ _ _ _ z3 z4 u1 za za' hd0 hd.2 (k2'.kept hS) (k1'.kept hS) (k4.kept hS)).mono ?_); rintro e w'' ⟨rfl, rfl⟩; exact ⟨_, rfl, hK.out _ hS⟩) | (go_at_call 48; (with_reducible refine (overCh (cl b) (cl b') q2 (cl a) (cl a') _ _ _ _ _ _ _ _ _ _ _ _ _ _ z5 z6 u2 za za' hd0 hd.2 (k2'.kept hS) (k1'.kept hS) (k4.kept hS)).mono ?_); rintro e w'' ⟨rfl, rfl⟩; exact ⟨_, rfl, hK.out _ hS⟩))); simp only [Act.put, List.setIfInBounds_toArray, List.set_cons_succ, List.set_cons_zero]) | (apply wpG_off; rfl; simp only [Act.put, List.setIfInBounds_toArray, List.set_cons_succ, List.set_cons_zero]))
  apply wpG_nil
  intro W6 hS
  replace k1' := k1'.kept hS
  replace k2' := k2'.kept hS
  replace k3 := k3.kept hS
  replace k4 := k4.kept hS
  replace k5 := k5.kept hS
  replace hb := hb.trans (hS.mono hb.size)
  clear hS
  have c3 := k3.c4
  go_wp2_with fail
  refine end4 hb k3 (by omega) (fun w3 e => by simp [results, Tryd.results17, go_sem, e]) rfl (fun w3 hb3 => ⟨by rw [HDD.out], hb3⟩)
end Go.Proofs.YtfgkgibomgcmpaaDoor
