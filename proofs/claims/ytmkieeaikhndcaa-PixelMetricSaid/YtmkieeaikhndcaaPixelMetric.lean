/- PixelMetric: for all pixels, Dist is a metric of limited pixels, and Luma does not decrease with a channel and is the value of a gray pixel. No conditions. -/
import Derived.Test.YtmkieeaikhndcaaFrame
import Derived.Test.YtmkieeaikhndcaaPixAwake
import Derived.Test.YtmkieeaikhndcaaPixPlain
import Derived.Deep.RegionHeld3
namespace Go.Proofs.Ytmkieeaikhndcaa.pixelMetric
open Go.ChangeShapes Go.WideShapes Go.ChangeAt Go.RowKit
set_option linter.unusedVariables false
attribute [local go_sem] Oper.gAt gUponK

theorem name1d {P : Program} {c : Code} {Q : Exit → Act → World → Prop} {a : Act} {w : World} {A : Obj}
    (h : ∀ W : World, Blk W w.heap.size A → Below w.heap.size w W → c.wp P Q a W) : c.wp P Q a (w.alloc A).drew :=
  h _ (heap_alloc_new _ _) ((Below.refl _ _).alloc (Nat.le_refl _) _).drew
/-- The distance of limited pixels. -/
def ds (r g b a r' g' b' a' : Int) : Int := max (max (max (ap (cl r) (cl r')) (ap (cl g) (cl g'))) (ap (cl b) (cl b'))) (ap (cl a) (cl a'))
def lm (r g b : Int) : Int := dv (13933 * cl r + 46871 * cl g + 4731 * cl b) 65535
theorem ds_bd (r g b a r' g' b' a' : Int) : 0 ≤ ds r g b a r' g' b' a' ∧ ds r g b a r' g' b' a' ≤ 65535 := by
  have h0 := ap_bd _ _ (cl_bd r) (cl_bd r')
  have h1 := ap_bd _ _ (cl_bd g) (cl_bd g')
  have h2 := ap_bd _ _ (cl_bd b) (cl_bd b')
  have h3 := ap_bd _ _ (cl_bd a) (cl_bd a')
  unfold ds
  omega
theorem ap_comm (x y : Int) : ap x y = ap y x := by unfold ap; omega
theorem ap_tri (x y z : Int) : ap x z ≤ ap x y + ap y z := by unfold ap; omega
theorem ap_zero (x y : Int) : ap x y = 0 ↔ x = y := by unfold ap; omega
theorem ap_nonneg (x y : Int) : 0 ≤ ap x y := by unfold ap; omega
theorem ds_comm (r g b a r' g' b' a' : Int) : ds r' g' b' a' r g b a = ds r g b a r' g' b' a' := by
  unfold ds
  rw [ap_comm (cl r'), ap_comm (cl g'), ap_comm (cl b'), ap_comm (cl a')]
theorem max4_tri (p0 p1 p2 p3 q0 q1 q2 q3 s0 s1 s2 s3 : Int) (h0 : p0 ≤ q0 + s0) (h1 : p1 ≤ q1 + s1) (h2 : p2 ≤ q2 + s2) (h3 : p3 ≤ q3 + s3) :
    max (max (max p0 p1) p2) p3 ≤ max (max (max q0 q1) q2) q3 + max (max (max s0 s1) s2) s3 := by
  have a0 : q0 ≤ max (max (max q0 q1) q2) q3 ∧ q1 ≤ max (max (max q0 q1) q2) q3 ∧ q2 ≤ max (max (max q0 q1) q2) q3 ∧ q3 ≤ max (max (max q0 q1) q2) q3 := by omega
  have b0 : s0 ≤ max (max (max s0 s1) s2) s3 ∧ s1 ≤ max (max (max s0 s1) s2) s3 ∧ s2 ≤ max (max (max s0 s1) s2) s3 ∧ s3 ≤ max (max (max s0 s1) s2) s3 := by omega
  generalize max (max (max q0 q1) q2) q3 = q at *
  generalize max (max (max s0 s1) s2) s3 = s at *
  omega
theorem ds_tri (r g b a r' g' b' a' r2 g2 b2 a2 : Int) : ds r g b a r2 g2 b2 a2 ≤ ds r g b a r' g' b' a' + ds r' g' b' a' r2 g2 b2 a2 :=
  max4_tri _ _ _ _ _ _ _ _ _ _ _ _ (ap_tri _ _ _) (ap_tri _ _ _) (ap_tri _ _ _) (ap_tri _ _ _)
theorem ds_zero (r g b a r' g' b' a' : Int) : ds r g b a r' g' b' a' = 0 ↔ (cl r = cl r' ∧ cl g = cl g' ∧ cl b = cl b' ∧ cl a = cl a') := by
  have h0 := ap_nonneg (cl r) (cl r')
  have h1 := ap_nonneg (cl g) (cl g')
  have h2 := ap_nonneg (cl b) (cl b')
  have h3 := ap_nonneg (cl a) (cl a')
  rw [← ap_zero (cl r), ← ap_zero (cl g), ← ap_zero (cl b), ← ap_zero (cl a)]
  unfold ds
  omega
theorem lm_mono (r g b r' g' b' : Int) (h0 : cl r ≤ cl r') (h1 : cl g ≤ cl g') (h2 : cl b ≤ cl b') : lm r g b ≤ lm r' g' b' := dv_mono _ _ _ (by omega) (by omega)
theorem lm_gray (x : Int) : lm x x x = cl x := by
  unfold lm
  rw [show 13933 * cl x + 46871 * cl x + 4731 * cl x = cl x * 65535 by omega]
  exact dv_mul _ _ (by omega)

set_option maxHeartbeats 400000 in
theorem greater_any (a b : Int) (w : World) :
    Calls Try.prog 39 #[.int .i64 a, .int .i64 b] w fun e w' => e = .returned (.int .i64 (max a b)) ∧ w = w' := by
  go_enter Try.func39, Try.ntmps39
  go_wp2
  all_goals go_ret
  all_goals exact ⟨ret_int (by omega), rfl⟩

set_option maxRecDepth 100000 in
set_option maxHeartbeats 20000000 in
theorem walk (r g b a r' g' b' a' r2 g2 b2 a2 : Int) (w : World) (w0 : (Lit.int .i64 r).wf = true) (w1 : (Lit.int .i64 g).wf = true) (w2 : (Lit.int .i64 b).wf = true) (w3 : (Lit.int .i64 a).wf = true) (w4 : (Lit.int .i64 r').wf = true) (w5 : (Lit.int .i64 g').wf = true) (w6 : (Lit.int .i64 b').wf = true) (w7 : (Lit.int .i64 a').wf = true) (w8 : (Lit.int .i64 r2).wf = true) (w9 : (Lit.int .i64 g2).wf = true) (w10 : (Lit.int .i64 b2).wf = true) (w11 : (Lit.int .i64 a2).wf = true) :
    Calls Try.prog 9 #[pv r g b a, pv r' g' b' a', pv r2 g2 b2 a2] w fun e w' => e = .returned (.bool true) ∧ Below w.heap.size w w' := by
  clear w0 w1 w2 w3 w4 w5 w6 w7 w8 w9 w10 w11
  have D1 : ∀ w : World, Calls Try.prog 26 #[pv r g b a, pv r' g' b' a'] w fun e w' => e = .returned (.int .i64 (ds r g b a r' g' b' a')) ∧ Below w.heap.size w w' := fun w => dist_any _ _ _ _ _ _ _ _ w
  have D2 : ∀ w : World, Calls Try.prog 26 #[pv r' g' b' a', pv r2 g2 b2 a2] w fun e w' => e = .returned (.int .i64 (ds r' g' b' a' r2 g2 b2 a2)) ∧ Below w.heap.size w w' := fun w => dist_any _ _ _ _ _ _ _ _ w
  have D3 : ∀ w : World, Calls Try.prog 26 #[pv r g b a, pv r2 g2 b2 a2] w fun e w' => e = .returned (.int .i64 (ds r g b a r2 g2 b2 a2)) ∧ Below w.heap.size w w' := fun w => dist_any _ _ _ _ _ _ _ _ w
  have D4 : ∀ w : World, Calls Try.prog 26 #[pv r' g' b' a', pv r g b a] w fun e w' => e = .returned (.int .i64 (ds r g b a r' g' b' a')) ∧ Below w.heap.size w w' := fun w => by
    have c := dist_any r' g' b' a' r g b a w
    rw [show max (max (max (ap (cl r') (cl r)) (ap (cl g') (cl g))) (ap (cl b') (cl b))) (ap (cl a') (cl a)) = ds r g b a r' g' b' a' from ds_comm _ _ _ _ _ _ _ _] at c
    exact c
  have L1 : ∀ w : World, Calls Try.prog 14 #[pv r g b a] w fun e w' => e = .returned (pv (cl r) (cl g) (cl b) (cl a)) ∧ Below w.heap.size w w' := fun w => refLimit_any _ _ _ _ w
  have L2 : ∀ w : World, Calls Try.prog 14 #[pv r' g' b' a'] w fun e w' => e = .returned (pv (cl r') (cl g') (cl b') (cl a')) ∧ Below w.heap.size w w' := fun w => refLimit_any _ _ _ _ w
  have U1 : ∀ w : World, Calls Try.prog 24 #[pv (cl r) (cl g) (cl b) (cl a)] w fun e w' => e = .returned (.int .i64 (lm (cl r) (cl g) (cl b))) ∧ Below w.heap.size w w' := fun w => luma_any _ _ _ _ w
  have U2 : ∀ w : World, Calls Try.prog 24 #[pv (cl r') (cl g') (cl b') (cl a')] w fun e w' => e = .returned (.int .i64 (lm (cl r') (cl g') (cl b'))) ∧ Below w.heap.size w w' := fun w => luma_any _ _ _ _ w
  have U3 : ∀ w : World, Calls Try.prog 24 #[pv (max (cl r) (cl r')) (max (cl g) (cl g')) (max (cl b) (cl b')) 0] w fun e w' => e = .returned (.int .i64 (lm (max (cl r) (cl r')) (max (cl g) (cl g')) (max (cl b) (cl b')))) ∧ Below w.heap.size w w' := fun w => luma_any _ _ _ _ w
  have U4 : ∀ w : World, Calls Try.prog 24 #[pv (cl r) (cl r) (cl r) (cl a')] w fun e w' => e = .returned (.int .i64 (cl r)) ∧ Below w.heap.size w w' := fun w => by
    have c := luma_any (cl r) (cl r) (cl r) (cl a') w
    rw [show dv (13933 * cl (cl r) + 46871 * cl (cl r) + 4731 * cl (cl r)) 65535 = cl r from (lm_gray (cl r)).trans (cl_cl r)] at c
    exact c
  have clm : ∀ x y : Int, cl (cl x) ≤ cl (max (cl x) (cl y)) ∧ cl (cl y) ≤ cl (max (cl x) (cl y)) := fun x y => by
    have h1 := cl_bd x
    have h2 := cl_bd y
    rw [cl_cl, cl_cl, cl_id (max (cl x) (cl y)) (by omega) (by omega)]
    omega
  have l1 : lm (cl r) (cl g) (cl b) ≤ lm (max (cl r) (cl r')) (max (cl g) (cl g')) (max (cl b) (cl b')) := lm_mono _ _ _ _ _ _ (clm _ _).1 (clm _ _).1 (clm _ _).1
  have l2 : lm (cl r') (cl g') (cl b') ≤ lm (max (cl r) (cl r')) (max (cl g) (cl g')) (max (cl b) (cl b')) := lm_mono _ _ _ _ _ _ (clm _ _).2 (clm _ _).2 (clm _ _).2
  clear clm
  generalize lm (cl r) (cl g) (cl b) = la at *
  generalize lm (cl r') (cl g') (cl b') = lb at *
  generalize lm (max (cl r) (cl r')) (max (cl g) (cl g')) (max (cl b) (cl b')) = lu at *
  have h1 := ds_bd r g b a r' g' b' a'
  have h2 := ds_bd r' g' b' a' r2 g2 b2 a2
  have h3 := ds_bd r g b a r2 g2 b2 a2
  have h4 := ds_tri r g b a r' g' b' a' r2 g2 b2 a2
  have hz := ds_zero r g b a r' g' b' a'
  generalize ds r g b a r' g' b' a' = x at *
  generalize ds r' g' b' a' r2 g2 b2 a2 = y at *
  generalize ds r g b a r2 g2 b2 a2 = z at *
  generalize cl r = p0 at *
  generalize cl g = p1 at *
  generalize cl b = p2 at *
  generalize cl a = p3 at *
  generalize cl r' = q0 at *
  generalize cl g' = q1 at *
  generalize cl b' = q2 at *
  generalize cl a' = q3 at *
  have H1 := Lib.hid D1
  have H2 := Lib.hid D2
  have H3 := Lib.hid D3
  have H4 := Lib.hid D4
  have HL1 := Lib.hid L1
  have HL2 := Lib.hid L2
  have HU1 := Lib.hid U1
  have HU2 := Lib.hid U2
  have HU4 := Lib.hid U4
  clear D1 D2 D3 D4 L1 L2 U1 U2 U4
  have t1 : decide (x < 0) = false := by simp; omega
  have t2 : decide (65535 < x) = false := by simp; omega
  have t3 : decide (y < 0) = false := by simp; omega
  have t4 : decide (65535 < y) = false := by simp; omega
  have t5 : decide (z < 0) = false := by simp; omega
  have t6 : decide (x + y < z) = false := by simp; omega
  have e1 : IntKind.i64.wrap (x + y) = x + y := IntWalk.i64_in _ (by omega)
  have zz : (p0 = q0 ∧ p1 = q1 ∧ p2 = q2 ∧ p3 = q3) ∨ (p0 ≠ q0) ∨ (p0 = q0 ∧ p1 ≠ q1) ∨ (p0 = q0 ∧ p1 = q1 ∧ p2 ≠ q2) ∨ (p0 = q0 ∧ p1 = q1 ∧ p2 = q2 ∧ p3 ≠ q3) := by omega
  rcases zz with ⟨rfl, rfl, rfl, rfl⟩ | c0 | ⟨rfl, c0⟩ | ⟨rfl, rfl, c0⟩ | ⟨rfl, rfl, rfl, c0⟩
  · have zx : (x == 0) = true := by simp [hz]
    clear hz
    try simp only [Int.max_self] at U3
    have HU3 := Lib.hid U3
    clear U3
    go_enter Try.func9, Try.ntmps9
    go_wp2
    refine name3 (fun W k1 k2 k3 hb => ?_)
    refine wp_region_grow 12 (fun w' => Below (World.heap W).size W w') (by kernel_rfl) (by kernel_rfl) (Below.refl _ _).drew ?_
    simp only [List.take_succ_cons, List.take_zero, List.drop_succ_cons, List.drop_zero]
    repeat (first | (apply wpG_on; rfl; (intro w' hS K hK; have hc0 := (k1.kept hS).c4; have hc1 := (k2.kept hS).c4; have hc2 := (k3.kept hS).c4; go_simp; (first | exact hK.out _ hS | (go_at_call 26; (with_reducible refine (H1.out _).mono ?_); rintro e w'' ⟨rfl, hbb⟩; exact ⟨_, rfl, hK.out _ (hS.trans (hbb.mono hS.size))⟩) | (go_at_call 26; (with_reducible refine (H2.out _).mono ?_); rintro e w'' ⟨rfl, hbb⟩; exact ⟨_, rfl, hK.out _ (hS.trans (hbb.mono hS.size))⟩) | (go_at_call 26; (with_reducible refine (H3.out _).mono ?_); rintro e w'' ⟨rfl, hbb⟩; exact ⟨_, rfl, hK.out _ (hS.trans (hbb.mono hS.size))⟩))); simp only [Act.put, List.setIfInBounds_toArray, List.set_cons_succ, List.set_cons_zero]) | (apply wpG_off; rfl; simp only [Act.put, List.setIfInBounds_toArray, List.set_cons_succ, List.set_cons_zero]))
    apply wpG_nil
    intro W1 hS
    replace k1 := k1.kept hS
    replace k2 := k2.kept hS
    replace k3 := k3.kept hS
    replace hb := hb.trans (hS.mono hb.size)
    clear hS
    go_wp2_with fail
    refine wp_region_grow 42 (fun w' => Below (World.heap W1).size W1 w') (by kernel_rfl) (by kernel_rfl) (Below.refl _ _).drew ?_
    simp only [List.take_succ_cons, List.take_zero, List.drop_succ_cons, List.drop_zero]
    repeat (first | (apply wpG_on; rfl; (intro w' hS K hK; have hc0 := (k1.kept hS).c4; have hc1 := (k2.kept hS).c4; have hc2 := (k3.kept hS).c4; go_simp; (first | exact hK.out _ hS | (go_at_call 26; (with_reducible refine (H4.out _).mono ?_); rintro e w'' ⟨rfl, hbb⟩; exact ⟨_, rfl, hK.out _ (hS.trans (hbb.mono hS.size))⟩) | (go_at_call 14; (with_reducible refine (HL1.out _).mono ?_); rintro e w'' ⟨rfl, hbb⟩; exact ⟨_, rfl, hK.out _ (hS.trans (hbb.mono hS.size))⟩) | (go_at_call 14; (with_reducible refine (HL2.out _).mono ?_); rintro e w'' ⟨rfl, hbb⟩; exact ⟨_, rfl, hK.out _ (hS.trans (hbb.mono hS.size))⟩))); simp only [Act.put, List.setIfInBounds_toArray, List.set_cons_succ, List.set_cons_zero]) | (apply wpG_off; rfl; simp only [Act.put, List.setIfInBounds_toArray, List.set_cons_succ, List.set_cons_zero]))
    apply wpG_nil
    intro W2 hS
    replace k1 := k1.kept hS
    replace k2 := k2.kept hS
    replace k3 := k3.kept hS
    replace hb := hb.trans (hS.mono hb.size)
    clear hS
    clear t1 t2 t3 t4 t5 t6 e1
    go_wp2_with fail
    refine wp_region_grow 4 (fun w' => Below (World.heap W2).size W2 w') (by kernel_rfl) (by kernel_rfl) (Below.refl _ _).drew ?_
    simp only [List.take_succ_cons, List.take_zero, List.drop_succ_cons, List.drop_zero]
    repeat (first | (apply wpG_on; rfl; (intro w' hS K hK; have hc0 := (k1.kept hS).c4; have hc1 := (k2.kept hS).c4; go_simp; (first | exact hK.out _ hS | (go_at_call 14; (with_reducible refine (HL1.out _).mono ?_); rintro e w'' ⟨rfl, hbb⟩; exact ⟨_, rfl, hK.out _ (hS.trans (hbb.mono hS.size))⟩) | (go_at_call 14; (with_reducible refine (HL2.out _).mono ?_); rintro e w'' ⟨rfl, hbb⟩; exact ⟨_, rfl, hK.out _ (hS.trans (hbb.mono hS.size))⟩))); simp only [Act.put, List.setIfInBounds_toArray, List.set_cons_succ, List.set_cons_zero]) | (apply wpG_off; rfl; simp only [Act.put, List.setIfInBounds_toArray, List.set_cons_succ, List.set_cons_zero]))
    apply wpG_nil
    intro W3 hS
    replace k1 := k1.kept hS
    replace k2 := k2.kept hS
    replace hb := hb.trans (hS.mono hb.size)
    clear hS
    have c1 := k1.c4
    have c2 := k2.c4
    go_wp2_with fail
    clear c1 c2
    refine mid44 hb k1 k2 (by omega) (by omega) (by omega) (fun W4 k1' k2' kk hb => ?_)
    clear kk k1 k2 k3
    have c1 := k1'.c4
    have c2 := k2'.c4
    go_region_held3 (fun w' => w'.cell? ⟨w.heap.size, 0, none⟩ = some (.int .i64 p0) ∧ w'.cell? ⟨w.heap.size, 1, none⟩ = some (.int .i64 p1) ∧ w'.cell? ⟨w.heap.size, 2, none⟩ = some (.int .i64 p2) ∧ w'.cell? ⟨w.heap.size + 1, 0, none⟩ = some (.int .i64 p0) ∧ w'.cell? ⟨w.heap.size + 1, 1, none⟩ = some (.int .i64 p1) ∧ w'.cell? ⟨w.heap.size + 1, 2, none⟩ = some (.int .i64 p2)) (go_keep) (first | (go_at_call 39; refine (greater_any _ _ _).mono ?_; rintro e w' ⟨rfl, rfl⟩))
    all_goals go_wp2_with fail
    all_goals clear c1 c2
    all_goals refine name1d (fun W5 k4 hS => ?_)
    all_goals replace k1' := k1'.kept hS
    all_goals replace k2' := k2'.kept hS
    all_goals replace hb := hb.trans (hS.mono hb.size)
    all_goals clear hS
    all_goals generalize (World.heap W4).size = N4 at *
    all_goals
      have u1 : decide (la ≤ lu) = true := by simpa using l1
      have u2 : decide (lb ≤ lu) = true := by simpa using l2
      refine wp_region_grow 31 (fun w' => Below (World.heap W5).size W5 w') (by kernel_rfl) (by kernel_rfl) (Below.refl _ _).drew ?_
      simp only [List.take_succ_cons, List.take_zero, List.drop_succ_cons, List.drop_zero]
      repeat (first | (apply wpG_on; rfl; (intro w' hS K hK; have hc0 := (k1'.kept hS).c4; have hc1 := (k2'.kept hS).c4; have hc2 := (k4.kept hS).c4; go_simp; (first | exact hK.out _ hS | (go_at_call 24; (with_reducible refine (HU1.out _).mono ?_); rintro e w'' ⟨rfl, hbb⟩; exact ⟨_, rfl, hK.out _ (hS.trans (hbb.mono hS.size))⟩) | (go_at_call 24; (with_reducible refine (HU2.out _).mono ?_); rintro e w'' ⟨rfl, hbb⟩; exact ⟨_, rfl, hK.out _ (hS.trans (hbb.mono hS.size))⟩) | (go_at_call 24; (with_reducible refine (HU3.out _).mono ?_); rintro e w'' ⟨rfl, hbb⟩; exact ⟨_, rfl, hK.out _ (hS.trans (hbb.mono hS.size))⟩) | (go_at_call 24; (with_reducible refine (HU4.out _).mono ?_); rintro e w'' ⟨rfl, hbb⟩; exact ⟨_, rfl, hK.out _ (hS.trans (hbb.mono hS.size))⟩) | (go_at_call 21; (with_reducible refine (awake_any _).mono ?_); rintro e w'' ⟨rfl, hbb⟩; exact ⟨_, rfl, hK.out _ (hS.trans (hbb.mono hS.size))⟩))); simp only [Act.put, List.setIfInBounds_toArray, List.set_cons_succ, List.set_cons_zero]) | (apply wpG_off; rfl; simp only [Act.put, List.setIfInBounds_toArray, List.set_cons_succ, List.set_cons_zero]))
      apply wpG_nil
      intro W6 hS
      replace k1' := k1'.kept hS
      replace k2' := k2'.kept hS
      replace k4 := k4.kept hS
      replace hb := hb.trans (hS.mono hb.size)
      clear hS
      go_wp2
      go_ret
      exact ⟨rfl, hb⟩
  · have zx : (x == 0) = false := by simp [hz, c0]
    have zc : (p0 == q0) = false := by simpa using c0
    clear hz c0
    try simp only [Int.max_self] at U3
    have HU3 := Lib.hid U3
    clear U3
    go_enter Try.func9, Try.ntmps9
    go_wp2
    refine name3 (fun W k1 k2 k3 hb => ?_)
    refine wp_region_grow 12 (fun w' => Below (World.heap W).size W w') (by kernel_rfl) (by kernel_rfl) (Below.refl _ _).drew ?_
    simp only [List.take_succ_cons, List.take_zero, List.drop_succ_cons, List.drop_zero]
    repeat (first | (apply wpG_on; rfl; (intro w' hS K hK; have hc0 := (k1.kept hS).c4; have hc1 := (k2.kept hS).c4; have hc2 := (k3.kept hS).c4; go_simp; (first | exact hK.out _ hS | (go_at_call 26; (with_reducible refine (H1.out _).mono ?_); rintro e w'' ⟨rfl, hbb⟩; exact ⟨_, rfl, hK.out _ (hS.trans (hbb.mono hS.size))⟩) | (go_at_call 26; (with_reducible refine (H2.out _).mono ?_); rintro e w'' ⟨rfl, hbb⟩; exact ⟨_, rfl, hK.out _ (hS.trans (hbb.mono hS.size))⟩) | (go_at_call 26; (with_reducible refine (H3.out _).mono ?_); rintro e w'' ⟨rfl, hbb⟩; exact ⟨_, rfl, hK.out _ (hS.trans (hbb.mono hS.size))⟩))); simp only [Act.put, List.setIfInBounds_toArray, List.set_cons_succ, List.set_cons_zero]) | (apply wpG_off; rfl; simp only [Act.put, List.setIfInBounds_toArray, List.set_cons_succ, List.set_cons_zero]))
    apply wpG_nil
    intro W1 hS
    replace k1 := k1.kept hS
    replace k2 := k2.kept hS
    replace k3 := k3.kept hS
    replace hb := hb.trans (hS.mono hb.size)
    clear hS
    go_wp2_with fail
    refine wp_region_grow 42 (fun w' => Below (World.heap W1).size W1 w') (by kernel_rfl) (by kernel_rfl) (Below.refl _ _).drew ?_
    simp only [List.take_succ_cons, List.take_zero, List.drop_succ_cons, List.drop_zero]
    repeat (first | (apply wpG_on; rfl; (intro w' hS K hK; have hc0 := (k1.kept hS).c4; have hc1 := (k2.kept hS).c4; have hc2 := (k3.kept hS).c4; go_simp; (first | exact hK.out _ hS | (go_at_call 26; (with_reducible refine (H4.out _).mono ?_); rintro e w'' ⟨rfl, hbb⟩; exact ⟨_, rfl, hK.out _ (hS.trans (hbb.mono hS.size))⟩) | (go_at_call 14; (with_reducible refine (HL1.out _).mono ?_); rintro e w'' ⟨rfl, hbb⟩; exact ⟨_, rfl, hK.out _ (hS.trans (hbb.mono hS.size))⟩) | (go_at_call 14; (with_reducible refine (HL2.out _).mono ?_); rintro e w'' ⟨rfl, hbb⟩; exact ⟨_, rfl, hK.out _ (hS.trans (hbb.mono hS.size))⟩))); simp only [Act.put, List.setIfInBounds_toArray, List.set_cons_succ, List.set_cons_zero]) | (apply wpG_off; rfl; simp only [Act.put, List.setIfInBounds_toArray, List.set_cons_succ, List.set_cons_zero]))
    apply wpG_nil
    intro W2 hS
    replace k1 := k1.kept hS
    replace k2 := k2.kept hS
    replace k3 := k3.kept hS
    replace hb := hb.trans (hS.mono hb.size)
    clear hS
    clear t1 t2 t3 t4 t5 t6 e1
    go_wp2_with fail
    refine wp_region_grow 4 (fun w' => Below (World.heap W2).size W2 w') (by kernel_rfl) (by kernel_rfl) (Below.refl _ _).drew ?_
    simp only [List.take_succ_cons, List.take_zero, List.drop_succ_cons, List.drop_zero]
    repeat (first | (apply wpG_on; rfl; (intro w' hS K hK; have hc0 := (k1.kept hS).c4; have hc1 := (k2.kept hS).c4; go_simp; (first | exact hK.out _ hS | (go_at_call 14; (with_reducible refine (HL1.out _).mono ?_); rintro e w'' ⟨rfl, hbb⟩; exact ⟨_, rfl, hK.out _ (hS.trans (hbb.mono hS.size))⟩) | (go_at_call 14; (with_reducible refine (HL2.out _).mono ?_); rintro e w'' ⟨rfl, hbb⟩; exact ⟨_, rfl, hK.out _ (hS.trans (hbb.mono hS.size))⟩))); simp only [Act.put, List.setIfInBounds_toArray, List.set_cons_succ, List.set_cons_zero]) | (apply wpG_off; rfl; simp only [Act.put, List.setIfInBounds_toArray, List.set_cons_succ, List.set_cons_zero]))
    apply wpG_nil
    intro W3 hS
    replace k1 := k1.kept hS
    replace k2 := k2.kept hS
    replace hb := hb.trans (hS.mono hb.size)
    clear hS
    have c1 := k1.c4
    have c2 := k2.c4
    go_wp2_with fail
    clear c1 c2
    refine mid44 hb k1 k2 (by omega) (by omega) (by omega) (fun W4 k1' k2' kk hb => ?_)
    clear kk k1 k2 k3
    have c1 := k1'.c4
    have c2 := k2'.c4
    go_region_held3 (fun w' => w'.cell? ⟨w.heap.size, 0, none⟩ = some (.int .i64 p0) ∧ w'.cell? ⟨w.heap.size, 1, none⟩ = some (.int .i64 p1) ∧ w'.cell? ⟨w.heap.size, 2, none⟩ = some (.int .i64 p2) ∧ w'.cell? ⟨w.heap.size + 1, 0, none⟩ = some (.int .i64 q0) ∧ w'.cell? ⟨w.heap.size + 1, 1, none⟩ = some (.int .i64 q1) ∧ w'.cell? ⟨w.heap.size + 1, 2, none⟩ = some (.int .i64 q2)) (go_keep) (first | (go_at_call 39; refine (greater_any _ _ _).mono ?_; rintro e w' ⟨rfl, rfl⟩))
    all_goals go_wp2_with fail
    all_goals clear c1 c2
    all_goals refine name1d (fun W5 k4 hS => ?_)
    all_goals replace k1' := k1'.kept hS
    all_goals replace k2' := k2'.kept hS
    all_goals replace hb := hb.trans (hS.mono hb.size)
    all_goals clear hS
    all_goals generalize (World.heap W4).size = N4 at *
    all_goals
      have u1 : decide (la ≤ lu) = true := by simpa using l1
      have u2 : decide (lb ≤ lu) = true := by simpa using l2
      refine wp_region_grow 31 (fun w' => Below (World.heap W5).size W5 w') (by kernel_rfl) (by kernel_rfl) (Below.refl _ _).drew ?_
      simp only [List.take_succ_cons, List.take_zero, List.drop_succ_cons, List.drop_zero]
      repeat (first | (apply wpG_on; rfl; (intro w' hS K hK; have hc0 := (k1'.kept hS).c4; have hc1 := (k2'.kept hS).c4; have hc2 := (k4.kept hS).c4; go_simp; (first | exact hK.out _ hS | (go_at_call 24; (with_reducible refine (HU1.out _).mono ?_); rintro e w'' ⟨rfl, hbb⟩; exact ⟨_, rfl, hK.out _ (hS.trans (hbb.mono hS.size))⟩) | (go_at_call 24; (with_reducible refine (HU2.out _).mono ?_); rintro e w'' ⟨rfl, hbb⟩; exact ⟨_, rfl, hK.out _ (hS.trans (hbb.mono hS.size))⟩) | (go_at_call 24; (with_reducible refine (HU3.out _).mono ?_); rintro e w'' ⟨rfl, hbb⟩; exact ⟨_, rfl, hK.out _ (hS.trans (hbb.mono hS.size))⟩) | (go_at_call 24; (with_reducible refine (HU4.out _).mono ?_); rintro e w'' ⟨rfl, hbb⟩; exact ⟨_, rfl, hK.out _ (hS.trans (hbb.mono hS.size))⟩) | (go_at_call 21; (with_reducible refine (awake_any _).mono ?_); rintro e w'' ⟨rfl, hbb⟩; exact ⟨_, rfl, hK.out _ (hS.trans (hbb.mono hS.size))⟩))); simp only [Act.put, List.setIfInBounds_toArray, List.set_cons_succ, List.set_cons_zero]) | (apply wpG_off; rfl; simp only [Act.put, List.setIfInBounds_toArray, List.set_cons_succ, List.set_cons_zero]))
      apply wpG_nil
      intro W6 hS
      replace k1' := k1'.kept hS
      replace k2' := k2'.kept hS
      replace k4 := k4.kept hS
      replace hb := hb.trans (hS.mono hb.size)
      clear hS
      go_wp2
      go_ret
      exact ⟨rfl, hb⟩
  · have zx : (x == 0) = false := by simp [hz, c0]
    have zc : (p1 == q1) = false := by simpa using c0
    clear hz c0
    try simp only [Int.max_self] at U3
    have HU3 := Lib.hid U3
    clear U3
    go_enter Try.func9, Try.ntmps9
    go_wp2
    refine name3 (fun W k1 k2 k3 hb => ?_)
    refine wp_region_grow 12 (fun w' => Below (World.heap W).size W w') (by kernel_rfl) (by kernel_rfl) (Below.refl _ _).drew ?_
    simp only [List.take_succ_cons, List.take_zero, List.drop_succ_cons, List.drop_zero]
    repeat (first | (apply wpG_on; rfl; (intro w' hS K hK; have hc0 := (k1.kept hS).c4; have hc1 := (k2.kept hS).c4; have hc2 := (k3.kept hS).c4; go_simp; (first | exact hK.out _ hS | (go_at_call 26; (with_reducible refine (H1.out _).mono ?_); rintro e w'' ⟨rfl, hbb⟩; exact ⟨_, rfl, hK.out _ (hS.trans (hbb.mono hS.size))⟩) | (go_at_call 26; (with_reducible refine (H2.out _).mono ?_); rintro e w'' ⟨rfl, hbb⟩; exact ⟨_, rfl, hK.out _ (hS.trans (hbb.mono hS.size))⟩) | (go_at_call 26; (with_reducible refine (H3.out _).mono ?_); rintro e w'' ⟨rfl, hbb⟩; exact ⟨_, rfl, hK.out _ (hS.trans (hbb.mono hS.size))⟩))); simp only [Act.put, List.setIfInBounds_toArray, List.set_cons_succ, List.set_cons_zero]) | (apply wpG_off; rfl; simp only [Act.put, List.setIfInBounds_toArray, List.set_cons_succ, List.set_cons_zero]))
    apply wpG_nil
    intro W1 hS
    replace k1 := k1.kept hS
    replace k2 := k2.kept hS
    replace k3 := k3.kept hS
    replace hb := hb.trans (hS.mono hb.size)
    clear hS
    go_wp2_with fail
    refine wp_region_grow 42 (fun w' => Below (World.heap W1).size W1 w') (by kernel_rfl) (by kernel_rfl) (Below.refl _ _).drew ?_
    simp only [List.take_succ_cons, List.take_zero, List.drop_succ_cons, List.drop_zero]
    repeat (first | (apply wpG_on; rfl; (intro w' hS K hK; have hc0 := (k1.kept hS).c4; have hc1 := (k2.kept hS).c4; have hc2 := (k3.kept hS).c4; go_simp; (first | exact hK.out _ hS | (go_at_call 26; (with_reducible refine (H4.out _).mono ?_); rintro e w'' ⟨rfl, hbb⟩; exact ⟨_, rfl, hK.out _ (hS.trans (hbb.mono hS.size))⟩) | (go_at_call 14; (with_reducible refine (HL1.out _).mono ?_); rintro e w'' ⟨rfl, hbb⟩; exact ⟨_, rfl, hK.out _ (hS.trans (hbb.mono hS.size))⟩) | (go_at_call 14; (with_reducible refine (HL2.out _).mono ?_); rintro e w'' ⟨rfl, hbb⟩; exact ⟨_, rfl, hK.out _ (hS.trans (hbb.mono hS.size))⟩))); simp only [Act.put, List.setIfInBounds_toArray, List.set_cons_succ, List.set_cons_zero]) | (apply wpG_off; rfl; simp only [Act.put, List.setIfInBounds_toArray, List.set_cons_succ, List.set_cons_zero]))
    apply wpG_nil
    intro W2 hS
    replace k1 := k1.kept hS
    replace k2 := k2.kept hS
    replace k3 := k3.kept hS
    replace hb := hb.trans (hS.mono hb.size)
    clear hS
    clear t1 t2 t3 t4 t5 t6 e1
    go_wp2_with fail
    refine wp_region_grow 4 (fun w' => Below (World.heap W2).size W2 w') (by kernel_rfl) (by kernel_rfl) (Below.refl _ _).drew ?_
    simp only [List.take_succ_cons, List.take_zero, List.drop_succ_cons, List.drop_zero]
    repeat (first | (apply wpG_on; rfl; (intro w' hS K hK; have hc0 := (k1.kept hS).c4; have hc1 := (k2.kept hS).c4; go_simp; (first | exact hK.out _ hS | (go_at_call 14; (with_reducible refine (HL1.out _).mono ?_); rintro e w'' ⟨rfl, hbb⟩; exact ⟨_, rfl, hK.out _ (hS.trans (hbb.mono hS.size))⟩) | (go_at_call 14; (with_reducible refine (HL2.out _).mono ?_); rintro e w'' ⟨rfl, hbb⟩; exact ⟨_, rfl, hK.out _ (hS.trans (hbb.mono hS.size))⟩))); simp only [Act.put, List.setIfInBounds_toArray, List.set_cons_succ, List.set_cons_zero]) | (apply wpG_off; rfl; simp only [Act.put, List.setIfInBounds_toArray, List.set_cons_succ, List.set_cons_zero]))
    apply wpG_nil
    intro W3 hS
    replace k1 := k1.kept hS
    replace k2 := k2.kept hS
    replace hb := hb.trans (hS.mono hb.size)
    clear hS
    have c1 := k1.c4
    have c2 := k2.c4
    go_wp2_with fail
    clear c1 c2
    refine mid44 hb k1 k2 (by omega) (by omega) (by omega) (fun W4 k1' k2' kk hb => ?_)
    clear kk k1 k2 k3
    have c1 := k1'.c4
    have c2 := k2'.c4
    go_region_held3 (fun w' => w'.cell? ⟨w.heap.size, 0, none⟩ = some (.int .i64 p0) ∧ w'.cell? ⟨w.heap.size, 1, none⟩ = some (.int .i64 p1) ∧ w'.cell? ⟨w.heap.size, 2, none⟩ = some (.int .i64 p2) ∧ w'.cell? ⟨w.heap.size + 1, 0, none⟩ = some (.int .i64 p0) ∧ w'.cell? ⟨w.heap.size + 1, 1, none⟩ = some (.int .i64 q1) ∧ w'.cell? ⟨w.heap.size + 1, 2, none⟩ = some (.int .i64 q2)) (go_keep) (first | (go_at_call 39; refine (greater_any _ _ _).mono ?_; rintro e w' ⟨rfl, rfl⟩))
    all_goals go_wp2_with fail
    all_goals clear c1 c2
    all_goals refine name1d (fun W5 k4 hS => ?_)
    all_goals replace k1' := k1'.kept hS
    all_goals replace k2' := k2'.kept hS
    all_goals replace hb := hb.trans (hS.mono hb.size)
    all_goals clear hS
    all_goals generalize (World.heap W4).size = N4 at *
    all_goals
      have u1 : decide (la ≤ lu) = true := by simpa using l1
      have u2 : decide (lb ≤ lu) = true := by simpa using l2
      refine wp_region_grow 31 (fun w' => Below (World.heap W5).size W5 w') (by kernel_rfl) (by kernel_rfl) (Below.refl _ _).drew ?_
      simp only [List.take_succ_cons, List.take_zero, List.drop_succ_cons, List.drop_zero]
      repeat (first | (apply wpG_on; rfl; (intro w' hS K hK; have hc0 := (k1'.kept hS).c4; have hc1 := (k2'.kept hS).c4; have hc2 := (k4.kept hS).c4; go_simp; (first | exact hK.out _ hS | (go_at_call 24; (with_reducible refine (HU1.out _).mono ?_); rintro e w'' ⟨rfl, hbb⟩; exact ⟨_, rfl, hK.out _ (hS.trans (hbb.mono hS.size))⟩) | (go_at_call 24; (with_reducible refine (HU2.out _).mono ?_); rintro e w'' ⟨rfl, hbb⟩; exact ⟨_, rfl, hK.out _ (hS.trans (hbb.mono hS.size))⟩) | (go_at_call 24; (with_reducible refine (HU3.out _).mono ?_); rintro e w'' ⟨rfl, hbb⟩; exact ⟨_, rfl, hK.out _ (hS.trans (hbb.mono hS.size))⟩) | (go_at_call 24; (with_reducible refine (HU4.out _).mono ?_); rintro e w'' ⟨rfl, hbb⟩; exact ⟨_, rfl, hK.out _ (hS.trans (hbb.mono hS.size))⟩) | (go_at_call 21; (with_reducible refine (awake_any _).mono ?_); rintro e w'' ⟨rfl, hbb⟩; exact ⟨_, rfl, hK.out _ (hS.trans (hbb.mono hS.size))⟩))); simp only [Act.put, List.setIfInBounds_toArray, List.set_cons_succ, List.set_cons_zero]) | (apply wpG_off; rfl; simp only [Act.put, List.setIfInBounds_toArray, List.set_cons_succ, List.set_cons_zero]))
      apply wpG_nil
      intro W6 hS
      replace k1' := k1'.kept hS
      replace k2' := k2'.kept hS
      replace k4 := k4.kept hS
      replace hb := hb.trans (hS.mono hb.size)
      clear hS
      go_wp2
      go_ret
      exact ⟨rfl, hb⟩
  · have zx : (x == 0) = false := by simp [hz, c0]
    have zc : (p2 == q2) = false := by simpa using c0
    clear hz c0
    try simp only [Int.max_self] at U3
    have HU3 := Lib.hid U3
    clear U3
    go_enter Try.func9, Try.ntmps9
    go_wp2
    refine name3 (fun W k1 k2 k3 hb => ?_)
    refine wp_region_grow 12 (fun w' => Below (World.heap W).size W w') (by kernel_rfl) (by kernel_rfl) (Below.refl _ _).drew ?_
    simp only [List.take_succ_cons, List.take_zero, List.drop_succ_cons, List.drop_zero]
    repeat (first | (apply wpG_on; rfl; (intro w' hS K hK; have hc0 := (k1.kept hS).c4; have hc1 := (k2.kept hS).c4; have hc2 := (k3.kept hS).c4; go_simp; (first | exact hK.out _ hS | (go_at_call 26; (with_reducible refine (H1.out _).mono ?_); rintro e w'' ⟨rfl, hbb⟩; exact ⟨_, rfl, hK.out _ (hS.trans (hbb.mono hS.size))⟩) | (go_at_call 26; (with_reducible refine (H2.out _).mono ?_); rintro e w'' ⟨rfl, hbb⟩; exact ⟨_, rfl, hK.out _ (hS.trans (hbb.mono hS.size))⟩) | (go_at_call 26; (with_reducible refine (H3.out _).mono ?_); rintro e w'' ⟨rfl, hbb⟩; exact ⟨_, rfl, hK.out _ (hS.trans (hbb.mono hS.size))⟩))); simp only [Act.put, List.setIfInBounds_toArray, List.set_cons_succ, List.set_cons_zero]) | (apply wpG_off; rfl; simp only [Act.put, List.setIfInBounds_toArray, List.set_cons_succ, List.set_cons_zero]))
    apply wpG_nil
    intro W1 hS
    replace k1 := k1.kept hS
    replace k2 := k2.kept hS
    replace k3 := k3.kept hS
    replace hb := hb.trans (hS.mono hb.size)
    clear hS
    go_wp2_with fail
    refine wp_region_grow 42 (fun w' => Below (World.heap W1).size W1 w') (by kernel_rfl) (by kernel_rfl) (Below.refl _ _).drew ?_
    simp only [List.take_succ_cons, List.take_zero, List.drop_succ_cons, List.drop_zero]
    repeat (first | (apply wpG_on; rfl; (intro w' hS K hK; have hc0 := (k1.kept hS).c4; have hc1 := (k2.kept hS).c4; have hc2 := (k3.kept hS).c4; go_simp; (first | exact hK.out _ hS | (go_at_call 26; (with_reducible refine (H4.out _).mono ?_); rintro e w'' ⟨rfl, hbb⟩; exact ⟨_, rfl, hK.out _ (hS.trans (hbb.mono hS.size))⟩) | (go_at_call 14; (with_reducible refine (HL1.out _).mono ?_); rintro e w'' ⟨rfl, hbb⟩; exact ⟨_, rfl, hK.out _ (hS.trans (hbb.mono hS.size))⟩) | (go_at_call 14; (with_reducible refine (HL2.out _).mono ?_); rintro e w'' ⟨rfl, hbb⟩; exact ⟨_, rfl, hK.out _ (hS.trans (hbb.mono hS.size))⟩))); simp only [Act.put, List.setIfInBounds_toArray, List.set_cons_succ, List.set_cons_zero]) | (apply wpG_off; rfl; simp only [Act.put, List.setIfInBounds_toArray, List.set_cons_succ, List.set_cons_zero]))
    apply wpG_nil
    intro W2 hS
    replace k1 := k1.kept hS
    replace k2 := k2.kept hS
    replace k3 := k3.kept hS
    replace hb := hb.trans (hS.mono hb.size)
    clear hS
    clear t1 t2 t3 t4 t5 t6 e1
    go_wp2_with fail
    refine wp_region_grow 4 (fun w' => Below (World.heap W2).size W2 w') (by kernel_rfl) (by kernel_rfl) (Below.refl _ _).drew ?_
    simp only [List.take_succ_cons, List.take_zero, List.drop_succ_cons, List.drop_zero]
    repeat (first | (apply wpG_on; rfl; (intro w' hS K hK; have hc0 := (k1.kept hS).c4; have hc1 := (k2.kept hS).c4; go_simp; (first | exact hK.out _ hS | (go_at_call 14; (with_reducible refine (HL1.out _).mono ?_); rintro e w'' ⟨rfl, hbb⟩; exact ⟨_, rfl, hK.out _ (hS.trans (hbb.mono hS.size))⟩) | (go_at_call 14; (with_reducible refine (HL2.out _).mono ?_); rintro e w'' ⟨rfl, hbb⟩; exact ⟨_, rfl, hK.out _ (hS.trans (hbb.mono hS.size))⟩))); simp only [Act.put, List.setIfInBounds_toArray, List.set_cons_succ, List.set_cons_zero]) | (apply wpG_off; rfl; simp only [Act.put, List.setIfInBounds_toArray, List.set_cons_succ, List.set_cons_zero]))
    apply wpG_nil
    intro W3 hS
    replace k1 := k1.kept hS
    replace k2 := k2.kept hS
    replace hb := hb.trans (hS.mono hb.size)
    clear hS
    have c1 := k1.c4
    have c2 := k2.c4
    go_wp2_with fail
    clear c1 c2
    refine mid44 hb k1 k2 (by omega) (by omega) (by omega) (fun W4 k1' k2' kk hb => ?_)
    clear kk k1 k2 k3
    have c1 := k1'.c4
    have c2 := k2'.c4
    go_region_held3 (fun w' => w'.cell? ⟨w.heap.size, 0, none⟩ = some (.int .i64 p0) ∧ w'.cell? ⟨w.heap.size, 1, none⟩ = some (.int .i64 p1) ∧ w'.cell? ⟨w.heap.size, 2, none⟩ = some (.int .i64 p2) ∧ w'.cell? ⟨w.heap.size + 1, 0, none⟩ = some (.int .i64 p0) ∧ w'.cell? ⟨w.heap.size + 1, 1, none⟩ = some (.int .i64 p1) ∧ w'.cell? ⟨w.heap.size + 1, 2, none⟩ = some (.int .i64 q2)) (go_keep) (first | (go_at_call 39; refine (greater_any _ _ _).mono ?_; rintro e w' ⟨rfl, rfl⟩))
    all_goals go_wp2_with fail
    all_goals clear c1 c2
    all_goals refine name1d (fun W5 k4 hS => ?_)
    all_goals replace k1' := k1'.kept hS
    all_goals replace k2' := k2'.kept hS
    all_goals replace hb := hb.trans (hS.mono hb.size)
    all_goals clear hS
    all_goals generalize (World.heap W4).size = N4 at *
    all_goals
      have u1 : decide (la ≤ lu) = true := by simpa using l1
      have u2 : decide (lb ≤ lu) = true := by simpa using l2
      refine wp_region_grow 31 (fun w' => Below (World.heap W5).size W5 w') (by kernel_rfl) (by kernel_rfl) (Below.refl _ _).drew ?_
      simp only [List.take_succ_cons, List.take_zero, List.drop_succ_cons, List.drop_zero]
      repeat (first | (apply wpG_on; rfl; (intro w' hS K hK; have hc0 := (k1'.kept hS).c4; have hc1 := (k2'.kept hS).c4; have hc2 := (k4.kept hS).c4; go_simp; (first | exact hK.out _ hS | (go_at_call 24; (with_reducible refine (HU1.out _).mono ?_); rintro e w'' ⟨rfl, hbb⟩; exact ⟨_, rfl, hK.out _ (hS.trans (hbb.mono hS.size))⟩) | (go_at_call 24; (with_reducible refine (HU2.out _).mono ?_); rintro e w'' ⟨rfl, hbb⟩; exact ⟨_, rfl, hK.out _ (hS.trans (hbb.mono hS.size))⟩) | (go_at_call 24; (with_reducible refine (HU3.out _).mono ?_); rintro e w'' ⟨rfl, hbb⟩; exact ⟨_, rfl, hK.out _ (hS.trans (hbb.mono hS.size))⟩) | (go_at_call 24; (with_reducible refine (HU4.out _).mono ?_); rintro e w'' ⟨rfl, hbb⟩; exact ⟨_, rfl, hK.out _ (hS.trans (hbb.mono hS.size))⟩) | (go_at_call 21; (with_reducible refine (awake_any _).mono ?_); rintro e w'' ⟨rfl, hbb⟩; exact ⟨_, rfl, hK.out _ (hS.trans (hbb.mono hS.size))⟩))); simp only [Act.put, List.setIfInBounds_toArray, List.set_cons_succ, List.set_cons_zero]) | (apply wpG_off; rfl; simp only [Act.put, List.setIfInBounds_toArray, List.set_cons_succ, List.set_cons_zero]))
      apply wpG_nil
      intro W6 hS
      replace k1' := k1'.kept hS
      replace k2' := k2'.kept hS
      replace k4 := k4.kept hS
      replace hb := hb.trans (hS.mono hb.size)
      clear hS
      go_wp2
      go_ret
      exact ⟨rfl, hb⟩
  · have zx : (x == 0) = false := by simp [hz, c0]
    have zc : (p3 == q3) = false := by simpa using c0
    clear hz c0
    try simp only [Int.max_self] at U3
    have HU3 := Lib.hid U3
    clear U3
    go_enter Try.func9, Try.ntmps9
    go_wp2
    refine name3 (fun W k1 k2 k3 hb => ?_)
    refine wp_region_grow 12 (fun w' => Below (World.heap W).size W w') (by kernel_rfl) (by kernel_rfl) (Below.refl _ _).drew ?_
    simp only [List.take_succ_cons, List.take_zero, List.drop_succ_cons, List.drop_zero]
    repeat (first | (apply wpG_on; rfl; (intro w' hS K hK; have hc0 := (k1.kept hS).c4; have hc1 := (k2.kept hS).c4; have hc2 := (k3.kept hS).c4; go_simp; (first | exact hK.out _ hS | (go_at_call 26; (with_reducible refine (H1.out _).mono ?_); rintro e w'' ⟨rfl, hbb⟩; exact ⟨_, rfl, hK.out _ (hS.trans (hbb.mono hS.size))⟩) | (go_at_call 26; (with_reducible refine (H2.out _).mono ?_); rintro e w'' ⟨rfl, hbb⟩; exact ⟨_, rfl, hK.out _ (hS.trans (hbb.mono hS.size))⟩) | (go_at_call 26; (with_reducible refine (H3.out _).mono ?_); rintro e w'' ⟨rfl, hbb⟩; exact ⟨_, rfl, hK.out _ (hS.trans (hbb.mono hS.size))⟩))); simp only [Act.put, List.setIfInBounds_toArray, List.set_cons_succ, List.set_cons_zero]) | (apply wpG_off; rfl; simp only [Act.put, List.setIfInBounds_toArray, List.set_cons_succ, List.set_cons_zero]))
    apply wpG_nil
    intro W1 hS
    replace k1 := k1.kept hS
    replace k2 := k2.kept hS
    replace k3 := k3.kept hS
    replace hb := hb.trans (hS.mono hb.size)
    clear hS
    go_wp2_with fail
    refine wp_region_grow 42 (fun w' => Below (World.heap W1).size W1 w') (by kernel_rfl) (by kernel_rfl) (Below.refl _ _).drew ?_
    simp only [List.take_succ_cons, List.take_zero, List.drop_succ_cons, List.drop_zero]
    repeat (first | (apply wpG_on; rfl; (intro w' hS K hK; have hc0 := (k1.kept hS).c4; have hc1 := (k2.kept hS).c4; have hc2 := (k3.kept hS).c4; go_simp; (first | exact hK.out _ hS | (go_at_call 26; (with_reducible refine (H4.out _).mono ?_); rintro e w'' ⟨rfl, hbb⟩; exact ⟨_, rfl, hK.out _ (hS.trans (hbb.mono hS.size))⟩) | (go_at_call 14; (with_reducible refine (HL1.out _).mono ?_); rintro e w'' ⟨rfl, hbb⟩; exact ⟨_, rfl, hK.out _ (hS.trans (hbb.mono hS.size))⟩) | (go_at_call 14; (with_reducible refine (HL2.out _).mono ?_); rintro e w'' ⟨rfl, hbb⟩; exact ⟨_, rfl, hK.out _ (hS.trans (hbb.mono hS.size))⟩))); simp only [Act.put, List.setIfInBounds_toArray, List.set_cons_succ, List.set_cons_zero]) | (apply wpG_off; rfl; simp only [Act.put, List.setIfInBounds_toArray, List.set_cons_succ, List.set_cons_zero]))
    apply wpG_nil
    intro W2 hS
    replace k1 := k1.kept hS
    replace k2 := k2.kept hS
    replace k3 := k3.kept hS
    replace hb := hb.trans (hS.mono hb.size)
    clear hS
    clear t1 t2 t3 t4 t5 t6 e1
    go_wp2_with fail
    refine wp_region_grow 4 (fun w' => Below (World.heap W2).size W2 w') (by kernel_rfl) (by kernel_rfl) (Below.refl _ _).drew ?_
    simp only [List.take_succ_cons, List.take_zero, List.drop_succ_cons, List.drop_zero]
    repeat (first | (apply wpG_on; rfl; (intro w' hS K hK; have hc0 := (k1.kept hS).c4; have hc1 := (k2.kept hS).c4; go_simp; (first | exact hK.out _ hS | (go_at_call 14; (with_reducible refine (HL1.out _).mono ?_); rintro e w'' ⟨rfl, hbb⟩; exact ⟨_, rfl, hK.out _ (hS.trans (hbb.mono hS.size))⟩) | (go_at_call 14; (with_reducible refine (HL2.out _).mono ?_); rintro e w'' ⟨rfl, hbb⟩; exact ⟨_, rfl, hK.out _ (hS.trans (hbb.mono hS.size))⟩))); simp only [Act.put, List.setIfInBounds_toArray, List.set_cons_succ, List.set_cons_zero]) | (apply wpG_off; rfl; simp only [Act.put, List.setIfInBounds_toArray, List.set_cons_succ, List.set_cons_zero]))
    apply wpG_nil
    intro W3 hS
    replace k1 := k1.kept hS
    replace k2 := k2.kept hS
    replace hb := hb.trans (hS.mono hb.size)
    clear hS
    have c1 := k1.c4
    have c2 := k2.c4
    go_wp2_with fail
    clear c1 c2
    refine mid44 hb k1 k2 (by omega) (by omega) (by omega) (fun W4 k1' k2' kk hb => ?_)
    clear kk k1 k2 k3
    have c1 := k1'.c4
    have c2 := k2'.c4
    go_region_held3 (fun w' => w'.cell? ⟨w.heap.size, 0, none⟩ = some (.int .i64 p0) ∧ w'.cell? ⟨w.heap.size, 1, none⟩ = some (.int .i64 p1) ∧ w'.cell? ⟨w.heap.size, 2, none⟩ = some (.int .i64 p2) ∧ w'.cell? ⟨w.heap.size + 1, 0, none⟩ = some (.int .i64 p0) ∧ w'.cell? ⟨w.heap.size + 1, 1, none⟩ = some (.int .i64 p1) ∧ w'.cell? ⟨w.heap.size + 1, 2, none⟩ = some (.int .i64 p2)) (go_keep) (first | (go_at_call 39; refine (greater_any _ _ _).mono ?_; rintro e w' ⟨rfl, rfl⟩))
    all_goals go_wp2_with fail
    all_goals clear c1 c2
    all_goals refine name1d (fun W5 k4 hS => ?_)
    all_goals replace k1' := k1'.kept hS
    all_goals replace k2' := k2'.kept hS
    all_goals replace hb := hb.trans (hS.mono hb.size)
    all_goals clear hS
    all_goals generalize (World.heap W4).size = N4 at *
    all_goals
      have u1 : decide (la ≤ lu) = true := by simpa using l1
      have u2 : decide (lb ≤ lu) = true := by simpa using l2
      refine wp_region_grow 31 (fun w' => Below (World.heap W5).size W5 w') (by kernel_rfl) (by kernel_rfl) (Below.refl _ _).drew ?_
      simp only [List.take_succ_cons, List.take_zero, List.drop_succ_cons, List.drop_zero]
      repeat (first | (apply wpG_on; rfl; (intro w' hS K hK; have hc0 := (k1'.kept hS).c4; have hc1 := (k2'.kept hS).c4; have hc2 := (k4.kept hS).c4; go_simp; (first | exact hK.out _ hS | (go_at_call 24; (with_reducible refine (HU1.out _).mono ?_); rintro e w'' ⟨rfl, hbb⟩; exact ⟨_, rfl, hK.out _ (hS.trans (hbb.mono hS.size))⟩) | (go_at_call 24; (with_reducible refine (HU2.out _).mono ?_); rintro e w'' ⟨rfl, hbb⟩; exact ⟨_, rfl, hK.out _ (hS.trans (hbb.mono hS.size))⟩) | (go_at_call 24; (with_reducible refine (HU3.out _).mono ?_); rintro e w'' ⟨rfl, hbb⟩; exact ⟨_, rfl, hK.out _ (hS.trans (hbb.mono hS.size))⟩) | (go_at_call 24; (with_reducible refine (HU4.out _).mono ?_); rintro e w'' ⟨rfl, hbb⟩; exact ⟨_, rfl, hK.out _ (hS.trans (hbb.mono hS.size))⟩) | (go_at_call 21; (with_reducible refine (awake_any _).mono ?_); rintro e w'' ⟨rfl, hbb⟩; exact ⟨_, rfl, hK.out _ (hS.trans (hbb.mono hS.size))⟩))); simp only [Act.put, List.setIfInBounds_toArray, List.set_cons_succ, List.set_cons_zero]) | (apply wpG_off; rfl; simp only [Act.put, List.setIfInBounds_toArray, List.set_cons_succ, List.set_cons_zero]))
      apply wpG_nil
      intro W6 hS
      replace k1' := k1'.kept hS
      replace k2' := k2'.kept hS
      replace k4 := k4.kept hS
      replace hb := hb.trans (hS.mono hb.size)
      clear hS
      go_wp2
      go_ret
      exact ⟨rfl, hb⟩

set_option maxRecDepth 100000 in
theorem lifted (os : Os) (started : os.Started) (H : Type) (enc : TypeId × Value → H) :
    ReturnsInHanded {} Try.checked os 9 .any (Rows.pixelMetricSpec.pre6 enc Try.prog Try.f9 Rows.pixelMetricRow.domain false) (Rows.pixelMetricSpec.post enc Try.prog Try.f9 false true false false) := by
  refine returnsInHanded_of_change_sized (C := Try.checked) ownK started (by kernel_rfl) Try.func9
    (ChangeSpec.witness6 (enc := enc) (C := Try.checked) false ⟨#[], #[.agg #[.int .i64 0, .int .i64 0, .int .i64 0, .int .i64 0], .agg #[.int .i64 0, .int .i64 0, .int .i64 0, .int .i64 0], .agg #[.int .i64 0, .int .i64 0, .int .i64 0, .int .i64 0]], []⟩ 8 (by kernel_rfl) (by kernel_rfl) (by kernel_rfl) (by kernel_rfl)) ?_
  intro W base args ds gs before hval0 hW hcnd hsz0 _
  have hval : ∀ (j : Nat) t v, Try.f9.params[j]? = some t → args[j]? = some v → Value.okWide Try.prog W .any base t v := hval0
  have hW' := hW
  obtain ⟨p, q, hA0, hV, rfl, hfz, hnd⟩ := hW
  have hA : DataW.TrodAll enc Try.prog W 0 (fun _ => true) true Try.f9.params.toList args.toList ds p := hA0
  rw [Try.params9] at hA hval
  have hAll := hA
  obtain ⟨v0, vs0, d0, ds0, p0, q0, hargs, rfl, rfl, h0, r0⟩ := trodAll_cons hA
  obtain ⟨v1, vs1, d1, ds1, p1, q1, rfl, rfl, rfl, h1, r1⟩ := trodAll_cons r0
  obtain ⟨v2, vs2, d2, ds2, p2, q2, rfl, rfl, rfl, h2, r2⟩ := trodAll_cons r1
  obtain ⟨rfl, rfl, rfl⟩ := trodAll_nil r2
  obtain rfl : args = #[v0, v1, v2] := by cases args; simp_all
  obtain ⟨rfl, rfl⟩ := trodVars_none hV
  have hsz : (DataW.weightsEach Try.prog [23, 23, 23] [d0, d1, d2]).all (· ≤ reachBytes) = true := hsz0
  clear hA0 hval0 hsz0
  have hAll' : DataW.TrodAll enc Try.prog W 0 (fun _ => true) true [23, 23, 23] [v0, v1, v2] [d0, d1, d2] _ := hAll
  clear hAll
  have hargsBack : ∀ W' : World, Below W.heap.size W W' → DataW.TrodAll enc Try.prog W' 0 (fun b => decide (b < W.heap.size)) true [23, 23, 23] [v0, v1, v2] [d0, d1, d2] _ := fun W' bel => belowTrodAll laidK bel _ _ _ _ (by kernel_rfl) hAll'
  have hc : Calls Try.prog 9 #[v0, v1, v2] W fun e w' => e = .returned (.bool true) ∧ Below W.heap.size W w' := by
    clear hargsBack hAll' hW'
    obtain ⟨a0_0, a0_1, a0_2, a0_3, rfl, w0_0, w0_1, w0_2, w0_3⟩ := openPix Try.underlying23 (by kernel_rfl) (by kernel_rfl) ⟨rfl, rfl, rfl, rfl⟩ Try.underlying3 (hval 0 23 v0 rfl rfl) h0
    obtain ⟨a1_0, a1_1, a1_2, a1_3, rfl, w1_0, w1_1, w1_2, w1_3⟩ := openPix Try.underlying23 (by kernel_rfl) (by kernel_rfl) ⟨rfl, rfl, rfl, rfl⟩ Try.underlying3 (hval 1 23 v1 rfl rfl) h1
    obtain ⟨a2_0, a2_1, a2_2, a2_3, rfl, w2_0, w2_1, w2_2, w2_3⟩ := openPix Try.underlying23 (by kernel_rfl) (by kernel_rfl) ⟨rfl, rfl, rfl, rfl⟩ Try.underlying3 (hval 2 23 v2 rfl rfl) h2
    exact walk a0_0 a0_1 a0_2 a0_3 a1_0 a1_1 a1_2 a1_3 a2_0 a2_1 a2_2 a2_3 W w0_0 w0_1 w0_2 w0_3 w1_0 w1_1 w1_2 w1_3 w2_0 w2_1 w2_2 w2_3
  refine hc.mono fun e W' ⟨he, bel⟩ => ?_
  subst he
  exact ⟨_, rfl, _, _, _, [], _, [], hW', trodAll_mk1 (shut_bool Try.underlying4 _), hargsBack W' bel, rfl, bel.frame _, fun h => by cases h⟩

theorem over : Rows.pixelMetricRow.holds Try.pinned (OpenSpec.ofChange Rows.pixelMetricSpec) :=
  OpenClaim.holds_of_wide 9 Try.f9 rfl rfl rfl rfl rfl rfl rfl ⟨rfl, rfl, rfl, rfl, rfl⟩ rfl rfl rfl rfl rfl (by kernel_rfl) Try.func9 (by kernel_rfl)
    (of_decide_eq_true (by kernel_rfl)) (by unfold Func.isWrapper; first | (rw [if_pos (by decide +kernel)]; kernel_rfl) | (rw [if_neg (by decide +kernel)]; exact ⟨rfl, rfl⟩))
    (fun os started H enc _ => lifted os started H enc)

theorem proved : Rows.PixelMetricSaid := over

end Go.Proofs.Ytmkieeaikhndcaa.pixelMetric
