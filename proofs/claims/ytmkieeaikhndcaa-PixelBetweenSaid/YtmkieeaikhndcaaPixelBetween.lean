/- PixelBetween: for all pixels and positions, mixing begins with the first pixel and ends with the second one, keeps a pixel that is mixed with itself, is symmetric, and gives values between those of both. No conditions. -/
import Derived.Test.YtmkieeaikhndcaaFrame
import Derived.Test.YtmkieeaikhndcaaPixAwake
import Derived.Test.YtmkieeaikhndcaaPixPlain
namespace Go.Proofs.Ytmkieeaikhndcaa.pixelBetween
open Go.ChangeShapes Go.WideShapes Go.ChangeAt Go.RowKit
set_option linter.unusedVariables false
attribute [local go_sem] Oper.gAt gUponK

theorem callMid44 {P : Program} {f : FuncId} {args : Array Value} {Q : Ending → World → Prop} {B : Nat} {w0 w : World} {b b' : Nat} {x0 x1 x2 x3 v0 v1 v2 v3 y0 y1 y2 y3 u0 u1 u2 u3 : Value} {t t' : TypeId} (hb : Below B w0 w) (k : Blk w b (.cells #[x0, x1, x2, x3] t (0, 0))) (k' : Blk w b' (.cells #[y0, y1, y2, y3] t' (0, 0)))
    (hne : b' ≠ b) (hB : B ≤ b) (hB' : B ≤ b')
    (hn : ∀ w2 : World, Blk w2 b (.cells #[v0, v1, v2, v3] t (0, 0)) → Blk w2 b' (.cells #[u0, u1, u2, u3] t' (0, 0)) → (∀ i o, i ≠ b → i ≠ b' → Blk w i o → Blk w2 i o) → Below B w0 w2 → Calls P f args w2 Q) :
    Calls P f args ((((((((w.setCell ⟨b, 0, none⟩ v0).setCell ⟨b, 1, none⟩ v1).setCell ⟨b, 2, none⟩ v2).setCell ⟨b, 3, none⟩ v3).setCell ⟨b', 0, none⟩ u0).setCell ⟨b', 1, none⟩ u1).setCell ⟨b', 2, none⟩ u2).setCell ⟨b', 3, none⟩ u3) Q :=
  have ch := set4 k v0 v1 v2 v3
  have ch' := set4 (ch.keeps _ _ hne k') u0 u1 u2 u3
  hn _ (ch'.keeps _ _ (Ne.symm hne) ch.blk) ch'.blk (fun i o hi hi' hk => ch'.keeps i o hi' (ch.keeps i o hi hk)) ((hb.trans (ch.below hB)).trans (ch'.below hB'))

set_option maxHeartbeats 400000 in
theorem between_yes (x a b : Int) (w : World) (h : min a b ≤ x ∧ x ≤ max a b) :
    Calls Try.prog 38 #[.int .i64 x, .int .i64 a, .int .i64 b] w fun e w' => e = .returned (.bool true) ∧ w = w' := by
  by_cases h1 : a ≤ x
  · by_cases h2 : x ≤ b
    · clear h
      go_enter Try.func38, Try.ntmps38
      go_wp2
      go_ret
      exact ⟨rfl, rfl⟩
    · have h3 : b ≤ x := by omega
      have h4 : x ≤ a := by omega
      clear h
      go_enter Try.func38, Try.ntmps38
      go_wp2
      go_ret
      exact ⟨rfl, rfl⟩
  · have h3 : b ≤ x := by omega
    have h4 : x ≤ a := by omega
    clear h
    go_enter Try.func38, Try.ntmps38
    go_wp2
    go_ret
    exact ⟨rfl, rfl⟩

/-- Mix of limited pixels that are not clear. -/
theorem mixL (r g b a r' g' b' a' t : Int) (w : World) (h0 : 0 ≤ r ∧ r ≤ 65535) (h1 : 0 ≤ g ∧ g ≤ 65535) (h2 : 0 ≤ b ∧ b ≤ 65535) (h3 : 1 ≤ a ∧ a ≤ 65535) (h4 : 0 ≤ r' ∧ r' ≤ 65535) (h5 : 0 ≤ g' ∧ g' ≤ 65535) (h6 : 0 ≤ b' ∧ b' ≤ 65535) (h7 : 1 ≤ a' ∧ a' ≤ 65535) (ht : 0 ≤ t ∧ t ≤ 65535) :
    Calls Try.prog 22 #[pv r g b a, pv r' g' b' a', .int .i64 t] w fun e w' => e = .returned (pv (mC r r' a a' t) (mC g g' a a' t) (mC b b' a a' t) (mA a a' t)) ∧ Below w.heap.size w w' := by
  have m0 := mx_lim r r' a a' t
  have m1 := mx_lim g g' a a' t
  have m2 := mx_lim b b' a a' t
  rw [cl_id r h0.1 h0.2, cl_id r' h4.1 h4.2, cl_id a (by omega) h3.2, cl_id a' (by omega) h7.2, cl_id t ht.1 ht.2] at m0
  rw [cl_id g h1.1 h1.2, cl_id g' h5.1 h5.2, cl_id a (by omega) h3.2, cl_id a' (by omega) h7.2, cl_id t ht.1 ht.2] at m1
  rw [cl_id b h2.1 h2.2, cl_id b' h6.1 h6.2, cl_id a (by omega) h3.2, cl_id a' (by omega) h7.2, cl_id t ht.1 ht.2] at m2
  have hA := mA_between a a' t h3 h7 ht
  have c := mix_pos r g b a r' g' b' a' t w (by rw [m0.2]; omega)
  rw [m0.1, m0.2, m1.1, m2.1] at c
  exact c

set_option maxHeartbeats 1000000 in
theorem clear0 (r g b a r' g' b' a' t : Int) (w : World) (h : cl a = 0 ∨ cl a' = 0) :
    Calls Try.prog 8 #[pv r g b a, pv r' g' b' a', .int .i64 t] w fun e w' => e = .returned (.bool true) ∧ Below w.heap.size w w' := by
  have C : ∀ w : World, Calls Try.prog 22 #[pv (cl r) 0 0 0, pv 0 (cl g') 0 0, .int .i64 (cl t)] w fun e w' => e = .returned (pv 0 0 0 0) ∧ Below w.heap.size w w' := fun w => mix_zero _ _ _ _ _ _ _ _ _ w (by
    have e : cl 0 = 0 := by decide
    unfold mxA mxU mxV
    rw [e, Int.zero_mul, Int.zero_mul]
    decide)
  have HC := Lib.hid C
  clear C
  have hz : (cl a == 0) = true ∨ ((cl a == 0) = false ∧ (cl a' == 0) = true) := by
    by_cases h0 : cl a = 0
    · exact .inl (by simpa using h0)
    · exact .inr ⟨by simpa using h0, by simpa using (show cl a' = 0 by omega)⟩
  clear h
  rcases hz with hz | ⟨hz, hz'⟩
  · skip
    go_enter Try.func8, Try.ntmps8
    go_wp2
    refine name2 (fun W k1 k2 hb => ?_)
    refine wp_region_grow 4 (fun w' => Below (World.heap W).size W w') (by kernel_rfl) (by kernel_rfl) (Below.refl _ _).drew ?_
    simp only [List.take_succ_cons, List.take_zero, List.drop_succ_cons, List.drop_zero]
    repeat (first | (apply wpG_on; rfl; (intro w' hS K hK; have hc0 := (k1.kept hS).c4; have hc1 := (k2.kept hS).c4; go_simp; (first | exact hK.out _ hS | (go_at_call 14; (with_reducible refine (refLimit_any _ _ _ _ _).mono ?_); rintro e w'' ⟨rfl, hbb⟩; exact ⟨_, rfl, hK.out _ (hS.trans (hbb.mono hS.size))⟩))); simp only [Act.put, List.setIfInBounds_toArray, List.set_cons_succ, List.set_cons_zero]) | (apply wpG_off; rfl; simp only [Act.put, List.setIfInBounds_toArray, List.set_cons_succ, List.set_cons_zero]))
    apply wpG_nil
    intro W1 hS
    replace k1 := k1.kept hS
    replace k2 := k2.kept hS
    replace hb := hb.trans (hS.mono hb.size)
    clear hS
    have c1 := k1.c4
    have c2 := k2.c4
    go_wp2_with fail
    clear c1 c2
    refine callMid44 hb k1 k2 (by omega) (by omega) (by omega) (fun W2 k1' k2' kk hb => ?_)
    clear kk k1 k2
    refine (refU_any _ _).mono ?_
    rintro e w' ⟨rfl, rfl⟩
    have c1 := k1'.c4
    have c2 := k2'.c4
    go_wp2_with fail
    refine (HC.out _).mono ?_
    rintro e W3 ⟨rfl, hS⟩
    replace hb := hb.trans (hS.mono hb.size)
    clear hS c1 c2
    go_wp2_with fail
    refine (awake_any _).mono ?_
    rintro e W4 ⟨rfl, hS⟩
    go_wp2_with fail
    go_ret
    exact ⟨rfl, hb.trans (hS.mono hb.size)⟩
  · skip
    go_enter Try.func8, Try.ntmps8
    go_wp2
    refine name2 (fun W k1 k2 hb => ?_)
    refine wp_region_grow 4 (fun w' => Below (World.heap W).size W w') (by kernel_rfl) (by kernel_rfl) (Below.refl _ _).drew ?_
    simp only [List.take_succ_cons, List.take_zero, List.drop_succ_cons, List.drop_zero]
    repeat (first | (apply wpG_on; rfl; (intro w' hS K hK; have hc0 := (k1.kept hS).c4; have hc1 := (k2.kept hS).c4; go_simp; (first | exact hK.out _ hS | (go_at_call 14; (with_reducible refine (refLimit_any _ _ _ _ _).mono ?_); rintro e w'' ⟨rfl, hbb⟩; exact ⟨_, rfl, hK.out _ (hS.trans (hbb.mono hS.size))⟩))); simp only [Act.put, List.setIfInBounds_toArray, List.set_cons_succ, List.set_cons_zero]) | (apply wpG_off; rfl; simp only [Act.put, List.setIfInBounds_toArray, List.set_cons_succ, List.set_cons_zero]))
    apply wpG_nil
    intro W1 hS
    replace k1 := k1.kept hS
    replace k2 := k2.kept hS
    replace hb := hb.trans (hS.mono hb.size)
    clear hS
    have c1 := k1.c4
    have c2 := k2.c4
    go_wp2_with fail
    clear c1 c2
    refine callMid44 hb k1 k2 (by omega) (by omega) (by omega) (fun W2 k1' k2' kk hb => ?_)
    clear kk k1 k2
    refine (refU_any _ _).mono ?_
    rintro e w' ⟨rfl, rfl⟩
    have c1 := k1'.c4
    have c2 := k2'.c4
    go_wp2_with fail
    refine (HC.out _).mono ?_
    rintro e W3 ⟨rfl, hS⟩
    replace hb := hb.trans (hS.mono hb.size)
    clear hS c1 c2
    go_wp2_with fail
    refine (awake_any _).mono ?_
    rintro e W4 ⟨rfl, hS⟩
    go_wp2_with fail
    go_ret
    exact ⟨rfl, hb.trans (hS.mono hb.size)⟩

set_option maxRecDepth 100000 in
set_option maxHeartbeats 2000000 in
theorem solid (r g b a r' g' b' a' t : Int) (w : World) (h3 : cl a ≠ 0) (h7 : cl a' ≠ 0) :
    Calls Try.prog 8 #[pv r g b a, pv r' g' b' a', .int .i64 t] w fun e w' => e = .returned (.bool true) ∧ Below w.heap.size w w' := by
  have z3 : (cl a == 0) = false := by simpa using h3
  have z7 : (cl a' == 0) = false := by simpa using h7
  have q0 := cl_bd r
  have q1 := cl_bd g
  have q2 := cl_bd b
  have q3 : 1 ≤ cl a ∧ cl a ≤ 65535 := by have := cl_bd a; omega
  have q4 := cl_bd r'
  have q5 := cl_bd g'
  have q6 := cl_bd b'
  have q7 : 1 ≤ cl a' ∧ cl a' ≤ 65535 := by have := cl_bd a'; omega
  have qt := cl_bd t
  clear h3 h7
  -- the five mixings, and that the mixed pixel is valid
  have M : ∀ w : World, Calls Try.prog 22 #[pv (cl r) (cl g) (cl b) (cl a), pv (cl r') (cl g') (cl b') (cl a'), .int .i64 (cl t)] w fun e w' => e = .returned (pv (mC (cl r) (cl r') (cl a) (cl a') (cl t)) (mC (cl g) (cl g') (cl a) (cl a') (cl t)) (mC (cl b) (cl b') (cl a) (cl a') (cl t)) (mA (cl a) (cl a') (cl t))) ∧ Below w.heap.size w w' :=
    fun w => mixL _ _ _ _ _ _ _ _ _ w q0 q1 q2 q3 q4 q5 q6 q7 qt
  have M0 : ∀ w : World, Calls Try.prog 22 #[pv (cl r) (cl g) (cl b) (cl a), pv (cl r') (cl g') (cl b') (cl a'), .int .i64 0] w fun e w' => e = .returned (pv (cl r) (cl g) (cl b) (cl a)) ∧ Below w.heap.size w w' := fun w => by
    have c := mixL _ _ _ _ _ _ _ _ 0 w q0 q1 q2 q3 q4 q5 q6 q7 (by omega)
    rw [mC_zero _ _ _ _ q3.1, mC_zero _ _ _ _ q3.1, mC_zero _ _ _ _ q3.1, mA_zero] at c
    exact c
  have M1 : ∀ w : World, Calls Try.prog 22 #[pv (cl r) (cl g) (cl b) (cl a), pv (cl r') (cl g') (cl b') (cl a'), .int .i64 65535] w fun e w' => e = .returned (pv (cl r') (cl g') (cl b') (cl a')) ∧ Below w.heap.size w w' := fun w => by
    have c := mixL _ _ _ _ _ _ _ _ 65535 w q0 q1 q2 q3 q4 q5 q6 q7 (by omega)
    rw [mC_one _ _ _ _ q7.1, mC_one _ _ _ _ q7.1, mC_one _ _ _ _ q7.1, mA_one] at c
    exact c
  have MS : ∀ w : World, Calls Try.prog 22 #[pv (cl r) (cl g) (cl b) (cl a), pv (cl r) (cl g) (cl b) (cl a), .int .i64 (cl t)] w fun e w' => e = .returned (pv (cl r) (cl g) (cl b) (cl a)) ∧ Below w.heap.size w w' := fun w => by
    have c := mixL _ _ _ _ _ _ _ _ _ w q0 q1 q2 q3 q0 q1 q2 q3 qt
    rw [mC_self _ _ _ q3 qt, mC_self _ _ _ q3 qt, mC_self _ _ _ q3 qt, mA_self _ _ q3 qt] at c
    exact c
  have MT : ∀ w : World, Calls Try.prog 22 #[pv (cl r') (cl g') (cl b') (cl a'), pv (cl r) (cl g) (cl b) (cl a), .int .i64 (65535 - cl t)] w fun e w' => e = .returned (pv (mC (cl r) (cl r') (cl a) (cl a') (cl t)) (mC (cl g) (cl g') (cl a) (cl a') (cl t)) (mC (cl b) (cl b') (cl a) (cl a') (cl t)) (mA (cl a) (cl a') (cl t))) ∧ Below w.heap.size w w' := fun w => by
    have c := mixL _ _ _ _ _ _ _ _ (65535 - cl t) w q4 q5 q6 q7 q0 q1 q2 q3 (by omega)
    rw [(m_swap _ _ _ _ _).1, (m_swap _ _ _ _ _).1, (m_swap _ _ _ _ _).1, (m_swap 0 0 _ _ _).2] at c
    exact c
  have b0 := mC_between (cl r) (cl r') _ _ _ q3 q7 qt
  have b1 := mC_between (cl g) (cl g') _ _ _ q3 q7 qt
  have b2 := mC_between (cl b) (cl b') _ _ _ q3 q7 qt
  have b3 := mA_between _ _ _ q3 q7 qt
  generalize mC (cl r) (cl r') (cl a) (cl a') (cl t) = mr at *
  generalize mC (cl g) (cl g') (cl a) (cl a') (cl t) = mg at *
  generalize mC (cl b) (cl b') (cl a) (cl a') (cl t) = mb at *
  generalize mA (cl a) (cl a') (cl t) = ma at *
  have V : ∀ w : World, Calls Try.prog 11 #[pv mr mg mb ma] w fun e w' => e = .returned (.bool true) ∧ Below w.heap.size w w' := fun w => by
    have c := valid_any mr mg mb ma w
    rw [cl_id mr (by omega) (by omega), cl_id mg (by omega) (by omega), cl_id mb (by omega) (by omega), cl_id ma (by omega) (by omega)] at c
    simpa using c
  have zm : (ma == 0) = false := by simp; omega
  have B0 := Lib.hid (fun w => between_yes mr (cl r) (cl r') w b0)
  have B1 := Lib.hid (fun w => between_yes mg (cl g) (cl g') w b1)
  have B2 := Lib.hid (fun w => between_yes mb (cl b) (cl b') w b2)
  have B3 := Lib.hid (fun w => between_yes ma (cl a) (cl a') w b3)
  have HM := Lib.hid M
  have HM0 := Lib.hid M0
  have HM1 := Lib.hid M1
  have HMS := Lib.hid MS
  have HMT := Lib.hid MT
  have HV := Lib.hid V
  clear M M0 M1 MS MT V b0 b1 b2 b3 q0 q1 q2 q3 q4 q5 q6 q7
  go_enter Try.func8, Try.ntmps8
  go_wp2
  refine name2 (fun W k1 k2 hb => ?_)
  refine wp_region_grow 4 (fun w' => Below (World.heap W).size W w') (by kernel_rfl) (by kernel_rfl) (Below.refl _ _).drew ?_
  simp only [List.take_succ_cons, List.take_zero, List.drop_succ_cons, List.drop_zero]
  repeat (first | (apply wpG_on; rfl; (intro w' hS K hK; have hc0 := (k1.kept hS).c4; have hc1 := (k2.kept hS).c4; go_simp; (first | exact hK.out _ hS | (go_at_call 14; (with_reducible refine (refLimit_any _ _ _ _ _).mono ?_); rintro e w'' ⟨rfl, hbb⟩; exact ⟨_, rfl, hK.out _ (hS.trans (hbb.mono hS.size))⟩))); simp only [Act.put, List.setIfInBounds_toArray, List.set_cons_succ, List.set_cons_zero]) | (apply wpG_off; rfl; simp only [Act.put, List.setIfInBounds_toArray, List.set_cons_succ, List.set_cons_zero]))
  apply wpG_nil
  intro W1 hS
  replace k1 := k1.kept hS
  replace k2 := k2.kept hS
  replace hb := hb.trans (hS.mono hb.size)
  clear hS
  have c1 := k1.c4
  have c2 := k2.c4
  go_wp2_with fail
  clear c1 c2
  refine callMid44 hb k1 k2 (by omega) (by omega) (by omega) (fun W2 k1' k2' kk hb => ?_)
  clear kk k1 k2
  refine (refU_any _ _).mono ?_
  rintro e w' ⟨rfl, rfl⟩
  have c1 := k1'.c4
  have c2 := k2'.c4
  go_wp2_with fail
  refine (HM.out _).mono ?_
  rintro e W3 ⟨rfl, hS⟩
  replace k1' := k1'.kept hS
  replace k2' := k2'.kept hS
  replace hb := hb.trans (hS.mono hb.size)
  clear hS c1 c2
  go_wp2_with fail
  refine name1 (fun W4 k3 hS => ?_)
  replace k1' := k1'.kept hS
  replace k2' := k2'.kept hS
  replace hb := hb.trans (hS.mono hb.size)
  clear hS
  generalize (World.heap W3).size = N3 at *
  have e1 : IntKind.i64.wrap (65535 - cl t) = 65535 - cl t := IntWalk.i64_in _ (by omega)
  refine wp_region_grow 34 (fun w' => Below (World.heap W4).size W4 w') (by kernel_rfl) (by kernel_rfl) (Below.refl _ _).drew ?_
  simp only [List.take_succ_cons, List.take_zero, List.drop_succ_cons, List.drop_zero]
  repeat (first | (apply wpG_on; rfl; (intro w' hS K hK; have hc0 := (k1'.kept hS).c4; have hc1 := (k2'.kept hS).c4; have hc2 := (k3.kept hS).c4; go_simp; (first | exact hK.out _ hS | (go_at_call 22; (with_reducible refine (HM0.out _).mono ?_); rintro e w'' ⟨rfl, hbb⟩; exact ⟨_, rfl, hK.out _ (hS.trans (hbb.mono hS.size))⟩) | (go_at_call 22; (with_reducible refine (HM1.out _).mono ?_); rintro e w'' ⟨rfl, hbb⟩; exact ⟨_, rfl, hK.out _ (hS.trans (hbb.mono hS.size))⟩) | (go_at_call 22; (with_reducible refine (HMS.out _).mono ?_); rintro e w'' ⟨rfl, hbb⟩; exact ⟨_, rfl, hK.out _ (hS.trans (hbb.mono hS.size))⟩) | (go_at_call 22; (with_reducible refine (HMT.out _).mono ?_); rintro e w'' ⟨rfl, hbb⟩; exact ⟨_, rfl, hK.out _ (hS.trans (hbb.mono hS.size))⟩) | (go_at_call 11; (with_reducible refine (HV.out _).mono ?_); rintro e w'' ⟨rfl, hbb⟩; exact ⟨_, rfl, hK.out _ (hS.trans (hbb.mono hS.size))⟩))); simp only [Act.put, List.setIfInBounds_toArray, List.set_cons_succ, List.set_cons_zero]) | (apply wpG_off; rfl; simp only [Act.put, List.setIfInBounds_toArray, List.set_cons_succ, List.set_cons_zero]))
  apply wpG_nil
  intro W5 hS
  replace k1' := k1'.kept hS
  replace k2' := k2'.kept hS
  replace k3 := k3.kept hS
  replace hb := hb.trans (hS.mono hb.size)
  clear hS
  clear e1 HM HM0 HM1 HMS HMT HV
  have c1 := k1'.c4
  have c2 := k2'.c4
  have c3 := k3.c4
  go_wp2_with fail
  all_goals
    refine (B0.out _).mono ?_
    rintro e w' ⟨rfl, rfl⟩
    go_wp2_with fail
    refine (B1.out _).mono ?_
    rintro e w' ⟨rfl, rfl⟩
    go_wp2_with fail
    refine (B2.out _).mono ?_
    rintro e w' ⟨rfl, rfl⟩
    go_wp2_with fail
    refine (B3.out _).mono ?_
    rintro e w' ⟨rfl, rfl⟩
    go_wp2_with fail
    refine (awake_any _).mono ?_
    rintro e W6 ⟨rfl, hS⟩
    go_wp2_with fail
    go_ret
    exact ⟨rfl, hb.trans (hS.mono hb.size)⟩

theorem walk (r g b a r' g' b' a' t : Int) (w : World) (w0 : (Lit.int .i64 r).wf = true) (w1 : (Lit.int .i64 g).wf = true) (w2 : (Lit.int .i64 b).wf = true) (w3 : (Lit.int .i64 a).wf = true) (w4 : (Lit.int .i64 r').wf = true) (w5 : (Lit.int .i64 g').wf = true) (w6 : (Lit.int .i64 b').wf = true) (w7 : (Lit.int .i64 a').wf = true) (w8 : (Lit.int .i64 t).wf = true) :
    Calls Try.prog 8 #[pv r g b a, pv r' g' b' a', .int .i64 t] w fun e w' => e = .returned (.bool true) ∧ Below w.heap.size w w' := by
  by_cases h3 : cl a = 0
  · exact clear0 _ _ _ _ _ _ _ _ _ w (.inl h3)
  · by_cases h7 : cl a' = 0
    · exact clear0 _ _ _ _ _ _ _ _ _ w (.inr h7)
    · exact solid _ _ _ _ _ _ _ _ _ w h3 h7

set_option maxRecDepth 100000 in
theorem lifted (os : Os) (started : os.Started) (H : Type) (enc : TypeId × Value → H) :
    ReturnsInHanded {} Try.checked os 8 .any (Rows.pixelBetweenSpec.pre6 enc Try.prog Try.f8 Rows.pixelBetweenRow.domain false) (Rows.pixelBetweenSpec.post enc Try.prog Try.f8 false true false false) := by
  refine returnsInHanded_of_change_sized (C := Try.checked) ownK started (by kernel_rfl) Try.func8
    (ChangeSpec.witness6 (enc := enc) (C := Try.checked) false ⟨#[], #[.agg #[.int .i64 0, .int .i64 0, .int .i64 0, .int .i64 0], .agg #[.int .i64 0, .int .i64 0, .int .i64 0, .int .i64 0], .int .i64 0], []⟩ 8 (by kernel_rfl) (by kernel_rfl) (by kernel_rfl) (by kernel_rfl)) ?_
  intro W base args ds gs before hval0 hW hcnd hsz0 _
  have hval : ∀ (j : Nat) t v, Try.f8.params[j]? = some t → args[j]? = some v → Value.okWide Try.prog W .any base t v := hval0
  have hW' := hW
  obtain ⟨p, q, hA0, hV, rfl, hfz, hnd⟩ := hW
  have hA : DataW.TrodAll enc Try.prog W 0 (fun _ => true) true Try.f8.params.toList args.toList ds p := hA0
  rw [Try.params8] at hA hval
  have hAll := hA
  obtain ⟨v0, vs0, d0, ds0, p0, q0, hargs, rfl, rfl, h0, r0⟩ := trodAll_cons hA
  obtain ⟨v1, vs1, d1, ds1, p1, q1, rfl, rfl, rfl, h1, r1⟩ := trodAll_cons r0
  obtain ⟨v2, vs2, d2, ds2, p2, q2, rfl, rfl, rfl, h2, r2⟩ := trodAll_cons r1
  obtain ⟨rfl, rfl, rfl⟩ := trodAll_nil r2
  obtain rfl : args = #[v0, v1, v2] := by cases args; simp_all
  obtain ⟨rfl, rfl⟩ := trodVars_none hV
  have hsz : (DataW.weightsEach Try.prog [23, 23, 3] [d0, d1, d2]).all (· ≤ reachBytes) = true := hsz0
  clear hA0 hval0 hsz0
  have hAll' : DataW.TrodAll enc Try.prog W 0 (fun _ => true) true [23, 23, 3] [v0, v1, v2] [d0, d1, d2] _ := hAll
  clear hAll
  have hargsBack : ∀ W' : World, Below W.heap.size W W' → DataW.TrodAll enc Try.prog W' 0 (fun b => decide (b < W.heap.size)) true [23, 23, 3] [v0, v1, v2] [d0, d1, d2] _ := fun W' bel => belowTrodAll laidK bel _ _ _ _ (by kernel_rfl) hAll'
  have hc : Calls Try.prog 8 #[v0, v1, v2] W fun e w' => e = .returned (.bool true) ∧ Below W.heap.size W w' := by
    clear hargsBack hAll' hW'
    obtain ⟨a0_0, a0_1, a0_2, a0_3, rfl, w0_0, w0_1, w0_2, w0_3⟩ := openPix Try.underlying23 (by kernel_rfl) (by kernel_rfl) ⟨rfl, rfl, rfl, rfl⟩ Try.underlying3 (hval 0 23 v0 rfl rfl) h0
    obtain ⟨a1_0, a1_1, a1_2, a1_3, rfl, w1_0, w1_1, w1_2, w1_3⟩ := openPix Try.underlying23 (by kernel_rfl) (by kernel_rfl) ⟨rfl, rfl, rfl, rfl⟩ Try.underlying3 (hval 1 23 v1 rfl rfl) h1
    obtain ⟨a2, rfl, rfl, rfl, w2⟩ := open_int Try.underlying3 (hval 2 3 v2 rfl rfl) h2
    exact walk a0_0 a0_1 a0_2 a0_3 a1_0 a1_1 a1_2 a1_3 a2 W w0_0 w0_1 w0_2 w0_3 w1_0 w1_1 w1_2 w1_3 w2
  refine hc.mono fun e W' ⟨he, bel⟩ => ?_
  subst he
  exact ⟨_, rfl, _, _, _, [], _, [], hW', trodAll_mk1 (shut_bool Try.underlying4 _), hargsBack W' bel, rfl, bel.frame _, fun h => by cases h⟩

theorem over : Rows.pixelBetweenRow.holds Try.pinned (OpenSpec.ofChange Rows.pixelBetweenSpec) :=
  OpenClaim.holds_of_wide 8 Try.f8 rfl rfl rfl rfl rfl rfl rfl ⟨rfl, rfl, rfl, rfl, rfl⟩ rfl rfl rfl rfl rfl (by kernel_rfl) Try.func8 (by kernel_rfl)
    (of_decide_eq_true (by kernel_rfl)) (by unfold Func.isWrapper; first | (rw [if_pos (by decide +kernel)]; kernel_rfl) | (rw [if_neg (by decide +kernel)]; exact ⟨rfl, rfl⟩))
    (fun os started H enc _ => lifted os started H enc)

theorem proved : Rows.PixelBetweenSaid := over

end Go.Proofs.Ytmkieeaikhndcaa.pixelBetween
