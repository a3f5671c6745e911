/- PixelStraightens: for every pixel: if it is valid and not clear, Straight undoes Pre, exactly for opaque pixels and otherwise up to the stated error. No conditions. -/
import Derived.Test.YtmkieeaikhndcaaFrame
import Derived.Test.YtmkieeaikhndcaaPixAwake
import Derived.Test.YtmkieeaikhndcaaPixPlain
namespace Go.Proofs.Ytmkieeaikhndcaa.pixelStraightens
open Go.ChangeShapes Go.WideShapes Go.ChangeAt Go.RowKit
set_option linter.unusedVariables false
attribute [local go_sem] Oper.gAt gUponK

set_option maxHeartbeats 400000 in
theorem near_yes (a b n : Int) (w : World) (ha : 0 ≤ a ∧ a ≤ 65535) (hb : 0 ≤ b ∧ b ≤ 65535) (h1 : a - b ≤ n) (h2 : b - a ≤ n) :
    Calls Try.prog 36 #[.int .i64 a, .int .i64 b, .int .i64 n] w fun e w' => e = .returned (.bool true) ∧ w = w' := by
  go_enter Try.func36, Try.ntmps36
  go_wp2
  go_ret
  exact ⟨rfl, rfl⟩

set_option maxRecDepth 100000 in
set_option maxHeartbeats 1000000 in
theorem bad (r g b a : Int) (w : World) (h : r < 0 ∨ 65535 < r ∨ g < 0 ∨ 65535 < g ∨ b < 0 ∨ 65535 < b ∨ a < 1 ∨ 65535 < a) :
    Calls Try.prog 7 #[pv r g b a] w fun e w' => e = .returned (.bool true) ∧ Below w.heap.size w w' := by
  by_cases h0 : r < 0
  · clear h
    go_enter Try.func7, Try.ntmps7
    go_wp2_with fail
    refine (awake_any _).mono ?_
    rintro e W1 ⟨rfl, hS⟩
    go_wp2_with fail
    go_ret
    exact ⟨rfl, ((Below.refl _ _).alloc (Nat.le_refl _) _).trans (hS.mono (by simp))⟩
  by_cases h1 : 65535 < r
  · clear h
    have n0 : 0 ≤ r := by omega
    clear h0
    go_enter Try.func7, Try.ntmps7
    go_wp2_with fail
    refine (awake_any _).mono ?_
    rintro e W1 ⟨rfl, hS⟩
    go_wp2_with fail
    go_ret
    exact ⟨rfl, ((Below.refl _ _).alloc (Nat.le_refl _) _).trans (hS.mono (by simp))⟩
  by_cases h2 : g < 0
  · clear h
    have n0 : 0 ≤ r := by omega
    have n1 : r ≤ 65535 := by omega
    clear h0 h1
    go_enter Try.func7, Try.ntmps7
    go_wp2_with fail
    refine (awake_any _).mono ?_
    rintro e W1 ⟨rfl, hS⟩
    go_wp2_with fail
    go_ret
    exact ⟨rfl, ((Below.refl _ _).alloc (Nat.le_refl _) _).trans (hS.mono (by simp))⟩
  by_cases h3 : 65535 < g
  · clear h
    have n0 : 0 ≤ r := by omega
    have n1 : r ≤ 65535 := by omega
    have n2 : 0 ≤ g := by omega
    clear h0 h1 h2
    go_enter Try.func7, Try.ntmps7
    go_wp2_with fail
    refine (awake_any _).mono ?_
    rintro e W1 ⟨rfl, hS⟩
    go_wp2_with fail
    go_ret
    exact ⟨rfl, ((Below.refl _ _).alloc (Nat.le_refl _) _).trans (hS.mono (by simp))⟩
  by_cases h4 : b < 0
  · clear h
    have n0 : 0 ≤ r := by omega
    have n1 : r ≤ 65535 := by omega
    have n2 : 0 ≤ g := by omega
    have n3 : g ≤ 65535 := by omega
    clear h0 h1 h2 h3
    go_enter Try.func7, Try.ntmps7
    go_wp2_with fail
    refine (awake_any _).mono ?_
    rintro e W1 ⟨rfl, hS⟩
    go_wp2_with fail
    go_ret
    exact ⟨rfl, ((Below.refl _ _).alloc (Nat.le_refl _) _).trans (hS.mono (by simp))⟩
  by_cases h5 : 65535 < b
  · clear h
    have n0 : 0 ≤ r := by omega
    have n1 : r ≤ 65535 := by omega
    have n2 : 0 ≤ g := by omega
    have n3 : g ≤ 65535 := by omega
    have n4 : 0 ≤ b := by omega
    clear h0 h1 h2 h3 h4
    go_enter Try.func7, Try.ntmps7
    go_wp2_with fail
    refine (awake_any _).mono ?_
    rintro e W1 ⟨rfl, hS⟩
    go_wp2_with fail
    go_ret
    exact ⟨rfl, ((Below.refl _ _).alloc (Nat.le_refl _) _).trans (hS.mono (by simp))⟩
  by_cases h6 : a < 1
  · clear h
    have n0 : 0 ≤ r := by omega
    have n1 : r ≤ 65535 := by omega
    have n2 : 0 ≤ g := by omega
    have n3 : g ≤ 65535 := by omega
    have n4 : 0 ≤ b := by omega
    have n5 : b ≤ 65535 := by omega
    clear h0 h1 h2 h3 h4 h5
    go_enter Try.func7, Try.ntmps7
    go_wp2_with fail
    refine (awake_any _).mono ?_
    rintro e W1 ⟨rfl, hS⟩
    go_wp2_with fail
    go_ret
    exact ⟨rfl, ((Below.refl _ _).alloc (Nat.le_refl _) _).trans (hS.mono (by simp))⟩
  have h7 : 65535 < a := by omega
  clear h
  have n0 : 0 ≤ r := by omega
  have n1 : r ≤ 65535 := by omega
  have n2 : 0 ≤ g := by omega
  have n3 : g ≤ 65535 := by omega
  have n4 : 0 ≤ b := by omega
  have n5 : b ≤ 65535 := by omega
  have n6 : 1 ≤ a := by omega
  clear h0 h1 h2 h3 h4 h5 h6
  go_enter Try.func7, Try.ntmps7
  go_wp2_with fail
  refine (awake_any _).mono ?_
  rintro e W1 ⟨rfl, hS⟩
  go_wp2_with fail
  go_ret
  exact ⟨rfl, ((Below.refl _ _).alloc (Nat.le_refl _) _).trans (hS.mono (by simp))⟩

set_option maxRecDepth 100000 in
set_option maxHeartbeats 2000000 in
theorem good (r g b a : Int) (w : World) (h0 : 0 ≤ r ∧ r ≤ 65535) (h1 : 0 ≤ g ∧ g ≤ 65535) (h2 : 0 ≤ b ∧ b ≤ 65535) (h3 : 1 ≤ a ∧ a ≤ 65535) :
    Calls Try.prog 7 #[pv r g b a] w fun e w' => e = .returned (.bool true) ∧ Below w.heap.size w w' := by
  have n0 := sp_near r a h0 h3
  have n1 := sp_near g a h1 h3
  have n2 := sp_near b a h2 h3
  have b0 := sp_bd r a h0 h3
  have b1 := sp_bd g a h1 h3
  have b2 := sp_bd b a h2 h3
  have C1 : ∀ w : World, Calls Try.prog 17 #[pv (dv (cl r * cl a) 65535) (dv (cl g * cl a) 65535) (dv (cl b * cl a) 65535) (cl a)] w fun e w' => e = .returned (pv (sp r a) (sp g a) (sp b a) a) ∧ Below w.heap.size w w' := by
    intro w
    have c := straight_pos (dv (cl r * cl a) 65535) (dv (cl g * cl a) 65535) (dv (cl b * cl a) 65535) a w (by rw [cl_id a (by omega) h3.2]; omega)
    rw [stC_id r a h0 h3, stC_id g a h1 h3, stC_id b a h2 h3, cl_id a (by omega) h3.2] at c
    rw [cl_id a (by omega) h3.2]
    exact c
  have HC := Lib.hid C1
  clear C1
  have V : ∀ w : World, Calls Try.prog 11 #[pv (sp r a) (sp g a) (sp b a) a] w fun e w' => e = .returned (.bool true) ∧ Below w.heap.size w w' := by
    intro w
    have c := valid_any (sp r a) (sp g a) (sp b a) a w
    rw [cl_id _ b0.1 b0.2, cl_id _ b1.1 b1.2, cl_id _ b2.1 b2.2, cl_id a (by omega) h3.2] at c
    simpa using c
  have HV := Lib.hid V
  clear V
  have hq : 0 ≤ (65535 + a) / (2 * a) ∧ (65535 + a) / (2 * a) ≤ 65536 := by
    have := Int.ediv_nonneg (a := 65535 + a) (b := 2 * a) (by omega) (by omega)
    have h := Int.ediv_le_self (a := 65535 + a) (2 * a) (by omega)
    have h' : (65535 + a) / (2 * a) < 65537 := Int.ediv_lt_of_lt_mul (by omega) (by
      have : 65537 * (2 * a) = 131074 * a := by omega
      omega)
    omega
  have O : a = 65535 → sp r a = r ∧ sp g a = g ∧ sp b a = b := fun h => by subst h; exact ⟨sp_opaque r h0, sp_opaque g h1, sp_opaque b h2⟩
  have HO := Lib.hid O
  clear O
  generalize hsr : sp r a = sr at *
  generalize hsg : sp g a = sg at *
  generalize hsb : sp b a = sb at *
  clear hsr hsg hsb
  generalize hN : (65535 + a) / (2 * a) = N at *
  have HN := Lib.hid hN
  clear hN
  have N0 := Lib.hid (fun w => near_yes r sr N w h0 b0 n0.1 n0.2)
  have N1 := Lib.hid (fun w => near_yes g sg N w h1 b1 n1.1 n1.2)
  have N2 := Lib.hid (fun w => near_yes b sb N w h2 b2 n2.1 n2.2)
  clear n0 n1 n2
  go_enter Try.func7, Try.ntmps7
  go_wp2_with fail
  refine callName1 (fun W k1 hb => ?_)
  refine (pre_any _ _ _ _ _).mono ?_
  rintro e W1 ⟨rfl, hS⟩
  replace k1 := k1.kept hS
  replace hb := hb.trans (hS.mono hb.size)
  clear hS
  go_wp2_with fail
  refine (HC.out _).mono ?_
  rintro e W2 ⟨rfl, hS⟩
  replace k1 := k1.kept hS
  replace hb := hb.trans (hS.mono hb.size)
  clear hS
  go_wp2_with fail
  refine callName1 (fun W3 k2 hS => ?_)
  replace k1 := k1.kept hS
  replace hb := hb.trans (hS.mono hb.size)
  clear hS
  generalize (World.heap W2).size = M2 at *
  refine (HV.out _).mono ?_
  rintro e W4 ⟨rfl, hS⟩
  replace k1 := k1.kept hS
  replace k2 := k2.kept hS
  replace hb := hb.trans (hS.mono hb.size)
  clear hS HC HV
  have c1 := k1.c4
  have c2 := k2.c4
  by_cases ho : a = 65535
  · obtain ⟨rfl, rfl, rfl⟩ := HO.out ho
    have hob : (a == 65535) = true := by simpa using ho
    clear ho HO
    go_wp2_with fail
    rw [HN.out]
    refine (N0.out _).mono ?_
    rintro e w' ⟨rfl, rfl⟩
    go_wp2_with fail
    refine (N1.out _).mono ?_
    rintro e w' ⟨rfl, rfl⟩
    go_wp2_with fail
    refine (N2.out _).mono ?_
    rintro e w' ⟨rfl, rfl⟩
    go_wp2_with fail
    refine (awake_any _).mono ?_
    rintro e W5 ⟨rfl, hS⟩
    go_wp2_with fail
    go_ret
    exact ⟨rfl, hb.trans (hS.mono hb.size)⟩
  · have hob : (a == 65535) = false := by simpa using ho
    clear ho HO
    go_wp2_with fail
    rw [HN.out]
    refine (N0.out _).mono ?_
    rintro e w' ⟨rfl, rfl⟩
    go_wp2_with fail
    refine (N1.out _).mono ?_
    rintro e w' ⟨rfl, rfl⟩
    go_wp2_with fail
    refine (N2.out _).mono ?_
    rintro e w' ⟨rfl, rfl⟩
    go_wp2_with fail
    refine (awake_any _).mono ?_
    rintro e W5 ⟨rfl, hS⟩
    go_wp2_with fail
    go_ret
    exact ⟨rfl, hb.trans (hS.mono hb.size)⟩

theorem walk (r g b a : Int) (w : World) (w0 : (Lit.int .i64 r).wf = true) (w1 : (Lit.int .i64 g).wf = true) (w2 : (Lit.int .i64 b).wf = true) (w3 : (Lit.int .i64 a).wf = true) :
    Calls Try.prog 7 #[pv r g b a] w fun e w' => e = .returned (.bool true) ∧ Below w.heap.size w w' := by
  by_cases h : r < 0 ∨ 65535 < r ∨ g < 0 ∨ 65535 < g ∨ b < 0 ∨ 65535 < b ∨ a < 1 ∨ 65535 < a
  · exact bad r g b a w h
  · exact good r g b a w (by omega) (by omega) (by omega) (by omega)

set_option maxRecDepth 100000 in
theorem lifted (os : Os) (started : os.Started) (H : Type) (enc : TypeId × Value → H) :
    ReturnsInHanded {} Try.checked os 7 .any (Rows.pixelStraightensSpec.pre6 enc Try.prog Try.f7 Rows.pixelStraightensRow.domain false) (Rows.pixelStraightensSpec.post enc Try.prog Try.f7 false true false false) := by
  refine returnsInHanded_of_change_sized (C := Try.checked) ownK started (by kernel_rfl) Try.func7
    (ChangeSpec.witness6 (enc := enc) (C := Try.checked) false ⟨#[], #[.agg #[.int .i64 0, .int .i64 0, .int .i64 0, .int .i64 0]], []⟩ 8 (by kernel_rfl) (by kernel_rfl) (by kernel_rfl) (by kernel_rfl)) ?_
  intro W base args ds gs before hval0 hW hcnd hsz0 _
  have hval : ∀ (j : Nat) t v, Try.f7.params[j]? = some t → args[j]? = some v → Value.okWide Try.prog W .any base t v := hval0
  have hW' := hW
  obtain ⟨p, q, hA0, hV, rfl, hfz, hnd⟩ := hW
  have hA : DataW.TrodAll enc Try.prog W 0 (fun _ => true) true Try.f7.params.toList args.toList ds p := hA0
  rw [Try.params7] at hA hval
  have hAll := hA
  obtain ⟨v0, vs0, d0, ds0, p0, q0, hargs, rfl, rfl, h0, r0⟩ := trodAll_cons hA
  obtain ⟨rfl, rfl, rfl⟩ := trodAll_nil r0
  obtain rfl : args = #[v0] := by cases args; simp_all
  obtain ⟨rfl, rfl⟩ := trodVars_none hV
  have hsz : (DataW.weightsEach Try.prog [23] [d0]).all (· ≤ reachBytes) = true := hsz0
  clear hA0 hval0 hsz0
  have hAll' : DataW.TrodAll enc Try.prog W 0 (fun _ => true) true [23] [v0] [d0] _ := hAll
  clear hAll
  have hargsBack : ∀ W' : World, Below W.heap.size W W' → DataW.TrodAll enc Try.prog W' 0 (fun b => decide (b < W.heap.size)) true [23] [v0] [d0] _ := fun W' bel => belowTrodAll laidK bel _ _ _ _ (by kernel_rfl) hAll'
  have hc : Calls Try.prog 7 #[v0] W fun e w' => e = .returned (.bool true) ∧ Below W.heap.size W w' := by
    clear hargsBack hAll' hW'
    obtain ⟨a0_0, a0_1, a0_2, a0_3, rfl, w0_0, w0_1, w0_2, w0_3⟩ := openPix Try.underlying23 (by kernel_rfl) (by kernel_rfl) ⟨rfl, rfl, rfl, rfl⟩ Try.underlying3 (hval 0 23 v0 rfl rfl) h0
    exact walk a0_0 a0_1 a0_2 a0_3 W w0_0 w0_1 w0_2 w0_3
  refine hc.mono fun e W' ⟨he, bel⟩ => ?_
  subst he
  exact ⟨_, rfl, _, _, _, [], _, [], hW', trodAll_mk1 (shut_bool Try.underlying4 _), hargsBack W' bel, rfl, bel.frame _, fun h => by cases h⟩

theorem over : Rows.pixelStraightensRow.holds Try.pinned (OpenSpec.ofChange Rows.pixelStraightensSpec) :=
  OpenClaim.holds_of_wide 7 Try.f7 rfl rfl rfl rfl rfl rfl rfl ⟨rfl, rfl, rfl, rfl, rfl⟩ rfl rfl rfl rfl rfl (by kernel_rfl) Try.func7 (by kernel_rfl)
    (of_decide_eq_true (by kernel_rfl)) (by unfold Func.isWrapper; first | (rw [if_pos (by decide +kernel)]; kernel_rfl) | (rw [if_neg (by decide +kernel)]; exact ⟨rfl, rfl⟩))
    (fun os started H enc _ => lifted os started H enc)

theorem proved : Rows.PixelStraightensSaid := over

end Go.Proofs.Ytmkieeaikhndcaa.pixelStraightens
