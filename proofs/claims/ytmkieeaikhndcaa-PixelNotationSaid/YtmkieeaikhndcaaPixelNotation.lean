/- PixelNotation: for every pixel and every 8-bit value, what is printed is parsed up to the precision of 8 bits and printed again as it was. No conditions. -/
import Derived.Test.YtmkieeaikhndcaaFrame
import Derived.Test.YtmkieeaikhndcaaPixAwake
import Derived.Test.YtmkieeaikhndcaaPixPlain
namespace Go.Proofs.Ytmkieeaikhndcaa.pixelText8
open Go.ChangeShapes Go.WideShapes Go.ChangeAt Go.RowKit
set_option linter.unusedVariables false
attribute [local go_sem] Oper.gAt gUponK

/-- The nearest 8-bit value. -/
def n8 (x : Int) : Int := dv (cl x) 257
theorem n8_bd (x : Int) : 0 ≤ n8 x ∧ n8 x ≤ 255 := dv_bd8 x
theorem n8_near (x : Int) : cl x - 257 * n8 x ≤ 128 ∧ 257 * n8 x - cl x ≤ 128 := by
  have h := dv_spec (cl x) 257 (by omega)
  unfold n8
  omega
theorem n8_back (n : Int) (h : 0 ≤ n ∧ n ≤ 255) : dv (cl (257 * n)) 257 = n := by
  rw [cl_id _ (by omega) (by omega), Int.mul_comm]
  exact dv_mul n 257 (by omega)
theorem prt_back (r g b a : Int) : prt (257 * n8 r) (257 * n8 g) (257 * n8 b) (257 * n8 a) = prt r g b a := by
  unfold prt
  rw [n8_back _ (n8_bd r), n8_back _ (n8_bd g), n8_back _ (n8_bd b), n8_back _ (n8_bd a)]
  rfl
theorem dg_hx (m : Int) (h0 : 0 ≤ m) (h1 : m < 16) : dg (hx m).toNat = m := by
  have h : m = 0 ∨ m = 1 ∨ m = 2 ∨ m = 3 ∨ m = 4 ∨ m = 5 ∨ m = 6 ∨ m = 7 ∨ m = 8 ∨ m = 9 ∨ m = 10 ∨ m = 11 ∨ m = 12 ∨ m = 13 ∨ m = 14 ∨ m = 15 := by omega
  rcases h with rfl | rfl | rfl | rfl | rfl | rfl | rfl | rfl | rfl | rfl | rfl | rfl | rfl | rfl | rfl | rfl <;> decide
theorem ch_two (n : Int) (h : 0 ≤ n ∧ n ≤ 255) : 257 * min 255 (max (16 * (n / 16) + n % 16) 0) = 257 * n := by
  rw [show 16 * (n / 16) + n % 16 = n by omega]
  omega

theorem parse_prt (r g b a : Int) (w : World) :
    Calls Try.prog 32 #[.string ⟨(prt r g b a).toArray⟩] w fun e w' => e = .returned (.tuple #[pv (257 * n8 r) (257 * n8 g) (257 * n8 b) (257 * n8 a), .int .i64 0]) ∧ Below w.heap.size w w' := by
  have br := n8_bd r
  have bg := n8_bd g
  have bb := n8_bd b
  have ba := n8_bd a
  have e : prt r g b a = [35, hx (n8 r / 16), hx (n8 r % 16), hx (n8 g / 16), hx (n8 g % 16), hx (n8 b / 16), hx (n8 b % 16), hx (n8 a / 16), hx (n8 a % 16)] := rfl
  rw [e]
  have D : dgs false ((([35, hx (n8 r / 16), hx (n8 r % 16), hx (n8 g / 16), hx (n8 g % 16), hx (n8 b / 16), hx (n8 b % 16), hx (n8 a / 16), hx (n8 a % 16)] : List UInt8).drop 1).take 8) = [n8 r / 16, n8 r % 16, n8 g / 16, n8 g % 16, n8 b / 16, n8 b % 16, n8 a / 16, n8 a % 16] := by
    simp only [List.drop_succ_cons, List.drop_zero, List.take_succ_cons, List.take_zero, dgs, Bool.false_eq_true, if_false, List.cons_append, List.nil_append]
    rw [dg_hx _ (by omega) (by omega), dg_hx _ (by omega) (by omega), dg_hx _ (by omega) (by omega), dg_hx _ (by omega) (by omega), dg_hx _ (by omega) (by omega), dg_hx _ (by omega) (by omega), dg_hx _ (by omega) (by omega), dg_hx _ (by omega) (by omega)]
  have c := parse_yes9 ⟨[35, hx (n8 r / 16), hx (n8 r % 16), hx (n8 g / 16), hx (n8 g % 16), hx (n8 b / 16), hx (n8 b % 16), hx (n8 a / 16), hx (n8 a % 16)].toArray⟩ w rfl rfl (fun j hj => by
    have hj' : j + 1 < 9 := hj
    obtain rfl | rfl | rfl | rfl | rfl | rfl | rfl | rfl : j = 0 ∨ j = 1 ∨ j = 2 ∨ j = 3 ∨ j = 4 ∨ j = 5 ∨ j = 6 ∨ j = 7 := by omega
    · show (0 : Int) ≤ dg (hx (n8 r / 16)).toNat; rw [dg_hx _ (by omega) (by omega)]; omega
    · show (0 : Int) ≤ dg (hx (n8 r % 16)).toNat; rw [dg_hx _ (by omega) (by omega)]; omega
    · show (0 : Int) ≤ dg (hx (n8 g / 16)).toNat; rw [dg_hx _ (by omega) (by omega)]; omega
    · show (0 : Int) ≤ dg (hx (n8 g % 16)).toNat; rw [dg_hx _ (by omega) (by omega)]; omega
    · show (0 : Int) ≤ dg (hx (n8 b / 16)).toNat; rw [dg_hx _ (by omega) (by omega)]; omega
    · show (0 : Int) ≤ dg (hx (n8 b % 16)).toNat; rw [dg_hx _ (by omega) (by omega)]; omega
    · show (0 : Int) ≤ dg (hx (n8 a / 16)).toNat; rw [dg_hx _ (by omega) (by omega)]; omega
    · show (0 : Int) ≤ dg (hx (n8 a % 16)).toNat; rw [dg_hx _ (by omega) (by omega)]; omega)
  refine c.mono fun _ _ h => ⟨h.1.trans ?_, h.2⟩
  show Ending.returned (.tuple #[pD (dgs false ((([35, hx (n8 r / 16), hx (n8 r % 16), hx (n8 g / 16), hx (n8 g % 16), hx (n8 b / 16), hx (n8 b % 16), hx (n8 a / 16), hx (n8 a % 16)] : List UInt8).drop 1).take 8)), .int .i64 0]) = _
  rw [D]
  show Ending.returned (.tuple #[pv (257 * min 255 (max (16 * (n8 r / 16) + n8 r % 16) 0)) (257 * min 255 (max (16 * (n8 g / 16) + n8 g % 16) 0)) (257 * min 255 (max (16 * (n8 b / 16) + n8 b % 16) 0)) (257 * min 255 (max (16 * (n8 a / 16) + n8 a % 16) 0)), .int .i64 0]) = _
  rw [ch_two _ br, ch_two _ bg, ch_two _ bb, ch_two _ ba]

set_option maxHeartbeats 400000 in
theorem near_yes (a b n : Int) (w : World) (ha : 0 ≤ a ∧ a ≤ 65535) (hb : 0 ≤ b ∧ b ≤ 65535) (h1 : a - b ≤ n) (h2 : b - a ≤ n) :
    Calls Try.prog 36 #[.int .i64 a, .int .i64 b, .int .i64 n] w fun e w' => e = .returned (.bool true) ∧ w = w' := by
  go_enter Try.func36, Try.ntmps36
  go_wp2
  go_ret
  exact ⟨rfl, rfl⟩

set_option maxRecDepth 100000 in
set_option maxHeartbeats 2000000 in
theorem walk (r g b a v : Int) (w : World) (w0 : (Lit.int .i64 r).wf = true) (w1 : (Lit.int .i64 g).wf = true) (w2 : (Lit.int .i64 b).wf = true) (w3 : (Lit.int .i64 a).wf = true) (w4 : (Lit.int .u8 v).wf = true) :
    Calls Try.prog 10 #[pv r g b a, .int .u8 v] w fun e w' => e = .returned (.bool true) ∧ Below w.heap.size w w' := by
  have hv : 0 ≤ v ∧ v ≤ 255 := by simpa [Lit.wf, IntKind.min, IntKind.max, IntKind.signed, IntKind.bits] using w4
  clear w0 w1 w2 w3 w4
  have hlen : (prt r g b a).toArray.size = 9 := rfl
  have P1 : ∀ w : World, Calls Try.prog 34 #[pv r g b a] w fun e w' => e = .returned (.string ⟨(prt r g b a).toArray⟩) ∧ Below w.heap.size w w' := fun w => print_any _ _ _ _ w
  have P2 := fun w => parse_prt r g b a w
  have P3 : ∀ w : World, Calls Try.prog 34 #[pv (257 * n8 r) (257 * n8 g) (257 * n8 b) (257 * n8 a)] w fun e w' => e = .returned (.string ⟨(prt r g b a).toArray⟩) ∧ Below w.heap.size w w' := fun w => by
    have c := print_any (257 * n8 r) (257 * n8 g) (257 * n8 b) (257 * n8 a) w
    rw [prt_back] at c
    exact c
  have F8 : ∀ w : World, Calls Try.prog 28 #[.int .i64 v] w fun e w' => e = .returned (.int .i64 (257 * v)) ∧ w = w' := fun w => by
    have c := from8_any v w
    rw [show 257 * min 255 (max v 0) = 257 * v by omega] at c
    exact c
  have T8 : ∀ w : World, Calls Try.prog 30 #[.int .i64 (257 * v)] w fun e w' => e = .returned (.int .i64 v) ∧ w = w' := fun w => by
    have c := to8_any (257 * v) w
    rw [n8_back v hv] at c
    exact c
  have br := n8_bd r
  have bg := n8_bd g
  have bb := n8_bd b
  have ba := n8_bd a
  have V : ∀ w : World, Calls Try.prog 11 #[pv (257 * n8 r) (257 * n8 g) (257 * n8 b) (257 * n8 a)] w fun e w' => e = .returned (.bool true) ∧ Below w.heap.size w w' := fun w => by
    have c := valid_any (257 * n8 r) (257 * n8 g) (257 * n8 b) (257 * n8 a) w
    rw [cl_id (257 * n8 r) (by omega) (by omega), cl_id (257 * n8 g) (by omega) (by omega), cl_id (257 * n8 b) (by omega) (by omega), cl_id (257 * n8 a) (by omega) (by omega)] at c
    simpa using c
  have N0 := fun w => near_yes (cl r) (257 * n8 r) 128 w (cl_bd r) (by omega) (n8_near r).1 (n8_near r).2
  have N1 := fun w => near_yes (cl g) (257 * n8 g) 128 w (cl_bd g) (by omega) (n8_near g).1 (n8_near g).2
  have N2 := fun w => near_yes (cl b) (257 * n8 b) 128 w (cl_bd b) (by omega) (n8_near b).1 (n8_near b).2
  have N3 := fun w => near_yes (cl a) (257 * n8 a) 128 w (cl_bd a) (by omega) (n8_near a).1 (n8_near a).2
  clear br bg bb ba
  generalize (prt r g b a).toArray = T at *
  generalize 257 * n8 r = y0 at *
  generalize 257 * n8 g = y1 at *
  generalize 257 * n8 b = y2 at *
  generalize 257 * n8 a = y3 at *
  generalize 257 * v = v8 at *
  have H1 := Lib.hid P1
  have H2 := Lib.hid P2
  have H3 := Lib.hid P3
  have HF := Lib.hid F8
  have HT := Lib.hid T8
  have HV := Lib.hid V
  have M0 := Lib.hid N0
  have M1 := Lib.hid N1
  have M2 := Lib.hid N2
  have M3 := Lib.hid N3
  clear P1 P2 P3 F8 T8 V N0 N1 N2 N3
  have hsz : (⟨T⟩ : ByteArray).size = 9 := hlen
  clear hlen
  go_enter Try.func10, Try.ntmps10
  go_wp2_with fail
  refine callName1 (fun W k1 hb => ?_)
  refine (H1.out _).mono ?_
  rintro e W1 ⟨rfl, hS⟩
  replace k1 := k1.kept hS
  replace hb := hb.trans (hS.mono hb.size)
  clear hS
  go_wp2_with fail
  refine (H2.out _).mono ?_
  rintro e W2 ⟨rfl, hS⟩
  replace k1 := k1.kept hS
  replace hb := hb.trans (hS.mono hb.size)
  clear hS
  have hz2 := k1.lt
  go_wp2_with fail
  refine callName1 (fun W3 k2 hS => ?_)
  replace k1 := k1.kept hS
  replace hb := hb.trans (hS.mono hb.size)
  clear hS
  generalize (World.heap W2).size = N2 at *
  refine (H3.out _).mono ?_
  rintro e W4 ⟨rfl, hS⟩
  replace k1 := k1.kept hS
  replace k2 := k2.kept hS
  replace hb := hb.trans (hS.mono hb.size)
  clear hS
  go_wp2_with fail
  refine (HF.out _).mono ?_
  rintro e w' ⟨rfl, rfl⟩
  go_wp2_with fail
  refine (HT.out _).mono ?_
  rintro e w' ⟨rfl, rfl⟩
  have c1 := k1.c4
  go_wp2_with fail
  refine (refLimit_any _ _ _ _ _).mono ?_
  rintro e W5 ⟨rfl, hS⟩
  replace k1 := k1.kept hS
  replace k2 := k2.kept hS
  replace hb := hb.trans (hS.mono hb.size)
  clear hS c1
  have c1 := k1.c4
  have c2 := k2.c4
  go_wp2_with fail
  clear c1 c2
  refine callMid4 hb k1 (Nat.le_refl _) (fun W6 k1' kk hb => ?_)
  replace k2 := kk _ _ (by omega) k2
  clear kk k1
  have c1 := k1'.c4
  have c2 := k2.c4
  refine (M0.out _).mono ?_
  rintro e w' ⟨rfl, rfl⟩
  go_wp2_with fail
  refine (M1.out _).mono ?_
  rintro e w' ⟨rfl, rfl⟩
  go_wp2_with fail
  refine (M2.out _).mono ?_
  rintro e w' ⟨rfl, rfl⟩
  go_wp2_with fail
  refine (M3.out _).mono ?_
  rintro e w' ⟨rfl, rfl⟩
  go_wp2_with fail
  refine (HV.out _).mono ?_
  rintro e W7 ⟨rfl, hS⟩
  replace hb := hb.trans (hS.mono hb.size)
  clear hS c1 c2
  go_wp2_with fail
  refine (awake_any _).mono ?_
  rintro e W8 ⟨rfl, hS⟩
  go_wp2_with fail
  go_ret
  exact ⟨rfl, hb.trans (hS.mono hb.size)⟩

set_option maxRecDepth 100000 in
theorem lifted (os : Os) (started : os.Started) (H : Type) (enc : TypeId × Value → H) :
    ReturnsInHanded {} Try.checked os 10 .any (Rows.pixelNotationSpec.pre6 enc Try.prog Try.f10 Rows.pixelNotationRow.domain false) (Rows.pixelNotationSpec.post enc Try.prog Try.f10 false true false false) := by
  refine returnsInHanded_of_change_sized (C := Try.checked) ownK started (by kernel_rfl) Try.func10
    (ChangeSpec.witness6 (enc := enc) (C := Try.checked) false ⟨#[], #[.agg #[.int .i64 0, .int .i64 0, .int .i64 0, .int .i64 0], .int .u8 0], []⟩ 8 (by kernel_rfl) (by kernel_rfl) (by kernel_rfl) (by kernel_rfl)) ?_
  intro W base args ds gs before hval0 hW hcnd hsz0 _
  have hval : ∀ (j : Nat) t v, Try.f10.params[j]? = some t → args[j]? = some v → Value.okWide Try.prog W .any base t v := hval0
  have hW' := hW
  obtain ⟨p, q, hA0, hV, rfl, hfz, hnd⟩ := hW
  have hA : DataW.TrodAll enc Try.prog W 0 (fun _ => true) true Try.f10.params.toList args.toList ds p := hA0
  rw [Try.params10] at hA hval
  have hAll := hA
  obtain ⟨v0, vs0, d0, ds0, p0, q0, hargs, rfl, rfl, h0, r0⟩ := trodAll_cons hA
  obtain ⟨v1, vs1, d1, ds1, p1, q1, rfl, rfl, rfl, h1, r1⟩ := trodAll_cons r0
  obtain ⟨rfl, rfl, rfl⟩ := trodAll_nil r1
  obtain rfl : args = #[v0, v1] := by cases args; simp_all
  obtain ⟨rfl, rfl⟩ := trodVars_none hV
  have hsz : (DataW.weightsEach Try.prog [23, 5] [d0, d1]).all (· ≤ reachBytes) = true := hsz0
  clear hA0 hval0 hsz0
  have hAll' : DataW.TrodAll enc Try.prog W 0 (fun _ => true) true [23, 5] [v0, v1] [d0, d1] _ := hAll
  clear hAll
  have hargsBack : ∀ W' : World, Below W.heap.size W W' → DataW.TrodAll enc Try.prog W' 0 (fun b => decide (b < W.heap.size)) true [23, 5] [v0, v1] [d0, d1] _ := fun W' bel => belowTrodAll laidK bel _ _ _ _ (by kernel_rfl) hAll'
  have hc : Calls Try.prog 10 #[v0, v1] W fun e w' => e = .returned (.bool true) ∧ Below W.heap.size W w' := by
    clear hargsBack hAll' hW'
    obtain ⟨a0_0, a0_1, a0_2, a0_3, rfl, w0_0, w0_1, w0_2, w0_3⟩ := openPix Try.underlying23 (by kernel_rfl) (by kernel_rfl) ⟨rfl, rfl, rfl, rfl⟩ Try.underlying3 (hval 0 23 v0 rfl rfl) h0
    obtain ⟨a1, rfl, rfl, rfl, w1⟩ := open_int Try.underlying5 (hval 1 5 v1 rfl rfl) h1
    exact walk a0_0 a0_1 a0_2 a0_3 a1 W w0_0 w0_1 w0_2 w0_3 w1
  refine hc.mono fun e W' ⟨he, bel⟩ => ?_
  subst he
  exact ⟨_, rfl, _, _, _, [], _, [], hW', trodAll_mk1 (shut_bool Try.underlying4 _), hargsBack W' bel, rfl, bel.frame _, fun h => by cases h⟩

theorem over : Rows.pixelNotationRow.holds Try.pinned (OpenSpec.ofChange Rows.pixelNotationSpec) :=
  OpenClaim.holds_of_wide 10 Try.f10 rfl rfl rfl rfl rfl rfl rfl ⟨rfl, rfl, rfl, rfl, rfl⟩ rfl rfl rfl rfl rfl (by kernel_rfl) Try.func10 (by kernel_rfl)
    (of_decide_eq_true (by kernel_rfl)) (by unfold Func.isWrapper; first | (rw [if_pos (by decide +kernel)]; kernel_rfl) | (rw [if_neg (by decide +kernel)]; exact ⟨rfl, rfl⟩))
    (fun os started H enc _ => lifted os started H enc)

theorem proved : Rows.PixelNotationSaid := over

end Go.Proofs.Ytmkieeaikhndcaa.pixelText8
