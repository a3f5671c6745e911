/- BrushDabs: the error of any samples, the dabs of any stroke, or the error, and their box are what the reference gives, for every brush and list of samples. -/
import Derived.Test.YtbndlidihhhnpaaBrBox
import Derived.Test.YtbndlidihhhnpaaBrDabsR
import Derived.Test.YtbndlidihhhnpaaBrEx
import Derived.Test.YtbndlidihhhnpaaBrOpen
namespace Go.Proofs.Ytbndlidihhhnpaa.brushDabs
open Go.ChangeShapes Go.WideShapes Go.ChangeAt Go.RowKit
set_option linter.unusedVariables false
attribute [local go_sem] Oper.gAt gUponK Oper.sAt stilK

set_option maxRecDepth 20000 in
set_option maxHeartbeats 8000000 in
theorem walk (B : Bru) (u v : Value) (ls : List Smp) (w : World) (hD : Dn w u B.ds) (hL : Sm w v ls) :
    Calls Try.prog 5 #[brv B u, v] w fun e w' => e = .returned (.bool true) ∧ Below w.heap.size w w' := by
  have HD := Lib.hid hD
  have HL := Lib.hid hL
  obtain ⟨a, cap, rfl⟩ := Qn.slice hL
  obtain ⟨au, capu, rfl, _, _⟩ := hD
  have D1 := Lib.hid (fun w h h' => dabs_any B (.slice au B.ds.length capu) (.slice a ls.length cap) ls w h h')
  have D2 := Lib.hid (fun w h h' => refDabs_any B (.slice au B.ds.length capu) (.slice a ls.length cap) ls w h h')
  have C1 := Lib.hid (fun w h => brCheck_any (.slice a ls.length cap) ls w h)
  have C2 := Lib.hid (fun w h => refBrCheck_any (.slice a ls.length cap) ls w h)
  have EX := Lib.hid example_any
  clear hL
  generalize (dabs B ls).2 = E at *
  generalize (dabs B ls).1 = ds at *
  generalize schk ls = E2 at *
  have B1 := Lib.hid (fun v w h => brBox_any v ds w h)
  have B2 := Lib.hid (fun v w h => refBrBox_any v ds w h)
  generalize bbox ds = r at *
  obtain ⟨r0', r1, r2, r3⟩ := r
  replace B1 : Hid (∀ v w, Bm w v ds → Calls Try.prog 20 #[v] w fun e w' => e = .returned (.agg #[.int .i64 r0', .int .i64 r1, .int .i64 r2, .int .i64 r3]) ∧ Below w.heap.size w w') := B1
  replace B2 : Hid (∀ v w, Bm w v ds → Calls Try.prog 21 #[v] w fun e w' => e = .returned (.agg #[.int .i64 r0', .int .i64 r1, .int .i64 r2, .int .i64 r3]) ∧ Below w.heap.size w w') := B2
  generalize ls.length = n at *
  generalize B.ds.length = nd at *
  go_enter Try.func5, Try.ntmps5
  go_upto_region 1 with (fail)
  refine name1 (fun W0 k0 hb => ?_)
  have c0 := k0.c16
  go_wp2_with fail
  clear c0
  refine (D1.out _ (HD.out.kept hb) (HL.out.kept hb)).mono ?_
  rintro e W1 ⟨q1, rfl, h1, hS⟩
  replace k0 := k0.kept hS
  replace hb := hb.trans (hS.mono hb.size)
  clear hS
  have H1 := Lib.hid h1
  obtain ⟨a1, p1, rfl⟩ := Qn.slice h1
  clear h1
  have c0 := k0.c16
  go_wp2_with fail
  clear c0
  refine (D2.out _ (HD.out.kept hb) (HL.out.kept hb)).mono ?_
  rintro e W2 ⟨q2, rfl, h2, hS⟩
  replace hb := hb.trans (hS.mono hb.size)
  have H1' := Lib.hid (H1.out.kept hS)
  clear hS k0 H1
  have H2 := Lib.hid h2
  obtain ⟨a2, p2, rfl⟩ := Qn.slice h2
  clear h2
  have BW := Below.refl W2.heap.size W2
  generalize hm : ds.length = m at *
  have HM := Lib.hid hm
  clear hm
  go_wp2_with fail
  refine (C1.out _ (HL.out.kept hb)).mono ?_
  rintro e W3 ⟨rfl, hS⟩
  replace hb := hb.trans (hS.mono hb.size)
  replace BW := BW.trans (hS.mono BW.size)
  clear hS
  go_wp2_with fail
  refine (C2.out _ (HL.out.kept hb)).mono ?_
  rintro e W4 ⟨rfl, hS⟩
  replace hb := hb.trans (hS.mono hb.size)
  replace BW := BW.trans (hS.mono BW.size)
  clear hS
  go_wp2_with fail
  refine (sameDabs_true _ _ ds _ (H1'.out.kept BW) (H2.out.kept BW)).mono ?_
  rintro e W5 ⟨rfl, hS⟩
  replace hb := hb.trans (hS.mono hb.size)
  replace BW := BW.trans (hS.mono BW.size)
  clear hS
  go_wp2_with fail
  refine (B1.out _ _ (H2.out.kept BW)).mono ?_
  rintro e W6 ⟨rfl, hS⟩
  replace hb := hb.trans (hS.mono hb.size)
  replace BW := BW.trans (hS.mono BW.size)
  clear hS
  go_wp2_with fail
  refine (B2.out _ _ (H2.out.kept BW)).mono ?_
  rintro e W7 ⟨rfl, hS⟩
  replace hb := hb.trans (hS.mono hb.size)
  clear hS BW
  go_wp2_with fail
  refine (EX.out _).mono ?_
  rintro e W8 ⟨rfl, hS⟩
  replace hb := hb.trans (hS.mono hb.size)
  go_wp2_with fail
  go_ret
  exact ⟨rfl, hb⟩


set_option maxRecDepth 100000 in
theorem lifted (os : Os) (started : os.Started) (H : Type) (enc : TypeId × Value → H) :
    ReturnsInHanded {} Try.checked os 5 .any (Rows.brushDabsSpec.pre6 enc Try.prog Try.f5 Rows.brushDabsRow.domain false) (Rows.brushDabsSpec.post enc Try.prog Try.f5 false true false false) := by
  refine returnsInHanded_of_change_sized (C := Try.checked) ownK started (by kernel_rfl) Try.func5
    (ChangeSpec.witness6 (enc := enc) (C := Try.checked) false ⟨#[], #[.agg #[.int .i64 0, .int .i64 0, .int .i64 0, .int .i64 0, .int .i64 0, .int .i64 0, .int .i64 0, .int .i64 0, .int .i64 0, .int .i64 0, .int .i64 0, .int .i64 0, .int .i64 0, .int .i64 0, .slice none 0 0, .bool false], .slice none 0 0], []⟩ 8 (by kernel_rfl) (by kernel_rfl) (by kernel_rfl) (by kernel_rfl)) ?_
  intro W base args ds gs before hval0 hW hcnd hsz0 _
  have hval : ∀ (j : Nat) t v, Try.f5.params[j]? = some t → args[j]? = some v → Value.okWide Try.prog W .any base t v := hval0
  have hW' := hW
  obtain ⟨p, q, hA0, hV, rfl, hfz, hnd⟩ := hW
  have hA : DataW.TrodAll enc Try.prog W 0 (fun _ => true) true Try.f5.params.toList args.toList ds p := hA0
  rw [Try.params5] at hA hval
  have hAll := hA
  obtain ⟨v0, vs0, d0, ds0, p0, q0, hargs, rfl, rfl, h0, r0⟩ := trodAll_cons hA
  obtain ⟨v1, vs1, d1, ds1, p1, q1, rfl, rfl, rfl, h1, r1⟩ := trodAll_cons r0
  obtain ⟨rfl, rfl, rfl⟩ := trodAll_nil r1
  obtain rfl : args = #[v0, v1] := by cases args; simp_all
  obtain ⟨rfl, rfl⟩ := trodVars_none hV
  have hsz : (DataW.weightsEach Try.prog [41, 42] [d0, d1]).all (· ≤ reachBytes) = true := hsz0
  clear hA0 hval0 hsz0
  have hAll' : DataW.TrodAll enc Try.prog W 0 (fun _ => true) true [41, 42] [v0, v1] [d0, d1] _ := hAll
  clear hAll
  have hargsBack : ∀ W' : World, Below W.heap.size W W' → DataW.TrodAll enc Try.prog W' 0 (fun b => decide (b < W.heap.size)) true [41, 42] [v0, v1] [d0, d1] _ := fun W' bel => belowTrodAll laidK bel _ _ _ _ (by kernel_rfl) hAll'
  have hc : Calls Try.prog 5 #[v0, v1] W fun e w' => e = .returned (.bool true) ∧ Below W.heap.size W w' := by
    clear hargsBack hAll' hW'
    obtain ⟨B0, u0, rfl, hD0⟩ := openBrush (hval 0 41 v0 rfl rfl) h0
    obtain ⟨ls1, hl1⟩ := openSms (hval 1 42 v1 rfl rfl) h1
    exact walk B0 u0 v1 ls1 W hD0 hl1
  refine hc.mono fun e W' ⟨he, bel⟩ => ?_
  subst he
  exact ⟨_, rfl, _, _, _, [], _, [], hW', trodAll_mk1 (shut_bool Try.underlying4 _), hargsBack W' bel, rfl, bel.frame _, fun h => by cases h⟩

theorem over : Rows.brushDabsRow.holds Try.pinned (OpenSpec.ofChange Rows.brushDabsSpec) :=
  OpenClaim.holds_of_wide 5 Try.f5 rfl rfl rfl rfl rfl rfl rfl ⟨rfl, rfl, rfl, rfl, rfl⟩ rfl rfl rfl rfl rfl (by kernel_rfl) Try.func5 (by kernel_rfl)
    (of_decide_eq_true (by kernel_rfl)) (by unfold Func.isWrapper; first | (rw [if_pos (by decide +kernel)]; kernel_rfl) | (rw [if_neg (by decide +kernel)]; exact ⟨rfl, rfl⟩))
    (fun os started H enc _ => lifted os started H enc)

theorem proved : Rows.BrushDabsSaid := over

end Go.Proofs.Ytbndlidihhhnpaa.brushDabs
