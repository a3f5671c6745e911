/- PixelTexts: for every pixel and every text, Print and Parse are the reference's. No conditions. -/
import Derived.Test.YtmkieeaikhndcaaFrame
import Derived.Test.YtmkieeaikhndcaaPixAwake
namespace Go.Proofs.Ytmkieeaikhndcaa.pixelTexts
open Go.ChangeShapes Go.WideShapes Go.ChangeAt Go.RowKit
set_option linter.unusedVariables false
attribute [local go_sem] Oper.gAt gUponK

/-- Whatever the text: Parse and its reference give one pixel and one error. -/
theorem both (s : ByteArray) (hn : s.size ≤ 9223372036854775807) : ∃ r g b a er : Int,
    (∀ w : World, Calls Try.prog 32 #[.string s] w fun e w' => e = .returned (.tuple #[pv r g b a, .int .i64 er]) ∧ Below w.heap.size w w') ∧
    (∀ w : World, Calls Try.prog 33 #[.string s] w fun e w' => e = .returned (.tuple #[pv r g b a, .int .i64 er]) ∧ Below w.heap.size w w') := by
  by_cases h4 : s.size = 4
  · by_cases h0 : s[0].toNat = 35
    · by_cases hd : ∀ j (hj : j + 1 < s.size), 0 ≤ dg s[j + 1].toNat
      · exact ⟨_, _, _, _, _, fun w => parse_yes4 s w h4 h0 hd, fun w => refParse_yes4 s w h4 h0 hd⟩
      · have hd' : ∃ j, ∃ hj : j + 1 < s.size, dg s[j + 1].toNat < 0 := by
          rcases Classical.em (∃ j, ∃ hj : j + 1 < s.size, dg s[j + 1].toNat < 0) with h | h
          · exact h
          · exfalso
            apply hd
            intro j hj
            rcases Int.lt_or_le (dg s[j + 1].toNat) 0 with h2 | h2
            · exact absurd ⟨j, hj, h2⟩ h
            · exact h2
        exact ⟨_, _, _, _, _, fun w => parse_no4 s w h4 h0 hd', fun w => refParse_no4 s w h4 h0 hd'⟩
    · exact ⟨_, _, _, _, _, fun w => parse_head4 s w h4 h0, fun w => refParse_head4 s w h4 h0⟩
  by_cases h7 : s.size = 7
  · by_cases h0 : s[0].toNat = 35
    · by_cases hd : ∀ j (hj : j + 1 < s.size), 0 ≤ dg s[j + 1].toNat
      · exact ⟨_, _, _, _, _, fun w => parse_yes7 s w h7 h0 hd, fun w => refParse_yes7 s w h7 h0 hd⟩
      · have hd' : ∃ j, ∃ hj : j + 1 < s.size, dg s[j + 1].toNat < 0 := by
          rcases Classical.em (∃ j, ∃ hj : j + 1 < s.size, dg s[j + 1].toNat < 0) with h | h
          · exact h
          · exfalso
            apply hd
            intro j hj
            rcases Int.lt_or_le (dg s[j + 1].toNat) 0 with h2 | h2
            · exact absurd ⟨j, hj, h2⟩ h
            · exact h2
        exact ⟨_, _, _, _, _, fun w => parse_no7 s w h7 h0 hd', fun w => refParse_no7 s w h7 h0 hd'⟩
    · exact ⟨_, _, _, _, _, fun w => parse_head7 s w h7 h0, fun w => refParse_head7 s w h7 h0⟩
  by_cases h9 : s.size = 9
  · by_cases h0 : s[0].toNat = 35
    · by_cases hd : ∀ j (hj : j + 1 < s.size), 0 ≤ dg s[j + 1].toNat
      · exact ⟨_, _, _, _, _, fun w => parse_yes9 s w h9 h0 hd, fun w => refParse_yes9 s w h9 h0 hd⟩
      · have hd' : ∃ j, ∃ hj : j + 1 < s.size, dg s[j + 1].toNat < 0 := by
          rcases Classical.em (∃ j, ∃ hj : j + 1 < s.size, dg s[j + 1].toNat < 0) with h | h
          · exact h
          · exfalso
            apply hd
            intro j hj
            rcases Int.lt_or_le (dg s[j + 1].toNat) 0 with h2 | h2
            · exact absurd ⟨j, hj, h2⟩ h
            · exact h2
        exact ⟨_, _, _, _, _, fun w => parse_no9 s w h9 h0 hd', fun w => refParse_no9 s w h9 h0 hd'⟩
    · exact ⟨_, _, _, _, _, fun w => parse_head9 s w h9 h0, fun w => refParse_head9 s w h9 h0⟩
  exact ⟨_, _, _, _, _, fun w => parse_size s w hn h4 h7 h9, fun w => refParse_size s w hn h4 h7 h9⟩

set_option maxHeartbeats 1000000 in
theorem walk (r g b a : Int) (s : ByteArray) (w : World) (w0 : (Lit.int .i64 r).wf = true) (w1 : (Lit.int .i64 g).wf = true) (w2 : (Lit.int .i64 b).wf = true) (w3 : (Lit.int .i64 a).wf = true) (hs : s.size ≤ maxLen) :
    Calls Try.prog 6 #[pv r g b a, .string s] w fun e w' => e = .returned (.bool true) ∧ Below w.heap.size w w' := by
  clear w0 w1 w2 w3
  obtain ⟨r1, g1, b1, a1, er, P1, P2⟩ := both s (by unfold maxLen at hs; exact hs)
  have H1 := Lib.hid P1
  have H2 := Lib.hid P2
  clear P1 P2 hs
  go_enter Try.func6, Try.ntmps6
  go_wp2_with fail
  refine callName1 (fun W k1 hb => ?_)
  refine (H1.out _).mono ?_
  rintro e W1 ⟨rfl, hS⟩
  replace k1 := k1.kept hS
  replace hb := hb.trans (hS.mono hb.size)
  clear hS
  go_wp2_with fail
  refine callName1 (fun W2 k2 hS => ?_)
  replace k1 := k1.kept hS
  replace hb := hb.trans (hS.mono hb.size)
  clear hS
  generalize (World.heap W1).size = N1 at *
  refine (H2.out _).mono ?_
  rintro e W3 ⟨rfl, hS⟩
  replace k1 := k1.kept hS
  replace k2 := k2.kept hS
  replace hb := hb.trans (hS.mono hb.size)
  clear hS H1 H2
  go_wp2_with fail
  refine name1 (fun W4 k3 hS => ?_)
  replace k1 := k1.kept hS
  replace k2 := k2.kept hS
  replace hb := hb.trans (hS.mono hb.size)
  clear hS
  generalize (World.heap W3).size = N3 at *
  refine wp_region_grow 18 (fun w' => Below (World.heap W4).size W4 w') (by kernel_rfl) (by kernel_rfl) (Below.refl _ _).drew ?_
  simp only [List.take_succ_cons, List.take_zero, List.drop_succ_cons, List.drop_zero]
  repeat (first | (apply wpG_on; rfl; (intro w' hS K hK; have hc0 := (k1.kept hS).c4; have hc1 := (k2.kept hS).c4; have hc2 := (k3.kept hS).c4; go_simp; (first | exact hK.out _ hS | (go_at_call 34; (with_reducible refine (print_any _ _ _ _ _).mono ?_); rintro e w'' ⟨rfl, hbb⟩; exact ⟨_, rfl, hK.out _ (hS.trans (hbb.mono hS.size))⟩) | (go_at_call 35; (with_reducible refine (refPrint_any _ _ _ _ _).mono ?_); rintro e w'' ⟨rfl, hbb⟩; exact ⟨_, rfl, hK.out _ (hS.trans (hbb.mono hS.size))⟩) | (go_at_call 21; (with_reducible refine (awake_any _).mono ?_); rintro e w'' ⟨rfl, hbb⟩; exact ⟨_, rfl, hK.out _ (hS.trans (hbb.mono hS.size))⟩))); simp only [Act.put, List.setIfInBounds_toArray, List.set_cons_succ, List.set_cons_zero]) | (apply wpG_off; rfl; simp only [Act.put, List.setIfInBounds_toArray, List.set_cons_succ, List.set_cons_zero]))
  apply wpG_nil
  intro W5 hS
  replace k1 := k1.kept hS
  replace k2 := k2.kept hS
  replace k3 := k3.kept hS
  replace hb := hb.trans (hS.mono hb.size)
  clear hS
  go_wp2
  go_ret
  exact ⟨rfl, hb⟩

set_option maxRecDepth 100000 in
theorem lifted (os : Os) (started : os.Started) (H : Type) (enc : TypeId × Value → H) :
    ReturnsInHanded {} Try.checked os 6 .any (Rows.pixelTextsSpec.pre6 enc Try.prog Try.f6 Rows.pixelTextsRow.domain false) (Rows.pixelTextsSpec.post enc Try.prog Try.f6 false true false false) := by
  refine returnsInHanded_of_change_sized (C := Try.checked) ownK started (by kernel_rfl) Try.func6
    (ChangeSpec.witness6 (enc := enc) (C := Try.checked) false ⟨#[], #[.agg #[.int .i64 0, .int .i64 0, .int .i64 0, .int .i64 0], .string ByteArray.empty], []⟩ 8 (by kernel_rfl) (by kernel_rfl) (by kernel_rfl) (by kernel_rfl)) ?_
  intro W base args ds gs before hval0 hW hcnd hsz0 _
  have hval : ∀ (j : Nat) t v, Try.f6.params[j]? = some t → args[j]? = some v → Value.okWide Try.prog W .any base t v := hval0
  have hW' := hW
  obtain ⟨p, q, hA0, hV, rfl, hfz, hnd⟩ := hW
  have hA : DataW.TrodAll enc Try.prog W 0 (fun _ => true) true Try.f6.params.toList args.toList ds p := hA0
  rw [Try.params6] at hA hval
  have hAll := hA
  obtain ⟨v0, vs0, d0, ds0, p0, q0, hargs, rfl, rfl, h0, r0⟩ := trodAll_cons hA
  obtain ⟨v1, vs1, d1, ds1, p1, q1, rfl, rfl, rfl, h1, r1⟩ := trodAll_cons r0
  obtain ⟨rfl, rfl, rfl⟩ := trodAll_nil r1
  obtain rfl : args = #[v0, v1] := by cases args; simp_all
  obtain ⟨rfl, rfl⟩ := trodVars_none hV
  have hsz : (DataW.weightsEach Try.prog [23, 9] [d0, d1]).all (· ≤ reachBytes) = true := hsz0
  clear hA0 hval0 hsz0
  have hAll' : DataW.TrodAll enc Try.prog W 0 (fun _ => true) true [23, 9] [v0, v1] [d0, d1] _ := hAll
  clear hAll
  have hargsBack : ∀ W' : World, Below W.heap.size W W' → DataW.TrodAll enc Try.prog W' 0 (fun b => decide (b < W.heap.size)) true [23, 9] [v0, v1] [d0, d1] _ := fun W' bel => belowTrodAll laidK bel _ _ _ _ (by kernel_rfl) hAll'
  have hc : Calls Try.prog 6 #[v0, v1] W fun e w' => e = .returned (.bool true) ∧ Below W.heap.size W w' := by
    clear hargsBack hAll' hW'
    obtain ⟨a0_0, a0_1, a0_2, a0_3, rfl, w0_0, w0_1, w0_2, w0_3⟩ := openPix Try.underlying23 (by kernel_rfl) (by kernel_rfl) ⟨rfl, rfl, rfl, rfl⟩ Try.underlying3 (hval 0 23 v0 rfl rfl) h0
    obtain ⟨a1, rfl, rfl, rfl, w1⟩ := Go.ChangeMaps.open_string Try.underlying9 (hval 1 9 v1 rfl rfl) h1
    exact walk a0_0 a0_1 a0_2 a0_3 a1 W w0_0 w0_1 w0_2 w0_3 w1
  refine hc.mono fun e W' ⟨he, bel⟩ => ?_
  subst he
  exact ⟨_, rfl, _, _, _, [], _, [], hW', trodAll_mk1 (shut_bool Try.underlying4 _), hargsBack W' bel, rfl, bel.frame _, fun h => by cases h⟩

theorem over : Rows.pixelTextsRow.holds Try.pinned (OpenSpec.ofChange Rows.pixelTextsSpec) :=
  OpenClaim.holds_of_wide 6 Try.f6 rfl rfl rfl rfl rfl rfl rfl ⟨rfl, rfl, rfl, rfl, rfl⟩ rfl rfl rfl rfl rfl (by kernel_rfl) Try.func6 (by kernel_rfl)
    (of_decide_eq_true (by kernel_rfl)) (by unfold Func.isWrapper; first | (rw [if_pos (by decide +kernel)]; kernel_rfl) | (rw [if_neg (by decide +kernel)]; exact ⟨rfl, rfl⟩))
    (fun os started H enc _ => lifted os started H enc)

theorem proved : Rows.PixelTextsSaid := over

end Go.Proofs.Ytmkieeaikhndcaa.pixelTexts
