/- RandomSources: whatever calls are made of two sources with one seed, and of another, they give the numbers of the reference, for every list of limits. No conditions. -/
import Derived.Test.YtccpnfkncleilaaFrame
import Derived.Test.YtccpnfkncleilaaRandSrc
namespace Go.Proofs.Ytccpnfkncleilaa.randomSources
open Go.ChangeShapes Go.WideShapes Go.ChangeAt Go.RowKit
set_option linter.unusedVariables false

/-- The four sources after k calls. -/
structure At4 (w wr : World) (s o : Int) (k : Nat) : Prop where
  a : wr.heap[w.heap.size]? = some (srcObj s k)
  b : wr.heap[w.heap.size + 1]? = some (srcObj s k)
  c : wr.heap[w.heap.size + 1 + 1]? = some (srcObj o k)
  x : wr.heap[w.heap.size + 1 + 1 + 1]? = some (refObj s k)
  below : Below w.heap.size w wr

theorem cast_succ (k : Nat) : ((k : Int) + 1) = ((k + 1 : Nat) : Int) := by omega

theorem At4.step {w w0 w1 w2 w3 w4 : World} {s o : Int} {k : Nat} (h : At4 w w0 s o k) (h1 : Chg (w.heap.size + 1 + 1) (srcObj o (k + 1)) w0 w1) (h2 : Chg (w.heap.size + 1 + 1 + 1) (refObj s (k + 1)) w1 w2)
    (h3 : Chg w.heap.size (srcObj s (k + 1)) w2 w3) (h4 : Chg (w.heap.size + 1) (srcObj s (k + 1)) w3 w4) : At4 w w4 s o (k + 1) := by
  refine ⟨?_, ?_, ?_, ?_, ?_⟩
  · rw [h4.other _ (by omega), h3.at_, cast_succ]
  · rw [h4.at_, cast_succ]
  · rw [h4.other _ (by omega), h3.other _ (by omega), h2.other _ (by omega), h1.at_, cast_succ]
  · rw [h4.other _ (by omega), h3.other _ (by omega), h2.at_, cast_succ]
  · exact (((h.below.trans (h1.below (by omega))).trans (h2.below (by omega))).trans (h3.below (by omega))).trans (h4.below (by omega))

theorem start (w : World) (s o : Int) : At4 w ((((w.alloc (srcObj s 0)).alloc (srcObj s 0)).alloc (srcObj o 0)).alloc (refObj s 0)) s o 0 := by
  refine ⟨?_, ?_, ?_, ?_, ?_⟩
  · rw [Below.heap_alloc _ _ _ (by simp <;> omega), Below.heap_alloc _ _ _ (by simp <;> omega), Below.heap_alloc _ _ _ (by simp <;> omega), heap_alloc_new]; rfl
  · rw [Below.heap_alloc _ _ _ (by simp), Below.heap_alloc _ _ _ (by simp)]
    have := heap_alloc_new (w.alloc (srcObj s 0)) (srcObj s 0)
    simpa using this
  · rw [Below.heap_alloc _ _ _ (by simp)]
    have := heap_alloc_new ((w.alloc (srcObj s 0)).alloc (srcObj s 0)) (srcObj o 0)
    simpa using this
  · have := heap_alloc_new (((w.alloc (srcObj s 0)).alloc (srcObj s 0)).alloc (srcObj o 0)) (refObj s 0)
    simpa using this
  · exact ((((Below.refl _ _).alloc (by simp) _).alloc (by simp) _).alloc (by simp; omega) _).alloc (by simp; omega) _

set_option maxHeartbeats 800000 in
theorem walk (a0 : Int) (a1 : Option Addr) (len1 cap1 : Nat) (z1 : List Int) (a2 : Int) (w : World) (w0 : (Lit.int .i64 a0).wf = true) (w1 : IsRow .i64 w a1 len1 z1) (w2 : (Lit.int .i64 a2).wf = true) :
    Calls Try.prog 6 #[.int .i64 a0, .slice a1 len1 cap1, .int .i64 a2] w fun e w' => e = .returned (.bool true) ∧ Below w.heap.size w w' := by
  obtain ⟨hzl, hlen, hwf, hrow⟩ := w1
  have HZ := Lib.hid hzl
  have HR := Lib.hid hrow
  clear hzl hrow hwf w0 w2
  have hst := start w a0 a2
  go_enter Try.func6, Try.ntmps6
  go_wp2_with fail
  refine (new_any _ _).mono ?_
  rintro e w' ⟨rfl, rfl⟩
  go_wp2_with fail
  refine (new_any _ _).mono ?_
  rintro e w' ⟨rfl, rfl⟩
  go_wp2_with fail
  refine (new_any _ _).mono ?_
  rintro e w' ⟨rfl, rfl⟩
  go_wp2_with fail
  refine (refNew_any _ _).mono ?_
  rintro e w' ⟨rfl, rfl⟩
  go_wp2_with fail
  generalize (((w.alloc (srcObj a0 0)).alloc (srcObj a0 0)).alloc (srcObj a2 0)).alloc (refObj a0 0) = W4 at *
  go_loopw [11] (fun i wr => ∃ k : Nat, k ≤ len1 ∧ i = .int .i64 k ∧ At4 w wr a0 a2 k) (fun i _ => len1 - (intOf i).toNat)
  case atStart => exact ⟨0, Nat.zero_le _, rfl, hst⟩
  case round =>
    obtain ⟨k, hk, rfl, h4⟩ := hrel
    clear hst
    by_cases hlt : k < len1
    · rcases HR.out with h0 | ⟨b, off, ha, hbl, hcell⟩
      · omega
      · subst ha
        have hc := hcell k hlt
        clear hcell
        generalize z1.getD k 0 = z at hc
        have hcell : ∀ w' : World, Below w.heap.size w w' → w'.cell? ⟨b, off + k, none⟩ = some (.int .i64 z) := fun w' hb => by rw [hb.cell hbl]; exact hc
        have HC := Lib.hid hcell
        clear hcell hc
        by_cases hz : z = 0
        · subst hz
          go_wp2_with fail
          refine (next_any a2 k _ _ h4.c (by omega) (by omega)).mono ?_
          rintro e wa ⟨rfl, h1⟩
          have b1 := h4.below.trans (h1.below (by omega))
          have c1 := HC.out wa b1
          go_wp2_with fail
          refine (refNext_any a0 k _ _ ((h1.other _ (by omega)).trans h4.x) (by omega) (by omega)).mono ?_
          rintro e wb ⟨rfl, h2⟩
          go_wp2_with fail
          refine (next_any a0 k _ _ ((h2.other _ (by omega)).trans ((h1.other _ (by omega)).trans h4.a)) (by omega) (by omega)).mono ?_
          rintro e wc ⟨rfl, h3⟩
          go_wp2_with fail
          refine (next_any a0 k _ _ ((h3.other _ (by omega)).trans ((h2.other _ (by omega)).trans ((h1.other _ (by omega)).trans h4.b))) (by omega) (by omega)).mono ?_
          rintro e wd ⟨rfl, h5⟩
          go_wp2_with fail
          go_roundw
          case rel => exact ⟨k + 1, by omega, by go_num, h4.step h1 h2 h3 h5⟩
          case measure => simp [intOf]; omega
        · have hz0 : (z == 0) = false := by simpa using hz
          clear hz
          go_wp2_with fail
          refine (next_any a2 k _ _ h4.c (by omega) (by omega)).mono ?_
          rintro e wa ⟨rfl, h1⟩
          have b1 := h4.below.trans (h1.below (by omega))
          have c1 := HC.out wa b1
          go_wp2_with fail
          refine (refSrcBelow_any a0 k z _ _ ((h1.other _ (by omega)).trans h4.x) (by omega) (by omega)).mono ?_
          rintro e wb ⟨rfl, h2⟩
          have b2 := b1.trans (h2.below (by omega))
          have c2 := HC.out wb b2
          go_wp2_with fail
          refine (srcBelow_any a0 k z _ _ ((h2.other _ (by omega)).trans ((h1.other _ (by omega)).trans h4.a)) (by omega) (by omega)).mono ?_
          rintro e wc ⟨rfl, h3⟩
          have b3 := b2.trans (h3.below (by omega))
          have c3 := HC.out wc b3
          go_wp2_with fail
          refine (srcBelow_any a0 k z _ _ ((h3.other _ (by omega)).trans ((h2.other _ (by omega)).trans ((h1.other _ (by omega)).trans h4.b))) (by omega) (by omega)).mono ?_
          rintro e wd ⟨rfl, h5⟩
          go_wp2_with fail
          go_roundw
          case rel => exact ⟨k + 1, by omega, by go_num, h4.step h1 h2 h3 h5⟩
          case measure => simp [intOf]; omega
    · obtain rfl : k = len1 := by omega
      go_wp2_with fail
      refine (next_any a0 k _ _ h4.a (by omega) (by omega)).mono ?_
      rintro e wa ⟨rfl, ha⟩
      go_wp2_with fail
      refine (refNext_any a0 k _ _ ((ha.other _ (by omega)).trans h4.x) (by omega) (by omega)).mono ?_
      rintro e wb ⟨rfl, hb⟩
      go_wp2_with fail
      refine (example_any _).mono ?_
      rintro e wc ⟨rfl, hc⟩
      go_wp2_with fail
      go_ret
      refine ⟨rfl, ?_⟩
      have h5 := (h4.below.trans (ha.below (Nat.le_refl _))).trans (hb.below (by omega))
      exact h5.trans (hc.mono h5.size)

set_option maxRecDepth 100000 in
theorem lifted (os : Os) (started : os.Started) (H : Type) (enc : TypeId × Value → H) :
    ReturnsInHanded {} Try.checked os 6 .any (Rows.randomSourcesSpec.pre6 enc Try.prog Try.f6 Rows.randomSourcesRow.domain false) (Rows.randomSourcesSpec.post enc Try.prog Try.f6 false true false false) := by
  refine returnsInHanded_of_change_sized (C := Try.checked) ownK started (by kernel_rfl) Try.func6
    (ChangeSpec.witness6 (enc := enc) (C := Try.checked) false ⟨#[], #[.int .i64 0, .slice none 0 0, .int .i64 0], []⟩ 8 (by kernel_rfl) (by kernel_rfl) (by kernel_rfl) (by kernel_rfl)) ?_
  intro W base args ds gs before hval0 hW hcnd hsz0 _
  have hval : ∀ (j : Nat) t v, Try.f6.params[j]? = some t → args[j]? = some v → Value.okWide Try.prog W .any base t v := hval0
  have hW' := hW
  obtain ⟨p, q, hA0, hV, rfl, hfz, hnd⟩ := hW
  have hA : DataW.TrodAll enc Try.prog W 0 (fun _ => true) true Try.f6.params.toList args.toList ds p := hA0
  rw [Try.params6] at hA hval
  have hAll := hA
  obtain ⟨v0, vs0, d0, ds0, p0, q0, hargs, rfl, rfl, h0, r0⟩ := trodAll_cons hA
  obtain ⟨v1, vs1, d1, ds1, p1, q1, rfl, rfl, rfl, h1, r1⟩ := trodAll_cons r0
  obtain ⟨v2, vs2, d2, ds2, p2, q2, rfl, rfl, rfl, h2, r2⟩ := trodAll_cons r1
  obtain ⟨rfl, rfl, rfl⟩ := trodAll_nil r2
  obtain rfl : args = #[v0, v1, v2] := by cases args; simp_all
  obtain ⟨rfl, rfl⟩ := trodVars_none hV
  have hsz : (DataW.weightsEach Try.prog [3, 31, 3] [d0, d1, d2]).all (· ≤ reachBytes) = true := hsz0
  clear hA0 hval0 hsz0
  have hAll' : DataW.TrodAll enc Try.prog W 0 (fun _ => true) true [3, 31, 3] [v0, v1, v2] [d0, d1, d2] _ := hAll
  clear hAll
  have hargsBack : ∀ W' : World, Below W.heap.size W W' → DataW.TrodAll enc Try.prog W' 0 (fun b => decide (b < W.heap.size)) true [3, 31, 3] [v0, v1, v2] [d0, d1, d2] _ := fun W' bel => belowTrodAll laidK bel _ _ _ _ (by kernel_rfl) hAll'
  have hc : Calls Try.prog 6 #[v0, v1, v2] W fun e w' => e = .returned (.bool true) ∧ Below W.heap.size W w' := by
    clear hargsBack hAll' hW'
    obtain ⟨a0, rfl, rfl, rfl, w0⟩ := open_int Try.underlying3 (hval 0 3 v0 rfl rfl) h0
    obtain ⟨a1, len1, cap1, z1, rfl, w1⟩ := openInts (j := 1) Try.underlying31 Try.underlying3 (by kernel_rfl) (of_decide_eq_true (by kernel_rfl)) hsz rfl rfl (hval 1 31 v1 rfl rfl) h1
    obtain ⟨a2, rfl, rfl, rfl, w2⟩ := open_int Try.underlying3 (hval 2 3 v2 rfl rfl) h2
    exact walk a0 a1 len1 cap1 z1 a2 W w0 w1 w2
  refine hc.mono fun e W' ⟨he, bel⟩ => ?_
  subst he
  exact ⟨_, rfl, _, _, _, [], _, [], hW', trodAll_mk1 (shut_bool Try.underlying4 _), hargsBack W' bel, rfl, bel.frame _, fun h => by cases h⟩

theorem over : Rows.randomSourcesRow.holds Try.pinned (OpenSpec.ofChange Rows.randomSourcesSpec) :=
  OpenClaim.holds_of_wide 6 Try.f6 rfl rfl rfl rfl rfl rfl rfl ⟨rfl, rfl, rfl, rfl, rfl⟩ rfl rfl rfl rfl rfl (by kernel_rfl) Try.func6 (by kernel_rfl)
    (of_decide_eq_true (by kernel_rfl)) (by unfold Func.isWrapper; first | (rw [if_pos (by decide +kernel)]; kernel_rfl) | (rw [if_neg (by decide +kernel)]; exact ⟨rfl, rfl⟩))
    (fun os started H enc _ => lifted os started H enc)

theorem proved : Rows.RandomSourcesSaid := over

end Go.Proofs.Ytccpnfkncleilaa.randomSources
