/- The chapter's examples (awake), and the small functions of the statements about pixels. -/
import Derived.Test.YtmkieeaikhndcaaPixRefParse
namespace Go.Proofs.Ytmkieeaikhndcaa
open Go.RowKit
set_option linter.unusedVariables false
attribute [local go_sem] Oper.gAt gUponK

theorem ex_limit (w : World) : Calls Try.prog 13 #[pv (-1) 70000 5 0] w fun e w' => e = .returned (pv 0 65535 5 0) ∧ Below w.heap.size w w' :=
  (limit_any (-1) 70000 5 0 w).mono fun _ _ h => by simpa [cl] using h
theorem ex_pre (w : World) : Calls Try.prog 15 #[pv 65535 32768 0 32768] w fun e w' => e = .returned (pv 32768 16384 0 32768) ∧ Below w.heap.size w w' :=
  (pre_any 65535 32768 0 32768 w).mono fun _ _ h => by simpa [cl, dv] using h
theorem ex_straight (w : World) : Calls Try.prog 17 #[pv 32768 16384 0 32768] w fun e w' => e = .returned (pv 65535 32768 0 32768) ∧ Below w.heap.size w w' :=
  (straight_pos 32768 16384 0 32768 w (by decide)).mono fun _ _ h => by simpa [stC, cl, dv, Int.min_def] using h
theorem ex_fade (w : World) : Calls Try.prog 19 #[pv 1 2 3 65535, .int .i64 100] w fun e w' => e = .returned (pv 1 2 3 100) ∧ Below w.heap.size w w' :=
  (fade_pos 1 2 3 65535 100 w (by decide)).mono fun _ _ h => by simpa [fdA, cl, dv] using h
theorem ex_mix (w : World) : Calls Try.prog 22 #[pv 0 0 0 65535, pv 65535 0 0 65535, .int .i64 32768] w fun e w' => e = .returned (pv 32768 0 0 65535) ∧ Below w.heap.size w w' :=
  (mix_pos 0 0 0 65535 65535 0 0 65535 32768 w (by decide)).mono fun _ _ h => by simpa [mxC, mxA, mxU, mxV, cl, dv] using h
theorem ex_luma (w : World) : Calls Try.prog 24 #[pv 65535 0 0 65535] w fun e w' => e = .returned (.int .i64 13933) ∧ Below w.heap.size w w' :=
  (luma_any 65535 0 0 65535 w).mono fun _ _ h => by simpa [cl, dv] using h
theorem ex_dist (w : World) : Calls Try.prog 26 #[pv 0 0 0 0, pv 5 0 9 2] w fun e w' => e = .returned (.int .i64 9) ∧ Below w.heap.size w w' :=
  (dist_any 0 0 0 0 5 0 9 2 w).mono fun _ _ h => by simpa [cl, ap, Int.max_def] using h
theorem ex_from8 (w : World) : Calls Try.prog 28 #[.int .i64 255] w fun e w' => e = .returned (.int .i64 65535) ∧ w = w' :=
  (from8_any 255 w).mono fun _ _ h => by simpa [Int.min_def, Int.max_def] using h
theorem ex_to8a (w : World) : Calls Try.prog 30 #[.int .i64 128] w fun e w' => e = .returned (.int .i64 0) ∧ w = w' :=
  (to8_any 128 w).mono fun _ _ h => by simpa [cl, dv] using h
theorem ex_to8b (w : World) : Calls Try.prog 30 #[.int .i64 129] w fun e w' => e = .returned (.int .i64 1) ∧ w = w' :=
  (to8_any 129 w).mono fun _ _ h => by simpa [cl, dv] using h
theorem ex_valid (w : World) : Calls Try.prog 11 #[pv 65535 32768 0 32768] w fun e w' => e = .returned (.bool true) ∧ Below w.heap.size w w' :=
  (valid_any 65535 32768 0 32768 w).mono fun _ _ h => by simpa [cl] using h
theorem ex_invalid (w : World) : Calls Try.prog 11 #[pv (-1) 0 0 0] w fun e w' => e = .returned (.bool false) ∧ Below w.heap.size w w' :=
  (valid_any (-1) 0 0 0 w).mono fun _ _ h => by simpa [cl] using h
theorem ex_print (w : World) : Calls Try.prog 34 #[pv 65535 0 32768 65535] w fun e w' => e = .returned (.string ⟨#[35, 102, 102, 48, 48, 56, 48, 102, 102]⟩) ∧ Below w.heap.size w w' := by
  have h : prt 65535 0 32768 65535 = [35, 102, 102, 48, 48, 56, 48, 102, 102] := by decide +kernel
  have c := print_any 65535 0 32768 65535 w
  rw [h] at c
  exact c
theorem ex_parse (w : World) : Calls Try.prog 32 #[.string ⟨#[35, 102, 48, 97]⟩] w fun e w' => e = .returned (.tuple #[pv 65535 0 43690 65535, .int .i64 0]) ∧ Below w.heap.size w w' := by
  have c := parse_yes4 ⟨#[35, 102, 48, 97]⟩ w rfl rfl (fun j hj => by
    have hj' : j + 1 < 4 := hj
    obtain rfl | rfl | rfl : j = 0 ∨ j = 1 ∨ j = 2 := by omega
    · exact (show (0 : Int) ≤ dg 102 by decide)
    · exact (show (0 : Int) ≤ dg 48 by decide)
    · exact (show (0 : Int) ≤ dg 97 by decide))
  exact c.mono fun _ _ h => ⟨h.1.trans (by kernel_rfl), h.2⟩
theorem ex_parse6 (w : World) : Calls Try.prog 32 #[.string ⟨#[35, 49, 50, 51, 52, 53]⟩] w fun e w' => e = .returned (.tuple #[pv 0 0 0 0, .int .i64 4]) ∧ Below w.heap.size w w' :=
  parse_size ⟨#[35, 49, 50, 51, 52, 53]⟩ w (by decide) (by decide) (by decide) (by decide)

set_option maxRecDepth 100000 in
set_option maxHeartbeats 2000000 in
theorem awake_any (w : World) :
    Calls Try.prog 21 #[] w fun e w' => e = .returned (.bool true) ∧ Below w.heap.size w w' := by
  go_enter Try.func21, Try.ntmps21
  go_wp2_with fail
  refine callName1 (fun W k1 hb => ?_)
  refine (ex_parse _).mono ?_
  rintro e W1 ⟨rfl, hS⟩
  replace k1 := k1.kept hS
  replace hb := hb.trans (hS.mono hb.size)
  clear hS
  go_wp2_with fail
  refine callName1 (fun W2 k2 hS => ?_)
  replace k1 := k1.kept hS
  replace hb := hb.trans (hS.mono hb.size)
  clear hS
  refine (ex_parse6 _).mono ?_
  rintro e W3 ⟨rfl, hS⟩
  replace k1 := k1.kept hS
  replace k2 := k2.kept hS
  replace hb := hb.trans (hS.mono hb.size)
  clear hS
  generalize (World.heap W1).size = N1 at *
  go_wp2_with fail
  refine name3 (fun W5 k3 k4 k5 hS => ?_)
  replace k1 := k1.kept hS
  replace k2 := k2.kept hS
  replace hb := hb.trans (hS.mono hb.size)
  clear hS k3
  refine wp_region_grow 80 (fun w' => Below (World.heap W5).size W5 w') (by kernel_rfl) (by kernel_rfl) (Below.refl _ _).drew ?_
  simp only [List.append, List.take_succ_cons, List.take_zero, List.drop_succ_cons, List.drop_zero]
  repeat (first | (apply wpG_on; rfl; (intro w' hS K hK; have hc0 := (k1.kept hS).c4; have hc1 := (k2.kept hS).c4; have hc2 := (k4.kept hS).c4; have hc3 := (k5.kept hS).c4; go_simp; (first | exact hK.out _ hS | (go_at_call 13; (with_reducible refine (ex_limit _).mono ?_); rintro e w'' ⟨rfl, hbb⟩; exact ⟨_, rfl, hK.out _ (hS.trans (hbb.mono hS.size))⟩) | (go_at_call 15; (with_reducible refine (ex_pre _).mono ?_); rintro e w'' ⟨rfl, hbb⟩; exact ⟨_, rfl, hK.out _ (hS.trans (hbb.mono hS.size))⟩) | (go_at_call 17; (with_reducible refine (ex_straight _).mono ?_); rintro e w'' ⟨rfl, hbb⟩; exact ⟨_, rfl, hK.out _ (hS.trans (hbb.mono hS.size))⟩) | (go_at_call 19; (with_reducible refine (ex_fade _).mono ?_); rintro e w'' ⟨rfl, hbb⟩; exact ⟨_, rfl, hK.out _ (hS.trans (hbb.mono hS.size))⟩) | (go_at_call 22; (with_reducible refine (ex_mix _).mono ?_); rintro e w'' ⟨rfl, hbb⟩; exact ⟨_, rfl, hK.out _ (hS.trans (hbb.mono hS.size))⟩) | (go_at_call 24; (with_reducible refine (ex_luma _).mono ?_); rintro e w'' ⟨rfl, hbb⟩; exact ⟨_, rfl, hK.out _ (hS.trans (hbb.mono hS.size))⟩) | (go_at_call 26; (with_reducible refine (ex_dist _).mono ?_); rintro e w'' ⟨rfl, hbb⟩; exact ⟨_, rfl, hK.out _ (hS.trans (hbb.mono hS.size))⟩) | (go_at_call 28; (with_reducible refine (ex_from8 _).mono ?_); rintro e w'' ⟨rfl, rfl⟩; exact ⟨_, rfl, hK.out _ hS⟩) | (go_at_call 30; (with_reducible refine (ex_to8a _).mono ?_); rintro e w'' ⟨rfl, rfl⟩; exact ⟨_, rfl, hK.out _ hS⟩) | (go_at_call 30; (with_reducible refine (ex_to8b _).mono ?_); rintro e w'' ⟨rfl, rfl⟩; exact ⟨_, rfl, hK.out _ hS⟩) | (go_at_call 34; (with_reducible refine (ex_print _).mono ?_); rintro e w'' ⟨rfl, hbb⟩; exact ⟨_, rfl, hK.out _ (hS.trans (hbb.mono hS.size))⟩) | (go_at_call 11; (with_reducible refine (ex_valid _).mono ?_); rintro e w'' ⟨rfl, hbb⟩; exact ⟨_, rfl, hK.out _ (hS.trans (hbb.mono hS.size))⟩) | (go_at_call 11; (with_reducible refine (ex_invalid _).mono ?_); rintro e w'' ⟨rfl, hbb⟩; exact ⟨_, rfl, hK.out _ (hS.trans (hbb.mono hS.size))⟩))); simp only [Act.put, List.setIfInBounds_toArray, List.set_cons_succ, List.set_cons_zero]) | (apply wpG_off; rfl; simp only [Act.put, List.setIfInBounds_toArray, List.set_cons_succ, List.set_cons_zero]))
  apply wpG_nil
  intro W6 hS
  replace k1 := k1.kept hS
  replace k2 := k2.kept hS
  replace k4 := k4.kept hS
  replace k5 := k5.kept hS
  replace hb := hb.trans (hS.mono hb.size)
  clear hS
  go_wp2
  go_ret
  exact ⟨rfl, hb⟩
end Go.Proofs.Ytmkieeaikhndcaa
