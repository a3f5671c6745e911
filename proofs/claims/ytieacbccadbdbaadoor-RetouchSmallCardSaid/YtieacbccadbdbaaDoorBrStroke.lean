/- The coverage of a stroke, by the program. -/
import Derived.Test.YtieacbccadbdbaaDoorLCovR
import Derived.Test.YtieacbccadbdbaaDoorBrDabs
import Derived.Test.YtieacbccadbdbaaDoorBrCov
import Derived.Deep.Cut
namespace Go.Proofs.YtieacbccadbdbaaDoor
open Go.RowKit
set_option linter.unusedVariables false
attribute [local go_sem] Oper.gAt gUponK Oper.sAt stilK

set_option maxHeartbeats 4000000 in
theorem stroke_bad1 (B : Bru) (u v : Value) (ls : List Smp) (W H : Int) (w : World) (hD : Dn w u B.ds) (hL : Sm w v ls) (hE : (dabs B ls).2 ≠ 0) :
    Calls Tryd.prog 23 #[brv B u, v, .int .i64 W, .int .i64 H] w fun e w' => e = .returned (.tuple #[.agg #[.int .i64 0, .int .i64 0, .slice none 0 0], .int .i64 (dabs B ls).2]) ∧ Below w.heap.size w w' := by
  have HD := Lib.hid hD
  have HL := Lib.hid hL
  obtain ⟨a, cap, rfl⟩ := Qn.slice hL
  obtain ⟨au, capu, rfl, _, _⟩ := hD
  have DB := Lib.hid (fun w h h' => dabs_any B (.slice au B.ds.length capu) (.slice a ls.length cap) ls w h h')
  have g : ((dabs B ls).2 != 0) = true := by simpa using hE
  clear hL hE
  generalize (dabs B ls).1 = ds at *
  generalize (dabs B ls).2 = E at *
  generalize ls.length = nl at *
  generalize B.ds.length = nd at *
  go_enter Tryd.func23, Tryd.ntmps23
  go_upto_region 1 with (fail)
  refine name2 (fun W0 kb km hb => ?_)
  have c0 := kb.c16
  go_wp2_with fail
  clear c0
  refine (DB.out _ (HD.out.kept hb) (HL.out.kept hb)).mono ?_
  rintro e W1 ⟨q1, rfl, h1, hS⟩
  replace km := km.kept hS
  replace hb := hb.trans (hS.mono hb.size)
  clear hS
  obtain ⟨a1, p1, rfl⟩ := Qn.slice h1
  clear h1
  have c3 := km.c3
  go_wp2_with fail
  exact bodyPost_ret (v := .tuple #[.agg #[.int .i64 0, .int .i64 0, .slice none 0 0], .int .i64 E]) (by simp [results, Tryd.results23, go_sem, c3]) rfl ⟨rfl, ((hb.setCell (by simp) _).setCell (by simp) _).setCell (by simp) _⟩

set_option maxHeartbeats 4000000 in
theorem stroke_bad2 (B : Bru) (u v : Value) (ls : List Smp) (W H : Int) (w : World) (hD : Dn w u B.ds) (hL : Sm w v ls) (hE : (dabs B ls).2 = 0) (hZ : W < 1 ∨ 256 < W ∨ H < 1 ∨ 256 < H) :
    Calls Tryd.prog 23 #[brv B u, v, .int .i64 W, .int .i64 H] w fun e w' => e = .returned (.tuple #[.agg #[.int .i64 0, .int .i64 0, .slice none 0 0], .int .i64 15]) ∧ Below w.heap.size w w' := by
  have HD := Lib.hid hD
  have HL := Lib.hid hL
  obtain ⟨a, cap, rfl⟩ := Qn.slice hL
  obtain ⟨au, capu, rfl, _, _⟩ := hD
  have DB := Lib.hid (fun w h h' => dabs_any B (.slice au B.ds.length capu) (.slice a ls.length cap) ls w h h')
  rw [hE] at DB
  clear hL hE
  generalize (dabs B ls).1 = ds at *
  generalize ls.length = nl at *
  generalize B.ds.length = nd at *
  go_enter Tryd.func23, Tryd.ntmps23
  go_upto_region 1 with (fail)
  refine name2 (fun W0 kb km hb => ?_)
  have c0 := kb.c16
  go_wp2_with fail
  clear c0
  refine (DB.out _ (HD.out.kept hb) (HL.out.kept hb)).mono ?_
  rintro e W1 ⟨q1, rfl, h1, hS⟩
  replace km := km.kept hS
  replace hb := hb.trans (hS.mono hb.size)
  clear hS
  obtain ⟨a1, p1, rfl⟩ := Qn.slice h1
  clear h1
  have c3 := km.c3
  have hZ2 : W < 1 ∨ (¬ W < 1 ∧ 256 < W) ∨ (¬ W < 1 ∧ ¬ 256 < W ∧ H < 1) ∨ (¬ W < 1 ∧ ¬ 256 < W ∧ ¬ H < 1 ∧ 256 < H) := by omega
  clear hZ
  have IW := Lib.hid (fun w => brWithin_any W 1 256 w)
  have IH := Lib.hid (fun w => brWithin_any H 1 256 w)
  by_cases hw : W < 1 ∨ 256 < W
  · rw [show inB W 1 256 = false from decide_eq_false (by omega)] at IW
    go_wp2_with fail
    refine (IW.out _).mono ?_
    rintro e w' ⟨rfl, rfl⟩
    go_wp2_with fail
    exact bodyPost_ret (v := .tuple #[.agg #[.int .i64 0, .int .i64 0, .slice none 0 0], .int .i64 15]) (by simp [results, Tryd.results23, go_sem, c3]) rfl ⟨rfl, ((hb.setCell (by simp) _).setCell (by simp) _).setCell (by simp) _⟩
  · rw [show inB W 1 256 = true from decide_eq_true (by omega)] at IW
    rw [show inB H 1 256 = false from decide_eq_false (by omega)] at IH
    go_wp2_with fail
    refine (IW.out _).mono ?_
    rintro e w' ⟨rfl, rfl⟩
    go_wp2_with fail
    refine (IH.out _).mono ?_
    rintro e w' ⟨rfl, rfl⟩
    go_wp2_with fail
    exact bodyPost_ret (v := .tuple #[.agg #[.int .i64 0, .int .i64 0, .slice none 0 0], .int .i64 15]) (by simp [results, Tryd.results23, go_sem, c3]) rfl ⟨rfl, ((hb.setCell (by simp) _).setCell (by simp) _).setCell (by simp) _⟩

set_option maxHeartbeats 4000000 in
theorem stroke_own (B : Bru) (u v : Value) (ls : List Smp) (W H : Nat) (w : World) (hs : Sines w) (hD : Dn w u B.ds) (hL : Sm w v ls) (hE : (dabs B ls).2 = 0) (hW : 1 ≤ W ∧ W ≤ 256) (hH : 1 ≤ H ∧ H ≤ 256) :
    Calls Tryd.prog 23 #[brv B u, v, .int .i64 W, .int .i64 H] w fun e w' => ∃ (g n c : Nat), e = .returned (.tuple #[.agg #[.int .i64 W, .int .i64 H, .slice (some ⟨g, 0, none⟩) n c], .int .i64 0]) ∧ w.heap.size ≤ g ∧ Nn w' (.slice (some ⟨g, 0, none⟩) n c) (couts B (dabs B ls).1 W H) ∧ Below w.heap.size w w' := by
  have HD := Lib.hid hD
  have HL := Lib.hid hL
  have HSn := Lib.hid hs
  obtain ⟨h0, _, hok, l1, l2, _⟩ := dabs_ok hE
  obtain ⟨a, cap, rfl⟩ := Qn.slice hL
  obtain ⟨au, capu, rfl, _, _⟩ := hD
  have DB := Lib.hid (fun w h h' => dabs_any B (.slice au B.ds.length capu) (.slice a ls.length cap) ls w h h')
  rw [hE] at DB
  have CO := Lib.hid (fun v w hs h h' => coverage_any B (dabs B ls).1 W H (.slice au B.ds.length capu) v w hs h h' h0 hok l2 hW.2 hH.2)
  have IW := Lib.hid (fun w => brWithin_any W 1 256 w)
  have IH := Lib.hid (fun w => brWithin_any H 1 256 w)
  rw [show inB (W : Int) 1 256 = true from decide_eq_true (by omega)] at IW
  rw [show inB (H : Int) 1 256 = true from decide_eq_true (by omega)] at IH
  clear hL hE hs h0 hok l1 l2
  generalize couts B (dabs B ls).1 W H = out at *
  generalize (dabs B ls).1 = ds at *
  generalize ls.length = nl at *
  generalize B.ds.length = nd at *
  go_enter Tryd.func23, Tryd.ntmps23
  go_upto_region 1 with (fail)
  refine name2 (fun W0 kb km hb => ?_)
  have c0 := kb.c16
  go_wp2_with fail
  clear c0
  refine (DB.out _ (HD.out.kept hb) (HL.out.kept hb)).mono ?_
  rintro e W1 ⟨q1, rfl, h1, hS⟩
  replace kb := kb.kept hS
  replace km := km.kept hS
  replace hb := hb.trans (hS.mono hb.size)
  clear hS
  have H1 := Lib.hid h1
  obtain ⟨a1, p1, rfl⟩ := Qn.slice h1
  clear h1
  generalize hmd : ds.length = md at *
  clear hmd
  go_wp2_with fail
  refine (IW.out _).mono ?_
  rintro e w' ⟨rfl, rfl⟩
  go_wp2_with fail
  refine (IH.out _).mono ?_
  rintro e w' ⟨rfl, rfl⟩
  have c0 := kb.c16
  go_wp2_with fail
  clear c0
  refine (CO.out _ _ (HSn.out.kept hb) (HD.out.kept hb) H1.out).mono ?_
  rintro e W2 ⟨g, n, c, rfl, hg, _, hq, hS⟩
  have lm := km.lt
  replace km := km.kept hS
  replace hb := hb.trans (hS.mono hb.size)
  clear hS
  have c3 := km.c3
  go_wp2_with fail
  have hne : ∀ b o x, some (⟨g, 0, none⟩ : Addr) = some ⟨b, o, x⟩ → b ≠ w.heap.size + 1 := fun b o x h => by
    injection h with h
    injection h with h
    omega
  refine bodyPost_ret (v := .tuple #[.agg #[.int .i64 W, .int .i64 H, .slice (some ⟨g, 0, none⟩) n c], .int .i64 0]) (by simp [results, Tryd.results23, go_sem, c3]) rfl ⟨g, n, c, rfl, by omega, nn_kept_set (nn_kept_set (nn_kept_set hq hne _) hne _) hne _, ((hb.setCell (by simp) _).setCell (by simp) _).setCell (by simp) _⟩

theorem stroke_good (B : Bru) (u v : Value) (ls : List Smp) (W H : Nat) (w : World) (hs : Sines w) (hD : Dn w u B.ds) (hL : Sm w v ls) (hE : (dabs B ls).2 = 0) (hW : 1 ≤ W ∧ W ≤ 256) (hH : 1 ≤ H ∧ H ≤ 256) :
    Calls Tryd.prog 23 #[brv B u, v, .int .i64 W, .int .i64 H] w fun e w' => ∃ q, e = .returned (.tuple #[.agg #[.int .i64 W, .int .i64 H, q], .int .i64 0]) ∧ Nn w' q (couts B (dabs B ls).1 W H) ∧ Below w.heap.size w w' := by
  refine (stroke_own B u v ls W H w hs hD hL hE hW hH).mono ?_
  rintro e w' ⟨g, n, c, rfl, _, hq, hb⟩
  exact ⟨_, rfl, hq, hb⟩

/-- What Stroke gives. -/
theorem stroke_any (B : Bru) (u v : Value) (ls : List Smp) (W H Wm Hm E : Int) (zs : List Int) (w : World) (hs : Sines w) (hD : Dn w u B.ds) (hL : Sm w v ls) (ho : StrkOut B ls W H Wm Hm E zs) :
    Calls Tryd.prog 23 #[brv B u, v, .int .i64 W, .int .i64 H] w fun e w' => ∃ q, e = .returned (.tuple #[.agg #[.int .i64 Wm, .int .i64 Hm, q], .int .i64 E]) ∧ Nn w' q zs ∧ Below w.heap.size w w' := by
  rcases ho with ⟨h, rfl, rfl, rfl, rfl⟩ | ⟨h, hz, rfl, rfl, rfl, rfl⟩ | ⟨h, ⟨h1, h2, h3, h4⟩, rfl, rfl, rfl, rfl⟩
  · refine (stroke_bad1 B u v ls W H w hD hL h).mono ?_
    rintro e w' ⟨rfl, hb⟩
    exact ⟨_, rfl, ⟨none, 0, rfl, by simp, .inl rfl⟩, hb⟩
  · refine (stroke_bad2 B u v ls W H w hD hL h hz).mono ?_
    rintro e w' ⟨rfl, hb⟩
    exact ⟨_, rfl, ⟨none, 0, rfl, by simp, .inl rfl⟩, hb⟩
  · obtain ⟨Wn, rfl⟩ : ∃ n : Nat, Wm = n := ⟨Wm.toNat, by omega⟩
    obtain ⟨Hn, rfl⟩ : ∃ n : Nat, Hm = n := ⟨Hm.toNat, by omega⟩
    exact stroke_good B u v ls Wn Hn w hs hD hL h (by omega) (by omega)
end Go.Proofs.YtieacbccadbdbaaDoor

