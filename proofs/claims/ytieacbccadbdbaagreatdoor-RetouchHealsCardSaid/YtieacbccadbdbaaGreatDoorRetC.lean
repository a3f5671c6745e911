/- retouch.Clone (printed by genclone.py). -/
import Derived.Test.YtieacbccadbdbaaGreatDoorRetPr
import Derived.Test.YtieacbccadbdbaaGreatDoorLBrS
import Derived.Test.YtieacbccadbdbaaGreatDoorLOver
import Derived.Test.YtieacbccadbdbaaGreatDoorLMask
import Derived.Deep.DeepCutAuto
import Derived.Deep.Cut
namespace Go.Proofs.YtieacbccadbdbaaGreatDoor
open Go.RowKit
set_option linter.unusedVariables false
attribute [local go_sem] Oper.gAt gUponK Oper.sAt stilK

theorem infoImgR : (Tryz.prog.info? 24).map (·.size) = some 3 := by kernel_rfl
theorem nnAt0 {w : World} {g n c : Nat} {zs : List Int} (h : Nn w (.slice (some ⟨g, 0, none⟩) n c) zs) (i : Nat) (hi : i < n) : w.cell? ⟨g, i, none⟩ = some (.int .i64 (zs.getD i 0)) := by
  obtain ⟨b, off, e, hc⟩ := h.at i hi
  injection e with e
  injection e with e1 e2
  subst e1 e2
  simpa using hc
theorem nnKept4 {w : World} {gc g n c : Nat} {zs : List Int} (h : Nn w (.slice (some ⟨gc, 0, none⟩) n c) zs) (hne : gc ≠ g) (o0 o1 o2 o3 : Nat) (v0 v1 v2 v3 : Value) : Nn ((((w.setCell ⟨g, o0, none⟩ v0).setCell ⟨g, o1, none⟩ v1).setCell ⟨g, o2, none⟩ v2).setCell ⟨g, o3, none⟩ v3) (.slice (some ⟨gc, 0, none⟩) n c) zs := by
  have hx : ∀ b o x, some (⟨gc, 0, none⟩ : Addr) = some ⟨b, o, x⟩ → b ≠ g := fun b o x h => by
    injection h with h
    injection h with h
    omega
  exact nn_kept_set (nn_kept_set (nn_kept_set (nn_kept_set h hx _) hx _) hx _) hx _
theorem nnLt {w : World} {g n c : Nat} {zs : List Int} (h : Nn w (.slice (some ⟨g, 0, none⟩) n c) zs) (hn : 0 < n) : g < w.heap.size := by
  obtain ⟨a', cap', hv, hl, hr⟩ := h
  simp only [Value.slice.injEq] at hv
  obtain ⟨rfl, rfl, rfl⟩ := hv
  rcases hr with h0 | ⟨b, off, ha, hlt, hc⟩
  · omega
  · simp only [Option.some.injEq, Addr.mk.injEq] at ha
    omega
/-- A struct of four cells stored whole into a block of the call's own: what else stays. -/
theorem mid4q {P : Program} {c : Code} {Q : Exit → Act → World → Prop} {a : Act} {B : Nat} {w0 w : World} {b : Nat} {x0 x1 x2 x3 v0 v1 v2 v3 : Value} {t : TypeId} (hb : Below B w0 w) (k : Blk w b (.cells #[x0, x1, x2, x3] t (0, 0))) (hB : B ≤ b)
    (hn : ∀ w2 : World, Blk w2 b (.cells #[v0, v1, v2, v3] t (0, 0)) → (∀ i o, i ≠ b → Blk w i o → Blk w2 i o) → (∀ gc n c zs, gc ≠ b → Nn w (.slice (some ⟨gc, 0, none⟩) n c) zs → Nn w2 (.slice (some ⟨gc, 0, none⟩) n c) zs) → Below B w0 w2 → c.wp P Q a w2) :
    c.wp P Q a ((((w.setCell ⟨b, 0, none⟩ v0).setCell ⟨b, 1, none⟩ v1).setCell ⟨b, 2, none⟩ v2).setCell ⟨b, 3, none⟩ v3) :=
  have ch := set4 k v0 v1 v2 v3
  hn _ ch.blk (fun i o hi => ch.keeps i o hi) (fun gc n c zs hne h => nnKept4 h hne _ _ _ _ _ _ _ _) (hb.trans (ch.below hB))
theorem Row.via {w w2 : World} {g n b : Nat} {f : Nat → Px} (h : Row w g n f) (kk : ∀ i o, i ≠ b → Blk w i o → Blk w2 i o) (hne : g ≠ b) : Row w2 g n f := by
  obtain ⟨cs, t, hh, r⟩ := h
  exact ⟨cs, t, kk _ _ hne hh, r⟩
/-- The first k elements are written, the others are as they were. -/
theorem Row.step {w : World} {g n : Nat} {r p : Nat → Px} {k : Nat} (h : Row w g n (fun i => if i < k then r i else p i)) (hk : k < n) :
    Row ((((w.setCell ⟨g, k * 4, none⟩ (.int .i64 (r k).1)).setCell ⟨g, k * 4 + 1, none⟩ (.int .i64 (r k).2.1)).setCell ⟨g, k * 4 + 2, none⟩ (.int .i64 (r k).2.2.1)).setCell ⟨g, k * 4 + 3, none⟩ (.int .i64 (r k).2.2.2)) g n (fun i => if i < k + 1 then r i else p i) := by
  refine (h.set k hk (r k)).congr fun i hi => ?_
  by_cases e : i = k
  · subst e; simp
  · by_cases e2 : i < k
    · rw [if_neg e, if_pos e2, if_pos (by omega)]
    · rw [if_neg e, if_neg e2, if_neg (by omega)]
theorem Row.skip {w : World} {g n : Nat} {r p : Nat → Px} {k : Nat} (h : Row w g n (fun i => if i < k then r i else p i)) (he : r k = p k) : Row w g n (fun i => if i < k + 1 then r i else p i) := by
  refine h.congr fun i hi => ?_
  by_cases e : i = k
  · subst e; simp [he]
  · by_cases e2 : i < k
    · rw [if_pos e2, if_pos (by omega)]
    · rw [if_neg e2, if_neg (by omega)]
theorem Row.start {w : World} {g n : Nat} {r p : Nat → Px} (h : Row w g n p) : Row w g n (fun i => if i < 0 then r i else p i) := h.congr fun i _ => by rw [if_neg (by omega)]

set_option maxHeartbeats 4000000 in
set_option maxRecDepth 100000 in
theorem clone_bad1 (iw ih : Int) (iv : Value) (ps : List Px) (B : Bru) (u lv : Value) (ls : List Smp) (ox oy mw mh : Int) (mv : Value) (zs : List Int) (w : World) (hI : Pn w iv ps) (hD : Dn w u B.ds) (hL : Sm w lv ls) (hM : Nn w mv zs) (hE : prepE iw ih ps B ls mw mh zs ≠ 0) :
    Calls Tryz.prog 6 #[.agg #[.int .i64 iw, .int .i64 ih, iv], brv B u, lv, .agg #[.int .i64 ox, .int .i64 oy], .agg #[.int .i64 mw, .int .i64 mh, mv]] w fun e w' => e = .returned (.tuple #[.agg #[.int .i64 0, .int .i64 0, .slice none 0 0], .int .i64 (prepE iw ih ps B ls mw mh zs)]) ∧ Below w.heap.size w w' := by
  have HI := Lib.hid hI
  have HD := Lib.hid hD
  have HL := Lib.hid hL
  have HM := Lib.hid hM
  obtain ⟨ai, ci, rfl⟩ := hI.slice
  obtain ⟨a, cap, rfl⟩ := Qn.slice hL
  obtain ⟨au, capu, rfl, _, _⟩ := hD
  obtain ⟨am, cm, rfl, _⟩ := hM.slice
  have PR : Hid (∀ w, Pn w (.slice ai ps.length ci) ps → Dn w (.slice au B.ds.length capu) B.ds → Sm w (.slice a ls.length cap) ls → Nn w (.slice am zs.length cm) zs → Calls Tryz.prog 14 #[.agg #[.int .i64 iw, .int .i64 ih, .slice ai ps.length ci], brv B (.slice au B.ds.length capu), .slice a ls.length cap, .agg #[.int .i64 mw, .int .i64 mh, .slice am zs.length cm]] w fun e w' => ∃ a1 n1 c1, e = .returned (.tuple #[.slice a1 n1 c1, .int .i64 (prepE iw ih ps B ls mw mh zs)]) ∧ Below w.heap.size w w') := fun w h1 h2 h3 h4 => by
    refine (prep_any iw ih (.slice ai ps.length ci) ps B (.slice au B.ds.length capu) (.slice a ls.length cap) ls mw mh (.slice am zs.length cm) zs w h1 h2 h3 h4).mono ?_
    rintro e w' ⟨q, rfl, _, ⟨a1, n1, c1, rfl⟩, hb⟩
    exact ⟨a1, n1, c1, rfl, hb⟩
  have be : (prepE iw ih ps B ls mw mh zs != 0) = true := by simpa using hE
  clear hI hL hM hE
  generalize prepE iw ih ps B ls mw mh zs = E at *
  generalize ps.length = ni at *
  generalize zs.length = nz at *
  generalize ls.length = nl at *
  generalize B.ds.length = nd at *
  go_enter Tryz.func6, Tryz.ntmps6
  go_upto_region 1 with (fail)
  refine name5 (fun W1 k1 k2 k3 k4 k5 hb => ?_)
  have c1 := k1.c3
  have c2 := k2.c16
  have c4 := k4.c3
  go_wp2_with fail
  clear c1 c2 c4
  refine (PR.out _ (HI.out.kept hb) (HD.out.kept hb) (HL.out.kept hb) (HM.out.kept hb)).mono ?_
  rintro e W2 ⟨a1, n1, p1, rfl, hS⟩
  replace k1 := k1.kept hS
  replace k2 := k2.kept hS
  replace k3 := k3.kept hS
  replace k4 := k4.kept hS
  replace k5 := k5.kept hS
  replace hb := hb.trans (hS.mono hb.size)
  clear hS PR
  have c5 := k5.c3
  go_wp2_with fail
  exact bodyPost_ret (v := .tuple #[.agg #[.int .i64 0, .int .i64 0, .slice none 0 0], .int .i64 E]) (by simp [results, Tryz.results6, go_sem, c5]) rfl ⟨rfl, ((hb.setCell (by simp; omega) _).setCell (by simp; omega) _).setCell (by simp; omega) _⟩

set_option maxHeartbeats 4000000 in
set_option maxRecDepth 100000 in
theorem clone_bad2 (iw ih : Int) (iv : Value) (ps : List Px) (B : Bru) (u lv : Value) (ls : List Smp) (ox oy mw mh : Int) (mv : Value) (zs : List Int) (w : World) (hI : Pn w iv ps) (hD : Dn w u B.ds) (hL : Sm w lv ls) (hM : Nn w mv zs) (hE : prepE iw ih ps B ls mw mh zs = 0) (ho : ¬ cOff ox oy) :
    Calls Tryz.prog 6 #[.agg #[.int .i64 iw, .int .i64 ih, iv], brv B u, lv, .agg #[.int .i64 ox, .int .i64 oy], .agg #[.int .i64 mw, .int .i64 mh, mv]] w fun e w' => e = .returned (.tuple #[.agg #[.int .i64 0, .int .i64 0, .slice none 0 0], .int .i64 2]) ∧ Below w.heap.size w w' := by
  have HI := Lib.hid hI
  have HD := Lib.hid hD
  have HL := Lib.hid hL
  have HM := Lib.hid hM
  obtain ⟨ai, ci, rfl⟩ := hI.slice
  obtain ⟨a, cap, rfl⟩ := Qn.slice hL
  obtain ⟨au, capu, rfl, _, _⟩ := hD
  obtain ⟨am, cm, rfl, _⟩ := hM.slice
  have PR : Hid (∀ w, Pn w (.slice ai ps.length ci) ps → Dn w (.slice au B.ds.length capu) B.ds → Sm w (.slice a ls.length cap) ls → Nn w (.slice am zs.length cm) zs → Calls Tryz.prog 14 #[.agg #[.int .i64 iw, .int .i64 ih, .slice ai ps.length ci], brv B (.slice au B.ds.length capu), .slice a ls.length cap, .agg #[.int .i64 mw, .int .i64 mh, .slice am zs.length cm]] w fun e w' => ∃ a1 n1 c1, e = .returned (.tuple #[.slice a1 n1 c1, .int .i64 0]) ∧ Below w.heap.size w w') := fun w h1 h2 h3 h4 => by
    refine (prep_any iw ih (.slice ai ps.length ci) ps B (.slice au B.ds.length capu) (.slice a ls.length cap) ls mw mh (.slice am zs.length cm) zs w h1 h2 h3 h4).mono ?_
    rintro e w' ⟨q, rfl, _, ⟨a1, n1, c1, rfl⟩, hb⟩
    exact ⟨a1, n1, c1, by rw [hE], hb⟩
  unfold cOff at ho
  have c : ox < -256 ∨ (¬ ox < -256 ∧ 256 < ox) ∨ (¬ ox < -256 ∧ ¬ 256 < ox ∧ oy < -256) ∨ (¬ ox < -256 ∧ ¬ 256 < ox ∧ ¬ oy < -256 ∧ 256 < oy) := by omega
  clear hI hL hM hE ho
  generalize ps.length = ni at *
  generalize zs.length = nz at *
  generalize ls.length = nl at *
  generalize B.ds.length = nd at *
  go_enter Tryz.func6, Tryz.ntmps6
  go_upto_region 1 with (fail)
  refine name5 (fun W1 k1 k2 k3 k4 k5 hb => ?_)
  have c1 := k1.c3
  have c2 := k2.c16
  have c4 := k4.c3
  go_wp2_with fail
  clear c1 c2 c4
  refine (PR.out _ (HI.out.kept hb) (HD.out.kept hb) (HL.out.kept hb) (HM.out.kept hb)).mono ?_
  rintro e W2 ⟨a1, n1, p1, rfl, hS⟩
  replace k1 := k1.kept hS
  replace k2 := k2.kept hS
  replace k3 := k3.kept hS
  replace k4 := k4.kept hS
  replace k5 := k5.kept hS
  replace hb := hb.trans (hS.mono hb.size)
  clear hS PR
  have c3 := k3.c2
  rcases c with d1 | ⟨d1, d2⟩ | ⟨d1, d2, d3⟩ | ⟨d1, d2, d3, d4⟩
  · have c5 := k5.c3
    go_wp2_with fail
    exact bodyPost_ret (v := .tuple #[.agg #[.int .i64 0, .int .i64 0, .slice none 0 0], .int .i64 2]) (by simp [results, Tryz.results6, go_sem, c5]) rfl ⟨rfl, ((hb.setCell (by simp; omega) _).setCell (by simp; omega) _).setCell (by simp; omega) _⟩
  · have c5 := k5.c3
    go_wp2_with fail
    exact bodyPost_ret (v := .tuple #[.agg #[.int .i64 0, .int .i64 0, .slice none 0 0], .int .i64 2]) (by simp [results, Tryz.results6, go_sem, c5]) rfl ⟨rfl, ((hb.setCell (by simp; omega) _).setCell (by simp; omega) _).setCell (by simp; omega) _⟩
  · have c5 := k5.c3
    go_wp2_with fail
    exact bodyPost_ret (v := .tuple #[.agg #[.int .i64 0, .int .i64 0, .slice none 0 0], .int .i64 2]) (by simp [results, Tryz.results6, go_sem, c5]) rfl ⟨rfl, ((hb.setCell (by simp; omega) _).setCell (by simp; omega) _).setCell (by simp; omega) _⟩
  · have c5 := k5.c3
    go_wp2_with fail
    exact bodyPost_ret (v := .tuple #[.agg #[.int .i64 0, .int .i64 0, .slice none 0 0], .int .i64 2]) (by simp [results, Tryz.results6, go_sem, c5]) rfl ⟨rfl, ((hb.setCell (by simp; omega) _).setCell (by simp; omega) _).setCell (by simp; omega) _⟩

set_option maxHeartbeats 4000000 in
set_option maxRecDepth 100000 in
theorem clone_zero (ih : Int) (iv : Value) (ps : List Px) (B : Bru) (u lv : Value) (ls : List Smp) (ox oy mw mh : Int) (mv : Value) (zs : List Int) (w : World) (hI : Pn w iv ps) (hD : Dn w u B.ds) (hL : Sm w lv ls) (hM : Nn w mv zs) (hE : prepE 0 ih ps B ls mw mh zs = 0) (ho : cOff ox oy) :
    Calls Tryz.prog 6 #[.agg #[.int .i64 0, .int .i64 ih, iv], brv B u, lv, .agg #[.int .i64 ox, .int .i64 oy], .agg #[.int .i64 mw, .int .i64 mh, mv]] w fun e w' => e = .returned (.tuple #[.agg #[.int .i64 0, .int .i64 0, .slice none 0 0], .int .i64 0]) ∧ Below w.heap.size w w' := by
  have HI := Lib.hid hI
  have HD := Lib.hid hD
  have HL := Lib.hid hL
  have HM := Lib.hid hM
  obtain ⟨ai, ci, rfl⟩ := hI.slice
  obtain ⟨a, cap, rfl⟩ := Qn.slice hL
  obtain ⟨au, capu, rfl, _, _⟩ := hD
  obtain ⟨am, cm, rfl, _⟩ := hM.slice
  have PR : Hid (∀ w, Pn w (.slice ai ps.length ci) ps → Dn w (.slice au B.ds.length capu) B.ds → Sm w (.slice a ls.length cap) ls → Nn w (.slice am zs.length cm) zs → Calls Tryz.prog 14 #[.agg #[.int .i64 0, .int .i64 ih, .slice ai ps.length ci], brv B (.slice au B.ds.length capu), .slice a ls.length cap, .agg #[.int .i64 mw, .int .i64 mh, .slice am zs.length cm]] w fun e w' => ∃ a1 n1 c1, e = .returned (.tuple #[.slice a1 n1 c1, .int .i64 0]) ∧ Below w.heap.size w w') := fun w h1 h2 h3 h4 => by
    refine (prep_any 0 ih (.slice ai ps.length ci) ps B (.slice au B.ds.length capu) (.slice a ls.length cap) ls mw mh (.slice am zs.length cm) zs w h1 h2 h3 h4).mono ?_
    rintro e w' ⟨q, rfl, _, ⟨a1, n1, c1, rfl⟩, hb⟩
    exact ⟨a1, n1, c1, by rw [hE], hb⟩
  unfold cOff at ho
  have d1 : ¬ ox < -256 := by omega
  have d2 : ¬ 256 < ox := by omega
  have d3 : ¬ oy < -256 := by omega
  have d4 : ¬ 256 < oy := by omega
  clear hI hL hM hE ho
  generalize ps.length = ni at *
  generalize zs.length = nz at *
  generalize ls.length = nl at *
  generalize B.ds.length = nd at *
  go_enter Tryz.func6, Tryz.ntmps6
  go_upto_region 1 with (fail)
  refine name5 (fun W1 k1 k2 k3 k4 k5 hb => ?_)
  have c1 := k1.c3
  have c2 := k2.c16
  have c4 := k4.c3
  go_wp2_with fail
  clear c1 c2 c4
  refine (PR.out _ (HI.out.kept hb) (HD.out.kept hb) (HL.out.kept hb) (HM.out.kept hb)).mono ?_
  rintro e W2 ⟨a1, n1, p1, rfl, hS⟩
  replace k1 := k1.kept hS
  replace k2 := k2.kept hS
  replace k3 := k3.kept hS
  replace k4 := k4.kept hS
  replace k5 := k5.kept hS
  replace hb := hb.trans (hS.mono hb.size)
  clear hS PR
  have c3 := k3.c2
  have c1 := k1.c3
  have c5 := k5.c3
  go_wp2_with fail
  exact bodyPost_ret (v := .tuple #[.agg #[.int .i64 0, .int .i64 0, .slice none 0 0], .int .i64 0]) (by simp [results, Tryz.results6, go_sem, c5]) rfl ⟨rfl, ((hb.setCell (by simp; omega) _).setCell (by simp; omega) _).setCell (by simp; omega) _⟩

set_option maxHeartbeats 16000000 in
set_option maxRecDepth 100000 in
theorem clone_good (W H : Nat) (iv : Value) (ps : List Px) (B : Bru) (u lv : Value) (ls : List Smp) (ox oy mw mh : Int) (mv : Value) (zs : List Int) (w : World) (hs : Sines w) (hI : Pn w iv ps) (hD : Dn w u B.ds) (hL : Sm w lv ls) (hM : Nn w mv zs) (hE : prepE W H ps B ls mw mh zs = 0) (ho : cOff ox oy) (hW1 : 1 ≤ W) :
    Calls Tryz.prog 6 #[.agg #[.int .i64 W, .int .i64 H, iv], brv B u, lv, .agg #[.int .i64 ox, .int .i64 oy], .agg #[.int .i64 mw, .int .i64 mh, mv]] w fun e w' => ∃ q, e = .returned (.tuple #[.agg #[.int .i64 W, .int .i64 H, q], .int .i64 0]) ∧ Pn w' q (clones B (dabs B ls).1 W H mw zs ps ox oy) ∧ Below w.heap.size w w' := by
  obtain ⟨h1, h2, h3, h4⟩ := prep_ok hE
  obtain ⟨hn, _, hW, _, hH, hnl⟩ := ichk_len h1
  have hwh := (ichk_px h1).1
  obtain ⟨_, _, _, _, _, _, hzl⟩ := mchk_len h2
  have hzn : mw ≠ 0 → zs.length = ps.length := fun h0 => by
    obtain ⟨h5, h6⟩ : mw = W ∧ mh = H := by omega
    rw [h5, h6] at hzl
    omega
  have hWH : ps.length = W * H := by have := Int.natCast_mul W H; omega
  have hpos : 0 < ps.length := by
    have hH1 : 1 ≤ H := by omega
    have := Nat.mul_le_mul hW1 hH1
    omega
  have HI := Lib.hid hI
  have HD := Lib.hid hD
  have HL := Lib.hid hL
  have HM := Lib.hid hM
  obtain ⟨ai, ci, rfl⟩ := hI.slice
  obtain ⟨a, cap, rfl⟩ := Qn.slice hL
  obtain ⟨au, capu, rfl, _, _⟩ := hD
  obtain ⟨am, cm, rfl, _⟩ := hM.slice
  have PR : Hid (∀ w, Pn w (.slice ai ps.length ci) ps → Dn w (.slice au B.ds.length capu) B.ds → Sm w (.slice a ls.length cap) ls → Nn w (.slice am zs.length cm) zs → Calls Tryz.prog 14 #[.agg #[.int .i64 W, .int .i64 H, .slice ai ps.length ci], brv B (.slice au B.ds.length capu), .slice a ls.length cap, .agg #[.int .i64 mw, .int .i64 mh, .slice am zs.length cm]] w fun e w' => ∃ a1 n1 c1, e = .returned (.tuple #[.slice a1 n1 c1, .int .i64 0]) ∧ Below w.heap.size w w') := fun w h1 h2 h3 h4 => by
    refine (prep_any W H (.slice ai ps.length ci) ps B (.slice au B.ds.length capu) (.slice a ls.length cap) ls mw mh (.slice am zs.length cm) zs w h1 h2 h3 h4).mono ?_
    rintro e w' ⟨q, rfl, _, ⟨a1, n1, c1, rfl⟩, hb⟩
    exact ⟨a1, n1, c1, by rw [hE], hb⟩
  have HSn := Lib.hid hs
  have SO := Lib.hid (fun w hs h h' => stroke_own B (.slice au B.ds.length capu) (.slice a ls.length cap) ls W H w hs h h' h3 (by omega) (by omega))
  have CL : Hid ((couts B (dabs B ls).1 W H).length = ps.length) := by
    show _ = _
    rw [couts_len, hWH]
  have CA := Lib.hid (fun i (hi : i < ps.length) => couts_at B (dabs B ls).1 W H i (by omega))
  have CB := Lib.hid (fun i => cout_bd B (dabs B ls).1 W i)
  have DU := Lib.hid (fun w h => duplicate_any W H (.slice ai ps.length ci) ps w h hn)
  have SE := Lib.hid (fun k w (hk : k < ps.length) h => selected_any mw mh (.slice am zs.length cm) zs k w h (fun h0 => by have := hzn h0; omega))
  have AT := Lib.hid (fun x y w h => retAt_any W H (.slice ai ps.length ci) ps x y w h hWH (by omega) (by omega))
  have OL := Lib.hid (clones_len B (dabs B ls).1 W H mw zs ps ox oy)
  have OA := Lib.hid (fun i hi => clones_at B (dabs B ls).1 W H mw zs ps ox oy i hi)
  have RES : Hid (∀ k, cloneAt B (dabs B ls).1 W H mw zs ps ox oy k = if dv (cl (cout B (dabs B ls).1 W k) * cl (selK mw zs k)) 65535 = 0 then pxAt ps k else ovP B.md (pxAt ps k) (fdP (atP W H ps (((k % W : Nat) : Int) + ox) (((k / W : Nat) : Int) + oy)) (dv (cl (cout B (dabs B ls).1 W k) * cl (selK mw zs k)) 65535))) := fun k => rfl
  unfold cOff at ho
  have d1 : ¬ ox < -256 := by omega
  have d2 : ¬ 256 < ox := by omega
  have d3 : ¬ oy < -256 := by omega
  have d4 : ¬ 256 < oy := by omega
  have bW : ((W : Int) == 0) = false := by simp; omega
  clear hI hL hM hE ho h1 h2 h3 h4 hnl hwh hzl hs hzn hWH
  generalize couts B (dabs B ls).1 W H = cs at *
  generalize cout B (dabs B ls).1 W = cv at *
  generalize clones B (dabs B ls).1 W H mw zs ps ox oy = out at *
  generalize cloneAt B (dabs B ls).1 W H mw zs ps ox oy = res at *
  generalize (dabs B ls).1 = ds at *
  generalize hnn : ps.length = n at *
  generalize zs.length = nz at *
  generalize ls.length = nl at *
  generalize B.ds.length = nd at *
  go_enter Tryz.func6, Tryz.ntmps6
  go_upto_region 1 with (fail)
  refine name5 (fun W1 k1 k2 k3 k4 k5 hb => ?_)
  have c1 := k1.c3
  have c2 := k2.c16
  have c4 := k4.c3
  go_wp2_with fail
  clear c1 c2 c4
  refine (PR.out _ (HI.out.kept hb) (HD.out.kept hb) (HL.out.kept hb) (HM.out.kept hb)).mono ?_
  rintro e W2 ⟨a1, n1, p1, rfl, hS⟩
  replace k1 := k1.kept hS
  replace k2 := k2.kept hS
  replace k3 := k3.kept hS
  replace k4 := k4.kept hS
  replace k5 := k5.kept hS
  replace hb := hb.trans (hS.mono hb.size)
  clear hS PR
  have c1 := k1.c3
  have c2 := k2.c16
  have c3 := k3.c2
  go_wp2_with fail
  clear c1 c2 c3
  refine (SO.out _ (HSn.out.kept hb) (HD.out.kept hb) (HL.out.kept hb)).mono ?_
  rintro e W3 ⟨gc, nc, cc, rfl, hgc, hq, hS⟩
  replace k1 := k1.kept hS
  replace k2 := k2.kept hS
  replace k3 := k3.kept hS
  replace k4 := k4.kept hS
  replace k5 := k5.kept hS
  replace hb := hb.trans (hS.mono hb.size)
  obtain rfl : nc = n := (nn_len hq).trans CL.out
  have hgl := nnLt hq hpos
  have l5 := k5.lt
  clear hS SO
  go_upto_region 9 with (refine wpList_store_blk rfl _ _ _ rfl W3.heap.size #[.int .i64 W, .int .i64 H, .slice (some ⟨gc, 0, none⟩) nc cc] rfl rfl (heap_alloc_new W3 _) infoMask2 rfl (by simp [Value.oneCell']) (fun W4 km hkx hbx => ?_))
  have hS : Below W3.heap.size W3 W4 := ((Below.refl _ _).alloc (Nat.le_refl _) _).trans hbx
  replace k1 := k1.kept hS
  replace k2 := k2.kept hS
  replace k3 := k3.kept hS
  replace k4 := k4.kept hS
  replace k5 := k5.kept hS
  replace hb := hb.trans (hS.mono hb.size)
  replace hq := hq.kept hS
  have lm := km.lt
  clear hS hkx hbx
  generalize W3.heap.size = xm at *
  have c1 := k1.c3
  go_wp2_with fail
  clear c1
  refine (DU.out _ (HI.out.kept hb)).mono ?_
  rintro e W5 ⟨g, rfl, hg, row, hS⟩
  replace k1 := k1.kept hS
  replace k2 := k2.kept hS
  replace k3 := k3.kept hS
  replace k4 := k4.kept hS
  replace k5 := k5.kept hS
  replace km := km.kept hS
  replace hb := hb.trans (hS.mono hb.size)
  replace hq := hq.kept hS
  have rl := row.lt
  clear hS DU
  go_upto_region 12 with (refine wpList_store_blk rfl _ _ _ rfl W5.heap.size #[.int .i64 W, .int .i64 H, .slice (some ⟨g, 0, none⟩) nc nc] rfl rfl (heap_alloc_new W5 _) infoImgR rfl (by simp [Value.oneCell']) (fun W6 ko hkx hbx => ?_))
  have hS : Below W5.heap.size W5 W6 := ((Below.refl _ _).alloc (Nat.le_refl _) _).trans hbx
  replace k1 := k1.kept hS
  replace k2 := k2.kept hS
  replace k3 := k3.kept hS
  replace k4 := k4.kept hS
  replace k5 := k5.kept hS
  replace km := km.kept hS
  replace hb := hb.trans (hS.mono hb.size)
  replace hq := hq.kept hS
  replace row := (row.kept hS).start (r := res)
  clear hS hkx hbx
  generalize W5.heap.size = x at *
  have hgq0 : gc < g := by omega
  have hgq : gc ≠ g := by omega
  have hgm : xm ≠ g := by omega
  have hgx : x ≠ g := by omega
  have hg5 : w.heap.size + 1 + 1 + 1 + 1 < g := by omega
  clear lm rl hgl l5 hg
  have c1 := k1.c3
  go_wp2_with fail
  clear c1
  go_loopw [75] (fun i wr => ∃ k : Nat, k ≤ nc ∧ i = .int .i64 k ∧ Row wr g nc (fun i => if i < k then res i else pxAt ps i) ∧ Nn wr (.slice (some ⟨gc, 0, none⟩) nc cc) cs ∧ Blk wr w.heap.size (.cells #[.int .i64 W, .int .i64 H, .slice ai nc ci] 24 (0, 0)) ∧ Blk wr (w.heap.size + 1) (.cells #[.int .i64 B.sz, .int .i64 B.hd, .int .i64 B.rn, .int .i64 B.fl, .int .i64 B.op, .int .i64 B.sp, .int .i64 B.an, .int .i64 B.sc, .int .i64 B.md, .int .i64 B.r, .int .i64 B.g, .int .i64 B.b, .int .i64 B.a, .int .i64 B.sd, .slice au nd capu, .bool B.er] 29 (0, 0)) ∧ Blk wr (w.heap.size + 1 + 1) (.cells #[.int .i64 ox, .int .i64 oy] 32 (0, 0)) ∧ Blk wr (w.heap.size + 1 + 1 + 1) (.cells #[.int .i64 mw, .int .i64 mh, .slice am nz cm] 35 (0, 0)) ∧ Blk wr (w.heap.size + 1 + 1 + 1 + 1) (.cells #[.int .i64 0, .int .i64 0, .slice none 0 0] 24 (0, 0)) ∧ Blk wr xm (.cells #[.int .i64 W, .int .i64 H, .slice (some ⟨gc, 0, none⟩) nc cc] 35 (0, 0)) ∧ Blk wr x (.cells #[.int .i64 W, .int .i64 H, .slice (some ⟨g, 0, none⟩) nc nc] 24 (0, 0)) ∧ Below w.heap.size w wr) (fun i _ => nc - (intOf i).toNat)
  case atStart => exact ⟨0, Nat.zero_le _, rfl, row, hq, k1, k2, k3, k4, k5, km, ko, hb⟩
  case round =>
    clear row hq k1 k2 k3 k4 k5 km ko hb
    obtain ⟨k, hk, rfl, row, hq, k1, k2, k3, k4, k5, km, ko, hb⟩ := hrel
    by_cases hlt : k < nc
    · obtain ⟨b1, off1, rfl, hbl1, hcell1⟩ := HI.out.at k hlt
      have hc := hcell1 wr hb
      clear hcell1
      have SE1 := Lib.hid (fun w h => SE.out k w hlt h)
      have MU := Lib.hid (fun w => mul_any (cv k) (selK mw zs k) w)
      have CK : Hid (∀ w, Nn w (.slice (some ⟨gc, 0, none⟩) nc cc) cs → w.cell? ⟨gc, k, none⟩ = some (.int .i64 (cv k))) := fun w h => by
        rw [nnAt0 h k hlt]
        exact congrArg (fun t => some (Value.int .i64 t)) (CA.out k hlt)
      have RK := Lib.hid (RES.out k)
      have RN := Lib.hid (fun w (h : Row w g nc (fun i => if i < k then res i else pxAt ps i)) => h.step hlt)
      have RS := Lib.hid (fun w (h : Row w g nc (fun i => if i < k then res i else pxAt ps i)) => h.skip (r := res) (p := pxAt ps) (k := k))
      have RC := Lib.hid (fun w (h : Row w g nc (fun i => if i < k then res i else pxAt ps i)) => h.c k hlt)
      simp only [Nat.lt_irrefl, if_false] at RC
      have t1 : ((k : Nat) : Int).tmod (W : Int) = ((k % W : Nat) : Int) := Int.tmod_eq_emod_of_nonneg (by omega)
      have t2 : ((k : Nat) : Int).tdiv (W : Int) = ((k / W : Nat) : Int) := Int.tdiv_eq_ediv_of_nonneg (by omega)
      have r1 : k % W < W := Nat.mod_lt _ (by omega)
      have r2 : k / W ≤ k := Nat.div_le_self _ _
      generalize k % W = rm at *
      generalize k / W = qd at *
      have AT1 := Lib.hid (fun w h => AT.out (↑rm + ox) (↑qd + oy) w h)
      have wz : ((W : Int) == 0) = false := by simp; omega
      have wn : ¬ W = 0 := by omega
      have e5 : IntKind.i64.wrap (qd : Int) = (qd : Int) := IntWalk.i64_in _ (by omega)
      have e6 : IntKind.i64.wrap (rm : Int) = (rm : Int) := IntWalk.i64_in _ (by omega)
      have e7 : IntKind.i64.wrap ((rm : Int) + ox) = (rm : Int) + ox := IntWalk.i64_in _ (by omega)
      have e8 : IntKind.i64.wrap ((qd : Int) + oy) = (qd : Int) + oy := IntWalk.i64_in _ (by omega)
      have hK0 := mulU_bd' (cv k) (selK mw zs k)
      generalize atP W H ps (↑rm + ox) (↑qd + oy) = cp at *
      generalize dv (cl (cv k) * cl (selK mw zs k)) 65535 = K at *
      have FD := Lib.hid (fun w => fade_any cp K w)
      generalize fdP cp K = fp at *
      have OV := Lib.hid (fun w => over_any B.md (pxAt ps k) fp w)
      generalize ovP B.md (pxAt ps k) fp = op at *
      generalize selK mw zs k = sv at *
      generalize cv k = ck at *
      generalize pxAt ps k = p at *
      obtain ⟨p0, p1, p2, p3⟩ := p
      obtain ⟨q0, q1, q2, q3⟩ := cp
      obtain ⟨f0, f1, f2, f3⟩ := fp
      obtain ⟨o0, o1, o2, o3⟩ := op
      simp only at hc
      replace AT1 : Hid (∀ w, Pn w (.slice (some ⟨b1, off1, none⟩) nc ci) ps → Calls Tryz.prog 19 #[.agg #[.int .i64 W, .int .i64 H, .slice (some ⟨b1, off1, none⟩) nc ci], .int .i64 (↑rm + ox), .int .i64 (↑qd + oy)] w fun e w' => e = .returned (pv q0 q1 q2 q3) ∧ Below w.heap.size w w') := AT1
      replace FD : Hid (∀ w, Calls Tryz.prog 21 #[pv q0 q1 q2 q3, .int .i64 K] w fun e w' => e = .returned (pv f0 f1 f2 f3) ∧ Below w.heap.size w w') := FD
      replace OV : Hid (∀ w, Calls Tryz.prog 20 #[.int .i64 B.md, pv p0 p1 p2 p3, pv f0 f1 f2 f3] w fun e w' => e = .returned (pv o0 o1 o2 o3) ∧ Below w.heap.size w w') := OV
      have i1 : (0 : Int) ≤ (k : Int) := by omega
      have i2 : (k : Int) < (nc : Int) := by omega
      go_upto_region 15 with (fail)
      clear hc
      refine name1 (fun W7 kp hS => ?_)
      replace k1 := k1.kept hS
      replace k2 := k2.kept hS
      replace k3 := k3.kept hS
      replace k4 := k4.kept hS
      replace k5 := k5.kept hS
      replace km := km.kept hS
      replace ko := ko.kept hS
      replace hb := hb.trans (hS.mono hb.size)
      replace row := row.kept hS
      replace hq := hq.kept hS
      clear hS
      refine wp_region_grow 10 (fun w' => Below (World.heap W7).size W7 w') (by kernel_rfl) (by kernel_rfl) (Below.refl _ _).drew ?_
      simp only [List.take_succ_cons, List.take_zero, List.drop_succ_cons, List.drop_zero]
      repeat (first | (apply wpG_on; rfl; (intro w' hS K hK; have hc0 := (km.kept hS).c3; have hc1 := (k4.kept hS).c3; have hc2 := (kp.kept hS).lt; have hc3 := (row.kept hS).lt; have hc4 := (hq.kept hS).slice; have hc5 := (ko.kept hS).lt; have hc6 := (k1.kept hS).lt; have hc7 := (k2.kept hS).lt; have hc8 := (k3.kept hS).lt; have hc9 := (k5.kept hS).lt; have hr0 := CK.out _ (hq.kept hS); go_simp; (first | exact hK.out _ hS | (go_at_call 18; (with_reducible refine (SE1.out _ (HM.out.kept (hb.trans (hS.mono hb.size)))).mono ?_); rintro e w'' ⟨rfl, hbb⟩; exact ⟨_, rfl, hK.out _ (hS.trans (hbb.mono hS.size))⟩) | (go_at_call 17; (with_reducible refine (MU.out _).mono ?_); rintro e w'' ⟨rfl, rfl⟩; exact ⟨_, rfl, hK.out _ hS⟩))); simp only [Act.put, List.setIfInBounds_toArray, List.set_cons_succ, List.set_cons_zero]) | (apply wpG_off; rfl; simp only [Act.put, List.setIfInBounds_toArray, List.set_cons_succ, List.set_cons_zero]))
      apply wpG_nil
      intro W8 hS
      replace km := km.kept hS
      replace k4 := k4.kept hS
      replace kp := kp.kept hS
      replace row := row.kept hS
      replace hq := hq.kept hS
      replace ko := ko.kept hS
      replace k1 := k1.kept hS
      replace k2 := k2.kept hS
      replace k3 := k3.kept hS
      replace k5 := k5.kept hS
      replace hb := hb.trans (hS.mono hb.size)
      clear hS
      by_cases hK : K = 0
      · subst hK
        replace RK := Lib.hid (RK.out.trans (if_pos rfl))
        go_wp2_with fail
        go_roundw
        case rel => exact ⟨k + 1, by omega, by go_num, RS.out _ row RK.out, hq, k1, k2, k3, k4, k5, km, ko, hb⟩
        case measure => simp [intOf]; omega
      · replace RK := Lib.hid (RK.out.trans (if_neg hK))
        rw [RK.out] at RN
        have bK : (0 : Int) < K := by omega
        go_upto_region 17 with (fail)
        have l5 := k5.lt
        have lr := row.lt
        have lm := km.lt
        have lo := ko.lt
        have lp := kp.lt
        refine wp_region_make 17 (by kernel_rfl) (by kernel_rfl) ?_
        simp only [makeOrder, numbered, mkB, List.take_succ_cons, List.take_zero, List.drop_succ_cons, List.drop_zero, List.filter_cons, List.filter_nil, Bool.not_true, Bool.not_false, Bool.false_eq_true, List.cons_append, List.nil_append, ↓reduceIte]
        repeat (first | (apply wpN_on; rfl; rfl; (intro w' hS K hK; have hc0 := (k1.kept hS).c3; have hc1 := (k3.kept hS).c2; have hc2 := (kp.kept hS).lt; have hc3 := (row.kept hS).lt; have hc4 := (hq.kept hS).slice; have hc5 := (ko.kept hS).lt; have hc6 := (km.kept hS).lt; have hc7 := (k2.kept hS).lt; have hc8 := (k4.kept hS).lt; have hc9 := (k5.kept hS).lt; go_simp; (first | exact hK.out _ (Below.refl _ _) | (go_at_call 19; (with_reducible refine (AT1.out _ (HI.out.kept (hb.trans (hS.mono hb.size)))).mono ?_); rintro e w'' ⟨rfl, hbb⟩; exact ⟨_, rfl, hK.out _ hbb⟩))); simp only [Act.put, List.setIfInBounds_toArray, List.set_cons_succ, List.set_cons_zero]) | (apply wpN_off; rfl; rfl; simp only [Act.put, List.setIfInBounds_toArray, List.set_cons_succ, List.set_cons_zero]))
        apply wpN_new
        rfl
        rfl
        · intro w' hS K hK; have hc0 := (k1.kept hS).c3; have hc1 := (k3.kept hS).c2; have hc2 := (kp.kept hS).lt; have hc3 := (row.kept hS).lt; have hc4 := (hq.kept hS).slice; have hc5 := (ko.kept hS).lt; have hc6 := (km.kept hS).lt; have hc7 := (k2.kept hS).lt; have hc8 := (k4.kept hS).lt; have hc9 := (k5.kept hS).lt; go_simp; exact hK.out
        intro xp hxp nxp
        simp only [Act.put, mkOf, List.setIfInBounds_toArray, List.set_cons_succ, List.set_cons_zero]
        apply wpN_nil
        rintro W9 hS ⟨-, kxp⟩
        replace k1 := k1.kept hS
        replace k3 := k3.kept hS
        replace kp := kp.kept hS
        replace row := row.kept hS
        replace hq := hq.kept hS
        replace ko := ko.kept hS
        replace km := km.kept hS
        replace k2 := k2.kept hS
        replace k4 := k4.kept hS
        replace k5 := k5.kept hS
        replace hb := hb.trans (hS.mono hb.size)
        have cxp := kxp.c4
        go_upto_region 18 with (fail)
        clear hS cxp nxp t1 t2 e5 e6 e7 e8 wz wn
        have l1 := k1.lt
        refine mid4q hb kxp (by omega) (fun W10 kc kk kn hb => ?_)
        replace k1 := kk _ _ (by omega) k1
        replace k2 := kk _ _ (by omega) k2
        replace k3 := kk _ _ (by omega) k3
        replace k4 := kk _ _ (by omega) k4
        replace k5 := kk _ _ (by omega) k5
        replace km := kk _ _ (by omega) km
        replace ko := kk _ _ (by omega) ko
        replace kp := kk _ _ (by omega) kp
        replace row := row.via kk (by omega)
        replace hq := kn _ _ _ _ (by omega) hq
        clear kk kn kxp l5 lr lm lo lp l1
        refine wp_region_grow 11 (fun w' => Below (World.heap W10).size W10 w') (by kernel_rfl) (by kernel_rfl) (Below.refl _ _).drew ?_
        simp only [List.take_succ_cons, List.take_zero, List.drop_succ_cons, List.drop_zero]
        repeat (first | (apply wpG_on; rfl; (intro w' hS K hK; have hc0 := (ko.kept hS).c3; have hc1 := (k2.kept hS).c16; have hc2 := (kp.kept hS).c4; have hc3 := (kc.kept hS).c4; have hc4 := (row.kept hS).lt; have hc5 := (hq.kept hS).slice; have hc6 := (km.kept hS).lt; have hc7 := (k1.kept hS).lt; have hc8 := (k3.kept hS).lt; have hc9 := (k4.kept hS).lt; have hc10 := (k5.kept hS).lt; go_simp; (first | exact hK.out _ hS | (go_at_call 21; (with_reducible refine (FD.out _).mono ?_); rintro e w'' ⟨rfl, hbb⟩; exact ⟨_, rfl, hK.out _ (hS.trans (hbb.mono hS.size))⟩) | (go_at_call 20; (with_reducible refine (OV.out _).mono ?_); rintro e w'' ⟨rfl, hbb⟩; exact ⟨_, rfl, hK.out _ (hS.trans (hbb.mono hS.size))⟩))); simp only [Act.put, List.setIfInBounds_toArray, List.set_cons_succ, List.set_cons_zero]) | (apply wpG_off; rfl; simp only [Act.put, List.setIfInBounds_toArray, List.set_cons_succ, List.set_cons_zero]))
        apply wpG_nil
        intro W11 hS
        replace ko := ko.kept hS
        replace k2 := k2.kept hS
        replace kp := kp.kept hS
        replace kc := kc.kept hS
        replace row := row.kept hS
        replace hq := hq.kept hS
        replace km := km.kept hS
        replace k1 := k1.kept hS
        replace k3 := k3.kept hS
        replace k4 := k4.kept hS
        replace k5 := k5.kept hS
        replace hb := hb.trans (hS.mono hb.size)
        clear hS
        have cr := RC.out _ row
        go_wp2_with fail
        go_roundw
        case rel => exact ⟨k + 1, by omega, by go_num, RN.out _ row, nnKept4 hq hgq _ _ _ _ _ _ _ _, k1.other4 (by omega) _ _ _ _ _ _ _ _, k2.other4 (by omega) _ _ _ _ _ _ _ _, k3.other4 (by omega) _ _ _ _ _ _ _ _, k4.other4 (by omega) _ _ _ _ _ _ _ _, k5.other4 (by omega) _ _ _ _ _ _ _ _, km.other4 (by omega) _ _ _ _ _ _ _ _, ko.other4 (by omega) _ _ _ _ _ _ _ _, below4g hb (by omega) _ _ _ _ _ _ _ _⟩
        case measure => simp [intOf]; omega
    · obtain rfl : k = nc := by omega
      have co := ko.c3
      have c5 := k5.c3
      go_wp2_with fail
      clear co
      have PN : Hid (∀ w', Row w' g k (fun i => if i < k then res i else pxAt ps i) → Pn w' (.slice (some ⟨g, 0, none⟩) k k) out) := fun w' h => h.pn OL.out (by omega) (fun i hi => by rw [OA.out i hi, if_pos hi])
      refine bodyPost_ret (v := .tuple #[.agg #[.int .i64 W, .int .i64 H, .slice (some ⟨g, 0, none⟩) k k], .int .i64 0]) (by simp [results, Tryz.results6, go_sem, c5]) rfl ⟨_, rfl, PN.out _ (((row.other (by simp; omega) _).other (by simp; omega) _).other (by simp; omega) _), ((hb.setCell (by simp; omega) _).setCell (by simp; omega) _).setCell (by simp; omega) _⟩

/-- What imageeditor/retouch.Clone gives. -/
theorem clone_any (iw ih : Int) (iv : Value) (ps : List Px) (B : Bru) (u lv : Value) (ls : List Smp) (ox oy mw mh : Int) (mv : Value) (zs : List Int) (Wm Hm E : Int) (qs : List Px) (w : World) (hs : Sines w) (hI : Pn w iv ps) (hD : Dn w u B.ds) (hL : Sm w lv ls) (hM : Nn w mv zs) (ho : CloneOut iw ih ps B ls ox oy mw mh zs Wm Hm E qs) :
    Calls Tryz.prog 6 #[.agg #[.int .i64 iw, .int .i64 ih, iv], brv B u, lv, .agg #[.int .i64 ox, .int .i64 oy], .agg #[.int .i64 mw, .int .i64 mh, mv]] w fun e w' => ∃ q, e = .returned (.tuple #[.agg #[.int .i64 Wm, .int .i64 Hm, q], .int .i64 E]) ∧ Pn w' q qs ∧ Below w.heap.size w w' := by
  rcases ho with ⟨h1, rfl, rfl, rfl, rfl⟩ | ⟨h1, h2, rfl, rfl, rfl, rfl⟩ | ⟨h1, h2, rfl, rfl, rfl, rfl⟩
  · refine (clone_bad1 iw ih iv ps B u lv ls ox oy mw mh mv zs w hI hD hL hM h1).mono ?_
    rintro e w' ⟨rfl, hb⟩
    exact ⟨_, rfl, Pn.nil _, hb⟩
  · refine (clone_bad2 iw ih iv ps B u lv ls ox oy mw mh mv zs w hI hD hL hM h1 h2).mono ?_
    rintro e w' ⟨rfl, hb⟩
    exact ⟨_, rfl, Pn.nil _, hb⟩
  · obtain ⟨hi, _, _, _⟩ := prep_ok h1
    obtain ⟨_, a1, _, a3, _, a5⟩ := ichk_len hi
    have hwh := (ichk_px hi).1
    by_cases h0 : Wm = 0
    · subst h0
      obtain rfl : Hm = 0 := by omega
      have hp : ps = [] := List.eq_nil_of_length_eq_zero (by omega)
      refine (clone_zero 0 iv ps B u lv ls ox oy mw mh mv zs w hI hD hL hM h1 h2).mono ?_
      rintro e w' ⟨rfl, hb⟩
      subst hp
      exact ⟨_, rfl, Pn.nil _, hb⟩
    · obtain ⟨W, rfl⟩ : ∃ n : Nat, Wm = n := ⟨Wm.toNat, by omega⟩
      obtain ⟨H, rfl⟩ : ∃ n : Nat, Hm = n := ⟨Hm.toNat, by omega⟩
      exact clone_good W H iv ps B u lv ls ox oy mw mh mv zs w hs hI hD hL hM h1 h2 (by omega)
end Go.Proofs.YtieacbccadbdbaaGreatDoor

