/- Openers: pixels, slices of pixels, images, pairs of images. -/
import Derived.Test.YtfgkgibomgcmpaaDoorOpen
import Derived.Test.YtfgkgibomgcmpaaDoorImgPlain
namespace Go.Proofs.YtfgkgibomgcmpaaDoor
open Go.ChangeShapes Go.WideShapes Go.ChangeAt Go.RowKit Go.Deep
set_option linter.unusedVariables false

section
variable {H : Type} {enc : TypeId × Value → H} {W : World} {base : Nat} {spare : Nat → Bool} {held : Bool}

theorem trodPx {fuel : Nat} {cs : List Value} {x : DataW H × List MemPlace} (h : DataW.trod enc Tryd.prog W base spare held fuel 26 cs = some x) :
    ∃ a b c d : Int, cs = [.int .i64 a, .int .i64 b, .int .i64 c, .int .i64 d] := by
  obtain ⟨zs, rfl, hl, hw⟩ := trodInts Tryd.underlying26 (by kernel_rfl) (by kernel_rfl) (fun j f hj => by
    match j, hj with
    | 0, hj => cases hj; exact Tryd.underlying3
    | 1, hj => cases hj; exact Tryd.underlying3
    | 2, hj => cases hj; exact Tryd.underlying3
    | 3, hj => cases hj; exact Tryd.underlying3) h
  match zs, hl with
  | [a, b, c, d], _ => exact ⟨a, b, c, d, rfl⟩

theorem trodPixs {fuel : Nat} {v : Value} {x : DataW H × List MemPlace} (h : DataW.trod enc Tryd.prog W base spare held fuel 29 [v] = some x) : ∃ ps, Pn W v ps := by
  obtain ⟨a, len, cap, rfl, hlc, hcap, hr⟩ := trodRow (sz := 4) Tryd.underlying29 (by kernel_rfl) h
  unfold maxLen at hcap
  rcases hr with h0 | ⟨p, n, rfl, hel⟩
  · subst h0
    exact ⟨[], _, cap, rfl, by simp, .inl rfl⟩
  · by_cases h0 : len = 0
    · subst h0
      exact ⟨[], _, cap, rfl, by simp, .inl rfl⟩
    · have hel' : ∀ i, i < len → ∃ q : Px, W.cell? (p.add (i * 4)) = some (.int .i64 q.1) ∧ W.cell? (p.add (i * 4 + 1)) = some (.int .i64 q.2.1) ∧ W.cell? (p.add (i * 4 + 2)) = some (.int .i64 q.2.2.1) ∧ W.cell? (p.add (i * 4 + 3)) = some (.int .i64 q.2.2.2) := fun i hi => by
        obtain ⟨cs, y, hcl, hc, ht⟩ := hel i hi
        obtain ⟨a, b, c, d, rfl⟩ := trodPx ht
        exact ⟨(a, b, c, d), by simpa using hc 0 (by omega), by simpa using hc 1 (by omega), by simpa using hc 2 (by omega), by simpa using hc 3 (by omega)⟩
      obtain ⟨ks, hkl, hk⟩ := listOf ((0, 0, 0, 0) : Px) _ len hel'
      obtain ⟨b, off, rfl, hlt⟩ := plainAt (by simpa using (hk 0 (by omega)).1)
      refine ⟨ks, _, cap, by rw [hkl], by omega, .inr ⟨b, off, rfl, hlt, fun i hi => ?_⟩⟩
      have := hk i (by omega)
      rw [Go.WideShapes.add_plain, Go.WideShapes.add_plain, Go.WideShapes.add_plain, Go.WideShapes.add_plain] at this
      exact ⟨this.1, this.2.1, this.2.2.1, this.2.2.2⟩

theorem trodImg {fuel : Nat} {cs : List Value} {x : DataW H × List MemPlace} (h : DataW.trod enc Tryd.prog W base spare held fuel 31 cs = some x) :
    ∃ (a b : Int) (v : Value) (ps : List Px), cs = [.int .i64 a, .int .i64 b, v] ∧ Pn W v ps := by
  obtain ⟨hl, n, hf⟩ := trodField Tryd.underlying31 (by kernel_rfl) (by kernel_rfl) h
  obtain ⟨v0, y0, h0, t0⟩ := hf 0 _ rfl
  obtain ⟨v1, y1, h1, t1⟩ := hf 1 _ rfl
  obtain ⟨v2, y2, h2, t2⟩ := hf 2 _ rfl
  obtain ⟨a, ha, _, _⟩ := DataW.trod_int Tryd.underlying3 t0
  obtain ⟨b, hb, _, _⟩ := DataW.trod_int Tryd.underlying3 t1
  obtain ⟨ks, hk⟩ := trodPixs t2
  simp only [List.cons.injEq, and_true] at ha hb
  subst ha hb
  match cs, hl with
  | [c0, c1, c2], _ =>
    simp at h0 h1 h2
    subst h0 h1 h2
    exact ⟨a, b, _, ks, rfl, hk⟩

theorem trodPair {fuel : Nat} {cs : List Value} {x : DataW H × List MemPlace} (h : DataW.trod enc Tryd.prog W base spare held fuel 33 cs = some x) :
    ∃ (m o a b : Int) (v : Value) (ps : List Px) (a' b' : Int) (v' : Value) (ps' : List Px), cs = [.int .i64 m, .int .i64 o, .int .i64 a, .int .i64 b, v, .int .i64 a', .int .i64 b', v'] ∧ Pn W v ps ∧ Pn W v' ps' := by
  obtain ⟨ys, n, _, _, hlen, hyl, hf⟩ := DataW.trod_struct Tryd.underlying33 h
  have e8 : Tryd.prog.cellsOf 33 = 8 := by kernel_rfl
  have e3 : Tryd.prog.cellsOf 31 = 3 := by kernel_rfl
  have e1 : Tryd.prog.cellsOf 3 = 1 := by kernel_rfl
  have hyl' : ys.length = 4 := hyl
  rw [e8] at hlen
  match cs, hlen with
  | [c0, c1, c2, c3, c4, c5, c6, c7], _ =>
    have h0 : DataW.trod enc Tryd.prog W base spare held n 3 (([c0, c1, c2, c3, c4, c5, c6, c7].drop 0).take (Tryd.prog.cellsOf 3)) = ys[0]? := hf 0 _ rfl
    have h1 : DataW.trod enc Tryd.prog W base spare held n 3 (([c0, c1, c2, c3, c4, c5, c6, c7].drop 1).take (Tryd.prog.cellsOf 3)) = ys[1]? := hf 1 _ rfl
    have h2 : DataW.trod enc Tryd.prog W base spare held n 31 (([c0, c1, c2, c3, c4, c5, c6, c7].drop 2).take (Tryd.prog.cellsOf 31)) = ys[2]? := hf 2 _ rfl
    have h3 : DataW.trod enc Tryd.prog W base spare held n 31 (([c0, c1, c2, c3, c4, c5, c6, c7].drop 5).take (Tryd.prog.cellsOf 31)) = ys[3]? := hf 3 _ rfl
    rw [e1, List.getElem?_eq_getElem (by omega)] at h0 h1
    rw [e3, List.getElem?_eq_getElem (by omega)] at h2 h3
    obtain ⟨m, hm, _, _⟩ := DataW.trod_int Tryd.underlying3 h0
    obtain ⟨o, ho, _, _⟩ := DataW.trod_int Tryd.underlying3 h1
    obtain ⟨a, b, v, ps, hi, hp⟩ := trodImg h2
    obtain ⟨a', b', v', ps', hi', hp'⟩ := trodImg h3
    simp at hm ho hi hi'
    obtain ⟨rfl, rfl, rfl⟩ := hi
    obtain ⟨rfl, rfl, rfl⟩ := hi'
    subst hm ho
    exact ⟨m, o, a, b, _, ps, a', b', _, ps', rfl, hp, hp'⟩

theorem openPair {v : Value} {d : DataW H} {p : List MemPlace} (hv : Value.okWide Tryd.prog W .any base 33 v) (h : DataW.Trod enc Tryd.prog W 0 (fun _ => true) true 33 v d p) :
    ∃ (m o a b : Int) (u : Value) (ps : List Px) (a' b' : Int) (u' : Value) (ps' : List Px), v = .agg #[.int .i64 m, .int .i64 o, .int .i64 a, .int .i64 b, u, .int .i64 a', .int .i64 b', u'] ∧ Pn W u ps ∧ Pn W u' ps' := by
  obtain ⟨cs, rfl, hsz⟩ := okWide_struct Tryd.underlying33 hv
  obtain ⟨fuel, hf⟩ := h
  obtain ⟨m, o, a, b, u, ps, a', b', u', ps', hz, hp, hp'⟩ := trodPair hf
  obtain ⟨cs⟩ := cs
  simp only [Value.cells] at hz
  subst hz
  exact ⟨m, o, a, b, u, ps, a', b', u', ps', rfl, hp, hp'⟩
end
end Go.Proofs.YtfgkgibomgcmpaaDoor
