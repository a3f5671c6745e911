/- Openers: samples, dabs, masks, images, and the structs of the laws of package brush. -/
import Derived.Test.YtieacbccadbdbaaGreatDoorLOpen
import Derived.Test.YtieacbccadbdbaaGreatDoorLRow
import Derived.Test.YtieacbccadbdbaaGreatDoorLRow
import Derived.Test.YtieacbccadbdbaaGreatDoorLBru
namespace Go.Proofs.YtieacbccadbdbaaGreatDoor
open Go.ChangeShapes Go.WideShapes Go.ChangeAt Go.RowKit Go.Deep
set_option linter.unusedVariables false
set_option maxRecDepth 100000

section
variable {H : Type} {enc : TypeId × Value → H} {W : World} {base : Nat} {spare : Nat → Bool} {held : Bool}

theorem trodNn {fuel : Nat} {v : Value} {x : DataW H × List MemPlace} (hf : DataW.trod enc Tryz.prog W base spare held fuel 33 [v] = some x) : ∃ zs, Nn W v zs := by
  obtain ⟨a, len, cap, rfl, hlc, hcap, hr⟩ := trodRow (sz := 1) Tryz.underlying33 (by kernel_rfl) hf
  unfold maxLen at hcap
  rcases hr with h0 | ⟨p, n, rfl, hel⟩
  · subst h0
    exact ⟨[], _, cap, rfl, by simp, .inl rfl⟩
  · by_cases h0 : len = 0
    · subst h0
      exact ⟨[], _, cap, rfl, by simp, .inl rfl⟩
    · have hel' : ∀ i, i < len → ∃ q : Int, W.cell? (p.add i) = some (.int .i64 q) := fun i hi => by
        obtain ⟨cs, y, hcl, hc, ht⟩ := hel i hi
        obtain ⟨z, hz, _, _⟩ := DataW.trod_int Tryz.underlying3 ht
        subst hz
        exact ⟨z, by simpa using hc 0 (by omega)⟩
      obtain ⟨ks, hkl, hk⟩ := listOf (0 : Int) _ len hel'
      obtain ⟨b, off, rfl, hlt⟩ := plainAt (by simpa using hk 0 (by omega))
      refine ⟨ks, _, cap, by rw [hkl], by omega, .inr ⟨b, off, rfl, hlt, fun i hi => ?_⟩⟩
      have := hk i (by omega)
      rw [Go.WideShapes.add_plain] at this
      exact this

theorem trodPx {fuel : Nat} {cs : List Value} {x : DataW H × List MemPlace} (h : DataW.trod enc Tryz.prog W base spare held fuel 26 cs = some x) :
    ∃ a b c d : Int, cs = [.int .i64 a, .int .i64 b, .int .i64 c, .int .i64 d] := by
  obtain ⟨zs, rfl, hl, hw⟩ := trodInts Tryz.underlying26 (by kernel_rfl) (by kernel_rfl) (fun j f hj => by
    match j, hj with
    | 0, hj => cases hj; exact Tryz.underlying3
    | 1, hj => cases hj; exact Tryz.underlying3
    | 2, hj => cases hj; exact Tryz.underlying3
    | 3, hj => cases hj; exact Tryz.underlying3) h
  match zs, hl with
  | [a, b, c, d], _ => exact ⟨a, b, c, d, rfl⟩

theorem trodPixs {fuel : Nat} {v : Value} {x : DataW H × List MemPlace} (h : DataW.trod enc Tryz.prog W base spare held fuel 22 [v] = some x) : ∃ ps, Pn W v ps := by
  obtain ⟨a, len, cap, rfl, hlc, hcap, hr⟩ := trodRow (sz := 4) Tryz.underlying22 (by kernel_rfl) h
  unfold maxLen at hcap
  rcases hr with h0 | ⟨p, n, rfl, hel⟩
  · subst h0
    exact ⟨[], _, cap, rfl, by simp, .inl rfl⟩
  · by_cases h0 : len = 0
    · subst h0
      exact ⟨[], _, cap, rfl, by simp, .inl rfl⟩
    · have hel' : ∀ i, i < len → ∃ q : Px, W.cell? (p.add (i * 4)) = some (.int .i64 q.1) ∧ W.cell? (p.add (i * 4 + 1)) = some (.int .i64 q.2.1) ∧ W.cell? (p.add (i * 4 + 2)) = some (.int .i64 q.2.2.1) ∧ W.cell? (p.add (i * 4 + 3)) = some (.int .i64 q.2.2.2) := fun i hi => by
        obtain ⟨cs, y, hcl, hc, ht⟩ := hel i hi
        obtain ⟨a, b, c, d, rfl⟩ := trodPx ht
        exact ⟨(a, b, c, d), by simpa using hc 0 (by omega), by simpa using hc 1 (by omega), by simpa using hc 2 (by omega), by simpa using hc 3 (by omega)⟩
      obtain ⟨ks, hkl, hk⟩ := listOf ((0, 0, 0, 0) : Px) _ len hel'
      obtain ⟨b, off, rfl, hlt⟩ := plainAt (by simpa using (hk 0 (by omega)).1)
      refine ⟨ks, _, cap, by rw [hkl], by omega, .inr ⟨b, off, rfl, hlt, fun i hi => ?_⟩⟩
      have := hk i (by omega)
      rw [Go.WideShapes.add_plain, Go.WideShapes.add_plain, Go.WideShapes.add_plain, Go.WideShapes.add_plain] at this
      exact ⟨this.1, this.2.1, this.2.2.1, this.2.2.2⟩

theorem trodImg {fuel : Nat} {cs : List Value} {x : DataW H × List MemPlace} (h : DataW.trod enc Tryz.prog W base spare held fuel 24 cs = some x) :
    ∃ (a b : Int) (v : Value) (ps : List Px), cs = [.int .i64 a, .int .i64 b, v] ∧ Pn W v ps := by
  obtain ⟨hl, n, hf⟩ := trodField Tryz.underlying24 (by kernel_rfl) (by kernel_rfl) h
  obtain ⟨v0, y0, h0, t0⟩ := hf 0 _ rfl
  obtain ⟨v1, y1, h1, t1⟩ := hf 1 _ rfl
  obtain ⟨v2, y2, h2, t2⟩ := hf 2 _ rfl
  obtain ⟨a, ha, _, _⟩ := DataW.trod_int Tryz.underlying3 t0
  obtain ⟨b, hb, _, _⟩ := DataW.trod_int Tryz.underlying3 t1
  obtain ⟨ks, hk⟩ := trodPixs t2
  simp only [List.cons.injEq, and_true] at ha hb
  subst ha hb
  match cs, hl with
  | [c0, c1, c2], _ =>
    simp at h0 h1 h2
    subst h0 h1 h2
    exact ⟨a, b, _, ks, rfl, hk⟩

theorem trodMask {fuel : Nat} {cs : List Value} {x : DataW H × List MemPlace} (h : DataW.trod enc Tryz.prog W base spare held fuel 35 cs = some x) :
    ∃ (a b : Int) (v : Value) (zs : List Int), cs = [.int .i64 a, .int .i64 b, v] ∧ Nn W v zs := by
  obtain ⟨hl, n, hf⟩ := trodField Tryz.underlying35 (by kernel_rfl) (by kernel_rfl) h
  obtain ⟨v0, y0, h0, t0⟩ := hf 0 _ rfl
  obtain ⟨v1, y1, h1, t1⟩ := hf 1 _ rfl
  obtain ⟨v2, y2, h2, t2⟩ := hf 2 _ rfl
  obtain ⟨a, ha, _, _⟩ := DataW.trod_int Tryz.underlying3 t0
  obtain ⟨b, hb, _, _⟩ := DataW.trod_int Tryz.underlying3 t1
  obtain ⟨ks, hk⟩ := trodNn t2
  simp only [List.cons.injEq, and_true] at ha hb
  subst ha hb
  match cs, hl with
  | [c0, c1, c2], _ =>
    simp at h0 h1 h2
    subst h0 h1 h2
    exact ⟨a, b, _, ks, rfl, hk⟩

theorem trod5 {t : TypeId} {fs : Array Field} {fuel : Nat} {cs : List Value} {x : DataW H × List MemPlace} (hs : Tryz.prog.underlying t = some (.struct fs)) (hone : oneCellFields Tryz.prog fs = true) (hC : Tryz.prog.cellsOf t = fs.size) (h5 : fs.size = 5)
    (he : ∀ (j : Nat) (f : Field), fs[j]? = some f → Tryz.prog.underlying f.type = some (.int .i64)) (h : DataW.trod enc Tryz.prog W base spare held fuel t cs = some x) : ∃ q : V5, cs = z5 q := by
  obtain ⟨zs, rfl, hl, hw⟩ := trodInts hs hone hC he h
  rw [h5] at hl
  match zs, hl with
  | [a, b, c, d, e], _ => exact ⟨(a, b, c, d, e), rfl⟩

theorem trodQn {t e : TypeId} {fuel : Nat} {v : Value} {x : DataW H × List MemPlace} (ht : Tryz.prog.underlying t = some (.slice e)) (hsz : Tryz.prog.cellsOf e = 5) (he : ∀ (n : Nat) (cs : List Value) y, DataW.trod enc Tryz.prog W base spare held n e cs = some y → ∃ q : V5, cs = z5 q)
    (h : DataW.trod enc Tryz.prog W base spare held fuel t [v] = some x) : ∃ (n : Nat) (f : List V5), f.length = n ∧ Qn W v n (fun i => f.getD i (0, 0, 0, 0, 0)) := by
  obtain ⟨a, len, cap, rfl, hlc, hcap, hr⟩ := trodRow (sz := 5) ht hsz h
  unfold maxLen at hcap
  rcases hr with h0 | ⟨p, n, rfl, hel⟩
  · subst h0
    exact ⟨0, [], rfl, _, cap, rfl, by omega, .inl rfl⟩
  · by_cases h0 : len = 0
    · subst h0
      exact ⟨0, [], rfl, _, cap, rfl, by omega, .inl rfl⟩
    · have hel' : ∀ i, i < len → ∃ q : V5, W.cell? (p.add (i * 5)) = some (.int .i64 q.1) ∧ W.cell? (p.add (i * 5 + 1)) = some (.int .i64 q.2.1) ∧ W.cell? (p.add (i * 5 + 2)) = some (.int .i64 q.2.2.1) ∧ W.cell? (p.add (i * 5 + 3)) = some (.int .i64 q.2.2.2.1) ∧ W.cell? (p.add (i * 5 + 4)) = some (.int .i64 q.2.2.2.2) := fun i hi => by
        obtain ⟨cs, y, hcl, hc, ht⟩ := hel i hi
        obtain ⟨q, rfl⟩ := he _ _ _ ht
        exact ⟨q, by simpa [z5] using hc 0 (by omega), by simpa [z5] using hc 1 (by omega), by simpa [z5] using hc 2 (by omega), by simpa [z5] using hc 3 (by omega), by simpa [z5] using hc 4 (by omega)⟩
      obtain ⟨ks, hkl, hk⟩ := listOf ((0, 0, 0, 0, 0) : V5) _ len hel'
      obtain ⟨b, off, rfl, hlt⟩ := plainAt (by simpa using (hk 0 (by omega)).1)
      refine ⟨len, ks, hkl, _, cap, rfl, by omega, .inr ⟨b, off, rfl, hlt, fun i hi => ?_⟩⟩
      have := hk i hi
      rw [Go.WideShapes.add_plain, Go.WideShapes.add_plain, Go.WideShapes.add_plain, Go.WideShapes.add_plain, Go.WideShapes.add_plain] at this
      exact this

theorem trodSms {fuel : Nat} {v : Value} {x : DataW H × List MemPlace} (h : DataW.trod enc Tryz.prog W base spare held fuel 30 [v] = some x) : ∃ ls, Sm W v ls := by
  obtain ⟨n, f, hl, hq⟩ := trodQn Tryz.underlying30 (by kernel_rfl) (fun n cs y ht => trod5 Tryz.underlying94 (by kernel_rfl) (by kernel_rfl) rfl (fun j f hj => by
    match j, hj with
    | 0, hj => cases hj; exact Tryz.underlying3
    | 1, hj => cases hj; exact Tryz.underlying3
    | 2, hj => cases hj; exact Tryz.underlying3
    | 3, hj => cases hj; exact Tryz.underlying3
    | 4, hj => cases hj; exact Tryz.underlying3) ht) h
  subst hl
  refine ⟨f.map fun q => ⟨q.1, q.2.1, q.2.2.1, q.2.2.2.1, q.2.2.2.2⟩, ?_⟩
  show Qn W v (f.map _).length _
  rw [List.length_map]
  refine hq.congr fun i hi => ?_
  simp [smAt, s5, hi, List.getD]

theorem trodDbs {fuel : Nat} {v : Value} {x : DataW H × List MemPlace} (h : DataW.trod enc Tryz.prog W base spare held fuel 48 [v] = some x) : ∃ ds, Bm W v ds := by
  obtain ⟨n, f, hl, hq⟩ := trodQn Tryz.underlying48 (by kernel_rfl) (fun n cs y ht => trod5 Tryz.underlying64 (by kernel_rfl) (by kernel_rfl) rfl (fun j f hj => by
    match j, hj with
    | 0, hj => cases hj; exact Tryz.underlying3
    | 1, hj => cases hj; exact Tryz.underlying3
    | 2, hj => cases hj; exact Tryz.underlying3
    | 3, hj => cases hj; exact Tryz.underlying3
    | 4, hj => cases hj; exact Tryz.underlying3) ht) h
  subst hl
  refine ⟨f.map fun q => ⟨q.1, q.2.1, q.2.2.1, q.2.2.2.1, q.2.2.2.2⟩, ?_⟩
  show Qn W v (f.map _).length _
  rw [List.length_map]
  refine hq.congr fun i hi => ?_
  simp [dbAt, d5, hi, List.getD]

theorem openSms {v : Value} {d : DataW H} {p : List MemPlace} (hv : Value.okWide Tryz.prog W .any base 30 v) (h : DataW.Trod enc Tryz.prog W 0 (fun _ => true) true 30 v d p) : ∃ ls, Sm W v ls := by
  obtain ⟨a, len, cap, rfl⟩ := okWide_slice Tryz.underlying30 hv
  obtain ⟨fuel, hf⟩ := h
  exact trodSms hf

theorem openDbs {v : Value} {d : DataW H} {p : List MemPlace} (hv : Value.okWide Tryz.prog W .any base 48 v) (h : DataW.Trod enc Tryz.prog W 0 (fun _ => true) true 48 v d p) : ∃ ds, Bm W v ds := by
  obtain ⟨a, len, cap, rfl⟩ := okWide_slice Tryz.underlying48 hv
  obtain ⟨fuel, hf⟩ := h
  exact trodDbs hf

theorem openImg {v : Value} {d : DataW H} {p : List MemPlace} (hv : Value.okWide Tryz.prog W .any base 24 v) (h : DataW.Trod enc Tryz.prog W 0 (fun _ => true) true 24 v d p) : ∃ (a b : Int) (u : Value) (ps : List Px), v = .agg #[.int .i64 a, .int .i64 b, u] ∧ Pn W u ps := by
  obtain ⟨cs, rfl, hsz⟩ := okWide_struct Tryz.underlying24 hv
  obtain ⟨fuel, hf⟩ := h
  obtain ⟨a, b, u, ps, hz, hp⟩ := trodImg hf
  obtain ⟨cs⟩ := cs
  simp only [Value.cells] at hz
  subst hz
  exact ⟨a, b, u, ps, rfl, hp⟩

theorem openMask {v : Value} {d : DataW H} {p : List MemPlace} (hv : Value.okWide Tryz.prog W .any base 35 v) (h : DataW.Trod enc Tryz.prog W 0 (fun _ => true) true 35 v d p) : ∃ (a b : Int) (u : Value) (zs : List Int), v = .agg #[.int .i64 a, .int .i64 b, u] ∧ Nn W u zs := by
  obtain ⟨cs, rfl, hsz⟩ := okWide_struct Tryz.underlying35 hv
  obtain ⟨fuel, hf⟩ := h
  obtain ⟨a, b, u, ps, hz, hp⟩ := trodMask hf
  obtain ⟨cs⟩ := cs
  simp only [Value.cells] at hz
  subst hz
  exact ⟨a, b, u, ps, rfl, hp⟩





theorem openPoint {v : Value} {d : DataW H} {p : List MemPlace} (hv : Value.okWide Tryz.prog W .any base 32 v) (h : DataW.Trod enc Tryz.prog W 0 (fun _ => true) true 32 v d p) : ∃ a b : Int, v = .agg #[.int .i64 a, .int .i64 b] := by
  obtain ⟨cs, rfl, hsz⟩ := okWide_struct Tryz.underlying32 hv
  obtain ⟨fuel, hf⟩ := h
  obtain ⟨zs, hz, hl, hw⟩ := trodInts Tryz.underlying32 (by kernel_rfl) (by kernel_rfl) (fun j f hj => by
    match j, hj with
    | 0, hj => cases hj; exact Tryz.underlying3
    | 1, hj => cases hj; exact Tryz.underlying3) hf
  match zs, hl with
  | [a, b], _ =>
    obtain ⟨cs⟩ := cs
    simp only [Value.cells] at hz
    subst hz
    exact ⟨a, b, rfl⟩

end
end Go.Proofs.YtieacbccadbdbaaGreatDoor

