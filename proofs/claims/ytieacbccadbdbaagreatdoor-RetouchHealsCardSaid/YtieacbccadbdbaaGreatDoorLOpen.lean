/- Several texts in one: DynOpen, DabOpen, DabTab. -/
import Derived.Test.YtieacbccadbdbaaGreatDoorLKit
import Derived.Test.YtieacbccadbdbaaGreatDoorLDyn
import Derived.Test.YtieacbccadbdbaaGreatDoorTurn
import Derived.Lib.LaidTab
import Derived.Deep.DeepHandedRow

/- Openers of the arguments of the laws on dynamics: samples, elements, lists of elements. -/
namespace Go.Proofs.YtieacbccadbdbaaGreatDoor
open Go.ChangeShapes Go.WideShapes Go.ChangeAt Go.RowKit Go.Deep
set_option linter.unusedVariables false
set_option maxRecDepth 100000

section
variable {H : Type} {enc : TypeId × Value → H} {W : World} {base : Nat} {spare : Nat → Bool} {held : Bool}

theorem ints_cons {k : IntKind} {zs : List Int} {n : Nat} (h : zs.length = n + 1) : ∃ z r, zs = z :: r ∧ r.length = n := by
  cases zs with
  | nil => simp at h
  | cons z r => exact ⟨z, r, rfl, by simpa using h⟩

theorem trodKnot {fuel : Nat} {cs : List Value} {x : DataW H × List MemPlace} (h : DataW.trod enc Tryz.prog W base spare held fuel 137 cs = some x) :
    ∃ a b : Int, cs = [.int .i64 a, .int .i64 b] := by
  obtain ⟨zs, rfl, hl, hw⟩ := trodInts Tryz.underlying137 (by kernel_rfl) (by kernel_rfl) (fun j f hj => by
    match j, hj with
    | 0, hj => cases hj; exact Tryz.underlying3
    | 1, hj => cases hj; exact Tryz.underlying3) h
  match zs, hl with
  | [a, b], _ => exact ⟨a, b, rfl⟩

theorem trodKnots {fuel : Nat} {v : Value} {x : DataW H × List MemPlace} (h : DataW.trod enc Tryz.prog W base spare held fuel 129 [v] = some x) : ∃ ks, Kn W v ks := by
  obtain ⟨a, len, cap, rfl, hlc, hcap, hr⟩ := trodRow (sz := 2) Tryz.underlying129 (by kernel_rfl) h
  unfold maxLen at hcap
  rcases hr with h0 | ⟨p, n, rfl, hel⟩
  · subst h0
    exact ⟨[], _, cap, rfl, by simp, .inl rfl⟩
  · by_cases h0 : len = 0
    · subst h0
      exact ⟨[], _, cap, rfl, by simp, .inl rfl⟩
    · have hel' : ∀ i, i < len → ∃ q : Int × Int, W.cell? (p.add (i * 2)) = some (.int .i64 q.1) ∧ W.cell? (p.add (i * 2 + 1)) = some (.int .i64 q.2) := fun i hi => by
        obtain ⟨cs, y, hcl, hc, ht⟩ := hel i hi
        obtain ⟨u, w, rfl⟩ := trodKnot ht
        exact ⟨(u, w), by simpa using hc 0 (by omega), by simpa using hc 1 (by omega)⟩
      obtain ⟨ks, hkl, hk⟩ := listOf ((0, 0) : Int × Int) _ len hel'
      obtain ⟨b, off, rfl, hlt⟩ := plainAt (by simpa using (hk 0 (by omega)).1)
      refine ⟨ks, _, cap, by rw [hkl], by omega, .inr ⟨b, off, rfl, hlt, fun i hi => ?_⟩⟩
      have := hk i (by omega)
      rw [Go.WideShapes.add_plain, Go.WideShapes.add_plain] at this
      exact ⟨this.1, this.2⟩

theorem trodDyn {fuel : Nat} {cs : List Value} {x : DataW H × List MemPlace} (h : DataW.trod enc Tryz.prog W base spare held fuel 131 cs = some x) :
    ∃ (a b : Int) (v : Value) (ks : Knots), cs = [.int .i64 a, .int .i64 b, v] ∧ Kn W v ks := by
  obtain ⟨hl, n, hf⟩ := trodField Tryz.underlying131 (by kernel_rfl) (by kernel_rfl) h
  obtain ⟨v0, y0, h0, t0⟩ := hf 0 _ rfl
  obtain ⟨v1, y1, h1, t1⟩ := hf 1 _ rfl
  obtain ⟨v2, y2, h2, t2⟩ := hf 2 _ rfl
  obtain ⟨a, ha, _, _⟩ := DataW.trod_int Tryz.underlying3 t0
  obtain ⟨b, hb, _, _⟩ := DataW.trod_int Tryz.underlying3 t1
  obtain ⟨ks, hk⟩ := trodKnots t2
  simp only [List.cons.injEq, and_true] at ha hb
  subst ha hb
  match cs, hl with
  | [c0, c1, c2], _ =>
    simp at h0 h1 h2
    subst h0 h1 h2
    exact ⟨a, b, _, ks, rfl, hk⟩

theorem trodDyns {fuel : Nat} {v : Value} {x : DataW H × List MemPlace} (h : DataW.trod enc Tryz.prog W base spare held fuel 27 [v] = some x) : ∃ ds, Dn W v ds := by
  obtain ⟨a, len, cap, rfl, hlc, hcap, hr⟩ := trodRow (sz := 3) Tryz.underlying27 (by kernel_rfl) h
  unfold maxLen at hcap
  rcases hr with h0 | ⟨p, n, rfl, hel⟩
  · subst h0
    exact ⟨[], _, cap, rfl, by simp, .inl rfl⟩
  · by_cases h0 : len = 0
    · subst h0
      exact ⟨[], _, cap, rfl, by simp, .inl rfl⟩
    · have hel' : ∀ i, i < len → ∃ q : Int × Int × Knots, W.cell? (p.add (i * 3)) = some (.int .i64 q.1) ∧ W.cell? (p.add (i * 3 + 1)) = some (.int .i64 q.2.1) ∧ ∃ c, W.cell? (p.add (i * 3 + 2)) = some c ∧ Kn W c q.2.2 := fun i hi => by
        obtain ⟨cs, y, hcl, hc, ht⟩ := hel i hi
        obtain ⟨u, w, v, ks, rfl, hk⟩ := trodDyn ht
        exact ⟨(u, w, ks), by simpa using hc 0 (by omega), by simpa using hc 1 (by omega), v, by simpa using hc 2 (by omega), hk⟩
      obtain ⟨ds, hkl, hk⟩ := listOf ((0, 0, []) : Int × Int × Knots) _ len hel'
      obtain ⟨b, off, rfl, hlt⟩ := plainAt (by simpa using (hk 0 (by omega)).1)
      refine ⟨ds, _, cap, by rw [hkl], by omega, .inr ⟨b, off, rfl, hlt, fun i hi => ?_⟩⟩
      have := hk i (by omega)
      rw [Go.WideShapes.add_plain, Go.WideShapes.add_plain, Go.WideShapes.add_plain] at this
      exact ⟨this.1, this.2.1, this.2.2⟩

theorem openDyns {v : Value} {d : DataW H} {p : List MemPlace} (hv : Value.okWide Tryz.prog W .any base 27 v) (h : DataW.Trod enc Tryz.prog W 0 (fun _ => true) true 27 v d p) : ∃ ds, Dn W v ds := by
  obtain ⟨a, len, cap, rfl⟩ := okWide_slice Tryz.underlying27 hv
  obtain ⟨fuel, hf⟩ := h
  exact trodDyns hf

theorem openSample {v : Value} {d : DataW H} {p : List MemPlace} (hv : Value.okWide Tryz.prog W .any base 94 v) (h : DataW.Trod enc Tryz.prog W 0 (fun _ => true) true 94 v d p) :
    ∃ a b c d e : Int, v = sv a b c d e := by
  obtain ⟨cs, rfl, hsz⟩ := okWide_struct Tryz.underlying94 hv
  obtain ⟨fuel, hf⟩ := h
  obtain ⟨zs, hz, hl, hw⟩ := trodInts Tryz.underlying94 (by kernel_rfl) (by kernel_rfl) (fun j f hj => by
    match j, hj with
    | 0, hj => cases hj; exact Tryz.underlying3
    | 1, hj => cases hj; exact Tryz.underlying3
    | 2, hj => cases hj; exact Tryz.underlying3
    | 3, hj => cases hj; exact Tryz.underlying3
    | 4, hj => cases hj; exact Tryz.underlying3) hf
  match zs, hl with
  | [a, b, c, d, e], _ =>
    obtain ⟨cs⟩ := cs
    simp only [Value.cells] at hz
    subst hz
    exact ⟨a, b, c, d, e, rfl⟩

theorem openDyn {v : Value} {d : DataW H} {p : List MemPlace} (hv : Value.okWide Tryz.prog W .any base 131 v) (h : DataW.Trod enc Tryz.prog W 0 (fun _ => true) true 131 v d p) :
    ∃ (a b : Int) (u : Value) (ks : Knots), v = .agg #[.int .i64 a, .int .i64 b, u] ∧ Kn W u ks := by
  obtain ⟨cs, rfl, hsz⟩ := okWide_struct Tryz.underlying131 hv
  obtain ⟨fuel, hf⟩ := h
  obtain ⟨a, b, u, ks, hz, hk⟩ := trodDyn hf
  obtain ⟨cs⟩ := cs
  simp only [Value.cells] at hz
  subst hz
  exact ⟨a, b, u, ks, rfl, hk⟩
end
end Go.Proofs.YtieacbccadbdbaaGreatDoor


/- Openers of brushes and dabs. -/
namespace Go.Proofs.YtieacbccadbdbaaGreatDoor
open Go.ChangeShapes Go.WideShapes Go.ChangeAt Go.RowKit Go.Deep
set_option linter.unusedVariables false
set_option maxRecDepth 100000
section
variable {H : Type} {enc : TypeId × Value → H} {W : World} {base : Nat} {spare : Nat → Bool} {held : Bool}
theorem openDab {v : Value} {d : DataW H} {p : List MemPlace} (hv : Value.okWide Tryz.prog W .any base 64 v) (h : DataW.Trod enc Tryz.prog W 0 (fun _ => true) true 64 v d p) :
    ∃ D : Dab, v = dbv D := by
  obtain ⟨cs, rfl, hsz⟩ := okWide_struct Tryz.underlying64 hv
  obtain ⟨fuel, hf⟩ := h
  obtain ⟨zs, hz, hl, hw⟩ := trodInts Tryz.underlying64 (by kernel_rfl) (by kernel_rfl) (fun j f hj => by
    match j, hj with
    | 0, hj => cases hj; exact Tryz.underlying3
    | 1, hj => cases hj; exact Tryz.underlying3
    | 2, hj => cases hj; exact Tryz.underlying3
    | 3, hj => cases hj; exact Tryz.underlying3
    | 4, hj => cases hj; exact Tryz.underlying3) hf
  match zs, hl with
  | [a, b, c, d, e], _ =>
    obtain ⟨cs⟩ := cs
    simp only [Value.cells] at hz
    subst hz
    exact ⟨⟨a, b, c, d, e⟩, rfl⟩
theorem trodBool {P : Program} {t : TypeId} {fuel : Nat} {cs : List Value} {x : DataW H × List MemPlace} (ht : P.underlying t = some .bool) (h : DataW.trod enc P W base spare held fuel t cs = some x) : ∃ b : Bool, cs = [.bool b] := by
  obtain ⟨b, hb, _⟩ := DataW.trod_bool ht h
  exact ⟨b, hb⟩
theorem trodBrush {fuel : Nat} {cs : List Value} {x : DataW H × List MemPlace} (h : DataW.trod enc Tryz.prog W base spare held fuel 29 cs = some x) :
    ∃ (B : Bru) (u : Value), cs = [.int .i64 B.sz, .int .i64 B.hd, .int .i64 B.rn, .int .i64 B.fl, .int .i64 B.op, .int .i64 B.sp, .int .i64 B.an, .int .i64 B.sc, .int .i64 B.md, .int .i64 B.r, .int .i64 B.g, .int .i64 B.b, .int .i64 B.a, .int .i64 B.sd, u, .bool B.er] ∧ Dn W u B.ds := by
  obtain ⟨ys, n, _, _, hlen, hyl, hf⟩ := DataW.trod_struct Tryz.underlying29 h
  have e16 : Tryz.prog.cellsOf 29 = 16 := by kernel_rfl
  have e4 : Tryz.prog.cellsOf 26 = 4 := by kernel_rfl
  have e1 : Tryz.prog.cellsOf 3 = 1 := by kernel_rfl
  have eb : Tryz.prog.cellsOf 4 = 1 := by kernel_rfl
  have ed : Tryz.prog.cellsOf 27 = 1 := by kernel_rfl
  have hyl' : ys.length = 13 := hyl
  rw [e16] at hlen
  match cs, hlen with
  | [c0, c1, c2, c3, c4, c5, c6, c7, c8, c9, c10, c11, c12, c13, c14, c15], _ =>
    have h0 : DataW.trod enc Tryz.prog W base spare held n 3 (([c0, c1, c2, c3, c4, c5, c6, c7, c8, c9, c10, c11, c12, c13, c14, c15].drop 0).take (Tryz.prog.cellsOf 3)) = ys[0]? := hf 0 _ rfl
    have h1 : DataW.trod enc Tryz.prog W base spare held n 3 (([c0, c1, c2, c3, c4, c5, c6, c7, c8, c9, c10, c11, c12, c13, c14, c15].drop 1).take (Tryz.prog.cellsOf 3)) = ys[1]? := hf 1 _ rfl
    have h2 : DataW.trod enc Tryz.prog W base spare held n 3 (([c0, c1, c2, c3, c4, c5, c6, c7, c8, c9, c10, c11, c12, c13, c14, c15].drop 2).take (Tryz.prog.cellsOf 3)) = ys[2]? := hf 2 _ rfl
    have h3 : DataW.trod enc Tryz.prog W base spare held n 3 (([c0, c1, c2, c3, c4, c5, c6, c7, c8, c9, c10, c11, c12, c13, c14, c15].drop 3).take (Tryz.prog.cellsOf 3)) = ys[3]? := hf 3 _ rfl
    have h4 : DataW.trod enc Tryz.prog W base spare held n 3 (([c0, c1, c2, c3, c4, c5, c6, c7, c8, c9, c10, c11, c12, c13, c14, c15].drop 4).take (Tryz.prog.cellsOf 3)) = ys[4]? := hf 4 _ rfl
    have h5 : DataW.trod enc Tryz.prog W base spare held n 3 (([c0, c1, c2, c3, c4, c5, c6, c7, c8, c9, c10, c11, c12, c13, c14, c15].drop 5).take (Tryz.prog.cellsOf 3)) = ys[5]? := hf 5 _ rfl
    have h6 : DataW.trod enc Tryz.prog W base spare held n 3 (([c0, c1, c2, c3, c4, c5, c6, c7, c8, c9, c10, c11, c12, c13, c14, c15].drop 6).take (Tryz.prog.cellsOf 3)) = ys[6]? := hf 6 _ rfl
    have h7 : DataW.trod enc Tryz.prog W base spare held n 3 (([c0, c1, c2, c3, c4, c5, c6, c7, c8, c9, c10, c11, c12, c13, c14, c15].drop 7).take (Tryz.prog.cellsOf 3)) = ys[7]? := hf 7 _ rfl
    have h8 : DataW.trod enc Tryz.prog W base spare held n 3 (([c0, c1, c2, c3, c4, c5, c6, c7, c8, c9, c10, c11, c12, c13, c14, c15].drop 8).take (Tryz.prog.cellsOf 3)) = ys[8]? := hf 8 _ rfl
    have h9 : DataW.trod enc Tryz.prog W base spare held n 26 (([c0, c1, c2, c3, c4, c5, c6, c7, c8, c9, c10, c11, c12, c13, c14, c15].drop 9).take (Tryz.prog.cellsOf 26)) = ys[9]? := hf 9 _ rfl
    have h10 : DataW.trod enc Tryz.prog W base spare held n 3 (([c0, c1, c2, c3, c4, c5, c6, c7, c8, c9, c10, c11, c12, c13, c14, c15].drop 13).take (Tryz.prog.cellsOf 3)) = ys[10]? := hf 10 _ rfl
    have h11 : DataW.trod enc Tryz.prog W base spare held n 27 (([c0, c1, c2, c3, c4, c5, c6, c7, c8, c9, c10, c11, c12, c13, c14, c15].drop 14).take (Tryz.prog.cellsOf 27)) = ys[11]? := hf 11 _ rfl
    have h12 : DataW.trod enc Tryz.prog W base spare held n 4 (([c0, c1, c2, c3, c4, c5, c6, c7, c8, c9, c10, c11, c12, c13, c14, c15].drop 15).take (Tryz.prog.cellsOf 4)) = ys[12]? := hf 12 _ rfl
    rw [e1, List.getElem?_eq_getElem (by omega)] at h0 h1 h2 h3 h4 h5 h6 h7 h8 h10
    rw [e4, List.getElem?_eq_getElem (by omega)] at h9
    rw [ed, List.getElem?_eq_getElem (by omega)] at h11
    rw [eb, List.getElem?_eq_getElem (by omega)] at h12
    obtain ⟨z0, e0', _, _⟩ := DataW.trod_int Tryz.underlying3 h0
    obtain ⟨z1, e1', _, _⟩ := DataW.trod_int Tryz.underlying3 h1
    obtain ⟨z2, e2', _, _⟩ := DataW.trod_int Tryz.underlying3 h2
    obtain ⟨z3, e3', _, _⟩ := DataW.trod_int Tryz.underlying3 h3
    obtain ⟨z4, e4', _, _⟩ := DataW.trod_int Tryz.underlying3 h4
    obtain ⟨z5, e5', _, _⟩ := DataW.trod_int Tryz.underlying3 h5
    obtain ⟨z6, e6', _, _⟩ := DataW.trod_int Tryz.underlying3 h6
    obtain ⟨z7, e7', _, _⟩ := DataW.trod_int Tryz.underlying3 h7
    obtain ⟨z8, e8', _, _⟩ := DataW.trod_int Tryz.underlying3 h8
    obtain ⟨z10, e10', _, _⟩ := DataW.trod_int Tryz.underlying3 h10
    obtain ⟨zs, hz, hl, _⟩ := trodInts Tryz.underlying26 (by kernel_rfl) (by kernel_rfl) (fun j f hj => by
      match j, hj with
      | 0, hj => cases hj; exact Tryz.underlying3
      | 1, hj => cases hj; exact Tryz.underlying3
      | 2, hj => cases hj; exact Tryz.underlying3
      | 3, hj => cases hj; exact Tryz.underlying3) h9
    obtain ⟨ds, hds⟩ := trodDyns (v := c14) h11
    obtain ⟨er, he⟩ := trodBool Tryz.underlying4 h12
    match zs, hl with
    | [p0, p1, p2, p3], _ =>
      simp at e0' e1' e2' e3' e4' e5' e6' e7' e8' e10' hz he
      obtain ⟨rfl, rfl, rfl, rfl⟩ := hz
      subst e0' e1' e2' e3' e4' e5' e6' e7' e8' e10' he
      exact ⟨⟨z0, z1, z2, z3, z4, z5, z6, z7, z8, p0, p1, p2, p3, z10, ds, er⟩, _, rfl, hds⟩
theorem openBrush {v : Value} {d : DataW H} {p : List MemPlace} (hv : Value.okWide Tryz.prog W .any base 29 v) (h : DataW.Trod enc Tryz.prog W 0 (fun _ => true) true 29 v d p) :
    ∃ (B : Bru) (u : Value), v = brv B u ∧ Dn W u B.ds := by
  obtain ⟨cs, rfl, hsz⟩ := okWide_struct Tryz.underlying29 hv
  obtain ⟨fuel, hf⟩ := h
  obtain ⟨B, u, hz, hp⟩ := trodBrush hf
  obtain ⟨cs⟩ := cs
  simp only [Value.cells] at hz
  subst hz
  exact ⟨B, u, rfl, hp⟩
end
end Go.Proofs.YtieacbccadbdbaaGreatDoor


/- What the rows' list gives: the table of the sines. -/
namespace Go.Proofs.YtieacbccadbdbaaGreatDoor
open Go.RowKit
set_option linter.unusedVariables false
set_option maxRecDepth 100000

/-- The cells of a table of integers. -/
theorem cells_of_ints {H : Type} {enc : TypeId × Value → H} {P : Program} {w : World} {base : Nat} {sp : Nat → Bool} {held : Bool} {fuel : Nat} {t e : TypeId} {n : Nat} {cs : List Value} {zs : List Int} {p : List MemPlace}
    (ht : P.underlying t = some (.array n e)) (he : P.underlying e = some (.int .i64)) (hce : P.cellsOf e = 1) (hct : P.cellsOf t = n)
    (h : DataW.trod enc P w base sp held fuel t cs = some (.agg (zs.map fun z => .lit (.int .i64 z)), p)) : ∀ i, i < n → cs[i]? = some (.int .i64 (zs.getD i 0)) := by
  cases fuel with
  | zero => simp [DataW.trod] at h
  | succ fuel =>
    simp only [DataW.trod, ht, hce, hct, Nat.mul_one] at h
    split at h
    · rename_i hl
      obtain ⟨xs, hm, hx⟩ := Option.map_eq_some_iff.1 h
      have hxs : xs.map (·.1) = zs.map fun z => (DataW.lit (.int .i64 z) : DataW H) := by
        have := congrArg Prod.fst hx
        simpa using this
      intro i hi
      obtain ⟨b, hb, hf⟩ := Lib.mapM_at hm i i (by simp [hi])
      obtain ⟨z, hc, rfl, _⟩ := DataW.trod_int he hf
      have h1 : cs[i]? = some (.int .i64 z) := by
        have := congrArg (·[0]?) hc
        simpa [List.getElem?_take, List.getElem?_drop] using this
      have h2 : (xs.map (·.1))[i]? = some (DataW.lit (.int .i64 z) : DataW H) := by simp [hb]
      rw [hxs] at h2
      simp only [List.getElem?_map, Option.map_eq_some_iff, DataW.lit.injEq, Lit.int.injEq] at h2
      obtain ⟨z', hz', hz⟩ := h2
      rw [h1, List.getD_eq_getElem?_getD, hz']
      simp [hz]
    · cases h

theorem gSines : Tryz.prog.globalNamed "imageeditor/num.sines" = some 0 := have _ := 138; by kernel_rfl
theorem gSinesT : (Tryz.prog.globals[0]?).map (·.type) = some 138 := by kernel_rfl
theorem sines_of {W : World} (h : laidMetH Tryz.prog [("imageeditor/num.sines", Rows.laid_imageeditor_num_sines)] W) : Sines W := by
  obtain ⟨ps, ⟨g', t', cs, fuel, p, q, hg', ht', hvar, hd, h5, h6⟩, h7⟩ := h
  obtain rfl := Option.some.inj (gSines.symm.trans hg')
  obtain rfl := Option.some.inj (gSinesT.symm.trans ht')
  have hc := cells_of_ints (zs := sinTab) Tryz.underlying138 Tryz.underlying3 (by kernel_rfl) (by kernel_rfl) hd
  have hcell : ∀ i, i < 65 → W.cell? ⟨0, i, none⟩ = some (.int .i64 (sT i)) := fun i hi => by
    have := World.var?_cell gSines hvar i
    rw [this, show sT i = sinTab.getD i 0 from rfl]
    simpa using hc i hi
  exact ⟨lt_of_cell (hcell 0 (by omega)), hcell⟩
end Go.Proofs.YtieacbccadbdbaaGreatDoor

