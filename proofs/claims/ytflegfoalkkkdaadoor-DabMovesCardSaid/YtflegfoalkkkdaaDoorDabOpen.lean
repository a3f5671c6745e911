/- Openers of brushes and dabs. -/
import Derived.Test.YtflegfoalkkkdaaDoorDynOpen
import Derived.Test.YtflegfoalkkkdaaDoorDabKit
namespace Go.Proofs.YtflegfoalkkkdaaDoor
open Go.ChangeShapes Go.WideShapes Go.ChangeAt Go.RowKit Go.Deep
set_option linter.unusedVariables false
section
variable {H : Type} {enc : TypeId × Value → H} {W : World} {base : Nat} {spare : Nat → Bool} {held : Bool}
theorem openDab {v : Value} {d : DataW H} {p : List MemPlace} (hv : Value.okWide Tryd.prog W .any base 28 v) (h : DataW.Trod enc Tryd.prog W 0 (fun _ => true) true 28 v d p) :
    ∃ D : Dab, v = dbv D := by
  obtain ⟨cs, rfl, hsz⟩ := okWide_struct Tryd.underlying28 hv
  obtain ⟨fuel, hf⟩ := h
  obtain ⟨zs, hz, hl, hw⟩ := trodInts Tryd.underlying28 (by kernel_rfl) (by kernel_rfl) (fun j f hj => by
    match j, hj with
    | 0, hj => cases hj; exact Tryd.underlying3
    | 1, hj => cases hj; exact Tryd.underlying3
    | 2, hj => cases hj; exact Tryd.underlying3
    | 3, hj => cases hj; exact Tryd.underlying3
    | 4, hj => cases hj; exact Tryd.underlying3) hf
  match zs, hl with
  | [a, b, c, d, e], _ =>
    obtain ⟨cs⟩ := cs
    simp only [Value.cells] at hz
    subst hz
    exact ⟨⟨a, b, c, d, e⟩, rfl⟩
theorem trodBool {P : Program} {t : TypeId} {fuel : Nat} {cs : List Value} {x : DataW H × List MemPlace} (ht : P.underlying t = some .bool) (h : DataW.trod enc P W base spare held fuel t cs = some x) : ∃ b : Bool, cs = [.bool b] := by
  obtain ⟨b, hb, _⟩ := DataW.trod_bool ht h
  exact ⟨b, hb⟩
theorem trodBrush {fuel : Nat} {cs : List Value} {x : DataW H × List MemPlace} (h : DataW.trod enc Tryd.prog W base spare held fuel 26 cs = some x) :
    ∃ (B : Bru) (u : Value), cs = [.int .i64 B.sz, .int .i64 B.hd, .int .i64 B.rn, .int .i64 B.fl, .int .i64 B.op, .int .i64 B.sp, .int .i64 B.an, .int .i64 B.sc, .int .i64 B.md, .int .i64 B.r, .int .i64 B.g, .int .i64 B.b, .int .i64 B.a, .int .i64 B.sd, u, .bool B.er] ∧ Dn W u B.ds := by
  obtain ⟨ys, n, _, _, hlen, hyl, hf⟩ := DataW.trod_struct Tryd.underlying26 h
  have e16 : Tryd.prog.cellsOf 26 = 16 := by kernel_rfl
  have e4 : Tryd.prog.cellsOf 23 = 4 := by kernel_rfl
  have e1 : Tryd.prog.cellsOf 3 = 1 := by kernel_rfl
  have eb : Tryd.prog.cellsOf 4 = 1 := by kernel_rfl
  have ed : Tryd.prog.cellsOf 24 = 1 := by kernel_rfl
  have hyl' : ys.length = 13 := hyl
  rw [e16] at hlen
  match cs, hlen with
  | [c0, c1, c2, c3, c4, c5, c6, c7, c8, c9, c10, c11, c12, c13, c14, c15], _ =>
    have h0 : DataW.trod enc Tryd.prog W base spare held n 3 (([c0, c1, c2, c3, c4, c5, c6, c7, c8, c9, c10, c11, c12, c13, c14, c15].drop 0).take (Tryd.prog.cellsOf 3)) = ys[0]? := hf 0 _ rfl
    have h1 : DataW.trod enc Tryd.prog W base spare held n 3 (([c0, c1, c2, c3, c4, c5, c6, c7, c8, c9, c10, c11, c12, c13, c14, c15].drop 1).take (Tryd.prog.cellsOf 3)) = ys[1]? := hf 1 _ rfl
    have h2 : DataW.trod enc Tryd.prog W base spare held n 3 (([c0, c1, c2, c3, c4, c5, c6, c7, c8, c9, c10, c11, c12, c13, c14, c15].drop 2).take (Tryd.prog.cellsOf 3)) = ys[2]? := hf 2 _ rfl
    have h3 : DataW.trod enc Tryd.prog W base spare held n 3 (([c0, c1, c2, c3, c4, c5, c6, c7, c8, c9, c10, c11, c12, c13, c14, c15].drop 3).take (Tryd.prog.cellsOf 3)) = ys[3]? := hf 3 _ rfl
    have h4 : DataW.trod enc Tryd.prog W base spare held n 3 (([c0, c1, c2, c3, c4, c5, c6, c7, c8, c9, c10, c11, c12, c13, c14, c15].drop 4).take (Tryd.prog.cellsOf 3)) = ys[4]? := hf 4 _ rfl
    have h5 : DataW.trod enc Tryd.prog W base spare held n 3 (([c0, c1, c2, c3, c4, c5, c6, c7, c8, c9, c10, c11, c12, c13, c14, c15].drop 5).take (Tryd.prog.cellsOf 3)) = ys[5]? := hf 5 _ rfl
    have h6 : DataW.trod enc Tryd.prog W base spare held n 3 (([c0, c1, c2, c3, c4, c5, c6, c7, c8, c9, c10, c11, c12, c13, c14, c15].drop 6).take (Tryd.prog.cellsOf 3)) = ys[6]? := hf 6 _ rfl
    have h7 : DataW.trod enc Tryd.prog W base spare held n 3 (([c0, c1, c2, c3, c4, c5, c6, c7, c8, c9, c10, c11, c12, c13, c14, c15].drop 7).take (Tryd.prog.cellsOf 3)) = ys[7]? := hf 7 _ rfl
    have h8 : DataW.trod enc Tryd.prog W base spare held n 3 (([c0, c1, c2, c3, c4, c5, c6, c7, c8, c9, c10, c11, c12, c13, c14, c15].drop 8).take (Tryd.prog.cellsOf 3)) = ys[8]? := hf 8 _ rfl
    have h9 : DataW.trod enc Tryd.prog W base spare held n 23 (([c0, c1, c2, c3, c4, c5, c6, c7, c8, c9, c10, c11, c12, c13, c14, c15].drop 9).take (Tryd.prog.cellsOf 23)) = ys[9]? := hf 9 _ rfl
    have h10 : DataW.trod enc Tryd.prog W base spare held n 3 (([c0, c1, c2, c3, c4, c5, c6, c7, c8, c9, c10, c11, c12, c13, c14, c15].drop 13).take (Tryd.prog.cellsOf 3)) = ys[10]? := hf 10 _ rfl
    have h11 : DataW.trod enc Tryd.prog W base spare held n 24 (([c0, c1, c2, c3, c4, c5, c6, c7, c8, c9, c10, c11, c12, c13, c14, c15].drop 14).take (Tryd.prog.cellsOf 24)) = ys[11]? := hf 11 _ rfl
    have h12 : DataW.trod enc Tryd.prog W base spare held n 4 (([c0, c1, c2, c3, c4, c5, c6, c7, c8, c9, c10, c11, c12, c13, c14, c15].drop 15).take (Tryd.prog.cellsOf 4)) = ys[12]? := hf 12 _ rfl
    rw [e1, List.getElem?_eq_getElem (by omega)] at h0 h1 h2 h3 h4 h5 h6 h7 h8 h10
    rw [e4, List.getElem?_eq_getElem (by omega)] at h9
    rw [ed, List.getElem?_eq_getElem (by omega)] at h11
    rw [eb, List.getElem?_eq_getElem (by omega)] at h12
    obtain ⟨z0, e0', _, _⟩ := DataW.trod_int Tryd.underlying3 h0
    obtain ⟨z1, e1', _, _⟩ := DataW.trod_int Tryd.underlying3 h1
    obtain ⟨z2, e2', _, _⟩ := DataW.trod_int Tryd.underlying3 h2
    obtain ⟨z3, e3', _, _⟩ := DataW.trod_int Tryd.underlying3 h3
    obtain ⟨z4, e4', _, _⟩ := DataW.trod_int Tryd.underlying3 h4
    obtain ⟨z5, e5', _, _⟩ := DataW.trod_int Tryd.underlying3 h5
    obtain ⟨z6, e6', _, _⟩ := DataW.trod_int Tryd.underlying3 h6
    obtain ⟨z7, e7', _, _⟩ := DataW.trod_int Tryd.underlying3 h7
    obtain ⟨z8, e8', _, _⟩ := DataW.trod_int Tryd.underlying3 h8
    obtain ⟨z10, e10', _, _⟩ := DataW.trod_int Tryd.underlying3 h10
    obtain ⟨zs, hz, hl, _⟩ := trodInts Tryd.underlying23 (by kernel_rfl) (by kernel_rfl) (fun j f hj => by
      match j, hj with
      | 0, hj => cases hj; exact Tryd.underlying3
      | 1, hj => cases hj; exact Tryd.underlying3
      | 2, hj => cases hj; exact Tryd.underlying3
      | 3, hj => cases hj; exact Tryd.underlying3) h9
    obtain ⟨ds, hds⟩ := trodDyns (v := c14) h11
    obtain ⟨er, he⟩ := trodBool Tryd.underlying4 h12
    match zs, hl with
    | [p0, p1, p2, p3], _ =>
      simp at e0' e1' e2' e3' e4' e5' e6' e7' e8' e10' hz he
      obtain ⟨rfl, rfl, rfl, rfl⟩ := hz
      subst e0' e1' e2' e3' e4' e5' e6' e7' e8' e10' he
      exact ⟨⟨z0, z1, z2, z3, z4, z5, z6, z7, z8, p0, p1, p2, p3, z10, ds, er⟩, _, rfl, hds⟩
theorem openBrush {v : Value} {d : DataW H} {p : List MemPlace} (hv : Value.okWide Tryd.prog W .any base 26 v) (h : DataW.Trod enc Tryd.prog W 0 (fun _ => true) true 26 v d p) :
    ∃ (B : Bru) (u : Value), v = brv B u ∧ Dn W u B.ds := by
  obtain ⟨cs, rfl, hsz⟩ := okWide_struct Tryd.underlying26 hv
  obtain ⟨fuel, hf⟩ := h
  obtain ⟨B, u, hz, hp⟩ := trodBrush hf
  obtain ⟨cs⟩ := cs
  simp only [Value.cells] at hz
  subst hz
  exact ⟨B, u, rfl, hp⟩
end
end Go.Proofs.YtflegfoalkkkdaaDoor
