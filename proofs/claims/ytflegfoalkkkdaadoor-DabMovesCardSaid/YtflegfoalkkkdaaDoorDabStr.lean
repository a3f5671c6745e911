/- Structs of five cells stored whole. -/
import Derived.Test.YtflegfoalkkkdaaDoorDabKit
namespace Go.Proofs.YtflegfoalkkkdaaDoor
open Go.RowKit
set_option linter.unusedVariables false
theorem Chg.trans {b : Nat} {o o' : Obj} {w w' w2 : World} (h : Chg b o w w') (h' : Chg b o' w' w2) : Chg b o' w w2 :=
  ⟨h'.os.trans h.os, h'.tape.trans h.tape, h'.output.trans h.output, h'.size.trans h.size, h'.at_, fun k hk => (h'.other k hk).trans (h.other k hk)⟩
theorem set5 {w : World} {b : Nat} {x0 x1 x2 x3 x4 : Value} {t : TypeId} {m : Nat × Nat} (h : w.heap[b]? = some (.cells #[x0, x1, x2, x3, x4] t m)) (v0 v1 v2 v3 v4 : Value) :
    Chg b (.cells #[v0, v1, v2, v3, v4] t m) w (((((w.setCell ⟨b, 0, none⟩ v0).setCell ⟨b, 1, none⟩ v1).setCell ⟨b, 2, none⟩ v2).setCell ⟨b, 3, none⟩ v3).setCell ⟨b, 4, none⟩ v4) := by
  have h0 : Chg b (.cells #[v0, x1, x2, x3, x4] t m) (w) ((w).setCell ⟨b, 0, none⟩ v0) := chg_set h v0 (i := 0) (by simp)
  have h1 : Chg b (.cells #[v0, v1, x2, x3, x4] t m) ((w).setCell ⟨b, 0, none⟩ v0) (((w).setCell ⟨b, 0, none⟩ v0).setCell ⟨b, 1, none⟩ v1) := chg_set h0.at_ v1 (i := 1) (by simp)
  have h2 : Chg b (.cells #[v0, v1, v2, x3, x4] t m) (((w).setCell ⟨b, 0, none⟩ v0).setCell ⟨b, 1, none⟩ v1) ((((w).setCell ⟨b, 0, none⟩ v0).setCell ⟨b, 1, none⟩ v1).setCell ⟨b, 2, none⟩ v2) := chg_set h1.at_ v2 (i := 2) (by simp)
  have h3 : Chg b (.cells #[v0, v1, v2, v3, x4] t m) ((((w).setCell ⟨b, 0, none⟩ v0).setCell ⟨b, 1, none⟩ v1).setCell ⟨b, 2, none⟩ v2) (((((w).setCell ⟨b, 0, none⟩ v0).setCell ⟨b, 1, none⟩ v1).setCell ⟨b, 2, none⟩ v2).setCell ⟨b, 3, none⟩ v3) := chg_set h2.at_ v3 (i := 3) (by simp)
  have h4 : Chg b (.cells #[v0, v1, v2, v3, v4] t m) (((((w).setCell ⟨b, 0, none⟩ v0).setCell ⟨b, 1, none⟩ v1).setCell ⟨b, 2, none⟩ v2).setCell ⟨b, 3, none⟩ v3) ((((((w).setCell ⟨b, 0, none⟩ v0).setCell ⟨b, 1, none⟩ v1).setCell ⟨b, 2, none⟩ v2).setCell ⟨b, 3, none⟩ v3).setCell ⟨b, 4, none⟩ v4) := chg_set h3.at_ v4 (i := 4) (by simp)
  exact (((h0.trans h1).trans h2).trans h3).trans h4
theorem end5 {P : Program} {fn : Func} {R : Ending → World → Prop} {a : Act} {B : Nat} {w0 w : World} {b : Nat} {x0 x1 x2 x3 x4 v0 v1 v2 v3 v4 : Value} {t : TypeId} (hb : Below B w0 w) (k : Blk w b (.cells #[x0, x1, x2, x3, x4] t (0, 0))) (hB : B ≤ b)
    (hres : ∀ w3 : World, (w3.cell? ⟨b, 0, none⟩ = some v0 ∧ w3.cell? ⟨b, 1, none⟩ = some v1 ∧ w3.cell? ⟨b, 2, none⟩ = some v2 ∧ w3.cell? ⟨b, 3, none⟩ = some v3 ∧ w3.cell? ⟨b, 4, none⟩ = some v4 ∧ ∀ o, w3.frozen? ⟨b, o, none⟩ = false) → (results fn a.tmps).run P w3 = .ok (.agg #[v0, v1, v2, v3, v4]) w3)
    (hd : a.defers = []) (hn : ∀ w3 : World, Below B w0 w3 → R (.returned (.agg #[v0, v1, v2, v3, v4])) w3) :
    bodyPost P fn R .ret a (((((w.setCell ⟨b, 0, none⟩ v0).setCell ⟨b, 1, none⟩ v1).setCell ⟨b, 2, none⟩ v2).setCell ⟨b, 3, none⟩ v3).setCell ⟨b, 4, none⟩ v4) :=
  have ch := set5 k v0 v1 v2 v3 v4
  bodyPost_ret (hres _ ch.blk.c5) hd (hn _ (hb.trans (ch.below hB)))
theorem mid5 {P : Program} {c : Code} {Q : Exit → Act → World → Prop} {a : Act} {B : Nat} {w0 w : World} {b : Nat} {x0 x1 x2 x3 x4 v0 v1 v2 v3 v4 : Value} {t : TypeId} (hb : Below B w0 w) (k : Blk w b (.cells #[x0, x1, x2, x3, x4] t (0, 0))) (hB : B ≤ b)
    (hn : ∀ w2 : World, Blk w2 b (.cells #[v0, v1, v2, v3, v4] t (0, 0)) → (∀ i o, i ≠ b → Blk w i o → Blk w2 i o) → Below B w0 w2 → c.wp P Q a w2) :
    c.wp P Q a (((((w.setCell ⟨b, 0, none⟩ v0).setCell ⟨b, 1, none⟩ v1).setCell ⟨b, 2, none⟩ v2).setCell ⟨b, 3, none⟩ v3).setCell ⟨b, 4, none⟩ v4) :=
  have ch := set5 k v0 v1 v2 v3 v4
  hn _ ch.blk (fun i o hi => ch.keeps i o hi) (hb.trans (ch.below hB))
end Go.Proofs.YtflegfoalkkkdaaDoor
