/- Blocks of the call's own, known whole: what a call that only makes memory leaves of them, what a store makes of them; the world under new names. -/
import Derived.Test.YtflegfoalkkkdaaDoorKit
import Derived.Test.YtflegfoalkkkdaaDoorGrow
import Derived.Laws.AppendOwn
namespace Go.Proofs.YtflegfoalkkkdaaDoor
open Go.RowKit
set_option linter.unusedVariables false

/-- Block b of the world w is o. -/
def Blk (w : World) (b : Nat) (o : Obj) : Prop := w.heap[b]? = some o
theorem Blk.lt {w : World} {b : Nat} {o : Obj} (k : Blk w b o) : b < w.heap.size := lt_of_block k
theorem Blk.kept {W w' : World} {b : Nat} {o : Obj} (k : Blk W b o) (h : Below W.heap.size W w') : Blk w' b o := (h.block _ k.lt).trans k
theorem Blk.keptB {B : Nat} {W w' : World} {b : Nat} {o : Obj} (k : Blk W b o) (h : Below B W w') (hlt : b < B) : Blk w' b o := (h.block _ hlt).trans k
theorem Blk.drewN {w : World} {b : Nat} {o : Obj} (k : Blk w b o) (n : Nat) : Blk (w.drewN n) b o := k

/-- The cells of a block, and that they may be written, as rules for the walk. -/
theorem Blk.c1 {w : World} {b : Nat} {x0 : Value} {t : TypeId} (k : Blk w b (.cells #[x0] t (0, 0))) :
    w.cell? ⟨b, 0, none⟩ = some x0 ∧ ∀ o, w.frozen? ⟨b, o, none⟩ = false := ⟨cell_blk k rfl, fun _ => free_blk k⟩
theorem Blk.c2 {w : World} {b : Nat} {x0 x1 : Value} {t : TypeId} (k : Blk w b (.cells #[x0, x1] t (0, 0))) :
    w.cell? ⟨b, 0, none⟩ = some x0 ∧ w.cell? ⟨b, 1, none⟩ = some x1 ∧ ∀ o, w.frozen? ⟨b, o, none⟩ = false := ⟨cell_blk k rfl, cell_blk k rfl, fun _ => free_blk k⟩
theorem Blk.c3 {w : World} {b : Nat} {x0 x1 x2 : Value} {t : TypeId} (k : Blk w b (.cells #[x0, x1, x2] t (0, 0))) :
    w.cell? ⟨b, 0, none⟩ = some x0 ∧ w.cell? ⟨b, 1, none⟩ = some x1 ∧ w.cell? ⟨b, 2, none⟩ = some x2 ∧ ∀ o, w.frozen? ⟨b, o, none⟩ = false := ⟨cell_blk k rfl, cell_blk k rfl, cell_blk k rfl, fun _ => free_blk k⟩
theorem Blk.c4 {w : World} {b : Nat} {x0 x1 x2 x3 : Value} {t : TypeId} (k : Blk w b (.cells #[x0, x1, x2, x3] t (0, 0))) :
    w.cell? ⟨b, 0, none⟩ = some x0 ∧ w.cell? ⟨b, 1, none⟩ = some x1 ∧ w.cell? ⟨b, 2, none⟩ = some x2 ∧ w.cell? ⟨b, 3, none⟩ = some x3 ∧ ∀ o, w.frozen? ⟨b, o, none⟩ = false := cells4 k

theorem Blk.c5 {w : World} {b : Nat} {x0 x1 x2 x3 x4 : Value} {t : TypeId} (k : Blk w b (.cells #[x0, x1, x2, x3, x4] t (0, 0))) :
    w.cell? ⟨b, 0, none⟩ = some x0 ∧ w.cell? ⟨b, 1, none⟩ = some x1 ∧ w.cell? ⟨b, 2, none⟩ = some x2 ∧ w.cell? ⟨b, 3, none⟩ = some x3 ∧ w.cell? ⟨b, 4, none⟩ = some x4 ∧ ∀ o, w.frozen? ⟨b, o, none⟩ = false :=
  ⟨cell_blk k rfl, cell_blk k rfl, cell_blk k rfl, cell_blk k rfl, cell_blk k rfl, fun _ => free_blk k⟩

/-- Entering: the boxes that a function makes first. -/
theorem name1 {P : Program} {c : Code} {Q : Exit → Act → World → Prop} {a : Act} {w : World} {A : Obj}
    (h : ∀ W : World, Blk W w.heap.size A → Below w.heap.size w W → c.wp P Q a W) : c.wp P Q a (w.alloc A) :=
  h _ (heap_alloc_new _ _) ((Below.refl _ _).alloc (Nat.le_refl _) _)
theorem alloc2 (w : World) (A B : Obj) : Blk ((w.alloc A).alloc B) w.heap.size A ∧ Blk ((w.alloc A).alloc B) (w.heap.size + 1) B ∧ Below w.heap.size w ((w.alloc A).alloc B) := by
  refine ⟨?_, ?_, ((Below.refl _ _).alloc (Nat.le_refl _) _).alloc (by simp) _⟩
  · show _ = _
    rw [Below.heap_alloc _ _ _ (by simp), heap_alloc_new]
  · have := heap_alloc_new (w.alloc A) B
    show _ = _
    simpa using this
theorem name2 {P : Program} {c : Code} {Q : Exit → Act → World → Prop} {a : Act} {w : World} {A B : Obj}
    (h : ∀ W : World, Blk W w.heap.size A → Blk W (w.heap.size + 1) B → Below w.heap.size w W → c.wp P Q a W) : c.wp P Q a ((w.alloc A).alloc B) :=
  h _ (alloc2 w A B).1 (alloc2 w A B).2.1 (alloc2 w A B).2.2
theorem name1d {P : Program} {c : Code} {Q : Exit → Act → World → Prop} {a : Act} {w : World} {A : Obj}
    (h : ∀ W : World, Blk W w.heap.size A → Below w.heap.size w W → c.wp P Q a W) : c.wp P Q a (w.alloc A).drew :=
  h _ (heap_alloc_new _ _) ((Below.refl _ _).alloc (Nat.le_refl _) _).drew
theorem name2d {P : Program} {c : Code} {Q : Exit → Act → World → Prop} {a : Act} {w : World} {A B : Obj}
    (h : ∀ W : World, Blk W w.heap.size A → Blk W (w.heap.size + 1) B → Below w.heap.size w W → c.wp P Q a W) : c.wp P Q a ((w.alloc A).alloc B).drew :=
  h _ (alloc2 w A B).1 (alloc2 w A B).2.1 (alloc2 w A B).2.2.drew
theorem alloc3 (w : World) (A B C : Obj) : Blk (((w.alloc A).alloc B).alloc C) w.heap.size A ∧ Blk (((w.alloc A).alloc B).alloc C) (w.heap.size + 1) B ∧ Blk (((w.alloc A).alloc B).alloc C) (w.heap.size + 1 + 1) C ∧ Below w.heap.size w (((w.alloc A).alloc B).alloc C) := by
  obtain ⟨h1, h2, h3⟩ := alloc2 w A B
  have hz : ((w.alloc A).alloc B).heap.size = w.heap.size + 1 + 1 := by simp
  have hb : Below ((w.alloc A).alloc B).heap.size ((w.alloc A).alloc B) (((w.alloc A).alloc B).alloc C) := (Below.refl _ _).alloc (Nat.le_refl _) _
  refine ⟨h1.kept hb, h2.kept hb, ?_, h3.trans (hb.mono (by omega))⟩
  have := heap_alloc_new ((w.alloc A).alloc B) C
  rw [hz] at this
  exact this
theorem name3 {P : Program} {c : Code} {Q : Exit → Act → World → Prop} {a : Act} {w : World} {A B C : Obj}
    (h : ∀ W : World, Blk W w.heap.size A → Blk W (w.heap.size + 1) B → Blk W (w.heap.size + 1 + 1) C → Below w.heap.size w W → c.wp P Q a W) : c.wp P Q a (((w.alloc A).alloc B).alloc C) :=
  h _ (alloc3 w A B C).1 (alloc3 w A B C).2.1 (alloc3 w A B C).2.2.1 (alloc3 w A B C).2.2.2
theorem callName1 {P : Program} {f : FuncId} {args : Array Value} {Q : Ending → World → Prop} {w : World} {A : Obj}
    (h : ∀ W : World, Blk W w.heap.size A → Below w.heap.size w W → Calls P f args W Q) : Calls P f args (w.alloc A) Q :=
  h _ (heap_alloc_new _ _) ((Below.refl _ _).alloc (Nat.le_refl _) _)
theorem callName2 {P : Program} {f : FuncId} {args : Array Value} {Q : Ending → World → Prop} {w : World} {A B : Obj}
    (h : ∀ W : World, Blk W w.heap.size A → Blk W (w.heap.size + 1) B → Below w.heap.size w W → Calls P f args W Q) : Calls P f args ((w.alloc A).alloc B) Q :=
  h _ (alloc2 w A B).1 (alloc2 w A B).2.1 (alloc2 w A B).2.2
theorem callName3 {P : Program} {f : FuncId} {args : Array Value} {Q : Ending → World → Prop} {w : World} {A B C : Obj}
    (h : ∀ W : World, Blk W w.heap.size A → Blk W (w.heap.size + 1) B → Blk W (w.heap.size + 1 + 1) C → Below w.heap.size w W → Calls P f args W Q) : Calls P f args (((w.alloc A).alloc B).alloc C) Q :=
  h _ (alloc3 w A B C).1 (alloc3 w A B C).2.1 (alloc3 w A B C).2.2.1 (alloc3 w A B C).2.2.2

theorem Chg.blk {b : Nat} {o : Obj} {w w' : World} (h : Chg b o w w') : Blk w' b o := h.at_
theorem Chg.keeps {b : Nat} {o : Obj} {w w' : World} (h : Chg b o w w') (k : Nat) (o' : Obj) (hk : k ≠ b) (h' : Blk w k o') : Blk w' k o' := (h.other k hk).trans h'

/-- A struct of four cells stored whole into a block of the call's own: the world goes by a new name. -/
theorem mid4 {P : Program} {c : Code} {Q : Exit → Act → World → Prop} {a : Act} {B : Nat} {w0 w : World} {b : Nat} {x0 x1 x2 x3 v0 v1 v2 v3 : Value} {t : TypeId} (hb : Below B w0 w) (k : Blk w b (.cells #[x0, x1, x2, x3] t (0, 0))) (hB : B ≤ b)
    (hn : ∀ w2 : World, Blk w2 b (.cells #[v0, v1, v2, v3] t (0, 0)) → (∀ i o, i ≠ b → Blk w i o → Blk w2 i o) → Below B w0 w2 → c.wp P Q a w2) :
    c.wp P Q a ((((w.setCell ⟨b, 0, none⟩ v0).setCell ⟨b, 1, none⟩ v1).setCell ⟨b, 2, none⟩ v2).setCell ⟨b, 3, none⟩ v3) :=
  have ch := set4 k v0 v1 v2 v3
  hn _ ch.blk (fun i o hi => ch.keeps i o hi) (hb.trans (ch.below hB))
theorem callMid4 {P : Program} {f : FuncId} {args : Array Value} {Q : Ending → World → Prop} {B : Nat} {w0 w : World} {b : Nat} {x0 x1 x2 x3 v0 v1 v2 v3 : Value} {t : TypeId} (hb : Below B w0 w) (k : Blk w b (.cells #[x0, x1, x2, x3] t (0, 0))) (hB : B ≤ b)
    (hn : ∀ w2 : World, Blk w2 b (.cells #[v0, v1, v2, v3] t (0, 0)) → (∀ i o, i ≠ b → Blk w i o → Blk w2 i o) → Below B w0 w2 → Calls P f args w2 Q) :
    Calls P f args ((((w.setCell ⟨b, 0, none⟩ v0).setCell ⟨b, 1, none⟩ v1).setCell ⟨b, 2, none⟩ v2).setCell ⟨b, 3, none⟩ v3) Q :=
  have ch := set4 k v0 v1 v2 v3
  hn _ ch.blk (fun i o hi => ch.keeps i o hi) (hb.trans (ch.below hB))
theorem mid44 {P : Program} {c : Code} {Q : Exit → Act → World → Prop} {a : Act} {B : Nat} {w0 w : World} {b b' : Nat} {x0 x1 x2 x3 v0 v1 v2 v3 y0 y1 y2 y3 u0 u1 u2 u3 : Value} {t t' : TypeId} (hb : Below B w0 w) (k : Blk w b (.cells #[x0, x1, x2, x3] t (0, 0))) (k' : Blk w b' (.cells #[y0, y1, y2, y3] t' (0, 0)))
    (hne : b' ≠ b) (hB : B ≤ b) (hB' : B ≤ b')
    (hn : ∀ w2 : World, Blk w2 b (.cells #[v0, v1, v2, v3] t (0, 0)) → Blk w2 b' (.cells #[u0, u1, u2, u3] t' (0, 0)) → (∀ i o, i ≠ b → i ≠ b' → Blk w i o → Blk w2 i o) → Below B w0 w2 → c.wp P Q a w2) :
    c.wp P Q a ((((((((w.setCell ⟨b, 0, none⟩ v0).setCell ⟨b, 1, none⟩ v1).setCell ⟨b, 2, none⟩ v2).setCell ⟨b, 3, none⟩ v3).setCell ⟨b', 0, none⟩ u0).setCell ⟨b', 1, none⟩ u1).setCell ⟨b', 2, none⟩ u2).setCell ⟨b', 3, none⟩ u3) :=
  have ch := set4 k v0 v1 v2 v3
  have ch' := set4 (ch.keeps _ _ hne k') u0 u1 u2 u3
  hn _ (ch'.keeps _ _ (Ne.symm hne) ch.blk) ch'.blk (fun i o hi hi' hk => ch'.keeps i o hi' (ch.keeps i o hi hk)) ((hb.trans (ch.below hB)).trans (ch'.below hB'))
/-- The end of a function that returns a struct of four cells, just stored. -/
theorem end4 {P : Program} {fn : Func} {R : Ending → World → Prop} {a : Act} {B : Nat} {w0 w : World} {b : Nat} {x0 x1 x2 x3 v0 v1 v2 v3 : Value} {t : TypeId} (hb : Below B w0 w) (k : Blk w b (.cells #[x0, x1, x2, x3] t (0, 0))) (hB : B ≤ b)
    (hres : ∀ w3 : World, (w3.cell? ⟨b, 0, none⟩ = some v0 ∧ w3.cell? ⟨b, 1, none⟩ = some v1 ∧ w3.cell? ⟨b, 2, none⟩ = some v2 ∧ w3.cell? ⟨b, 3, none⟩ = some v3 ∧ ∀ o, w3.frozen? ⟨b, o, none⟩ = false) → (results fn a.tmps).run P w3 = .ok (.agg #[v0, v1, v2, v3]) w3)
    (hd : a.defers = []) (hn : ∀ w3 : World, Below B w0 w3 → R (.returned (.agg #[v0, v1, v2, v3])) w3) :
    bodyPost P fn R .ret a ((((w.setCell ⟨b, 0, none⟩ v0).setCell ⟨b, 1, none⟩ v1).setCell ⟨b, 2, none⟩ v2).setCell ⟨b, 3, none⟩ v3) :=
  have ch := set4 k v0 v1 v2 v3
  bodyPost_ret (hres _ ch.blk.c4) hd (hn _ (hb.trans (ch.below hB)))
/-- What the call owns stays owned behind a call that only makes memory. -/
theorem ownsKept {W w' : World} {base : Nat} {e : TypeId} {size : Nat} {v : Value} {n : Nat} {xs : List Value} (h : W.ownsRow base e size v n xs) (hS : Below W.heap.size W w') : w'.ownsRow base e size v n xs := by
  obtain ⟨h1, h2⟩ := h
  refine ⟨h1, ?_⟩
  rcases h2 with h2 | ⟨g, cap, cur, hv, hg, hh, r⟩
  · exact .inl h2
  · exact .inr ⟨g, cap, cur, hv, hg, (hS.block g (lt_of_block hh)).trans hh, r⟩
theorem Blk.grown {w w' : World} {b : Nat} {o : Obj} {row : Option Nat} (k : Blk w b o) (hg : w.grownBy w' row) (hne : row ≠ some b) : Blk w' b o :=
  (hg.block b k.lt (fun h => hne h.symm)).trans k
theorem Blk.alloc {w : World} {b : Nat} {o : Obj} (k : Blk w b o) (o' : Obj) : Blk (w.alloc o') b o := (Below.heap_alloc _ _ _ k.lt).trans k
theorem Blk.kept0 {w : World} {b : Nat} {o : Obj} (k : Blk w b o) : True := trivial
/-- One cell of a block is stored; another block's. -/
theorem Blk.set1 {w : World} {b : Nat} {cs cs' : Array Value} {t : TypeId} {m : Nat × Nat} (k : Blk w b (.cells cs t m)) (i : Nat) (u : Value) (hi : i < cs.size) (he : cs.set i u = cs') : Blk (w.setCell ⟨b, i, none⟩ u) b (.cells cs' t m) :=
  he ▸ (chg_set k u hi).at_
theorem Blk.other {w : World} {b : Nat} {o : Obj} (k : Blk w b o) {p : Addr} (hne : b ≠ p.block) (u : Value) : Blk (w.setCell p u) b o := (Below.heap_setCell _ _ _ _ hne).trans k
theorem Blk.drewd {w : World} {b : Nat} {o : Obj} (k : Blk w b o) : Blk w.drew b o := k
/-- The world of a call goes by a new name. -/
theorem callGen {P : Program} {f : FuncId} {args : Array Value} {Q : Ending → World → Prop} {X : World} (h : ∀ W : World, W = X → Calls P f args W Q) : Calls P f args X Q := h X rfl
theorem codeGen {P : Program} {c : Code} {Q : Exit → Act → World → Prop} {a : Act} {X : World} (h : ∀ W : World, W = X → c.wp P Q a W) : c.wp P Q a X := h X rfl
theorem below4 {B : Nat} {w0 w : World} (hb : Below B w0 w) {b : Nat} (hB : B ≤ b) (v0 v1 v2 v3 : Value) : Below B w0 ((((w.setCell ⟨b, 0, none⟩ v0).setCell ⟨b, 1, none⟩ v1).setCell ⟨b, 2, none⟩ v2).setCell ⟨b, 3, none⟩ v3) :=
  (((hb.setCell hB _).setCell hB _).setCell hB _).setCell hB _
end Go.Proofs.YtflegfoalkkkdaaDoor
