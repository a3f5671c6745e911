/- Masks of dabs, plainly; four boxes made at the start of a function. -/
import Derived.Test.YtjaidcdkkgnfoaaDoorDabCover
import Derived.Test.YtjaidcdkkgnfoaaDoorLRect
import Derived.Test.YtjaidcdkkgnfoaaDoorLRow
namespace Go.Proofs.YtjaidcdkkgnfoaaDoor
open Go.RowKit
set_option linter.unusedVariables false
theorem alloc4 (w : World) (A B C D : Obj) : Blk ((((w.alloc A).alloc B).alloc C).alloc D) w.heap.size A ∧ Blk ((((w.alloc A).alloc B).alloc C).alloc D) (w.heap.size + 1) B ∧ Blk ((((w.alloc A).alloc B).alloc C).alloc D) (w.heap.size + 1 + 1) C ∧ Blk ((((w.alloc A).alloc B).alloc C).alloc D) (w.heap.size + 1 + 1 + 1) D ∧ Below w.heap.size w ((((w.alloc A).alloc B).alloc C).alloc D) := by
  obtain ⟨h1, h2, h3, h4⟩ := alloc3 w A B C
  have hz : (((w.alloc A).alloc B).alloc C).heap.size = w.heap.size + 1 + 1 + 1 := by simp
  have hb : Below (((w.alloc A).alloc B).alloc C).heap.size (((w.alloc A).alloc B).alloc C) ((((w.alloc A).alloc B).alloc C).alloc D) := (Below.refl _ _).alloc (Nat.le_refl _) _
  refine ⟨h1.kept hb, h2.kept hb, h3.kept hb, ?_, h4.trans (hb.mono (by omega))⟩
  have := heap_alloc_new (((w.alloc A).alloc B).alloc C) D
  rw [hz] at this
  exact this
theorem name4 {P : Program} {c : Code} {Q : Exit → Act → World → Prop} {a : Act} {w : World} {A B C D : Obj}
    (h : ∀ W : World, Blk W w.heap.size A → Blk W (w.heap.size + 1) B → Blk W (w.heap.size + 1 + 1) C → Blk W (w.heap.size + 1 + 1 + 1) D → Below w.heap.size w W → c.wp P Q a W) : c.wp P Q a ((((w.alloc A).alloc B).alloc C).alloc D) :=
  h _ (alloc4 w A B C D).1 (alloc4 w A B C D).2.1 (alloc4 w A B C D).2.2.1 (alloc4 w A B C D).2.2.2.1 (alloc4 w A B C D).2.2.2.2

def tipAt (B : Bru) (d : Dab) (X Y : Int) (W : Nat) (i : Nat) : Int := cvr B d (X + ((i % W : Nat) : Int)) (Y + ((i / W : Nat) : Int))
def tipOut (B : Bru) (d : Dab) (X Y : Int) (W H : Nat) : List Int := (List.range (W * H)).map (tipAt B d X Y W)
theorem tipOut_len (B : Bru) (d : Dab) (X Y : Int) (W H : Nat) : (tipOut B d X Y W H).length = W * H := by simp [tipOut]
theorem tipOut_at (B : Bru) (d : Dab) (X Y : Int) (W H : Nat) (i : Nat) (hi : i < W * H) : (tipOut B d X Y W H).getD i 0 = tipAt B d X Y W i := by simp [tipOut, List.getD, hi]
theorem rSpan_true' {x w : Int} (h : rSpan x w = true) : -1048576 ≤ x ∧ x ≤ 1048576 ∧ 0 ≤ w ∧ w ≤ 1048576 - x := of_decide_eq_true h
theorem tipAt_eq (B : Bru) (d : Dab) (X Y : Int) (W k j : Nat) (hj : j < W) : tipAt B d X Y W (k * W + j) = cvr B d (X + (j : Int)) (Y + (k : Int)) := by
  have e1 : (k * W + j) % W = j := by rw [Nat.mul_comm, Nat.mul_add_mod]; exact Nat.mod_eq_of_lt hj
  have e2 : (k * W + j) / W = k := by rw [Nat.mul_comm, Nat.mul_add_div (by omega)]; rw [Nat.div_eq_of_lt hj]; omega
  unfold tipAt
  rw [e1, e2]
/-- The other ends of Tip. -/
def TipBad (B : Bru) (d : Dab) (X Y W H E : Int) : Prop :=
  (bchk B ≠ 0 ∧ E = bchk B) ∨ (bchk B = 0 ∧ dOk d = false ∧ E = 2) ∨ (bchk B = 0 ∧ dOk d = true ∧ rValid X Y W H = false ∧ E = 2) ∨
  (bchk B = 0 ∧ dOk d = true ∧ rValid X Y W H = true ∧ 256 < W ∧ E = 15) ∨ (bchk B = 0 ∧ dOk d = true ∧ rValid X Y W H = true ∧ ¬ 256 < W ∧ 256 < H ∧ E = 15) ∨
  (bchk B = 0 ∧ dOk d = true ∧ rValid X Y W H = true ∧ ¬ 256 < W ∧ ¬ 256 < H ∧ (W == 0 || H == 0) = true ∧ E = 0)
theorem tip_cases (B : Bru) (d : Dab) (X Y W H : Int) : (∃ E, TipBad B d X Y W H E) ∨ (bchk B = 0 ∧ dOk d = true ∧ rValid X Y W H = true ∧ 0 < W ∧ W ≤ 256 ∧ 0 < H ∧ H ≤ 256) := by
  by_cases h1 : bchk B = 0
  · cases h2 : dOk d with
    | false => exact .inl ⟨2, .inr (.inl ⟨h1, h2, rfl⟩)⟩
    | true =>
      cases h3 : rValid X Y W H with
      | false => exact .inl ⟨2, .inr (.inr (.inl ⟨h1, h2, h3, rfl⟩))⟩
      | true =>
        by_cases h4 : 256 < W
        · exact .inl ⟨15, .inr (.inr (.inr (.inl ⟨h1, h2, h3, h4, rfl⟩)))⟩
        · by_cases h5 : 256 < H
          · exact .inl ⟨15, .inr (.inr (.inr (.inr (.inl ⟨h1, h2, h3, h4, h5, rfl⟩))))⟩
          · cases h6 : (W == 0 || H == 0) with
            | true => exact .inl ⟨0, .inr (.inr (.inr (.inr (.inr ⟨h1, h2, h3, h4, h5, h6, rfl⟩))))⟩
            | false =>
              have h3' := h3
              unfold rValid at h3'
              rw [Bool.and_eq_true] at h3'
              have a := rSpan_true' h3'.1
              have b := rSpan_true' h3'.2
              simp only [Bool.or_eq_false_iff, beq_eq_false_iff_ne] at h6
              exact .inr ⟨h1, rfl, rfl, by omega, by omega, by omega, by omega⟩
  · exact .inl ⟨_, .inl ⟨h1, rfl⟩⟩
end Go.Proofs.YtjaidcdkkgnfoaaDoor

