/- The walks of the sources of package random and of its reference, and of the chapter's examples. -/
import Derived.Test.YtccpnfkncleilaaRand
namespace Go.Proofs.Ytccpnfkncleilaa
open Go.RowKit
set_option linter.unusedVariables false

def srcObj (s i : Int) : Obj := .cells #[.bool true, .int .i64 s, .int .i64 i] 40 (0, 0)
def refObj (s i : Int) : Obj := .cells #[.int .i64 s, .int .i64 i, .bool true] 44 (0, 0)

set_option maxHeartbeats 400000 in
theorem new_any (s : Int) (w : World) :
    Calls Try.prog 17 #[.int .i64 s] w fun e w' => e = .returned (.pointer (some ⟨w.heap.size, 0, none⟩)) ∧ w' = w.alloc (srcObj s 0) := by
  go_enter Try.func17, Try.ntmps17
  go_wp2
  go_ret
  exact ⟨rfl, rfl⟩

set_option maxHeartbeats 400000 in
theorem next_any (s i : Int) (b : Nat) (w : World) (h : w.heap[b]? = some (srcObj s i)) (h0 : 0 ≤ i) (h1 : i < 9223372036854775807) :
    Calls Try.prog 19 #[.pointer (some ⟨b, 0, none⟩)] w fun e w' => e = .returned (.int .u32 (atI s i 0)) ∧ Chg b (srcObj s (i + 1)) w w' := by
  have c0 : w.cell? ⟨b, 0, none⟩ = some (.bool true) := cell_blk h rfl
  have c1 : w.cell? ⟨b, 1, none⟩ = some (.int .i64 s) := cell_blk h rfl
  have c2 : w.cell? ⟨b, 2, none⟩ = some (.int .i64 i) := cell_blk h rfl
  have f2 : w.frozen? ⟨b, 2, none⟩ = false := free_blk h
  have H := Lib.hid h
  clear h
  go_enter Try.func19, Try.ntmps19
  go_wp2
  go_quiet ((go_at_call 9; exact quietSame (at_any _ _ _ _)))
  go_wp2
  go_ret
  exact ⟨rfl, (chg_set H.out (.int .i64 (i + 1)) (i := 2) (by simp)).drewN nq⟩

set_option maxHeartbeats 400000 in
theorem srcBelow_any (s i n : Int) (b : Nat) (w : World) (h : w.heap[b]? = some (srcObj s i)) (h0 : 0 ≤ i) (h1 : i < 9223372036854775807) :
    Calls Try.prog 22 #[.pointer (some ⟨b, 0, none⟩), .int .i64 n] w fun e w' => e = .returned (.int .i64 (belowI s i 0 n)) ∧ Chg b (srcObj s (i + 1)) w w' := by
  have c0 : w.cell? ⟨b, 0, none⟩ = some (.bool true) := cell_blk h rfl
  have c1 : w.cell? ⟨b, 1, none⟩ = some (.int .i64 s) := cell_blk h rfl
  have c2 : w.cell? ⟨b, 2, none⟩ = some (.int .i64 i) := cell_blk h rfl
  have f2 : w.frozen? ⟨b, 2, none⟩ = false := free_blk h
  have H := Lib.hid h
  clear h
  go_enter Try.func22, Try.ntmps22
  go_wp2
  go_quiet ((go_at_call 15; exact quietSame (below_any _ _ _ _ _)))
  go_wp2
  go_ret
  exact ⟨rfl, (chg_set H.out (.int .i64 (i + 1)) (i := 2) (by simp)).drewN nq⟩

set_option maxHeartbeats 400000 in
theorem refNew_any (s : Int) (w : World) :
    Calls Try.prog 18 #[.int .i64 s] w fun e w' => e = .returned (.pointer (some ⟨w.heap.size, 0, none⟩)) ∧ w' = w.alloc (refObj s 0) := by
  go_enter Try.func18, Try.ntmps18
  go_wp2
  go_ret
  exact ⟨rfl, rfl⟩

set_option maxHeartbeats 400000 in
theorem refNext_any (s i : Int) (b : Nat) (w : World) (h : w.heap[b]? = some (refObj s i)) (h0 : 0 ≤ i) (h1 : i < 9223372036854775807) :
    Calls Try.prog 20 #[.pointer (some ⟨b, 0, none⟩)] w fun e w' => e = .returned (.int .u32 (atI s i 0)) ∧ Chg b (refObj s (i + 1)) w w' := by
  have c0 : w.cell? ⟨b, 0, none⟩ = some (.int .i64 s) := cell_blk h rfl
  have c1 : w.cell? ⟨b, 1, none⟩ = some (.int .i64 i) := cell_blk h rfl
  have c2 : w.cell? ⟨b, 2, none⟩ = some (.bool true) := cell_blk h rfl
  have f2 : w.frozen? ⟨b, 1, none⟩ = false := free_blk h
  have H := Lib.hid h
  clear h
  go_enter Try.func20, Try.ntmps20
  go_wp2
  go_quiet ((go_at_call 12; exact quietSame (refAt_any _ _ _ _)))
  go_wp2
  go_ret
  exact ⟨by simp, (chg_set H.out (.int .i64 (i + 1)) (i := 1) (by simp)).drewN nq⟩

set_option maxHeartbeats 400000 in
theorem refSrcBelow_any (s i n : Int) (b : Nat) (w : World) (h : w.heap[b]? = some (refObj s i)) (h0 : 0 ≤ i) (h1 : i < 9223372036854775807) :
    Calls Try.prog 21 #[.pointer (some ⟨b, 0, none⟩), .int .i64 n] w fun e w' => e = .returned (.int .i64 (belowI s i 0 n)) ∧ Chg b (refObj s (i + 1)) w w' := by
  have c0 : w.cell? ⟨b, 0, none⟩ = some (.int .i64 s) := cell_blk h rfl
  have c1 : w.cell? ⟨b, 1, none⟩ = some (.int .i64 i) := cell_blk h rfl
  have c2 : w.cell? ⟨b, 2, none⟩ = some (.bool true) := cell_blk h rfl
  have f2 : w.frozen? ⟨b, 1, none⟩ = false := free_blk h
  have H := Lib.hid h
  clear h
  go_enter Try.func21, Try.ntmps21
  go_wp2
  go_quiet ((go_at_call 16; exact quietSame (refBelow_any _ _ _ _ _)))
  go_wp2
  go_ret
  exact ⟨by simp, (chg_set H.out (.int .i64 (i + 1)) (i := 1) (by simp)).drewN nq⟩

theorem at000 : atI 0 0 0 = 0 := by decide +kernel
theorem below1 : belowI 7 8 9 1 = 0 := by decide +kernel
theorem below5 : belowI 7 8 9 (-5) = 0 := by decide +kernel

set_option maxHeartbeats 400000 in
theorem example_any (w : World) :
    Calls Try.prog 11 #[] w fun e w' => e = .returned (.bool true) ∧ Below w.heap.size w w' := by
  go_enter Try.func11, Try.ntmps11
  go_wp2_with fail
  refine (new_any _ _).mono ?_
  rintro e w1 ⟨rfl, rfl⟩
  go_wp2_with fail
  refine (next_any 0 0 _ _ (heap_alloc_new _ _) (by omega) (by omega)).mono ?_
  rintro e w1 ⟨rfl, h1⟩
  rw [at000]
  go_wp2_with fail
  refine (next_any 0 (0 + 1) _ _ h1.at_ (by omega) (by omega)).mono ?_
  rintro e w2 ⟨rfl, h2⟩
  go_wp2_with fail
  refine (at_any _ _ _ _).mono ?_
  rintro e w3 ⟨rfl, rfl⟩
  go_wp2_with fail
  refine (at_any _ _ _ _).mono ?_
  rintro e w3 ⟨rfl, rfl⟩
  rw [at000]
  go_wp2_with fail
  refine (below_any _ _ _ _ _).mono ?_
  rintro e w3 ⟨rfl, rfl⟩
  rw [below1]
  go_wp2_with fail
  refine (below_any _ _ _ _ _).mono ?_
  rintro e w3 ⟨rfl, rfl⟩
  rw [below5]
  go_wp2_with fail
  go_ret
  refine ⟨rfl, ?_⟩
  exact ((Below.refl _ _).alloc (Nat.le_refl _) _).trans ((h1.below (Nat.le_refl _)).trans (h2.below (Nat.le_refl _)))
end Go.Proofs.Ytccpnfkncleilaa
