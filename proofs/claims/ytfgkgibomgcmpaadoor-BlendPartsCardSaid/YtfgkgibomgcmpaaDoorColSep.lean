/- The function of a separable mode, and blend.Colors. -/
import Derived.Test.YtfgkgibomgcmpaaDoorColFn
import Derived.Test.YtfgkgibomgcmpaaDoorMake
import Derived.Test.YtfgkgibomgcmpaaDoorPix2
import Derived.Deep.RegionHeld3
namespace Go.Proofs.YtfgkgibomgcmpaaDoor
open Go.RowKit
set_option linter.unusedVariables false
attribute [local go_sem] Oper.gAt gUponK Oper.sAt stilK

theorem andTrans2 {W a b : World} {p : Prop} (h : Below W.heap.size W a ∧ p) (hb : Below a.heap.size a b) : Below W.heap.size W b := h.1.trans (hb.mono h.1.size)
theorem andAlloc2 {W a : World} {p : Prop} {o : Obj} (h : Below W.heap.size W a ∧ p) : Below W.heap.size W (a.alloc o) := h.1.alloc h.1.size _
theorem andRealloc {W a : World} {p : Prop} {o o' : Obj} (h : Below W.heap.size W (a.alloc o) ∧ p) (hs : W.heap.size ≤ a.heap.size) : Below W.heap.size W (a.alloc o') :=
  ⟨h.1.os, h.1.tape, h.1.output, by have := h.1.size; simpa using this, fun k hk => by rw [Below.heap_alloc _ _ _ (by omega), ← h.1.block k hk, Below.heap_alloc _ _ _ (by omega)]⟩
theorem andSet2 {W a : World} {p : Prop} {q : Addr} {u : Value} (h : Below W.heap.size W a ∧ p) (hq : W.heap.size ≤ q.block) : Below W.heap.size W (a.setCell q u) := h.1.setCell hq _
/-- The first k of three channels are the new ones. -/
def q3 (a b c x y z : Int) : Nat → Array Value
  | 0 => #[.int .i64 a, .int .i64 b, .int .i64 c]
  | 1 => #[.int .i64 x, .int .i64 b, .int .i64 c]
  | 2 => #[.int .i64 x, .int .i64 y, .int .i64 c]
  | _ => #[.int .i64 x, .int .i64 y, .int .i64 z]

set_option maxHeartbeats 1000000 in
theorem sep_any (m b0 b1 b2 s0 s1 s2 : Int) (mb : Nat) (t : TypeId) (w : World) (hb0 : U b0) (hb1 : U b1) (hb2 : U b2) (hs0 : U s0) (hs1 : U s1) (hs2 : U s2) (hm : Blk w mb (.cells #[.int .i64 m] t (0, 0))) :
    Calls Tryd.prog 74 #[cv b0 b1 b2, cv s0 s1 s2, .pointer (some ⟨mb, 0, none⟩)] w fun e w' => e = .returned (cv (chU m b0 s0) (chU m b1 s1) (chU m b2 s2)) ∧ Below w.heap.size w w' := by
  have hlt := hm.lt
  have hne : mb ≠ w.heap.size := by omega
  go_enter Tryd.func74, Tryd.ntmps74
  go_wp2
  refine name3 (fun W k1 k2 k3 hb => ?_)
  replace hm := hm.kept hb
  go_loopw [6, 7] (fun _ i wr => ∃ (k : Nat) (j : Int), k ≤ 3 ∧ j = k ∧ i = .int .i64 j ∧ Blk wr w.heap.size (.cells (q3 b0 b1 b2 (chU m b0 s0) (chU m b1 s1) (chU m b2 s2) k) 52 (0, 0)) ∧ Blk wr (w.heap.size + 1) (ob s0 s1 s2 52) ∧ Blk wr (w.heap.size + 1 + 1) (ob 0 0 0 52) ∧ Blk wr mb (.cells #[.int .i64 m] t (0, 0)) ∧ Below w.heap.size w wr) (fun _ i _ => 3 - (intOf i).toNat)
  case atStart => exact ⟨0, 0, by omega, rfl, rfl, k1, k2, k3, hm, hb⟩
  case round =>
    clear k1 k2 k3 hb hm
    obtain ⟨k, j, hk, hj, rfl, k1, k2, k3, hm, hb⟩ := hrel
    obtain rfl | rfl | rfl | rfl : k = 0 ∨ k = 1 ∨ k = 2 ∨ k = 3 := by omega
    · obtain rfl : j = 0 := hj
      replace k1 : Blk wr w.heap.size (ob b0 b1 b2 52) := k1
      go_wp2_with fail
      refine wp_region_grow 10 (fun w' => Below (World.heap wr).size wr w') (by kernel_rfl) (by kernel_rfl) (Below.refl _ _).drew ?_
      simp only [List.take_succ_cons, List.take_zero, List.drop_succ_cons, List.drop_zero]
      repeat (first | (apply wpG_on; rfl; (intro w' hS K hK; have hc0 := (k1.kept hS).c3; have hc1 := (k2.kept hS).c3; have hc2 := (k3.kept hS).c3; have hc3 := (hm.kept hS).c1; go_simp; (first | exact hK.out _ hS | (go_at_call 12; (with_reducible refine (chanU _ _ _ _ hb0 hs0).mono ?_); rintro e w'' ⟨rfl, rfl⟩; exact ⟨_, rfl, hK.out _ hS⟩))); simp only [Act.put, List.setIfInBounds_toArray, List.set_cons_succ, List.set_cons_zero]) | (apply wpG_off; rfl; simp only [Act.put, List.setIfInBounds_toArray, List.set_cons_succ, List.set_cons_zero]))
      apply wpG_nil
      intro W6 hS
      replace k1 := k1.kept hS
      replace k2 := k2.kept hS
      replace k3 := k3.kept hS
      replace hm := hm.kept hS
      replace hb := hb.trans (hS.mono hb.size)
      clear hS
      have c1 := k1.c3
      go_wp2_with fail
      go_roundw
      case rel => exact ⟨1, 1, by omega, rfl, rfl, k1.set1 0 _ (by simp) rfl, k2.other (by simp) _, k3.other (by simp; omega) _, hm.other hne _, hb.setCell (Nat.le_refl _) _⟩
      case measure => simp [intOf]
    · obtain rfl : j = 1 := hj
      replace k1 : Blk wr w.heap.size (ob (chU m b0 s0) b1 b2 52) := k1
      go_wp2_with fail
      refine wp_region_grow 10 (fun w' => Below (World.heap wr).size wr w') (by kernel_rfl) (by kernel_rfl) (Below.refl _ _).drew ?_
      simp only [List.take_succ_cons, List.take_zero, List.drop_succ_cons, List.drop_zero]
      repeat (first | (apply wpG_on; rfl; (intro w' hS K hK; have hc0 := (k1.kept hS).c3; have hc1 := (k2.kept hS).c3; have hc2 := (k3.kept hS).c3; have hc3 := (hm.kept hS).c1; go_simp; (first | exact hK.out _ hS | (go_at_call 12; (with_reducible refine (chanU _ _ _ _ hb1 hs1).mono ?_); rintro e w'' ⟨rfl, rfl⟩; exact ⟨_, rfl, hK.out _ hS⟩))); simp only [Act.put, List.setIfInBounds_toArray, List.set_cons_succ, List.set_cons_zero]) | (apply wpG_off; rfl; simp only [Act.put, List.setIfInBounds_toArray, List.set_cons_succ, List.set_cons_zero]))
      apply wpG_nil
      intro W6 hS
      replace k1 := k1.kept hS
      replace k2 := k2.kept hS
      replace k3 := k3.kept hS
      replace hm := hm.kept hS
      replace hb := hb.trans (hS.mono hb.size)
      clear hS
      have c1 := k1.c3
      go_wp2_with fail
      go_roundw
      case rel => exact ⟨2, 2, by omega, rfl, rfl, k1.set1 1 _ (by simp) rfl, k2.other (by simp) _, k3.other (by simp; omega) _, hm.other hne _, hb.setCell (Nat.le_refl _) _⟩
      case measure => simp [intOf]
    · obtain rfl : j = 2 := hj
      replace k1 : Blk wr w.heap.size (ob (chU m b0 s0) (chU m b1 s1) b2 52) := k1
      go_wp2_with fail
      refine wp_region_grow 10 (fun w' => Below (World.heap wr).size wr w') (by kernel_rfl) (by kernel_rfl) (Below.refl _ _).drew ?_
      simp only [List.take_succ_cons, List.take_zero, List.drop_succ_cons, List.drop_zero]
      repeat (first | (apply wpG_on; rfl; (intro w' hS K hK; have hc0 := (k1.kept hS).c3; have hc1 := (k2.kept hS).c3; have hc2 := (k3.kept hS).c3; have hc3 := (hm.kept hS).c1; go_simp; (first | exact hK.out _ hS | (go_at_call 12; (with_reducible refine (chanU _ _ _ _ hb2 hs2).mono ?_); rintro e w'' ⟨rfl, rfl⟩; exact ⟨_, rfl, hK.out _ hS⟩))); simp only [Act.put, List.setIfInBounds_toArray, List.set_cons_succ, List.set_cons_zero]) | (apply wpG_off; rfl; simp only [Act.put, List.setIfInBounds_toArray, List.set_cons_succ, List.set_cons_zero]))
      apply wpG_nil
      intro W6 hS
      replace k1 := k1.kept hS
      replace k2 := k2.kept hS
      replace k3 := k3.kept hS
      replace hm := hm.kept hS
      replace hb := hb.trans (hS.mono hb.size)
      clear hS
      have c1 := k1.c3
      go_wp2_with fail
      go_roundw
      case rel => exact ⟨3, 3, by omega, rfl, rfl, k1.set1 2 _ (by simp) rfl, k2.other (by simp) _, k3.other (by simp; omega) _, hm.other hne _, hb.setCell (Nat.le_refl _) _⟩
      case measure => simp [intOf]
    · obtain rfl : j = 3 := hj
      replace k1 : Blk wr w.heap.size (ob (chU m b0 s0) (chU m b1 s1) (chU m b2 s2) 52) := k1
      have c1 := k1.c3
      have c3 := k3.c3
      go_wp2_with fail
      refine end3 hb k3 (by omega) (fun w3 e => by simp [results, Tryd.results74, go_sem, e]) rfl (fun w3 hb3 => ⟨rfl, hb3⟩)

set_option maxHeartbeats 400000 in
theorem fun14 (w : World) : Calls Tryd.prog 43 #[.int .i64 14] w fun e w' => e = .returned (.func (.func 64) #[] #[]) ∧ w = w' := by
  go_enter Tryd.func43, Tryd.ntmps43
  go_wp2
  go_ret
  exact ⟨rfl, rfl⟩
set_option maxHeartbeats 400000 in
theorem fun15 (w : World) : Calls Tryd.prog 43 #[.int .i64 15] w fun e w' => e = .returned (.func (.func 69) #[] #[]) ∧ w = w' := by
  go_enter Tryd.func43, Tryd.ntmps43
  go_wp2
  go_ret
  exact ⟨rfl, rfl⟩
set_option maxHeartbeats 400000 in
theorem fun16 (w : World) : Calls Tryd.prog 43 #[.int .i64 16] w fun e w' => e = .returned (.func (.func 70) #[] #[]) ∧ w = w' := by
  go_enter Tryd.func43, Tryd.ntmps43
  go_wp2
  go_ret
  exact ⟨rfl, rfl⟩
set_option maxHeartbeats 400000 in
theorem fun17 (w : World) : Calls Tryd.prog 43 #[.int .i64 17] w fun e w' => e = .returned (.func (.func 71) #[] #[]) ∧ w = w' := by
  go_enter Tryd.func43, Tryd.ntmps43
  go_wp2
  go_ret
  exact ⟨rfl, rfl⟩
set_option maxHeartbeats 400000 in
theorem sepMake (m : Int) (w : World) : Calls Tryd.prog 72 #[.int .i64 m] w fun e w' => e = .returned (.func (.func 74) #[] #[.pointer (some ⟨w.heap.size, 0, none⟩)]) ∧ w' = w.alloc (.cells #[.int .i64 m] 3) := by
  go_enter Tryd.func72, Tryd.ntmps72
  go_wp2
  go_ret
  exact ⟨rfl, rfl⟩
set_option maxHeartbeats 400000 in
theorem funN (m : Int) (w : World) (h : m < 14 ∨ 17 < m) : Calls Tryd.prog 43 #[.int .i64 m] w fun e w' => e = .returned (.func (.func 74) #[] #[.pointer (some ⟨w.heap.size, 0, none⟩)]) ∧ w' = w.alloc (.cells #[.int .i64 m] 3) := by
  have g1 : (m == 14) = false := by simpa using (show m ≠ 14 by omega)
  have g2 : (m == 15) = false := by simpa using (show m ≠ 15 by omega)
  have g3 : (m == 16) = false := by simpa using (show m ≠ 16 by omega)
  have g4 : (m == 17) = false := by simpa using (show m ≠ 17 by omega)
  clear h
  go_enter Tryd.func43, Tryd.ntmps43
  go_wp2_with fail
  refine (sepMake _ _).mono ?_
  rintro e w1 ⟨rfl, rfl⟩
  go_wp2_with fail
  go_ret
  exact ⟨rfl, rfl⟩


set_option maxHeartbeats 2000000 in
theorem colors14 (r g b a r' g' b' a' : Int) (w : World) :
    Calls Tryd.prog 15 #[.int .i64 14, pv r g b a, pv r' g' b' a'] w fun e w' => e = .returned (pv (col3 14 (cl r, cl g, cl b) (cl r', cl g', cl b')).1 (col3 14 (cl r, cl g, cl b) (cl r', cl g', cl b')).2.1 (col3 14 (cl r, cl g, cl b) (cl r', cl g', cl b')).2.2 65535) ∧ Below w.heap.size w w' := by
  have u1 : U3 (cl r, cl g, cl b) := ⟨cl_bd _, cl_bd _, cl_bd _⟩
  have u2 : U3 (cl r', cl g', cl b') := ⟨cl_bd _, cl_bd _, cl_bd _⟩
  have HF := Lib.hid (fun w => fn14 (cl r, cl g, cl b) (cl r', cl g', cl b') w u1 u2)
  generalize col3 14 (cl r, cl g, cl b) (cl r', cl g', cl b') = q at *
  obtain ⟨q0, q1, q2⟩ := q
  clear u1 u2
  go_enter Tryd.func15, Tryd.ntmps15
  go_wp2
  refine name3 (fun W k1 k2 k3 hb => ?_)
  refine wp_region_grow 4 (fun w' => Below (World.heap W).size W w') (by kernel_rfl) (by kernel_rfl) (Below.refl _ _).drew ?_
  simp only [List.take_succ_cons, List.take_zero, List.drop_succ_cons, List.drop_zero]
  repeat (first | (apply wpG_on; rfl; (intro w' hS K hK; have hc0 := (k1.kept hS).c4; have hc1 := (k2.kept hS).c4; have hc2 := (k3.kept hS).c4; go_simp; (first | exact hK.out _ hS | (go_at_call 42; (with_reducible refine (limit_any _ _ _ _ _).mono ?_); rintro e w'' ⟨rfl, hbb⟩; exact ⟨_, rfl, hK.out _ (hS.trans (hbb.mono hS.size))⟩))); simp only [Act.put, List.setIfInBounds_toArray, List.set_cons_succ, List.set_cons_zero]) | (apply wpG_off; rfl; simp only [Act.put, List.setIfInBounds_toArray, List.set_cons_succ, List.set_cons_zero]))
  apply wpG_nil
  intro W1 hS
  replace k1 := k1.kept hS
  replace k2 := k2.kept hS
  replace k3 := k3.kept hS
  replace hb := hb.trans (hS.mono hb.size)
  clear hS
  have c1 := k1.c4
  have c2 := k2.c4
  go_wp2
  clear c1 c2
  refine mid44 hb k1 k2 (by omega) (Nat.le_refl _) (by omega) (fun W2 k1' k2' kk hb => ?_)
  replace k3 := kk _ _ (by omega) (by omega) k3
  clear kk k1 k2
  have hlt3 := k3.lt
  refine wp_region_make 18 (by kernel_rfl) (by kernel_rfl) ?_
  simp only [makeOrder, numbered, mkB, List.take_succ_cons, List.take_zero, List.drop_succ_cons, List.drop_zero, List.filter_cons, List.filter_nil, Bool.not_true, Bool.not_false, Bool.false_eq_true, List.cons_append, List.nil_append, ↓reduceIte]
  repeat (first | (apply wpN_on; rfl; rfl; (intro w' hS K hK; have hc0 := (k1'.kept hS).c4; have hc1 := (k2'.kept hS).c4; have hc2 := (k3.kept hS).c4; go_simp; (first | exact hK.out _ (Below.refl _ _) | (go_at_call 43; (with_reducible refine (fun14 _).mono ?_); rintro e w'' ⟨rfl, rfl⟩; exact ⟨_, rfl, hK.out _ (Below.refl _ _)⟩) | (go_at_call 64; (with_reducible refine (HF.out _).mono ?_); rintro e w'' ⟨rfl, hbb⟩; exact ⟨_, rfl, hK.out _ hbb⟩))); simp only [Act.put, List.setIfInBounds_toArray, List.set_cons_succ, List.set_cons_zero]) | (apply wpN_off; rfl; rfl; simp only [Act.put, List.setIfInBounds_toArray, List.set_cons_succ, List.set_cons_zero]))
  apply wpN_new
  rfl
  rfl
  · intro w' hS K hK; have hc0 := (k1'.kept hS).c4; have hc1 := (k2'.kept hS).c4; have hc2 := (k3.kept hS).c4; go_simp; exact hK.out
  intro x7 hx7 nx7
  simp only [Act.put, mkOf, List.setIfInBounds_toArray, List.set_cons_succ, List.set_cons_zero]
  apply wpN_nil
  rintro W3 hS ⟨-, kx7⟩
  replace k1' := k1'.kept hS
  replace k2' := k2'.kept hS
  replace k3 := k3.kept hS
  replace hb := hb.trans (hS.mono hb.size)
  have hx3 : w.heap.size + 1 + 1 ≠ x7 := by omega
  have hx4 : w.heap.size ≤ x7 := by omega
  have c7 := kx7.c3
  have c3 := k3.c4
  clear hS nx7
  go_wp2_with fail
  refine end4 (((hb.setCell hx4 _).setCell hx4 _).setCell hx4 _) (((k3.other hx3 _).other hx3 _).other hx3 _) (by omega) (fun w3 e => by simp [results, Tryd.results15, go_sem, e]) rfl (fun w3 hb3 => ⟨rfl, hb3⟩)

set_option maxHeartbeats 2000000 in
theorem colors15 (r g b a r' g' b' a' : Int) (w : World) :
    Calls Tryd.prog 15 #[.int .i64 15, pv r g b a, pv r' g' b' a'] w fun e w' => e = .returned (pv (col3 15 (cl r, cl g, cl b) (cl r', cl g', cl b')).1 (col3 15 (cl r, cl g, cl b) (cl r', cl g', cl b')).2.1 (col3 15 (cl r, cl g, cl b) (cl r', cl g', cl b')).2.2 65535) ∧ Below w.heap.size w w' := by
  have u1 : U3 (cl r, cl g, cl b) := ⟨cl_bd _, cl_bd _, cl_bd _⟩
  have u2 : U3 (cl r', cl g', cl b') := ⟨cl_bd _, cl_bd _, cl_bd _⟩
  have HF := Lib.hid (fun w => fn15 (cl r, cl g, cl b) (cl r', cl g', cl b') w u1 u2)
  generalize col3 15 (cl r, cl g, cl b) (cl r', cl g', cl b') = q at *
  obtain ⟨q0, q1, q2⟩ := q
  clear u1 u2
  go_enter Tryd.func15, Tryd.ntmps15
  go_wp2
  refine name3 (fun W k1 k2 k3 hb => ?_)
  refine wp_region_grow 4 (fun w' => Below (World.heap W).size W w') (by kernel_rfl) (by kernel_rfl) (Below.refl _ _).drew ?_
  simp only [List.take_succ_cons, List.take_zero, List.drop_succ_cons, List.drop_zero]
  repeat (first | (apply wpG_on; rfl; (intro w' hS K hK; have hc0 := (k1.kept hS).c4; have hc1 := (k2.kept hS).c4; have hc2 := (k3.kept hS).c4; go_simp; (first | exact hK.out _ hS | (go_at_call 42; (with_reducible refine (limit_any _ _ _ _ _).mono ?_); rintro e w'' ⟨rfl, hbb⟩; exact ⟨_, rfl, hK.out _ (hS.trans (hbb.mono hS.size))⟩))); simp only [Act.put, List.setIfInBounds_toArray, List.set_cons_succ, List.set_cons_zero]) | (apply wpG_off; rfl; simp only [Act.put, List.setIfInBounds_toArray, List.set_cons_succ, List.set_cons_zero]))
  apply wpG_nil
  intro W1 hS
  replace k1 := k1.kept hS
  replace k2 := k2.kept hS
  replace k3 := k3.kept hS
  replace hb := hb.trans (hS.mono hb.size)
  clear hS
  have c1 := k1.c4
  have c2 := k2.c4
  go_wp2
  clear c1 c2
  refine mid44 hb k1 k2 (by omega) (Nat.le_refl _) (by omega) (fun W2 k1' k2' kk hb => ?_)
  replace k3 := kk _ _ (by omega) (by omega) k3
  clear kk k1 k2
  have hlt3 := k3.lt
  refine wp_region_make 18 (by kernel_rfl) (by kernel_rfl) ?_
  simp only [makeOrder, numbered, mkB, List.take_succ_cons, List.take_zero, List.drop_succ_cons, List.drop_zero, List.filter_cons, List.filter_nil, Bool.not_true, Bool.not_false, Bool.false_eq_true, List.cons_append, List.nil_append, ↓reduceIte]
  repeat (first | (apply wpN_on; rfl; rfl; (intro w' hS K hK; have hc0 := (k1'.kept hS).c4; have hc1 := (k2'.kept hS).c4; have hc2 := (k3.kept hS).c4; go_simp; (first | exact hK.out _ (Below.refl _ _) | (go_at_call 43; (with_reducible refine (fun15 _).mono ?_); rintro e w'' ⟨rfl, rfl⟩; exact ⟨_, rfl, hK.out _ (Below.refl _ _)⟩) | (go_at_call 69; (with_reducible refine (HF.out _).mono ?_); rintro e w'' ⟨rfl, hbb⟩; exact ⟨_, rfl, hK.out _ hbb⟩))); simp only [Act.put, List.setIfInBounds_toArray, List.set_cons_succ, List.set_cons_zero]) | (apply wpN_off; rfl; rfl; simp only [Act.put, List.setIfInBounds_toArray, List.set_cons_succ, List.set_cons_zero]))
  apply wpN_new
  rfl
  rfl
  · intro w' hS K hK; have hc0 := (k1'.kept hS).c4; have hc1 := (k2'.kept hS).c4; have hc2 := (k3.kept hS).c4; go_simp; exact hK.out
  intro x7 hx7 nx7
  simp only [Act.put, mkOf, List.setIfInBounds_toArray, List.set_cons_succ, List.set_cons_zero]
  apply wpN_nil
  rintro W3 hS ⟨-, kx7⟩
  replace k1' := k1'.kept hS
  replace k2' := k2'.kept hS
  replace k3 := k3.kept hS
  replace hb := hb.trans (hS.mono hb.size)
  have hx3 : w.heap.size + 1 + 1 ≠ x7 := by omega
  have hx4 : w.heap.size ≤ x7 := by omega
  have c7 := kx7.c3
  have c3 := k3.c4
  clear hS nx7
  go_wp2_with fail
  refine end4 (((hb.setCell hx4 _).setCell hx4 _).setCell hx4 _) (((k3.other hx3 _).other hx3 _).other hx3 _) (by omega) (fun w3 e => by simp [results, Tryd.results15, go_sem, e]) rfl (fun w3 hb3 => ⟨rfl, hb3⟩)

set_option maxHeartbeats 2000000 in
theorem colors16 (r g b a r' g' b' a' : Int) (w : World) :
    Calls Tryd.prog 15 #[.int .i64 16, pv r g b a, pv r' g' b' a'] w fun e w' => e = .returned (pv (col3 16 (cl r, cl g, cl b) (cl r', cl g', cl b')).1 (col3 16 (cl r, cl g, cl b) (cl r', cl g', cl b')).2.1 (col3 16 (cl r, cl g, cl b) (cl r', cl g', cl b')).2.2 65535) ∧ Below w.heap.size w w' := by
  have u1 : U3 (cl r, cl g, cl b) := ⟨cl_bd _, cl_bd _, cl_bd _⟩
  have u2 : U3 (cl r', cl g', cl b') := ⟨cl_bd _, cl_bd _, cl_bd _⟩
  have HF := Lib.hid (fun w => fn16 (cl r, cl g, cl b) (cl r', cl g', cl b') w u1 u2)
  generalize col3 16 (cl r, cl g, cl b) (cl r', cl g', cl b') = q at *
  obtain ⟨q0, q1, q2⟩ := q
  clear u1 u2
  go_enter Tryd.func15, Tryd.ntmps15
  go_wp2
  refine name3 (fun W k1 k2 k3 hb => ?_)
  refine wp_region_grow 4 (fun w' => Below (World.heap W).size W w') (by kernel_rfl) (by kernel_rfl) (Below.refl _ _).drew ?_
  simp only [List.take_succ_cons, List.take_zero, List.drop_succ_cons, List.drop_zero]
  repeat (first | (apply wpG_on; rfl; (intro w' hS K hK; have hc0 := (k1.kept hS).c4; have hc1 := (k2.kept hS).c4; have hc2 := (k3.kept hS).c4; go_simp; (first | exact hK.out _ hS | (go_at_call 42; (with_reducible refine (limit_any _ _ _ _ _).mono ?_); rintro e w'' ⟨rfl, hbb⟩; exact ⟨_, rfl, hK.out _ (hS.trans (hbb.mono hS.size))⟩))); simp only [Act.put, List.setIfInBounds_toArray, List.set_cons_succ, List.set_cons_zero]) | (apply wpG_off; rfl; simp only [Act.put, List.setIfInBounds_toArray, List.set_cons_succ, List.set_cons_zero]))
  apply wpG_nil
  intro W1 hS
  replace k1 := k1.kept hS
  replace k2 := k2.kept hS
  replace k3 := k3.kept hS
  replace hb := hb.trans (hS.mono hb.size)
  clear hS
  have c1 := k1.c4
  have c2 := k2.c4
  go_wp2
  clear c1 c2
  refine mid44 hb k1 k2 (by omega) (Nat.le_refl _) (by omega) (fun W2 k1' k2' kk hb => ?_)
  replace k3 := kk _ _ (by omega) (by omega) k3
  clear kk k1 k2
  have hlt3 := k3.lt
  refine wp_region_make 18 (by kernel_rfl) (by kernel_rfl) ?_
  simp only [makeOrder, numbered, mkB, List.take_succ_cons, List.take_zero, List.drop_succ_cons, List.drop_zero, List.filter_cons, List.filter_nil, Bool.not_true, Bool.not_false, Bool.false_eq_true, List.cons_append, List.nil_append, ↓reduceIte]
  repeat (first | (apply wpN_on; rfl; rfl; (intro w' hS K hK; have hc0 := (k1'.kept hS).c4; have hc1 := (k2'.kept hS).c4; have hc2 := (k3.kept hS).c4; go_simp; (first | exact hK.out _ (Below.refl _ _) | (go_at_call 43; (with_reducible refine (fun16 _).mono ?_); rintro e w'' ⟨rfl, rfl⟩; exact ⟨_, rfl, hK.out _ (Below.refl _ _)⟩) | (go_at_call 70; (with_reducible refine (HF.out _).mono ?_); rintro e w'' ⟨rfl, hbb⟩; exact ⟨_, rfl, hK.out _ hbb⟩))); simp only [Act.put, List.setIfInBounds_toArray, List.set_cons_succ, List.set_cons_zero]) | (apply wpN_off; rfl; rfl; simp only [Act.put, List.setIfInBounds_toArray, List.set_cons_succ, List.set_cons_zero]))
  apply wpN_new
  rfl
  rfl
  · intro w' hS K hK; have hc0 := (k1'.kept hS).c4; have hc1 := (k2'.kept hS).c4; have hc2 := (k3.kept hS).c4; go_simp; exact hK.out
  intro x7 hx7 nx7
  simp only [Act.put, mkOf, List.setIfInBounds_toArray, List.set_cons_succ, List.set_cons_zero]
  apply wpN_nil
  rintro W3 hS ⟨-, kx7⟩
  replace k1' := k1'.kept hS
  replace k2' := k2'.kept hS
  replace k3 := k3.kept hS
  replace hb := hb.trans (hS.mono hb.size)
  have hx3 : w.heap.size + 1 + 1 ≠ x7 := by omega
  have hx4 : w.heap.size ≤ x7 := by omega
  have c7 := kx7.c3
  have c3 := k3.c4
  clear hS nx7
  go_wp2_with fail
  refine end4 (((hb.setCell hx4 _).setCell hx4 _).setCell hx4 _) (((k3.other hx3 _).other hx3 _).other hx3 _) (by omega) (fun w3 e => by simp [results, Tryd.results15, go_sem, e]) rfl (fun w3 hb3 => ⟨rfl, hb3⟩)

set_option maxHeartbeats 2000000 in
theorem colors17 (r g b a r' g' b' a' : Int) (w : World) :
    Calls Tryd.prog 15 #[.int .i64 17, pv r g b a, pv r' g' b' a'] w fun e w' => e = .returned (pv (col3 17 (cl r, cl g, cl b) (cl r', cl g', cl b')).1 (col3 17 (cl r, cl g, cl b) (cl r', cl g', cl b')).2.1 (col3 17 (cl r, cl g, cl b) (cl r', cl g', cl b')).2.2 65535) ∧ Below w.heap.size w w' := by
  have u1 : U3 (cl r, cl g, cl b) := ⟨cl_bd _, cl_bd _, cl_bd _⟩
  have u2 : U3 (cl r', cl g', cl b') := ⟨cl_bd _, cl_bd _, cl_bd _⟩
  have HF := Lib.hid (fun w => fn17 (cl r, cl g, cl b) (cl r', cl g', cl b') w u1 u2)
  generalize col3 17 (cl r, cl g, cl b) (cl r', cl g', cl b') = q at *
  obtain ⟨q0, q1, q2⟩ := q
  clear u1 u2
  go_enter Tryd.func15, Tryd.ntmps15
  go_wp2
  refine name3 (fun W k1 k2 k3 hb => ?_)
  refine wp_region_grow 4 (fun w' => Below (World.heap W).size W w') (by kernel_rfl) (by kernel_rfl) (Below.refl _ _).drew ?_
  simp only [List.take_succ_cons, List.take_zero, List.drop_succ_cons, List.drop_zero]
  repeat (first | (apply wpG_on; rfl; (intro w' hS K hK; have hc0 := (k1.kept hS).c4; have hc1 := (k2.kept hS).c4; have hc2 := (k3.kept hS).c4; go_simp; (first | exact hK.out _ hS | (go_at_call 42; (with_reducible refine (limit_any _ _ _ _ _).mono ?_); rintro e w'' ⟨rfl, hbb⟩; exact ⟨_, rfl, hK.out _ (hS.trans (hbb.mono hS.size))⟩))); simp only [Act.put, List.setIfInBounds_toArray, List.set_cons_succ, List.set_cons_zero]) | (apply wpG_off; rfl; simp only [Act.put, List.setIfInBounds_toArray, List.set_cons_succ, List.set_cons_zero]))
  apply wpG_nil
  intro W1 hS
  replace k1 := k1.kept hS
  replace k2 := k2.kept hS
  replace k3 := k3.kept hS
  replace hb := hb.trans (hS.mono hb.size)
  clear hS
  have c1 := k1.c4
  have c2 := k2.c4
  go_wp2
  clear c1 c2
  refine mid44 hb k1 k2 (by omega) (Nat.le_refl _) (by omega) (fun W2 k1' k2' kk hb => ?_)
  replace k3 := kk _ _ (by omega) (by omega) k3
  clear kk k1 k2
  have hlt3 := k3.lt
  refine wp_region_make 18 (by kernel_rfl) (by kernel_rfl) ?_
  simp only [makeOrder, numbered, mkB, List.take_succ_cons, List.take_zero, List.drop_succ_cons, List.drop_zero, List.filter_cons, List.filter_nil, Bool.not_true, Bool.not_false, Bool.false_eq_true, List.cons_append, List.nil_append, ↓reduceIte]
  repeat (first | (apply wpN_on; rfl; rfl; (intro w' hS K hK; have hc0 := (k1'.kept hS).c4; have hc1 := (k2'.kept hS).c4; have hc2 := (k3.kept hS).c4; go_simp; (first | exact hK.out _ (Below.refl _ _) | (go_at_call 43; (with_reducible refine (fun17 _).mono ?_); rintro e w'' ⟨rfl, rfl⟩; exact ⟨_, rfl, hK.out _ (Below.refl _ _)⟩) | (go_at_call 71; (with_reducible refine (HF.out _).mono ?_); rintro e w'' ⟨rfl, hbb⟩; exact ⟨_, rfl, hK.out _ hbb⟩))); simp only [Act.put, List.setIfInBounds_toArray, List.set_cons_succ, List.set_cons_zero]) | (apply wpN_off; rfl; rfl; simp only [Act.put, List.setIfInBounds_toArray, List.set_cons_succ, List.set_cons_zero]))
  apply wpN_new
  rfl
  rfl
  · intro w' hS K hK; have hc0 := (k1'.kept hS).c4; have hc1 := (k2'.kept hS).c4; have hc2 := (k3.kept hS).c4; go_simp; exact hK.out
  intro x7 hx7 nx7
  simp only [Act.put, mkOf, List.setIfInBounds_toArray, List.set_cons_succ, List.set_cons_zero]
  apply wpN_nil
  rintro W3 hS ⟨-, kx7⟩
  replace k1' := k1'.kept hS
  replace k2' := k2'.kept hS
  replace k3 := k3.kept hS
  replace hb := hb.trans (hS.mono hb.size)
  have hx3 : w.heap.size + 1 + 1 ≠ x7 := by omega
  have hx4 : w.heap.size ≤ x7 := by omega
  have c7 := kx7.c3
  have c3 := k3.c4
  clear hS nx7
  go_wp2_with fail
  refine end4 (((hb.setCell hx4 _).setCell hx4 _).setCell hx4 _) (((k3.other hx3 _).other hx3 _).other hx3 _) (by omega) (fun w3 e => by simp [results, Tryd.results15, go_sem, e]) rfl (fun w3 hb3 => ⟨rfl, hb3⟩)

set_option maxHeartbeats 4000000 in
theorem colorsN (m r g b a r' g' b' a' : Int) (w : World) (hm : m < 14 ∨ 17 < m) :
    Calls Tryd.prog 15 #[.int .i64 m, pv r g b a, pv r' g' b' a'] w fun e w' => e = .returned (pv (chU m (cl r) (cl r')) (chU m (cl g) (cl g')) (chU m (cl b) (cl b')) 65535) ∧ Below w.heap.size w w' := by
  have u1 := cl_bd r
  have u2 := cl_bd g
  have u3 := cl_bd b
  have v1 := cl_bd r'
  have v2 := cl_bd g'
  have v3 := cl_bd b'
  have HF := Lib.hid (fun mb w hmb => sep_any m (cl r) (cl g) (cl b) (cl r') (cl g') (cl b') mb 3 w u1 u2 u3 v1 v2 v3 hmb)
  have HG := Lib.hid (fun w => funN m w hm)
  generalize chU m (cl r) (cl r') = q0 at *
  generalize chU m (cl g) (cl g') = q1 at *
  generalize chU m (cl b) (cl b') = q2 at *
  clear u1 u2 u3 v1 v2 v3 hm
  go_enter Tryd.func15, Tryd.ntmps15
  go_wp2
  refine name3 (fun W k1 k2 k3 hb => ?_)
  refine wp_region_grow 4 (fun w' => Below (World.heap W).size W w') (by kernel_rfl) (by kernel_rfl) (Below.refl _ _).drew ?_
  simp only [List.take_succ_cons, List.take_zero, List.drop_succ_cons, List.drop_zero]
  repeat (first | (apply wpG_on; rfl; (intro w' hS K hK; have hc0 := (k1.kept hS).c4; have hc1 := (k2.kept hS).c4; have hc2 := (k3.kept hS).c4; go_simp; (first | exact hK.out _ hS | (go_at_call 42; (with_reducible refine (limit_any _ _ _ _ _).mono ?_); rintro e w'' ⟨rfl, hbb⟩; exact ⟨_, rfl, hK.out _ (hS.trans (hbb.mono hS.size))⟩))); simp only [Act.put, List.setIfInBounds_toArray, List.set_cons_succ, List.set_cons_zero]) | (apply wpG_off; rfl; simp only [Act.put, List.setIfInBounds_toArray, List.set_cons_succ, List.set_cons_zero]))
  apply wpG_nil
  intro W1 hS
  replace k1 := k1.kept hS
  replace k2 := k2.kept hS
  replace k3 := k3.kept hS
  replace hb := hb.trans (hS.mono hb.size)
  clear hS
  have c1 := k1.c4
  have c2 := k2.c4
  go_wp2
  clear c1 c2
  refine mid44 hb k1 k2 (by omega) (Nat.le_refl _) (by omega) (fun W2 k1' k2' kk hb => ?_)
  replace k3 := kk _ _ (by omega) (by omega) k3
  clear kk k1 k2
  have hlt3 := k3.lt
  have hq1 : W2.heap.size < W2.heap.size + 1 + 1 := by omega
  have HK : Hid (∀ w' : World, Below W2.heap.size W2 w' → Below W2.heap.size W2 w' ∧ w'.cell? ⟨w.heap.size, 0, none⟩ = some (.int .i64 (cl r)) ∧ w'.cell? ⟨w.heap.size, 1, none⟩ = some (.int .i64 (cl g)) ∧ w'.cell? ⟨w.heap.size, 2, none⟩ = some (.int .i64 (cl b)) ∧ w'.cell? ⟨w.heap.size + 1, 0, none⟩ = some (.int .i64 (cl r')) ∧ w'.cell? ⟨w.heap.size + 1, 1, none⟩ = some (.int .i64 (cl g')) ∧ w'.cell? ⟨w.heap.size + 1, 2, none⟩ = some (.int .i64 (cl b')) ∧ w'.cell? ⟨w.heap.size + 1 + 1, 0, none⟩ = some (.int .i64 0) ∧ w'.cell? ⟨w.heap.size + 1 + 1, 1, none⟩ = some (.int .i64 0) ∧ w'.cell? ⟨w.heap.size + 1 + 1, 2, none⟩ = some (.int .i64 0) ∧ w'.cell? ⟨w.heap.size + 1 + 1, 3, none⟩ = some (.int .i64 0) ∧ ∀ o, w'.frozen? ⟨w.heap.size + 1 + 1, o, none⟩ = false) := fun w' h => ⟨h, (k1'.kept h).c4.1, (k1'.kept h).c4.2.1, (k1'.kept h).c4.2.2.1, (k2'.kept h).c4.1, (k2'.kept h).c4.2.1, (k2'.kept h).c4.2.2.1, (k3.kept h).c4⟩
  go_region_held3 (fun w' => Below W2.heap.size W2 w' ∧ w'.cell? ⟨w.heap.size, 0, none⟩ = some (.int .i64 (cl r)) ∧ w'.cell? ⟨w.heap.size, 1, none⟩ = some (.int .i64 (cl g)) ∧ w'.cell? ⟨w.heap.size, 2, none⟩ = some (.int .i64 (cl b)) ∧ w'.cell? ⟨w.heap.size + 1, 0, none⟩ = some (.int .i64 (cl r')) ∧ w'.cell? ⟨w.heap.size + 1, 1, none⟩ = some (.int .i64 (cl g')) ∧ w'.cell? ⟨w.heap.size + 1, 2, none⟩ = some (.int .i64 (cl b')) ∧ w'.cell? ⟨w.heap.size + 1 + 1, 0, none⟩ = some (.int .i64 0) ∧ w'.cell? ⟨w.heap.size + 1 + 1, 1, none⟩ = some (.int .i64 0) ∧ w'.cell? ⟨w.heap.size + 1 + 1, 2, none⟩ = some (.int .i64 0) ∧ w'.cell? ⟨w.heap.size + 1 + 1, 3, none⟩ = some (.int .i64 0) ∧ ∀ o, w'.frozen? ⟨w.heap.size + 1 + 1, o, none⟩ = false)
    ((refine HK.out _ ?_; first | ((with_reducible apply andTrans2 (hb := hbb)); assumption) | ((with_reducible apply andAlloc2); assumption) | ((with_reducible apply andRealloc); assumption; (have := hbb.size; simp at this; omega)) | ((with_reducible apply andSet2); assumption; simp; omega) | (repeat' (first | (with_reducible exact Below.refl _ _) | (apply And.left; assumption) | (with_reducible exact Nat.le_refl _) | (with_reducible apply Below.setCell) | (with_reducible apply Below.drew) | (with_reducible apply Below.alloc) | (simp; done) | (simp; omega)))))
    (first | (go_at_call 43; (with_reducible refine (HG.out _).mono ?_); rintro e w' ⟨rfl, rfl⟩) | (go_at_call 74; (with_reducible refine (HF.out _ _ ?_).mono ?_); (first | (with_reducible exact heap_alloc_new _ _) | exact Blk.drewd (heap_alloc_new _ _) | exact Blk.alloc (heap_alloc_new _ _) _ | exact Blk.drewd (Blk.alloc (heap_alloc_new _ _) _) | exact Blk.drewd (alloc2 _ _ _).2.1 | exact (alloc2 _ _ _).2.1); rintro e w' ⟨rfl, hbb⟩; have hold := oldCells hbb))
  all_goals
    go_wp2_with fail
    refine bodyPost_ret (v := pv q0 q1 q2 65535) (by simp [results, Tryd.results15, go_sem, *]) rfl ⟨rfl, ?_⟩
    refine below4 ?_ (by omega) _ _ _ _
    refine hb.trans (Below.mono (?_ : Below W2.heap.size W2 _) hb.size)
    apply And.left
    assumption

theorem colors_any (m r g b a r' g' b' a' : Int) (w : World) :
    Calls Tryd.prog 15 #[.int .i64 m, pv r g b a, pv r' g' b' a'] w fun e w' => e = .returned (pv (col3 m (cl r, cl g, cl b) (cl r', cl g', cl b')).1 (col3 m (cl r, cl g, cl b) (cl r', cl g', cl b')).2.1 (col3 m (cl r, cl g, cl b) (cl r', cl g', cl b')).2.2 65535) ∧ Below w.heap.size w w' := by
  by_cases h : m < 14 ∨ 17 < m
  · rw [col3_other m _ _ h]
    exact colorsN m r g b a r' g' b' a' w h
  · obtain rfl | rfl | rfl | rfl : m = 14 ∨ m = 15 ∨ m = 16 ∨ m = 17 := by omega
    · exact colors14 r g b a r' g' b' a' w
    · exact colors15 r g b a r' g' b' a' w
    · exact colors16 r g b a r' g' b' a' w
    · exact colors17 r g b a r' g' b' a' w
end Go.Proofs.YtfgkgibomgcmpaaDoor
