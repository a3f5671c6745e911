/- Several texts in one: ColSep, Over, RefColors, RefColorsN, RefOver, Ovp. -/
import Derived.Test.YtieacbccadbdbaaGreatDoorLBlend
import Derived.Test.YtieacbccadbdbaaGreatDoorLKit
import Derived.Test.YtieacbccadbdbaaGreatDoorLPix
import Derived.Deep.RegionHeld3
import Derived.Test.YtieacbccadbdbaaGreatDoorLPlain
import Derived.Deep.Cut
import Derived.Test.YtieacbccadbdbaaGreatDoorLRow

/- The function of a separable mode, and blend.Colors. -/
namespace Go.Proofs.YtieacbccadbdbaaGreatDoor
open Go.RowKit
set_option linter.unusedVariables false
attribute [local go_sem] Oper.gAt gUponK Oper.sAt stilK

theorem andTrans2 {W a b : World} {p : Prop} (h : Below W.heap.size W a ∧ p) (hb : Below a.heap.size a b) : Below W.heap.size W b := h.1.trans (hb.mono h.1.size)
theorem andAlloc2 {W a : World} {p : Prop} {o : Obj} (h : Below W.heap.size W a ∧ p) : Below W.heap.size W (a.alloc o) := h.1.alloc h.1.size _
theorem andRealloc {W a : World} {p : Prop} {o o' : Obj} (h : Below W.heap.size W (a.alloc o) ∧ p) (hs : W.heap.size ≤ a.heap.size) : Below W.heap.size W (a.alloc o') :=
  ⟨h.1.os, h.1.tape, h.1.output, by have := h.1.size; simpa using this, fun k hk => by rw [Below.heap_alloc _ _ _ (by omega), ← h.1.block k hk, Below.heap_alloc _ _ _ (by omega)]⟩
theorem andSet2 {W a : World} {p : Prop} {q : Addr} {u : Value} (h : Below W.heap.size W a ∧ p) (hq : W.heap.size ≤ q.block) : Below W.heap.size W (a.setCell q u) := h.1.setCell hq _
/-- The first k of three channels are the new ones. -/
def q3 (a b c x y z : Int) : Nat → Array Value
  | 0 => #[.int .i64 a, .int .i64 b, .int .i64 c]
  | 1 => #[.int .i64 x, .int .i64 b, .int .i64 c]
  | 2 => #[.int .i64 x, .int .i64 y, .int .i64 c]
  | _ => #[.int .i64 x, .int .i64 y, .int .i64 z]

set_option maxHeartbeats 1000000 in
theorem sep_any (m b0 b1 b2 s0 s1 s2 : Int) (mb : Nat) (t : TypeId) (w : World) (hb0 : U b0) (hb1 : U b1) (hb2 : U b2) (hs0 : U s0) (hs1 : U s1) (hs2 : U s2) (hm : Blk w mb (.cells #[.int .i64 m] t (0, 0))) :
    Calls Tryz.prog 163 #[cv b0 b1 b2, cv s0 s1 s2, .pointer (some ⟨mb, 0, none⟩)] w fun e w' => e = .returned (cv (chU m b0 s0) (chU m b1 s1) (chU m b2 s2)) ∧ Below w.heap.size w w' := by
  have hlt := hm.lt
  have hne : mb ≠ w.heap.size := by omega
  go_enter Tryz.func163, Tryz.ntmps163
  go_wp2
  refine name3 (fun W k1 k2 k3 hb => ?_)
  replace hm := hm.kept hb
  go_loopw [6, 7] (fun _ i wr => ∃ (k : Nat) (j : Int), k ≤ 3 ∧ j = k ∧ i = .int .i64 j ∧ Blk wr w.heap.size (.cells (q3 b0 b1 b2 (chU m b0 s0) (chU m b1 s1) (chU m b2 s2) k) 110 (0, 0)) ∧ Blk wr (w.heap.size + 1) (ob s0 s1 s2 110) ∧ Blk wr (w.heap.size + 1 + 1) (ob 0 0 0 110) ∧ Blk wr mb (.cells #[.int .i64 m] t (0, 0)) ∧ Below w.heap.size w wr) (fun _ i _ => 3 - (intOf i).toNat)
  case atStart => exact ⟨0, 0, by omega, rfl, rfl, k1, k2, k3, hm, hb⟩
  case round =>
    clear k1 k2 k3 hb hm
    obtain ⟨k, j, hk, hj, rfl, k1, k2, k3, hm, hb⟩ := hrel
    obtain rfl | rfl | rfl | rfl : k = 0 ∨ k = 1 ∨ k = 2 ∨ k = 3 := by omega
    · obtain rfl : j = 0 := hj
      replace k1 : Blk wr w.heap.size (ob b0 b1 b2 110) := k1
      go_wp2_with fail
      refine wp_region_grow 10 (fun w' => Below (World.heap wr).size wr w') (by kernel_rfl) (by kernel_rfl) (Below.refl _ _).drew ?_
      simp only [List.take_succ_cons, List.take_zero, List.drop_succ_cons, List.drop_zero]
      repeat (first | (apply wpG_on; rfl; (intro w' hS K hK; have hc0 := (k1.kept hS).c3; have hc1 := (k2.kept hS).c3; have hc2 := (k3.kept hS).c3; have hc3 := (hm.kept hS).c1; go_simp; (first | exact hK.out _ hS | (go_at_call 164; (with_reducible refine (chanU _ _ _ _ hb0 hs0).mono ?_); rintro e w'' ⟨rfl, rfl⟩; exact ⟨_, rfl, hK.out _ hS⟩))); simp only [Act.put, List.setIfInBounds_toArray, List.set_cons_succ, List.set_cons_zero]) | (apply wpG_off; rfl; simp only [Act.put, List.setIfInBounds_toArray, List.set_cons_succ, List.set_cons_zero]))
      apply wpG_nil
      intro W6 hS
      replace k1 := k1.kept hS
      replace k2 := k2.kept hS
      replace k3 := k3.kept hS
      replace hm := hm.kept hS
      replace hb := hb.trans (hS.mono hb.size)
      clear hS
      have c1 := k1.c3
      go_wp2_with fail
      go_roundw
      case rel => exact ⟨1, 1, by omega, rfl, rfl, k1.set1 0 _ (by simp) rfl, k2.other (by simp) _, k3.other (by simp; omega) _, hm.other hne _, hb.setCell (Nat.le_refl _) _⟩
      case measure => simp [intOf]
    · obtain rfl : j = 1 := hj
      replace k1 : Blk wr w.heap.size (ob (chU m b0 s0) b1 b2 110) := k1
      go_wp2_with fail
      refine wp_region_grow 10 (fun w' => Below (World.heap wr).size wr w') (by kernel_rfl) (by kernel_rfl) (Below.refl _ _).drew ?_
      simp only [List.take_succ_cons, List.take_zero, List.drop_succ_cons, List.drop_zero]
      repeat (first | (apply wpG_on; rfl; (intro w' hS K hK; have hc0 := (k1.kept hS).c3; have hc1 := (k2.kept hS).c3; have hc2 := (k3.kept hS).c3; have hc3 := (hm.kept hS).c1; go_simp; (first | exact hK.out _ hS | (go_at_call 164; (with_reducible refine (chanU _ _ _ _ hb1 hs1).mono ?_); rintro e w'' ⟨rfl, rfl⟩; exact ⟨_, rfl, hK.out _ hS⟩))); simp only [Act.put, List.setIfInBounds_toArray, List.set_cons_succ, List.set_cons_zero]) | (apply wpG_off; rfl; simp only [Act.put, List.setIfInBounds_toArray, List.set_cons_succ, List.set_cons_zero]))
      apply wpG_nil
      intro W6 hS
      replace k1 := k1.kept hS
      replace k2 := k2.kept hS
      replace k3 := k3.kept hS
      replace hm := hm.kept hS
      replace hb := hb.trans (hS.mono hb.size)
      clear hS
      have c1 := k1.c3
      go_wp2_with fail
      go_roundw
      case rel => exact ⟨2, 2, by omega, rfl, rfl, k1.set1 1 _ (by simp) rfl, k2.other (by simp) _, k3.other (by simp; omega) _, hm.other hne _, hb.setCell (Nat.le_refl _) _⟩
      case measure => simp [intOf]
    · obtain rfl : j = 2 := hj
      replace k1 : Blk wr w.heap.size (ob (chU m b0 s0) (chU m b1 s1) b2 110) := k1
      go_wp2_with fail
      refine wp_region_grow 10 (fun w' => Below (World.heap wr).size wr w') (by kernel_rfl) (by kernel_rfl) (Below.refl _ _).drew ?_
      simp only [List.take_succ_cons, List.take_zero, List.drop_succ_cons, List.drop_zero]
      repeat (first | (apply wpG_on; rfl; (intro w' hS K hK; have hc0 := (k1.kept hS).c3; have hc1 := (k2.kept hS).c3; have hc2 := (k3.kept hS).c3; have hc3 := (hm.kept hS).c1; go_simp; (first | exact hK.out _ hS | (go_at_call 164; (with_reducible refine (chanU _ _ _ _ hb2 hs2).mono ?_); rintro e w'' ⟨rfl, rfl⟩; exact ⟨_, rfl, hK.out _ hS⟩))); simp only [Act.put, List.setIfInBounds_toArray, List.set_cons_succ, List.set_cons_zero]) | (apply wpG_off; rfl; simp only [Act.put, List.setIfInBounds_toArray, List.set_cons_succ, List.set_cons_zero]))
      apply wpG_nil
      intro W6 hS
      replace k1 := k1.kept hS
      replace k2 := k2.kept hS
      replace k3 := k3.kept hS
      replace hm := hm.kept hS
      replace hb := hb.trans (hS.mono hb.size)
      clear hS
      have c1 := k1.c3
      go_wp2_with fail
      go_roundw
      case rel => exact ⟨3, 3, by omega, rfl, rfl, k1.set1 2 _ (by simp) rfl, k2.other (by simp) _, k3.other (by simp; omega) _, hm.other hne _, hb.setCell (Nat.le_refl _) _⟩
      case measure => simp [intOf]
    · obtain rfl : j = 3 := hj
      replace k1 : Blk wr w.heap.size (ob (chU m b0 s0) (chU m b1 s1) (chU m b2 s2) 110) := k1
      have c1 := k1.c3
      have c3 := k3.c3
      go_wp2_with fail
      refine end3 hb k3 (by omega) (fun w3 e => by simp [results, Tryz.results163, go_sem, e]) rfl (fun w3 hb3 => ⟨rfl, hb3⟩)

set_option maxHeartbeats 400000 in
theorem fun14 (w : World) : Calls Tryz.prog 102 #[.int .i64 14] w fun e w' => e = .returned (.func (.func 136) #[] #[]) ∧ w = w' := by
  go_enter Tryz.func102, Tryz.ntmps102
  go_wp2
  go_ret
  exact ⟨rfl, rfl⟩
set_option maxHeartbeats 400000 in
theorem fun15 (w : World) : Calls Tryz.prog 102 #[.int .i64 15] w fun e w' => e = .returned (.func (.func 141) #[] #[]) ∧ w = w' := by
  go_enter Tryz.func102, Tryz.ntmps102
  go_wp2
  go_ret
  exact ⟨rfl, rfl⟩
set_option maxHeartbeats 400000 in
theorem fun16 (w : World) : Calls Tryz.prog 102 #[.int .i64 16] w fun e w' => e = .returned (.func (.func 142) #[] #[]) ∧ w = w' := by
  go_enter Tryz.func102, Tryz.ntmps102
  go_wp2
  go_ret
  exact ⟨rfl, rfl⟩
set_option maxHeartbeats 400000 in
theorem fun17 (w : World) : Calls Tryz.prog 102 #[.int .i64 17] w fun e w' => e = .returned (.func (.func 143) #[] #[]) ∧ w = w' := by
  go_enter Tryz.func102, Tryz.ntmps102
  go_wp2
  go_ret
  exact ⟨rfl, rfl⟩
set_option maxHeartbeats 400000 in
theorem sepMake (m : Int) (w : World) : Calls Tryz.prog 144 #[.int .i64 m] w fun e w' => e = .returned (.func (.func 163) #[] #[.pointer (some ⟨w.heap.size, 0, none⟩)]) ∧ w' = w.alloc (.cells #[.int .i64 m] 3) := by
  go_enter Tryz.func144, Tryz.ntmps144
  go_wp2
  go_ret
  exact ⟨rfl, rfl⟩
set_option maxHeartbeats 400000 in
theorem funN (m : Int) (w : World) (h : m < 14 ∨ 17 < m) : Calls Tryz.prog 102 #[.int .i64 m] w fun e w' => e = .returned (.func (.func 163) #[] #[.pointer (some ⟨w.heap.size, 0, none⟩)]) ∧ w' = w.alloc (.cells #[.int .i64 m] 3) := by
  have g1 : (m == 14) = false := by simpa using (show m ≠ 14 by omega)
  have g2 : (m == 15) = false := by simpa using (show m ≠ 15 by omega)
  have g3 : (m == 16) = false := by simpa using (show m ≠ 16 by omega)
  have g4 : (m == 17) = false := by simpa using (show m ≠ 17 by omega)
  clear h
  go_enter Tryz.func102, Tryz.ntmps102
  go_wp2_with fail
  refine (sepMake _ _).mono ?_
  rintro e w1 ⟨rfl, rfl⟩
  go_wp2_with fail
  go_ret
  exact ⟨rfl, rfl⟩


set_option maxHeartbeats 2000000 in
theorem colors14 (r g b a r' g' b' a' : Int) (w : World) :
    Calls Tryz.prog 64 #[.int .i64 14, pv r g b a, pv r' g' b' a'] w fun e w' => e = .returned (pv (col3 14 (cl r, cl g, cl b) (cl r', cl g', cl b')).1 (col3 14 (cl r, cl g, cl b) (cl r', cl g', cl b')).2.1 (col3 14 (cl r, cl g, cl b) (cl r', cl g', cl b')).2.2 65535) ∧ Below w.heap.size w w' := by
  have u1 : U3 (cl r, cl g, cl b) := ⟨cl_bd _, cl_bd _, cl_bd _⟩
  have u2 : U3 (cl r', cl g', cl b') := ⟨cl_bd _, cl_bd _, cl_bd _⟩
  have HF := Lib.hid (fun w => fn14 (cl r, cl g, cl b) (cl r', cl g', cl b') w u1 u2)
  generalize col3 14 (cl r, cl g, cl b) (cl r', cl g', cl b') = q at *
  obtain ⟨q0, q1, q2⟩ := q
  clear u1 u2
  go_enter Tryz.func64, Tryz.ntmps64
  go_wp2
  refine name3 (fun W k1 k2 k3 hb => ?_)
  refine wp_region_grow 4 (fun w' => Below (World.heap W).size W w') (by kernel_rfl) (by kernel_rfl) (Below.refl _ _).drew ?_
  simp only [List.take_succ_cons, List.take_zero, List.drop_succ_cons, List.drop_zero]
  repeat (first | (apply wpG_on; rfl; (intro w' hS K hK; have hc0 := (k1.kept hS).c4; have hc1 := (k2.kept hS).c4; have hc2 := (k3.kept hS).c4; go_simp; (first | exact hK.out _ hS | (go_at_call 63; (with_reducible refine (limit_any _ _ _ _ _).mono ?_); rintro e w'' ⟨rfl, hbb⟩; exact ⟨_, rfl, hK.out _ (hS.trans (hbb.mono hS.size))⟩))); simp only [Act.put, List.setIfInBounds_toArray, List.set_cons_succ, List.set_cons_zero]) | (apply wpG_off; rfl; simp only [Act.put, List.setIfInBounds_toArray, List.set_cons_succ, List.set_cons_zero]))
  apply wpG_nil
  intro W1 hS
  replace k1 := k1.kept hS
  replace k2 := k2.kept hS
  replace k3 := k3.kept hS
  replace hb := hb.trans (hS.mono hb.size)
  clear hS
  have c1 := k1.c4
  have c2 := k2.c4
  go_wp2
  clear c1 c2
  refine mid44 hb k1 k2 (by omega) (Nat.le_refl _) (by omega) (fun W2 k1' k2' kk hb => ?_)
  replace k3 := kk _ _ (by omega) (by omega) k3
  clear kk k1 k2
  have hlt3 := k3.lt
  refine wp_region_make 18 (by kernel_rfl) (by kernel_rfl) ?_
  simp only [makeOrder, numbered, mkB, List.take_succ_cons, List.take_zero, List.drop_succ_cons, List.drop_zero, List.filter_cons, List.filter_nil, Bool.not_true, Bool.not_false, Bool.false_eq_true, List.cons_append, List.nil_append, ↓reduceIte]
  repeat (first | (apply wpN_on; rfl; rfl; (intro w' hS K hK; have hc0 := (k1'.kept hS).c4; have hc1 := (k2'.kept hS).c4; have hc2 := (k3.kept hS).c4; go_simp; (first | exact hK.out _ (Below.refl _ _) | (go_at_call 102; (with_reducible refine (fun14 _).mono ?_); rintro e w'' ⟨rfl, rfl⟩; exact ⟨_, rfl, hK.out _ (Below.refl _ _)⟩) | (go_at_call 136; (with_reducible refine (HF.out _).mono ?_); rintro e w'' ⟨rfl, hbb⟩; exact ⟨_, rfl, hK.out _ hbb⟩))); simp only [Act.put, List.setIfInBounds_toArray, List.set_cons_succ, List.set_cons_zero]) | (apply wpN_off; rfl; rfl; simp only [Act.put, List.setIfInBounds_toArray, List.set_cons_succ, List.set_cons_zero]))
  apply wpN_new
  rfl
  rfl
  · intro w' hS K hK; have hc0 := (k1'.kept hS).c4; have hc1 := (k2'.kept hS).c4; have hc2 := (k3.kept hS).c4; go_simp; exact hK.out
  intro x7 hx7 nx7
  simp only [Act.put, mkOf, List.setIfInBounds_toArray, List.set_cons_succ, List.set_cons_zero]
  apply wpN_nil
  rintro W3 hS ⟨-, kx7⟩
  replace k1' := k1'.kept hS
  replace k2' := k2'.kept hS
  replace k3 := k3.kept hS
  replace hb := hb.trans (hS.mono hb.size)
  have hx3 : w.heap.size + 1 + 1 ≠ x7 := by omega
  have hx4 : w.heap.size ≤ x7 := by omega
  have c7 := kx7.c3
  have c3 := k3.c4
  clear hS nx7
  go_wp2_with fail
  refine end4 (((hb.setCell hx4 _).setCell hx4 _).setCell hx4 _) (((k3.other hx3 _).other hx3 _).other hx3 _) (by omega) (fun w3 e => by simp [results, Tryz.results64, go_sem, e]) rfl (fun w3 hb3 => ⟨rfl, hb3⟩)

set_option maxHeartbeats 2000000 in
theorem colors15 (r g b a r' g' b' a' : Int) (w : World) :
    Calls Tryz.prog 64 #[.int .i64 15, pv r g b a, pv r' g' b' a'] w fun e w' => e = .returned (pv (col3 15 (cl r, cl g, cl b) (cl r', cl g', cl b')).1 (col3 15 (cl r, cl g, cl b) (cl r', cl g', cl b')).2.1 (col3 15 (cl r, cl g, cl b) (cl r', cl g', cl b')).2.2 65535) ∧ Below w.heap.size w w' := by
  have u1 : U3 (cl r, cl g, cl b) := ⟨cl_bd _, cl_bd _, cl_bd _⟩
  have u2 : U3 (cl r', cl g', cl b') := ⟨cl_bd _, cl_bd _, cl_bd _⟩
  have HF := Lib.hid (fun w => fn15 (cl r, cl g, cl b) (cl r', cl g', cl b') w u1 u2)
  generalize col3 15 (cl r, cl g, cl b) (cl r', cl g', cl b') = q at *
  obtain ⟨q0, q1, q2⟩ := q
  clear u1 u2
  go_enter Tryz.func64, Tryz.ntmps64
  go_wp2
  refine name3 (fun W k1 k2 k3 hb => ?_)
  refine wp_region_grow 4 (fun w' => Below (World.heap W).size W w') (by kernel_rfl) (by kernel_rfl) (Below.refl _ _).drew ?_
  simp only [List.take_succ_cons, List.take_zero, List.drop_succ_cons, List.drop_zero]
  repeat (first | (apply wpG_on; rfl; (intro w' hS K hK; have hc0 := (k1.kept hS).c4; have hc1 := (k2.kept hS).c4; have hc2 := (k3.kept hS).c4; go_simp; (first | exact hK.out _ hS | (go_at_call 63; (with_reducible refine (limit_any _ _ _ _ _).mono ?_); rintro e w'' ⟨rfl, hbb⟩; exact ⟨_, rfl, hK.out _ (hS.trans (hbb.mono hS.size))⟩))); simp only [Act.put, List.setIfInBounds_toArray, List.set_cons_succ, List.set_cons_zero]) | (apply wpG_off; rfl; simp only [Act.put, List.setIfInBounds_toArray, List.set_cons_succ, List.set_cons_zero]))
  apply wpG_nil
  intro W1 hS
  replace k1 := k1.kept hS
  replace k2 := k2.kept hS
  replace k3 := k3.kept hS
  replace hb := hb.trans (hS.mono hb.size)
  clear hS
  have c1 := k1.c4
  have c2 := k2.c4
  go_wp2
  clear c1 c2
  refine mid44 hb k1 k2 (by omega) (Nat.le_refl _) (by omega) (fun W2 k1' k2' kk hb => ?_)
  replace k3 := kk _ _ (by omega) (by omega) k3
  clear kk k1 k2
  have hlt3 := k3.lt
  refine wp_region_make 18 (by kernel_rfl) (by kernel_rfl) ?_
  simp only [makeOrder, numbered, mkB, List.take_succ_cons, List.take_zero, List.drop_succ_cons, List.drop_zero, List.filter_cons, List.filter_nil, Bool.not_true, Bool.not_false, Bool.false_eq_true, List.cons_append, List.nil_append, ↓reduceIte]
  repeat (first | (apply wpN_on; rfl; rfl; (intro w' hS K hK; have hc0 := (k1'.kept hS).c4; have hc1 := (k2'.kept hS).c4; have hc2 := (k3.kept hS).c4; go_simp; (first | exact hK.out _ (Below.refl _ _) | (go_at_call 102; (with_reducible refine (fun15 _).mono ?_); rintro e w'' ⟨rfl, rfl⟩; exact ⟨_, rfl, hK.out _ (Below.refl _ _)⟩) | (go_at_call 141; (with_reducible refine (HF.out _).mono ?_); rintro e w'' ⟨rfl, hbb⟩; exact ⟨_, rfl, hK.out _ hbb⟩))); simp only [Act.put, List.setIfInBounds_toArray, List.set_cons_succ, List.set_cons_zero]) | (apply wpN_off; rfl; rfl; simp only [Act.put, List.setIfInBounds_toArray, List.set_cons_succ, List.set_cons_zero]))
  apply wpN_new
  rfl
  rfl
  · intro w' hS K hK; have hc0 := (k1'.kept hS).c4; have hc1 := (k2'.kept hS).c4; have hc2 := (k3.kept hS).c4; go_simp; exact hK.out
  intro x7 hx7 nx7
  simp only [Act.put, mkOf, List.setIfInBounds_toArray, List.set_cons_succ, List.set_cons_zero]
  apply wpN_nil
  rintro W3 hS ⟨-, kx7⟩
  replace k1' := k1'.kept hS
  replace k2' := k2'.kept hS
  replace k3 := k3.kept hS
  replace hb := hb.trans (hS.mono hb.size)
  have hx3 : w.heap.size + 1 + 1 ≠ x7 := by omega
  have hx4 : w.heap.size ≤ x7 := by omega
  have c7 := kx7.c3
  have c3 := k3.c4
  clear hS nx7
  go_wp2_with fail
  refine end4 (((hb.setCell hx4 _).setCell hx4 _).setCell hx4 _) (((k3.other hx3 _).other hx3 _).other hx3 _) (by omega) (fun w3 e => by simp [results, Tryz.results64, go_sem, e]) rfl (fun w3 hb3 => ⟨rfl, hb3⟩)

set_option maxHeartbeats 2000000 in
theorem colors16 (r g b a r' g' b' a' : Int) (w : World) :
    Calls Tryz.prog 64 #[.int .i64 16, pv r g b a, pv r' g' b' a'] w fun e w' => e = .returned (pv (col3 16 (cl r, cl g, cl b) (cl r', cl g', cl b')).1 (col3 16 (cl r, cl g, cl b) (cl r', cl g', cl b')).2.1 (col3 16 (cl r, cl g, cl b) (cl r', cl g', cl b')).2.2 65535) ∧ Below w.heap.size w w' := by
  have u1 : U3 (cl r, cl g, cl b) := ⟨cl_bd _, cl_bd _, cl_bd _⟩
  have u2 : U3 (cl r', cl g', cl b') := ⟨cl_bd _, cl_bd _, cl_bd _⟩
  have HF := Lib.hid (fun w => fn16 (cl r, cl g, cl b) (cl r', cl g', cl b') w u1 u2)
  generalize col3 16 (cl r, cl g, cl b) (cl r', cl g', cl b') = q at *
  obtain ⟨q0, q1, q2⟩ := q
  clear u1 u2
  go_enter Tryz.func64, Tryz.ntmps64
  go_wp2
  refine name3 (fun W k1 k2 k3 hb => ?_)
  refine wp_region_grow 4 (fun w' => Below (World.heap W).size W w') (by kernel_rfl) (by kernel_rfl) (Below.refl _ _).drew ?_
  simp only [List.take_succ_cons, List.take_zero, List.drop_succ_cons, List.drop_zero]
  repeat (first | (apply wpG_on; rfl; (intro w' hS K hK; have hc0 := (k1.kept hS).c4; have hc1 := (k2.kept hS).c4; have hc2 := (k3.kept hS).c4; go_simp; (first | exact hK.out _ hS | (go_at_call 63; (with_reducible refine (limit_any _ _ _ _ _).mono ?_); rintro e w'' ⟨rfl, hbb⟩; exact ⟨_, rfl, hK.out _ (hS.trans (hbb.mono hS.size))⟩))); simp only [Act.put, List.setIfInBounds_toArray, List.set_cons_succ, List.set_cons_zero]) | (apply wpG_off; rfl; simp only [Act.put, List.setIfInBounds_toArray, List.set_cons_succ, List.set_cons_zero]))
  apply wpG_nil
  intro W1 hS
  replace k1 := k1.kept hS
  replace k2 := k2.kept hS
  replace k3 := k3.kept hS
  replace hb := hb.trans (hS.mono hb.size)
  clear hS
  have c1 := k1.c4
  have c2 := k2.c4
  go_wp2
  clear c1 c2
  refine mid44 hb k1 k2 (by omega) (Nat.le_refl _) (by omega) (fun W2 k1' k2' kk hb => ?_)
  replace k3 := kk _ _ (by omega) (by omega) k3
  clear kk k1 k2
  have hlt3 := k3.lt
  refine wp_region_make 18 (by kernel_rfl) (by kernel_rfl) ?_
  simp only [makeOrder, numbered, mkB, List.take_succ_cons, List.take_zero, List.drop_succ_cons, List.drop_zero, List.filter_cons, List.filter_nil, Bool.not_true, Bool.not_false, Bool.false_eq_true, List.cons_append, List.nil_append, ↓reduceIte]
  repeat (first | (apply wpN_on; rfl; rfl; (intro w' hS K hK; have hc0 := (k1'.kept hS).c4; have hc1 := (k2'.kept hS).c4; have hc2 := (k3.kept hS).c4; go_simp; (first | exact hK.out _ (Below.refl _ _) | (go_at_call 102; (with_reducible refine (fun16 _).mono ?_); rintro e w'' ⟨rfl, rfl⟩; exact ⟨_, rfl, hK.out _ (Below.refl _ _)⟩) | (go_at_call 142; (with_reducible refine (HF.out _).mono ?_); rintro e w'' ⟨rfl, hbb⟩; exact ⟨_, rfl, hK.out _ hbb⟩))); simp only [Act.put, List.setIfInBounds_toArray, List.set_cons_succ, List.set_cons_zero]) | (apply wpN_off; rfl; rfl; simp only [Act.put, List.setIfInBounds_toArray, List.set_cons_succ, List.set_cons_zero]))
  apply wpN_new
  rfl
  rfl
  · intro w' hS K hK; have hc0 := (k1'.kept hS).c4; have hc1 := (k2'.kept hS).c4; have hc2 := (k3.kept hS).c4; go_simp; exact hK.out
  intro x7 hx7 nx7
  simp only [Act.put, mkOf, List.setIfInBounds_toArray, List.set_cons_succ, List.set_cons_zero]
  apply wpN_nil
  rintro W3 hS ⟨-, kx7⟩
  replace k1' := k1'.kept hS
  replace k2' := k2'.kept hS
  replace k3 := k3.kept hS
  replace hb := hb.trans (hS.mono hb.size)
  have hx3 : w.heap.size + 1 + 1 ≠ x7 := by omega
  have hx4 : w.heap.size ≤ x7 := by omega
  have c7 := kx7.c3
  have c3 := k3.c4
  clear hS nx7
  go_wp2_with fail
  refine end4 (((hb.setCell hx4 _).setCell hx4 _).setCell hx4 _) (((k3.other hx3 _).other hx3 _).other hx3 _) (by omega) (fun w3 e => by simp [results, Tryz.results64, go_sem, e]) rfl (fun w3 hb3 => ⟨rfl, hb3⟩)

set_option maxHeartbeats 2000000 in
theorem colors17 (r g b a r' g' b' a' : Int) (w : World) :
    Calls Tryz.prog 64 #[.int .i64 17, pv r g b a, pv r' g' b' a'] w fun e w' => e = .returned (pv (col3 17 (cl r, cl g, cl b) (cl r', cl g', cl b')).1 (col3 17 (cl r, cl g, cl b) (cl r', cl g', cl b')).2.1 (col3 17 (cl r, cl g, cl b) (cl r', cl g', cl b')).2.2 65535) ∧ Below w.heap.size w w' := by
  have u1 : U3 (cl r, cl g, cl b) := ⟨cl_bd _, cl_bd _, cl_bd _⟩
  have u2 : U3 (cl r', cl g', cl b') := ⟨cl_bd _, cl_bd _, cl_bd _⟩
  have HF := Lib.hid (fun w => fn17 (cl r, cl g, cl b) (cl r', cl g', cl b') w u1 u2)
  generalize col3 17 (cl r, cl g, cl b) (cl r', cl g', cl b') = q at *
  obtain ⟨q0, q1, q2⟩ := q
  clear u1 u2
  go_enter Tryz.func64, Tryz.ntmps64
  go_wp2
  refine name3 (fun W k1 k2 k3 hb => ?_)
  refine wp_region_grow 4 (fun w' => Below (World.heap W).size W w') (by kernel_rfl) (by kernel_rfl) (Below.refl _ _).drew ?_
  simp only [List.take_succ_cons, List.take_zero, List.drop_succ_cons, List.drop_zero]
  repeat (first | (apply wpG_on; rfl; (intro w' hS K hK; have hc0 := (k1.kept hS).c4; have hc1 := (k2.kept hS).c4; have hc2 := (k3.kept hS).c4; go_simp; (first | exact hK.out _ hS | (go_at_call 63; (with_reducible refine (limit_any _ _ _ _ _).mono ?_); rintro e w'' ⟨rfl, hbb⟩; exact ⟨_, rfl, hK.out _ (hS.trans (hbb.mono hS.size))⟩))); simp only [Act.put, List.setIfInBounds_toArray, List.set_cons_succ, List.set_cons_zero]) | (apply wpG_off; rfl; simp only [Act.put, List.setIfInBounds_toArray, List.set_cons_succ, List.set_cons_zero]))
  apply wpG_nil
  intro W1 hS
  replace k1 := k1.kept hS
  replace k2 := k2.kept hS
  replace k3 := k3.kept hS
  replace hb := hb.trans (hS.mono hb.size)
  clear hS
  have c1 := k1.c4
  have c2 := k2.c4
  go_wp2
  clear c1 c2
  refine mid44 hb k1 k2 (by omega) (Nat.le_refl _) (by omega) (fun W2 k1' k2' kk hb => ?_)
  replace k3 := kk _ _ (by omega) (by omega) k3
  clear kk k1 k2
  have hlt3 := k3.lt
  refine wp_region_make 18 (by kernel_rfl) (by kernel_rfl) ?_
  simp only [makeOrder, numbered, mkB, List.take_succ_cons, List.take_zero, List.drop_succ_cons, List.drop_zero, List.filter_cons, List.filter_nil, Bool.not_true, Bool.not_false, Bool.false_eq_true, List.cons_append, List.nil_append, ↓reduceIte]
  repeat (first | (apply wpN_on; rfl; rfl; (intro w' hS K hK; have hc0 := (k1'.kept hS).c4; have hc1 := (k2'.kept hS).c4; have hc2 := (k3.kept hS).c4; go_simp; (first | exact hK.out _ (Below.refl _ _) | (go_at_call 102; (with_reducible refine (fun17 _).mono ?_); rintro e w'' ⟨rfl, rfl⟩; exact ⟨_, rfl, hK.out _ (Below.refl _ _)⟩) | (go_at_call 143; (with_reducible refine (HF.out _).mono ?_); rintro e w'' ⟨rfl, hbb⟩; exact ⟨_, rfl, hK.out _ hbb⟩))); simp only [Act.put, List.setIfInBounds_toArray, List.set_cons_succ, List.set_cons_zero]) | (apply wpN_off; rfl; rfl; simp only [Act.put, List.setIfInBounds_toArray, List.set_cons_succ, List.set_cons_zero]))
  apply wpN_new
  rfl
  rfl
  · intro w' hS K hK; have hc0 := (k1'.kept hS).c4; have hc1 := (k2'.kept hS).c4; have hc2 := (k3.kept hS).c4; go_simp; exact hK.out
  intro x7 hx7 nx7
  simp only [Act.put, mkOf, List.setIfInBounds_toArray, List.set_cons_succ, List.set_cons_zero]
  apply wpN_nil
  rintro W3 hS ⟨-, kx7⟩
  replace k1' := k1'.kept hS
  replace k2' := k2'.kept hS
  replace k3 := k3.kept hS
  replace hb := hb.trans (hS.mono hb.size)
  have hx3 : w.heap.size + 1 + 1 ≠ x7 := by omega
  have hx4 : w.heap.size ≤ x7 := by omega
  have c7 := kx7.c3
  have c3 := k3.c4
  clear hS nx7
  go_wp2_with fail
  refine end4 (((hb.setCell hx4 _).setCell hx4 _).setCell hx4 _) (((k3.other hx3 _).other hx3 _).other hx3 _) (by omega) (fun w3 e => by simp [results, Tryz.results64, go_sem, e]) rfl (fun w3 hb3 => ⟨rfl, hb3⟩)

set_option maxHeartbeats 4000000 in
theorem colorsN (m r g b a r' g' b' a' : Int) (w : World) (hm : m < 14 ∨ 17 < m) :
    Calls Tryz.prog 64 #[.int .i64 m, pv r g b a, pv r' g' b' a'] w fun e w' => e = .returned (pv (chU m (cl r) (cl r')) (chU m (cl g) (cl g')) (chU m (cl b) (cl b')) 65535) ∧ Below w.heap.size w w' := by
  have u1 := cl_bd r
  have u2 := cl_bd g
  have u3 := cl_bd b
  have v1 := cl_bd r'
  have v2 := cl_bd g'
  have v3 := cl_bd b'
  have HF := Lib.hid (fun mb w hmb => sep_any m (cl r) (cl g) (cl b) (cl r') (cl g') (cl b') mb 3 w u1 u2 u3 v1 v2 v3 hmb)
  have HG := Lib.hid (fun w => funN m w hm)
  generalize chU m (cl r) (cl r') = q0 at *
  generalize chU m (cl g) (cl g') = q1 at *
  generalize chU m (cl b) (cl b') = q2 at *
  clear u1 u2 u3 v1 v2 v3 hm
  go_enter Tryz.func64, Tryz.ntmps64
  go_wp2
  refine name3 (fun W k1 k2 k3 hb => ?_)
  refine wp_region_grow 4 (fun w' => Below (World.heap W).size W w') (by kernel_rfl) (by kernel_rfl) (Below.refl _ _).drew ?_
  simp only [List.take_succ_cons, List.take_zero, List.drop_succ_cons, List.drop_zero]
  repeat (first | (apply wpG_on; rfl; (intro w' hS K hK; have hc0 := (k1.kept hS).c4; have hc1 := (k2.kept hS).c4; have hc2 := (k3.kept hS).c4; go_simp; (first | exact hK.out _ hS | (go_at_call 63; (with_reducible refine (limit_any _ _ _ _ _).mono ?_); rintro e w'' ⟨rfl, hbb⟩; exact ⟨_, rfl, hK.out _ (hS.trans (hbb.mono hS.size))⟩))); simp only [Act.put, List.setIfInBounds_toArray, List.set_cons_succ, List.set_cons_zero]) | (apply wpG_off; rfl; simp only [Act.put, List.setIfInBounds_toArray, List.set_cons_succ, List.set_cons_zero]))
  apply wpG_nil
  intro W1 hS
  replace k1 := k1.kept hS
  replace k2 := k2.kept hS
  replace k3 := k3.kept hS
  replace hb := hb.trans (hS.mono hb.size)
  clear hS
  have c1 := k1.c4
  have c2 := k2.c4
  go_wp2
  clear c1 c2
  refine mid44 hb k1 k2 (by omega) (Nat.le_refl _) (by omega) (fun W2 k1' k2' kk hb => ?_)
  replace k3 := kk _ _ (by omega) (by omega) k3
  clear kk k1 k2
  have hlt3 := k3.lt
  have hq1 : W2.heap.size < W2.heap.size + 1 + 1 := by omega
  have HK : Hid (∀ w' : World, Below W2.heap.size W2 w' → Below W2.heap.size W2 w' ∧ w'.cell? ⟨w.heap.size, 0, none⟩ = some (.int .i64 (cl r)) ∧ w'.cell? ⟨w.heap.size, 1, none⟩ = some (.int .i64 (cl g)) ∧ w'.cell? ⟨w.heap.size, 2, none⟩ = some (.int .i64 (cl b)) ∧ w'.cell? ⟨w.heap.size + 1, 0, none⟩ = some (.int .i64 (cl r')) ∧ w'.cell? ⟨w.heap.size + 1, 1, none⟩ = some (.int .i64 (cl g')) ∧ w'.cell? ⟨w.heap.size + 1, 2, none⟩ = some (.int .i64 (cl b')) ∧ w'.cell? ⟨w.heap.size + 1 + 1, 0, none⟩ = some (.int .i64 0) ∧ w'.cell? ⟨w.heap.size + 1 + 1, 1, none⟩ = some (.int .i64 0) ∧ w'.cell? ⟨w.heap.size + 1 + 1, 2, none⟩ = some (.int .i64 0) ∧ w'.cell? ⟨w.heap.size + 1 + 1, 3, none⟩ = some (.int .i64 0) ∧ ∀ o, w'.frozen? ⟨w.heap.size + 1 + 1, o, none⟩ = false) := fun w' h => ⟨h, (k1'.kept h).c4.1, (k1'.kept h).c4.2.1, (k1'.kept h).c4.2.2.1, (k2'.kept h).c4.1, (k2'.kept h).c4.2.1, (k2'.kept h).c4.2.2.1, (k3.kept h).c4⟩
  go_region_held3 (fun w' => Below W2.heap.size W2 w' ∧ w'.cell? ⟨w.heap.size, 0, none⟩ = some (.int .i64 (cl r)) ∧ w'.cell? ⟨w.heap.size, 1, none⟩ = some (.int .i64 (cl g)) ∧ w'.cell? ⟨w.heap.size, 2, none⟩ = some (.int .i64 (cl b)) ∧ w'.cell? ⟨w.heap.size + 1, 0, none⟩ = some (.int .i64 (cl r')) ∧ w'.cell? ⟨w.heap.size + 1, 1, none⟩ = some (.int .i64 (cl g')) ∧ w'.cell? ⟨w.heap.size + 1, 2, none⟩ = some (.int .i64 (cl b')) ∧ w'.cell? ⟨w.heap.size + 1 + 1, 0, none⟩ = some (.int .i64 0) ∧ w'.cell? ⟨w.heap.size + 1 + 1, 1, none⟩ = some (.int .i64 0) ∧ w'.cell? ⟨w.heap.size + 1 + 1, 2, none⟩ = some (.int .i64 0) ∧ w'.cell? ⟨w.heap.size + 1 + 1, 3, none⟩ = some (.int .i64 0) ∧ ∀ o, w'.frozen? ⟨w.heap.size + 1 + 1, o, none⟩ = false)
    ((refine HK.out _ ?_; first | ((with_reducible apply andTrans2 (hb := hbb)); assumption) | ((with_reducible apply andAlloc2); assumption) | ((with_reducible apply andRealloc); assumption; (have := hbb.size; simp at this; omega)) | ((with_reducible apply andSet2); assumption; simp; omega) | (repeat' (first | (with_reducible exact Below.refl _ _) | (apply And.left; assumption) | (with_reducible exact Nat.le_refl _) | (with_reducible apply Below.setCell) | (with_reducible apply Below.drew) | (with_reducible apply Below.alloc) | (simp; done) | (simp; omega)))))
    (first | (go_at_call 102; (with_reducible refine (HG.out _).mono ?_); rintro e w' ⟨rfl, rfl⟩) | (go_at_call 163; (with_reducible refine (HF.out _ _ ?_).mono ?_); (first | (with_reducible exact heap_alloc_new _ _) | exact Blk.drewd (heap_alloc_new _ _) | exact Blk.alloc (heap_alloc_new _ _) _ | exact Blk.drewd (Blk.alloc (heap_alloc_new _ _) _) | exact Blk.drewd (alloc2 _ _ _).2.1 | exact (alloc2 _ _ _).2.1); rintro e w' ⟨rfl, hbb⟩; have hold := oldCells hbb))
  all_goals
    go_wp2_with fail
    refine bodyPost_ret (v := pv q0 q1 q2 65535) (by simp [results, Tryz.results64, go_sem, *]) rfl ⟨rfl, ?_⟩
    refine below4 ?_ (by omega) _ _ _ _
    refine hb.trans (Below.mono (?_ : Below W2.heap.size W2 _) hb.size)
    apply And.left
    assumption

theorem colors_any (m r g b a r' g' b' a' : Int) (w : World) :
    Calls Tryz.prog 64 #[.int .i64 m, pv r g b a, pv r' g' b' a'] w fun e w' => e = .returned (pv (col3 m (cl r, cl g, cl b) (cl r', cl g', cl b')).1 (col3 m (cl r, cl g, cl b) (cl r', cl g', cl b')).2.1 (col3 m (cl r, cl g, cl b) (cl r', cl g', cl b')).2.2 65535) ∧ Below w.heap.size w w' := by
  by_cases h : m < 14 ∨ 17 < m
  · rw [col3_other m _ _ h]
    exact colorsN m r g b a r' g' b' a' w h
  · obtain rfl | rfl | rfl | rfl : m = 14 ∨ m = 15 ∨ m = 16 ∨ m = 17 := by omega
    · exact colors14 r g b a r' g' b' a' w
    · exact colors15 r g b a r' g' b' a' w
    · exact colors16 r g b a r' g' b' a' w
    · exact colors17 r g b a r' g' b' a' w
end Go.Proofs.YtieacbccadbdbaaGreatDoor


/- blend.Over. -/
namespace Go.Proofs.YtieacbccadbdbaaGreatDoor
open Go.RowKit
set_option linter.unusedVariables false
attribute [local go_sem] Oper.gAt gUponK Oper.sAt stilK

set_option maxHeartbeats 1000000 in
theorem overCh (b s m ba sa d : Int) (x0 x1 x2 y0 y1 y2 : Value) (sb bb db : Nat) (t t' t2 : TypeId) (w : World) (hb : U b) (hs : U s) (hm : U m) (hba : U ba) (hsa : U sa) (hd : 0 < d) (hd2 : d ≤ 4294836225)
    (k1 : Blk w sb (.cells #[x0, x1, x2, .int .i64 sa] t (0, 0))) (k2 : Blk w bb (.cells #[y0, y1, y2, .int .i64 ba] t' (0, 0))) (k3 : Blk w db (.cells #[.int .i64 d] t2 (0, 0))) :
    Calls Tryz.prog 65 #[.int .i64 b, .int .i64 s, .int .i64 m, .pointer (some ⟨sb, 0, none⟩), .pointer (some ⟨bb, 0, none⟩), .pointer (some ⟨db, 0, none⟩)] w fun e w' => e = .returned (.int .i64 (dv (nU b s m ba sa) d)) ∧ w = w' := by
  unfold U at hb hs hm hba hsa
  have m1 := mul_u2 s sa hs hsa
  have m2 := mul_u3 s sa (65535 - ba) hs hsa (by omega)
  have m3 := mul_u2 b ba hb hba
  have m4 := mul_u3 b ba (65535 - sa) hb hba (by omega)
  have m5 := mul_u2 m sa hm hsa
  have m6 := mul_u3 m sa ba hm hsa hba
  have HN : Hid (nU b s m ba sa = s * sa * (65535 - ba) + b * ba * (65535 - sa) + m * sa * ba) := rfl
  have c1 := k1.c4
  have c2 := k2.c4
  have c3 := k3.c1
  go_enter Tryz.func65, Tryz.ntmps65
  go_wp2_with fail
  refine (div_any _ _ _ hd (by omega) (by omega) (by omega)).mono ?_
  rintro e w' ⟨rfl, rfl⟩
  go_wp2_with fail
  go_ret
  exact ⟨ret_int (by rw [HN.out]), rfl⟩

set_option maxHeartbeats 2000000 in
theorem over_zero (m r g b a r' g' b' a' : Int) (w : World) (hz : alU (cl a) (cl a') = 0) :
    Calls Tryz.prog 20 #[.int .i64 m, pv r g b a, pv r' g' b' a'] w fun e w' => e = .returned (pv 0 0 0 0) ∧ Below w.heap.size w w' := by
  have ha := cl_bd a
  have ha' := cl_bd a'
  have hd := dU_bd _ _ ha ha'
  have hm := mul_u2 (cl a') (cl a) ha' ha
  have HD : Hid (dU (cl a) (cl a') = 65535 * (cl a' + cl a) - cl a' * cl a) := rfl
  have HZ : Hid (dv (dU (cl a) (cl a')) 65535 = 0) := hz
  clear hz
  go_enter Tryz.func20, Tryz.ntmps20
  go_wp2
  refine name3 (fun W k1 k2 k3 hb => ?_)
  refine wp_region_grow 4 (fun w' => Below (World.heap W).size W w') (by kernel_rfl) (by kernel_rfl) (Below.refl _ _).drew ?_
  simp only [List.take_succ_cons, List.take_zero, List.drop_succ_cons, List.drop_zero]
  repeat (first | (apply wpG_on; rfl; (intro w' hS K hK; have hc0 := (k1.kept hS).c4; have hc1 := (k2.kept hS).c4; have hc2 := (k3.kept hS).c4; go_simp; (first | exact hK.out _ hS | (go_at_call 63; (with_reducible refine (limit_any _ _ _ _ _).mono ?_); rintro e w'' ⟨rfl, hbb⟩; exact ⟨_, rfl, hK.out _ (hS.trans (hbb.mono hS.size))⟩))); simp only [Act.put, List.setIfInBounds_toArray, List.set_cons_succ, List.set_cons_zero]) | (apply wpG_off; rfl; simp only [Act.put, List.setIfInBounds_toArray, List.set_cons_succ, List.set_cons_zero]))
  apply wpG_nil
  intro W1 hS
  replace k1 := k1.kept hS
  replace k2 := k2.kept hS
  replace k3 := k3.kept hS
  replace hb := hb.trans (hS.mono hb.size)
  clear hS
  have c1 := k1.c4
  have c2 := k2.c4
  go_upto_region 2 with (fail)
  clear c1 c2
  refine mid44 hb k1 k2 (by omega) (Nat.le_refl _) (by omega) (fun W2 k1' k2' kk hb => ?_)
  replace k3 := kk _ _ (by omega) (by omega) k3
  clear kk k1 k2
  have c1 := k1'.c4
  have c2 := k2'.c4
  go_wp2_with fail
  clear c1 c2
  rw [← HD.out]
  refine callName1 (fun W3 k4 hS => ?_)
  replace k3 := k3.kept hS
  replace hb := hb.trans (hS.mono hb.size)
  clear hS
  refine (div_any _ _ _ (by omega) (by omega) (by omega) (by omega)).mono ?_
  rintro e w' ⟨rfl, rfl⟩
  rw [HZ.out]
  have c3 := k3.c4
  go_wp2_with fail
  refine bodyPost_ret (v := pv 0 0 0 0) (by simp [results, Tryz.results20, go_sem, c3]) rfl ⟨rfl, ?_⟩
  exact below4 hb (by omega) _ _ _ _

set_option maxHeartbeats 4000000 in
theorem over_pos (m r g b a r' g' b' a' : Int) (w : World) (hz : alU (cl a) (cl a') ≠ 0) :
    Calls Tryz.prog 20 #[.int .i64 m, pv r g b a, pv r' g' b' a'] w fun e w' => e = .returned (pv (ovC (cl r) (cl r') (col3 m (cl r, cl g, cl b) (cl r', cl g', cl b')).1 (cl a) (cl a')) (ovC (cl g) (cl g') (col3 m (cl r, cl g, cl b) (cl r', cl g', cl b')).2.1 (cl a) (cl a')) (ovC (cl b) (cl b') (col3 m (cl r, cl g, cl b) (cl r', cl g', cl b')).2.2 (cl a) (cl a')) (alU (cl a) (cl a'))) ∧ Below w.heap.size w w' := by
  have ha := cl_bd a
  have ha' := cl_bd a'
  have hd := dU_bd _ _ ha ha'
  have hd0 := alU_pos _ _ ha ha' hz
  have hm := mul_u2 (cl a') (cl a) ha' ha
  have HD : Hid (dU (cl a) (cl a') = 65535 * (cl a' + cl a) - cl a' * cl a) := rfl
  have HA : Hid (dv (dU (cl a) (cl a')) 65535 = alU (cl a) (cl a')) := rfl
  have hf : (alU (cl a) (cl a') == 0) = false := by simpa using hz
  have HC := Lib.hid (fun w => colors_any m (cl r) (cl g) (cl b) (cl a) (cl r') (cl g') (cl b') (cl a') w)
  have hu := col3_u m (cl r, cl g, cl b) (cl r', cl g', cl b') ⟨cl_bd _, cl_bd _, cl_bd _⟩ ⟨cl_bd _, cl_bd _, cl_bd _⟩
  simp only [cl_cl] at HC
  have HV : Hid (∀ b s q, ovC b s q (cl a) (cl a') = dv (nU b s q (cl a) (cl a')) (dU (cl a) (cl a'))) := fun _ _ _ => rfl
  generalize col3 m (cl r, cl g, cl b) (cl r', cl g', cl b') = q at *
  obtain ⟨q0, q1, q2⟩ := q
  obtain ⟨u0, u1, u2⟩ := hu
  replace u0 : U q0 := u0
  replace u1 : U q1 := u1
  replace u2 : U q2 := u2
  have z1 : U (cl r) := cl_bd r
  have z2 : U (cl r') := cl_bd r'
  have z3 : U (cl g) := cl_bd g
  have z4 : U (cl g') := cl_bd g'
  have z5 : U (cl b) := cl_bd b
  have z6 : U (cl b') := cl_bd b'
  have za : U (cl a) := ha
  have za' : U (cl a') := ha'
  simp only [HV.out]
  clear hz HV
  generalize alU (cl a) (cl a') = al at *
  go_enter Tryz.func20, Tryz.ntmps20
  go_wp2
  refine name3 (fun W k1 k2 k3 hb => ?_)
  refine wp_region_grow 4 (fun w' => Below (World.heap W).size W w') (by kernel_rfl) (by kernel_rfl) (Below.refl _ _).drew ?_
  simp only [List.take_succ_cons, List.take_zero, List.drop_succ_cons, List.drop_zero]
  repeat (first | (apply wpG_on; rfl; (intro w' hS K hK; have hc0 := (k1.kept hS).c4; have hc1 := (k2.kept hS).c4; have hc2 := (k3.kept hS).c4; go_simp; (first | exact hK.out _ hS | (go_at_call 63; (with_reducible refine (limit_any _ _ _ _ _).mono ?_); rintro e w'' ⟨rfl, hbb⟩; exact ⟨_, rfl, hK.out _ (hS.trans (hbb.mono hS.size))⟩))); simp only [Act.put, List.setIfInBounds_toArray, List.set_cons_succ, List.set_cons_zero]) | (apply wpG_off; rfl; simp only [Act.put, List.setIfInBounds_toArray, List.set_cons_succ, List.set_cons_zero]))
  apply wpG_nil
  intro W1 hS
  replace k1 := k1.kept hS
  replace k2 := k2.kept hS
  replace k3 := k3.kept hS
  replace hb := hb.trans (hS.mono hb.size)
  clear hS
  have c1 := k1.c4
  have c2 := k2.c4
  go_upto_region 2 with (fail)
  clear c1 c2
  refine mid44 hb k1 k2 (by omega) (Nat.le_refl _) (by omega) (fun W2 k1' k2' kk hb => ?_)
  replace k3 := kk _ _ (by omega) (by omega) k3
  clear kk k1 k2
  have c1 := k1'.c4
  have c2 := k2'.c4
  go_wp2_with fail
  clear c1 c2
  rw [← HD.out]
  generalize hdd : dU (cl a) (cl a') = d at *
  have HDD := Lib.hid hdd
  clear hdd
  refine callName1 (fun W3 k4 hS => ?_)
  replace k1' := k1'.kept hS
  replace k2' := k2'.kept hS
  replace k3 := k3.kept hS
  have hne4 := k3.lt
  replace hb := hb.trans (hS.mono hb.size)
  refine (div_any _ _ _ (by omega) (by omega) (by omega) (by omega)).mono ?_
  rintro e w' ⟨rfl, rfl⟩
  rw [HA.out]
  clear hS
  have c1 := k1'.c4
  have c2 := k2'.c4
  go_wp2_with fail
  clear c1 c2
  refine (HC.out _).mono ?_
  rintro e W4 ⟨rfl, hS⟩
  replace k1' := k1'.kept hS
  replace k2' := k2'.kept hS
  replace k3 := k3.kept hS
  replace k4 := k4.kept hS
  replace hb := hb.trans (hS.mono hb.size)
  clear hS HC
  go_wp2_with fail
  refine name1 (fun W5 k5 hS => ?_)
  replace k1' := k1'.kept hS
  replace k2' := k2'.kept hS
  replace k3 := k3.kept hS
  replace k4 := k4.kept hS
  replace hb := hb.trans (hS.mono hb.size)
  clear hS
  refine wp_region_grow 26 (fun w' => Below (World.heap W5).size W5 w') (by kernel_rfl) (by kernel_rfl) (Below.refl _ _).drew ?_
  simp only [List.take_succ_cons, List.take_zero, List.drop_succ_cons, List.drop_zero]
  repeat (first | (apply wpG_on; rfl; (intro w' hS K hK; have hc0 := (k1'.kept hS).c4; have hc1 := (k2'.kept hS).c4; have hc2 := (k3.kept hS).c4; have hc3 := (k4.kept hS).c1; have hc4 := (k5.kept hS).c4; go_simp; (first | exact hK.out _ hS | (go_at_call 65; (with_reducible refine (overCh (cl r) (cl r') q0 (cl a) (cl a') _ _ _ _ _ _ _ _ _ _ _ _ _ _ z1 z2 u0 za za' hd0 hd.2 (k2'.kept hS) (k1'.kept hS) (k4.kept hS)).mono ?_); rintro e w'' ⟨rfl, rfl⟩; exact ⟨_, rfl, hK.out _ hS⟩) | (go_at_call 65; (with_reducible refine (overCh (cl g) (cl g') q1 (cl a) (cl a') _ _ _ _ _ _ _ _ _ _ _ _ _ _ z3 z4 u1 za za' hd0 hd.2 (k2'.kept hS) (k1'.kept hS) (k4.kept hS)).mono ?_); rintro e w'' ⟨rfl, rfl⟩; exact ⟨_, rfl, hK.out _ hS⟩) | (go_at_call 65; (with_reducible refine (overCh (cl b) (cl b') q2 (cl a) (cl a') _ _ _ _ _ _ _ _ _ _ _ _ _ _ z5 z6 u2 za za' hd0 hd.2 (k2'.kept hS) (k1'.kept hS) (k4.kept hS)).mono ?_); rintro e w'' ⟨rfl, rfl⟩; exact ⟨_, rfl, hK.out _ hS⟩))); simp only [Act.put, List.setIfInBounds_toArray, List.set_cons_succ, List.set_cons_zero]) | (apply wpG_off; rfl; simp only [Act.put, List.setIfInBounds_toArray, List.set_cons_succ, List.set_cons_zero]))
  apply wpG_nil
  intro W6 hS
  replace k1' := k1'.kept hS
  replace k2' := k2'.kept hS
  replace k3 := k3.kept hS
  replace k4 := k4.kept hS
  replace k5 := k5.kept hS
  replace hb := hb.trans (hS.mono hb.size)
  clear hS
  have c3 := k3.c4
  go_wp2_with fail
  refine end4 hb k3 (by omega) (fun w3 e => by simp [results, Tryz.results20, go_sem, e]) rfl (fun w3 hb3 => ⟨by rw [HDD.out], hb3⟩)
end Go.Proofs.YtieacbccadbdbaaGreatDoor


/- Colors of the reference of package blend. -/
namespace Go.Proofs.YtieacbccadbdbaaGreatDoor
open Go.RowKit
set_option linter.unusedVariables false
attribute [local go_sem] Oper.gAt gUponK Oper.sAt stilK

set_option maxHeartbeats 2000000 in
theorem refColors14 (r g b a r' g' b' a' : Int) (w : World) :
    Calls Tryz.prog 70 #[.int .i64 14, pv r g b a, pv r' g' b' a'] w fun e w' => e = .returned (pv (col3 14 (cl r, cl g, cl b) (cl r', cl g', cl b')).1 (col3 14 (cl r, cl g, cl b) (cl r', cl g', cl b')).2.1 (col3 14 (cl r, cl g, cl b) (cl r', cl g', cl b')).2.2 65535) ∧ Below w.heap.size w w' := by
  have u1 : U3 (cl r, cl g, cl b) := ⟨cl_bd _, cl_bd _, cl_bd _⟩
  have u2 : U3 (cl r', cl g', cl b') := ⟨cl_bd _, cl_bd _, cl_bd _⟩
  have E1 := lum3_u _ u1
  have E2 := lum3_u _ u2
  have E3 := sat3_u _ u1
  have E4 := sat3_u _ u2
  have E5 := setSat3_u _ _ u2 E3
  have E6 := setSat3_u _ _ u1 E4
  go_enter Tryz.func70, Tryz.ntmps70
  go_wp2
  refine name3 (fun W k1 k2 k3 hb => ?_)
  refine wp_region_grow 4 (fun w' => Below (World.heap W).size W w') (by kernel_rfl) (by kernel_rfl) (Below.refl _ _).drew ?_
  simp only [List.take_succ_cons, List.take_zero, List.drop_succ_cons, List.drop_zero]
  repeat (first | (apply wpG_on; rfl; (intro w' hS K hK; have hc0 := (k1.kept hS).c4; have hc1 := (k2.kept hS).c4; have hc2 := (k3.kept hS).c4; go_simp; (first | exact hK.out _ hS | (go_at_call 69; (with_reducible refine (refLimit_any _ _ _ _ _).mono ?_); rintro e w'' ⟨rfl, hbb⟩; exact ⟨_, rfl, hK.out _ (hS.trans (hbb.mono hS.size))⟩))); simp only [Act.put, List.setIfInBounds_toArray, List.set_cons_succ, List.set_cons_zero]) | (apply wpG_off; rfl; simp only [Act.put, List.setIfInBounds_toArray, List.set_cons_succ, List.set_cons_zero]))
  apply wpG_nil
  intro W1 hS
  replace k1 := k1.kept hS
  replace k2 := k2.kept hS
  replace k3 := k3.kept hS
  replace hb := hb.trans (hS.mono hb.size)
  clear hS
  have c1 := k1.c4
  have c2 := k2.c4
  go_upto_region 2 with (fail)
  clear c1 c2
  refine mid44 hb k1 k2 (by omega) (Nat.le_refl _) (by omega) (fun W2 k1' k2' kk hb => ?_)
  replace k3 := kk _ _ (by omega) (by omega) k3
  clear kk k1 k2
  have hlt3 := k3.lt
  have c1 := k1'.c4
  have c2 := k2'.c4
  go_region_held3 (fun w' => w'.cell? ⟨w.heap.size, 0, none⟩ = some (.int .i64 (cl r)) ∧ w'.cell? ⟨w.heap.size, 1, none⟩ = some (.int .i64 (cl g)) ∧ w'.cell? ⟨w.heap.size, 2, none⟩ = some (.int .i64 (cl b)) ∧ w'.cell? ⟨w.heap.size + 1, 0, none⟩ = some (.int .i64 (cl r')) ∧ w'.cell? ⟨w.heap.size + 1, 1, none⟩ = some (.int .i64 (cl g')) ∧ w'.cell? ⟨w.heap.size + 1, 2, none⟩ = some (.int .i64 (cl b'))) (go_keep) (fail)
  all_goals clear c1 c2
  · go_upto_region 3 with (fail)
    refine name2d (fun W4 kx ky hS => ?_)
    have kr := k3.kept hS
    have hb4 := hb.trans (hS.mono hb.size)
    have hsz := hS.size
    clear hS k3 hb k1' k2'
    go_upto_region 10 with (fail)
    refine name1 (fun W5 k9 hS => ?_)
    replace kx := kx.kept hS
    replace ky := ky.kept hS
    replace kr := kr.kept hS
    have n9 : W4.heap.size ≠ w.heap.size + 1 + 1 := by omega
    have g9 : w.heap.size ≤ W4.heap.size := hb4.size
    have hb := hb4.trans (hS.mono hb4.size)
    clear hS hb4
    refine wp_region_grow 7 (fun w' => Below (World.heap W5).size W5 w') (by kernel_rfl) (by kernel_rfl) (Below.refl _ _).drew ?_
    simp only [List.take_succ_cons, List.take_zero, List.drop_succ_cons, List.drop_zero]
    repeat (first | (apply wpG_on; rfl; (intro w' hS K hK; have hc0 := (kx.kept hS).c3; have hc1 := (ky.kept hS).c3; have hc2 := (kr.kept hS).c4; have hc3 := (k9.kept hS).c3; go_simp; (first | exact hK.out _ hS | (go_at_call 111; (with_reducible refine (refSatC (cl r, cl g, cl b) _ u1).mono ?_); rintro e w'' ⟨rfl, hbb⟩; exact ⟨_, rfl, hK.out _ (hS.trans (hbb.mono hS.size))⟩) | (go_at_call 110; (with_reducible refine (refSetSatC (cl r', cl g', cl b') _ _ u2 E3).mono ?_); rintro e w'' ⟨rfl, hbb⟩; exact ⟨_, rfl, hK.out _ (hS.trans (hbb.mono hS.size))⟩) | (go_at_call 112; (with_reducible refine (refLumC (cl r, cl g, cl b) _ u1).mono ?_); rintro e w'' ⟨rfl, hbb⟩; exact ⟨_, rfl, hK.out _ (hS.trans (hbb.mono hS.size))⟩) | (go_at_call 109; (with_reducible refine (refSetLumC _ _ _ E5 E1).mono ?_); rintro e w'' ⟨rfl, hbb⟩; exact ⟨_, rfl, hK.out _ (hS.trans (hbb.mono hS.size))⟩))); simp only [Act.put, List.setIfInBounds_toArray, List.set_cons_succ, List.set_cons_zero]) | (apply wpG_off; rfl; simp only [Act.put, List.setIfInBounds_toArray, List.set_cons_succ, List.set_cons_zero]))
    apply wpG_nil
    intro W6 hS
    replace kx := kx.kept hS
    replace ky := ky.kept hS
    replace kr := kr.kept hS
    replace k9 := k9.kept hS
    replace hb := hb.trans (hS.mono hb.size)
    clear hS
    have c9 := k9.c3
    have cr := kr.c4
    go_wp2_with fail
    refine end4 (((hb.setCell g9 _).setCell g9 _).setCell g9 _) (((kr.other (Ne.symm n9) _).other (Ne.symm n9) _).other (Ne.symm n9) _) (by omega) (fun w3 e => by simp [results, Tryz.results70, go_sem, e]) rfl (fun w3 hb3 => ⟨rfl, hb3⟩)
  · go_upto_region 3 with (fail)
    refine name2d (fun W4 ky kx hS => ?_)
    have kr := k3.kept hS
    have hb4 := hb.trans (hS.mono hb.size)
    have hsz := hS.size
    clear hS k3 hb k1' k2'
    go_upto_region 10 with (fail)
    refine name1 (fun W5 k9 hS => ?_)
    replace kx := kx.kept hS
    replace ky := ky.kept hS
    replace kr := kr.kept hS
    have n9 : W4.heap.size ≠ w.heap.size + 1 + 1 := by omega
    have g9 : w.heap.size ≤ W4.heap.size := hb4.size
    have hb := hb4.trans (hS.mono hb4.size)
    clear hS hb4
    refine wp_region_grow 7 (fun w' => Below (World.heap W5).size W5 w') (by kernel_rfl) (by kernel_rfl) (Below.refl _ _).drew ?_
    simp only [List.take_succ_cons, List.take_zero, List.drop_succ_cons, List.drop_zero]
    repeat (first | (apply wpG_on; rfl; (intro w' hS K hK; have hc0 := (kx.kept hS).c3; have hc1 := (ky.kept hS).c3; have hc2 := (kr.kept hS).c4; have hc3 := (k9.kept hS).c3; go_simp; (first | exact hK.out _ hS | (go_at_call 111; (with_reducible refine (refSatC (cl r, cl g, cl b) _ u1).mono ?_); rintro e w'' ⟨rfl, hbb⟩; exact ⟨_, rfl, hK.out _ (hS.trans (hbb.mono hS.size))⟩) | (go_at_call 110; (with_reducible refine (refSetSatC (cl r', cl g', cl b') _ _ u2 E3).mono ?_); rintro e w'' ⟨rfl, hbb⟩; exact ⟨_, rfl, hK.out _ (hS.trans (hbb.mono hS.size))⟩) | (go_at_call 112; (with_reducible refine (refLumC (cl r, cl g, cl b) _ u1).mono ?_); rintro e w'' ⟨rfl, hbb⟩; exact ⟨_, rfl, hK.out _ (hS.trans (hbb.mono hS.size))⟩) | (go_at_call 109; (with_reducible refine (refSetLumC _ _ _ E5 E1).mono ?_); rintro e w'' ⟨rfl, hbb⟩; exact ⟨_, rfl, hK.out _ (hS.trans (hbb.mono hS.size))⟩))); simp only [Act.put, List.setIfInBounds_toArray, List.set_cons_succ, List.set_cons_zero]) | (apply wpG_off; rfl; simp only [Act.put, List.setIfInBounds_toArray, List.set_cons_succ, List.set_cons_zero]))
    apply wpG_nil
    intro W6 hS
    replace kx := kx.kept hS
    replace ky := ky.kept hS
    replace kr := kr.kept hS
    replace k9 := k9.kept hS
    replace hb := hb.trans (hS.mono hb.size)
    clear hS
    have c9 := k9.c3
    have cr := kr.c4
    go_wp2_with fail
    refine end4 (((hb.setCell g9 _).setCell g9 _).setCell g9 _) (((kr.other (Ne.symm n9) _).other (Ne.symm n9) _).other (Ne.symm n9) _) (by omega) (fun w3 e => by simp [results, Tryz.results70, go_sem, e]) rfl (fun w3 hb3 => ⟨rfl, hb3⟩)

set_option maxHeartbeats 2000000 in
theorem refColors15 (r g b a r' g' b' a' : Int) (w : World) :
    Calls Tryz.prog 70 #[.int .i64 15, pv r g b a, pv r' g' b' a'] w fun e w' => e = .returned (pv (col3 15 (cl r, cl g, cl b) (cl r', cl g', cl b')).1 (col3 15 (cl r, cl g, cl b) (cl r', cl g', cl b')).2.1 (col3 15 (cl r, cl g, cl b) (cl r', cl g', cl b')).2.2 65535) ∧ Below w.heap.size w w' := by
  have u1 : U3 (cl r, cl g, cl b) := ⟨cl_bd _, cl_bd _, cl_bd _⟩
  have u2 : U3 (cl r', cl g', cl b') := ⟨cl_bd _, cl_bd _, cl_bd _⟩
  have E1 := lum3_u _ u1
  have E2 := lum3_u _ u2
  have E3 := sat3_u _ u1
  have E4 := sat3_u _ u2
  have E5 := setSat3_u _ _ u2 E3
  have E6 := setSat3_u _ _ u1 E4
  go_enter Tryz.func70, Tryz.ntmps70
  go_wp2
  refine name3 (fun W k1 k2 k3 hb => ?_)
  refine wp_region_grow 4 (fun w' => Below (World.heap W).size W w') (by kernel_rfl) (by kernel_rfl) (Below.refl _ _).drew ?_
  simp only [List.take_succ_cons, List.take_zero, List.drop_succ_cons, List.drop_zero]
  repeat (first | (apply wpG_on; rfl; (intro w' hS K hK; have hc0 := (k1.kept hS).c4; have hc1 := (k2.kept hS).c4; have hc2 := (k3.kept hS).c4; go_simp; (first | exact hK.out _ hS | (go_at_call 69; (with_reducible refine (refLimit_any _ _ _ _ _).mono ?_); rintro e w'' ⟨rfl, hbb⟩; exact ⟨_, rfl, hK.out _ (hS.trans (hbb.mono hS.size))⟩))); simp only [Act.put, List.setIfInBounds_toArray, List.set_cons_succ, List.set_cons_zero]) | (apply wpG_off; rfl; simp only [Act.put, List.setIfInBounds_toArray, List.set_cons_succ, List.set_cons_zero]))
  apply wpG_nil
  intro W1 hS
  replace k1 := k1.kept hS
  replace k2 := k2.kept hS
  replace k3 := k3.kept hS
  replace hb := hb.trans (hS.mono hb.size)
  clear hS
  have c1 := k1.c4
  have c2 := k2.c4
  go_upto_region 2 with (fail)
  clear c1 c2
  refine mid44 hb k1 k2 (by omega) (Nat.le_refl _) (by omega) (fun W2 k1' k2' kk hb => ?_)
  replace k3 := kk _ _ (by omega) (by omega) k3
  clear kk k1 k2
  have hlt3 := k3.lt
  have c1 := k1'.c4
  have c2 := k2'.c4
  go_region_held3 (fun w' => w'.cell? ⟨w.heap.size, 0, none⟩ = some (.int .i64 (cl r)) ∧ w'.cell? ⟨w.heap.size, 1, none⟩ = some (.int .i64 (cl g)) ∧ w'.cell? ⟨w.heap.size, 2, none⟩ = some (.int .i64 (cl b)) ∧ w'.cell? ⟨w.heap.size + 1, 0, none⟩ = some (.int .i64 (cl r')) ∧ w'.cell? ⟨w.heap.size + 1, 1, none⟩ = some (.int .i64 (cl g')) ∧ w'.cell? ⟨w.heap.size + 1, 2, none⟩ = some (.int .i64 (cl b'))) (go_keep) (fail)
  all_goals clear c1 c2
  · go_upto_region 3 with (fail)
    refine name2d (fun W4 kx ky hS => ?_)
    have kr := k3.kept hS
    have hb4 := hb.trans (hS.mono hb.size)
    have hsz := hS.size
    clear hS k3 hb k1' k2'
    go_upto_region 12 with (fail)
    refine name1 (fun W5 k9 hS => ?_)
    replace kx := kx.kept hS
    replace ky := ky.kept hS
    replace kr := kr.kept hS
    have n9 : W4.heap.size ≠ w.heap.size + 1 + 1 := by omega
    have g9 : w.heap.size ≤ W4.heap.size := hb4.size
    have hb := hb4.trans (hS.mono hb4.size)
    clear hS hb4
    refine wp_region_grow 7 (fun w' => Below (World.heap W5).size W5 w') (by kernel_rfl) (by kernel_rfl) (Below.refl _ _).drew ?_
    simp only [List.take_succ_cons, List.take_zero, List.drop_succ_cons, List.drop_zero]
    repeat (first | (apply wpG_on; rfl; (intro w' hS K hK; have hc0 := (kx.kept hS).c3; have hc1 := (ky.kept hS).c3; have hc2 := (kr.kept hS).c4; have hc3 := (k9.kept hS).c3; go_simp; (first | exact hK.out _ hS | (go_at_call 111; (with_reducible refine (refSatC (cl r', cl g', cl b') _ u2).mono ?_); rintro e w'' ⟨rfl, hbb⟩; exact ⟨_, rfl, hK.out _ (hS.trans (hbb.mono hS.size))⟩) | (go_at_call 110; (with_reducible refine (refSetSatC (cl r, cl g, cl b) _ _ u1 E4).mono ?_); rintro e w'' ⟨rfl, hbb⟩; exact ⟨_, rfl, hK.out _ (hS.trans (hbb.mono hS.size))⟩) | (go_at_call 112; (with_reducible refine (refLumC (cl r, cl g, cl b) _ u1).mono ?_); rintro e w'' ⟨rfl, hbb⟩; exact ⟨_, rfl, hK.out _ (hS.trans (hbb.mono hS.size))⟩) | (go_at_call 109; (with_reducible refine (refSetLumC _ _ _ E6 E1).mono ?_); rintro e w'' ⟨rfl, hbb⟩; exact ⟨_, rfl, hK.out _ (hS.trans (hbb.mono hS.size))⟩))); simp only [Act.put, List.setIfInBounds_toArray, List.set_cons_succ, List.set_cons_zero]) | (apply wpG_off; rfl; simp only [Act.put, List.setIfInBounds_toArray, List.set_cons_succ, List.set_cons_zero]))
    apply wpG_nil
    intro W6 hS
    replace kx := kx.kept hS
    replace ky := ky.kept hS
    replace kr := kr.kept hS
    replace k9 := k9.kept hS
    replace hb := hb.trans (hS.mono hb.size)
    clear hS
    have c9 := k9.c3
    have cr := kr.c4
    go_wp2_with fail
    refine end4 (((hb.setCell g9 _).setCell g9 _).setCell g9 _) (((kr.other (Ne.symm n9) _).other (Ne.symm n9) _).other (Ne.symm n9) _) (by omega) (fun w3 e => by simp [results, Tryz.results70, go_sem, e]) rfl (fun w3 hb3 => ⟨rfl, hb3⟩)
  · go_upto_region 3 with (fail)
    refine name2d (fun W4 ky kx hS => ?_)
    have kr := k3.kept hS
    have hb4 := hb.trans (hS.mono hb.size)
    have hsz := hS.size
    clear hS k3 hb k1' k2'
    go_upto_region 12 with (fail)
    refine name1 (fun W5 k9 hS => ?_)
    replace kx := kx.kept hS
    replace ky := ky.kept hS
    replace kr := kr.kept hS
    have n9 : W4.heap.size ≠ w.heap.size + 1 + 1 := by omega
    have g9 : w.heap.size ≤ W4.heap.size := hb4.size
    have hb := hb4.trans (hS.mono hb4.size)
    clear hS hb4
    refine wp_region_grow 7 (fun w' => Below (World.heap W5).size W5 w') (by kernel_rfl) (by kernel_rfl) (Below.refl _ _).drew ?_
    simp only [List.take_succ_cons, List.take_zero, List.drop_succ_cons, List.drop_zero]
    repeat (first | (apply wpG_on; rfl; (intro w' hS K hK; have hc0 := (kx.kept hS).c3; have hc1 := (ky.kept hS).c3; have hc2 := (kr.kept hS).c4; have hc3 := (k9.kept hS).c3; go_simp; (first | exact hK.out _ hS | (go_at_call 111; (with_reducible refine (refSatC (cl r', cl g', cl b') _ u2).mono ?_); rintro e w'' ⟨rfl, hbb⟩; exact ⟨_, rfl, hK.out _ (hS.trans (hbb.mono hS.size))⟩) | (go_at_call 110; (with_reducible refine (refSetSatC (cl r, cl g, cl b) _ _ u1 E4).mono ?_); rintro e w'' ⟨rfl, hbb⟩; exact ⟨_, rfl, hK.out _ (hS.trans (hbb.mono hS.size))⟩) | (go_at_call 112; (with_reducible refine (refLumC (cl r, cl g, cl b) _ u1).mono ?_); rintro e w'' ⟨rfl, hbb⟩; exact ⟨_, rfl, hK.out _ (hS.trans (hbb.mono hS.size))⟩) | (go_at_call 109; (with_reducible refine (refSetLumC _ _ _ E6 E1).mono ?_); rintro e w'' ⟨rfl, hbb⟩; exact ⟨_, rfl, hK.out _ (hS.trans (hbb.mono hS.size))⟩))); simp only [Act.put, List.setIfInBounds_toArray, List.set_cons_succ, List.set_cons_zero]) | (apply wpG_off; rfl; simp only [Act.put, List.setIfInBounds_toArray, List.set_cons_succ, List.set_cons_zero]))
    apply wpG_nil
    intro W6 hS
    replace kx := kx.kept hS
    replace ky := ky.kept hS
    replace kr := kr.kept hS
    replace k9 := k9.kept hS
    replace hb := hb.trans (hS.mono hb.size)
    clear hS
    have c9 := k9.c3
    have cr := kr.c4
    go_wp2_with fail
    refine end4 (((hb.setCell g9 _).setCell g9 _).setCell g9 _) (((kr.other (Ne.symm n9) _).other (Ne.symm n9) _).other (Ne.symm n9) _) (by omega) (fun w3 e => by simp [results, Tryz.results70, go_sem, e]) rfl (fun w3 hb3 => ⟨rfl, hb3⟩)

set_option maxHeartbeats 2000000 in
theorem refColors16 (r g b a r' g' b' a' : Int) (w : World) :
    Calls Tryz.prog 70 #[.int .i64 16, pv r g b a, pv r' g' b' a'] w fun e w' => e = .returned (pv (col3 16 (cl r, cl g, cl b) (cl r', cl g', cl b')).1 (col3 16 (cl r, cl g, cl b) (cl r', cl g', cl b')).2.1 (col3 16 (cl r, cl g, cl b) (cl r', cl g', cl b')).2.2 65535) ∧ Below w.heap.size w w' := by
  have u1 : U3 (cl r, cl g, cl b) := ⟨cl_bd _, cl_bd _, cl_bd _⟩
  have u2 : U3 (cl r', cl g', cl b') := ⟨cl_bd _, cl_bd _, cl_bd _⟩
  have E1 := lum3_u _ u1
  have E2 := lum3_u _ u2
  have E3 := sat3_u _ u1
  have E4 := sat3_u _ u2
  have E5 := setSat3_u _ _ u2 E3
  have E6 := setSat3_u _ _ u1 E4
  go_enter Tryz.func70, Tryz.ntmps70
  go_wp2
  refine name3 (fun W k1 k2 k3 hb => ?_)
  refine wp_region_grow 4 (fun w' => Below (World.heap W).size W w') (by kernel_rfl) (by kernel_rfl) (Below.refl _ _).drew ?_
  simp only [List.take_succ_cons, List.take_zero, List.drop_succ_cons, List.drop_zero]
  repeat (first | (apply wpG_on; rfl; (intro w' hS K hK; have hc0 := (k1.kept hS).c4; have hc1 := (k2.kept hS).c4; have hc2 := (k3.kept hS).c4; go_simp; (first | exact hK.out _ hS | (go_at_call 69; (with_reducible refine (refLimit_any _ _ _ _ _).mono ?_); rintro e w'' ⟨rfl, hbb⟩; exact ⟨_, rfl, hK.out _ (hS.trans (hbb.mono hS.size))⟩))); simp only [Act.put, List.setIfInBounds_toArray, List.set_cons_succ, List.set_cons_zero]) | (apply wpG_off; rfl; simp only [Act.put, List.setIfInBounds_toArray, List.set_cons_succ, List.set_cons_zero]))
  apply wpG_nil
  intro W1 hS
  replace k1 := k1.kept hS
  replace k2 := k2.kept hS
  replace k3 := k3.kept hS
  replace hb := hb.trans (hS.mono hb.size)
  clear hS
  have c1 := k1.c4
  have c2 := k2.c4
  go_upto_region 2 with (fail)
  clear c1 c2
  refine mid44 hb k1 k2 (by omega) (Nat.le_refl _) (by omega) (fun W2 k1' k2' kk hb => ?_)
  replace k3 := kk _ _ (by omega) (by omega) k3
  clear kk k1 k2
  have hlt3 := k3.lt
  have c1 := k1'.c4
  have c2 := k2'.c4
  go_region_held3 (fun w' => w'.cell? ⟨w.heap.size, 0, none⟩ = some (.int .i64 (cl r)) ∧ w'.cell? ⟨w.heap.size, 1, none⟩ = some (.int .i64 (cl g)) ∧ w'.cell? ⟨w.heap.size, 2, none⟩ = some (.int .i64 (cl b)) ∧ w'.cell? ⟨w.heap.size + 1, 0, none⟩ = some (.int .i64 (cl r')) ∧ w'.cell? ⟨w.heap.size + 1, 1, none⟩ = some (.int .i64 (cl g')) ∧ w'.cell? ⟨w.heap.size + 1, 2, none⟩ = some (.int .i64 (cl b'))) (go_keep) (fail)
  all_goals clear c1 c2
  · go_upto_region 3 with (fail)
    refine name2d (fun W4 kx ky hS => ?_)
    have kr := k3.kept hS
    have hb4 := hb.trans (hS.mono hb.size)
    have hsz := hS.size
    clear hS k3 hb k1' k2'
    go_upto_region 14 with (fail)
    refine name1 (fun W5 k9 hS => ?_)
    replace kx := kx.kept hS
    replace ky := ky.kept hS
    replace kr := kr.kept hS
    have n9 : W4.heap.size ≠ w.heap.size + 1 + 1 := by omega
    have g9 : w.heap.size ≤ W4.heap.size := hb4.size
    have hb := hb4.trans (hS.mono hb4.size)
    clear hS hb4
    refine wp_region_grow 4 (fun w' => Below (World.heap W5).size W5 w') (by kernel_rfl) (by kernel_rfl) (Below.refl _ _).drew ?_
    simp only [List.take_succ_cons, List.take_zero, List.drop_succ_cons, List.drop_zero]
    repeat (first | (apply wpG_on; rfl; (intro w' hS K hK; have hc0 := (kx.kept hS).c3; have hc1 := (ky.kept hS).c3; have hc2 := (kr.kept hS).c4; have hc3 := (k9.kept hS).c3; go_simp; (first | exact hK.out _ hS | (go_at_call 112; (with_reducible refine (refLumC (cl r, cl g, cl b) _ u1).mono ?_); rintro e w'' ⟨rfl, hbb⟩; exact ⟨_, rfl, hK.out _ (hS.trans (hbb.mono hS.size))⟩) | (go_at_call 109; (with_reducible refine (refSetLumC (cl r', cl g', cl b') _ _ u2 E1).mono ?_); rintro e w'' ⟨rfl, hbb⟩; exact ⟨_, rfl, hK.out _ (hS.trans (hbb.mono hS.size))⟩))); simp only [Act.put, List.setIfInBounds_toArray, List.set_cons_succ, List.set_cons_zero]) | (apply wpG_off; rfl; simp only [Act.put, List.setIfInBounds_toArray, List.set_cons_succ, List.set_cons_zero]))
    apply wpG_nil
    intro W6 hS
    replace kx := kx.kept hS
    replace ky := ky.kept hS
    replace kr := kr.kept hS
    replace k9 := k9.kept hS
    replace hb := hb.trans (hS.mono hb.size)
    clear hS
    have c9 := k9.c3
    have cr := kr.c4
    go_wp2_with fail
    refine end4 (((hb.setCell g9 _).setCell g9 _).setCell g9 _) (((kr.other (Ne.symm n9) _).other (Ne.symm n9) _).other (Ne.symm n9) _) (by omega) (fun w3 e => by simp [results, Tryz.results70, go_sem, e]) rfl (fun w3 hb3 => ⟨rfl, hb3⟩)
  · go_upto_region 3 with (fail)
    refine name2d (fun W4 ky kx hS => ?_)
    have kr := k3.kept hS
    have hb4 := hb.trans (hS.mono hb.size)
    have hsz := hS.size
    clear hS k3 hb k1' k2'
    go_upto_region 14 with (fail)
    refine name1 (fun W5 k9 hS => ?_)
    replace kx := kx.kept hS
    replace ky := ky.kept hS
    replace kr := kr.kept hS
    have n9 : W4.heap.size ≠ w.heap.size + 1 + 1 := by omega
    have g9 : w.heap.size ≤ W4.heap.size := hb4.size
    have hb := hb4.trans (hS.mono hb4.size)
    clear hS hb4
    refine wp_region_grow 4 (fun w' => Below (World.heap W5).size W5 w') (by kernel_rfl) (by kernel_rfl) (Below.refl _ _).drew ?_
    simp only [List.take_succ_cons, List.take_zero, List.drop_succ_cons, List.drop_zero]
    repeat (first | (apply wpG_on; rfl; (intro w' hS K hK; have hc0 := (kx.kept hS).c3; have hc1 := (ky.kept hS).c3; have hc2 := (kr.kept hS).c4; have hc3 := (k9.kept hS).c3; go_simp; (first | exact hK.out _ hS | (go_at_call 112; (with_reducible refine (refLumC (cl r, cl g, cl b) _ u1).mono ?_); rintro e w'' ⟨rfl, hbb⟩; exact ⟨_, rfl, hK.out _ (hS.trans (hbb.mono hS.size))⟩) | (go_at_call 109; (with_reducible refine (refSetLumC (cl r', cl g', cl b') _ _ u2 E1).mono ?_); rintro e w'' ⟨rfl, hbb⟩; exact ⟨_, rfl, hK.out _ (hS.trans (hbb.mono hS.size))⟩))); simp only [Act.put, List.setIfInBounds_toArray, List.set_cons_succ, List.set_cons_zero]) | (apply wpG_off; rfl; simp only [Act.put, List.setIfInBounds_toArray, List.set_cons_succ, List.set_cons_zero]))
    apply wpG_nil
    intro W6 hS
    replace kx := kx.kept hS
    replace ky := ky.kept hS
    replace kr := kr.kept hS
    replace k9 := k9.kept hS
    replace hb := hb.trans (hS.mono hb.size)
    clear hS
    have c9 := k9.c3
    have cr := kr.c4
    go_wp2_with fail
    refine end4 (((hb.setCell g9 _).setCell g9 _).setCell g9 _) (((kr.other (Ne.symm n9) _).other (Ne.symm n9) _).other (Ne.symm n9) _) (by omega) (fun w3 e => by simp [results, Tryz.results70, go_sem, e]) rfl (fun w3 hb3 => ⟨rfl, hb3⟩)

set_option maxHeartbeats 2000000 in
theorem refColors17 (r g b a r' g' b' a' : Int) (w : World) :
    Calls Tryz.prog 70 #[.int .i64 17, pv r g b a, pv r' g' b' a'] w fun e w' => e = .returned (pv (col3 17 (cl r, cl g, cl b) (cl r', cl g', cl b')).1 (col3 17 (cl r, cl g, cl b) (cl r', cl g', cl b')).2.1 (col3 17 (cl r, cl g, cl b) (cl r', cl g', cl b')).2.2 65535) ∧ Below w.heap.size w w' := by
  have u1 : U3 (cl r, cl g, cl b) := ⟨cl_bd _, cl_bd _, cl_bd _⟩
  have u2 : U3 (cl r', cl g', cl b') := ⟨cl_bd _, cl_bd _, cl_bd _⟩
  have E1 := lum3_u _ u1
  have E2 := lum3_u _ u2
  have E3 := sat3_u _ u1
  have E4 := sat3_u _ u2
  have E5 := setSat3_u _ _ u2 E3
  have E6 := setSat3_u _ _ u1 E4
  go_enter Tryz.func70, Tryz.ntmps70
  go_wp2
  refine name3 (fun W k1 k2 k3 hb => ?_)
  refine wp_region_grow 4 (fun w' => Below (World.heap W).size W w') (by kernel_rfl) (by kernel_rfl) (Below.refl _ _).drew ?_
  simp only [List.take_succ_cons, List.take_zero, List.drop_succ_cons, List.drop_zero]
  repeat (first | (apply wpG_on; rfl; (intro w' hS K hK; have hc0 := (k1.kept hS).c4; have hc1 := (k2.kept hS).c4; have hc2 := (k3.kept hS).c4; go_simp; (first | exact hK.out _ hS | (go_at_call 69; (with_reducible refine (refLimit_any _ _ _ _ _).mono ?_); rintro e w'' ⟨rfl, hbb⟩; exact ⟨_, rfl, hK.out _ (hS.trans (hbb.mono hS.size))⟩))); simp only [Act.put, List.setIfInBounds_toArray, List.set_cons_succ, List.set_cons_zero]) | (apply wpG_off; rfl; simp only [Act.put, List.setIfInBounds_toArray, List.set_cons_succ, List.set_cons_zero]))
  apply wpG_nil
  intro W1 hS
  replace k1 := k1.kept hS
  replace k2 := k2.kept hS
  replace k3 := k3.kept hS
  replace hb := hb.trans (hS.mono hb.size)
  clear hS
  have c1 := k1.c4
  have c2 := k2.c4
  go_upto_region 2 with (fail)
  clear c1 c2
  refine mid44 hb k1 k2 (by omega) (Nat.le_refl _) (by omega) (fun W2 k1' k2' kk hb => ?_)
  replace k3 := kk _ _ (by omega) (by omega) k3
  clear kk k1 k2
  have hlt3 := k3.lt
  have c1 := k1'.c4
  have c2 := k2'.c4
  go_region_held3 (fun w' => w'.cell? ⟨w.heap.size, 0, none⟩ = some (.int .i64 (cl r)) ∧ w'.cell? ⟨w.heap.size, 1, none⟩ = some (.int .i64 (cl g)) ∧ w'.cell? ⟨w.heap.size, 2, none⟩ = some (.int .i64 (cl b)) ∧ w'.cell? ⟨w.heap.size + 1, 0, none⟩ = some (.int .i64 (cl r')) ∧ w'.cell? ⟨w.heap.size + 1, 1, none⟩ = some (.int .i64 (cl g')) ∧ w'.cell? ⟨w.heap.size + 1, 2, none⟩ = some (.int .i64 (cl b'))) (go_keep) (fail)
  all_goals clear c1 c2
  · go_upto_region 3 with (fail)
    refine name2d (fun W4 kx ky hS => ?_)
    have kr := k3.kept hS
    have hb4 := hb.trans (hS.mono hb.size)
    have hsz := hS.size
    clear hS k3 hb k1' k2'
    go_upto_region 16 with (fail)
    refine name1 (fun W5 k9 hS => ?_)
    replace kx := kx.kept hS
    replace ky := ky.kept hS
    replace kr := kr.kept hS
    have n9 : W4.heap.size ≠ w.heap.size + 1 + 1 := by omega
    have g9 : w.heap.size ≤ W4.heap.size := hb4.size
    have hb := hb4.trans (hS.mono hb4.size)
    clear hS hb4
    refine wp_region_grow 4 (fun w' => Below (World.heap W5).size W5 w') (by kernel_rfl) (by kernel_rfl) (Below.refl _ _).drew ?_
    simp only [List.take_succ_cons, List.take_zero, List.drop_succ_cons, List.drop_zero]
    repeat (first | (apply wpG_on; rfl; (intro w' hS K hK; have hc0 := (kx.kept hS).c3; have hc1 := (ky.kept hS).c3; have hc2 := (kr.kept hS).c4; have hc3 := (k9.kept hS).c3; go_simp; (first | exact hK.out _ hS | (go_at_call 112; (with_reducible refine (refLumC (cl r', cl g', cl b') _ u2).mono ?_); rintro e w'' ⟨rfl, hbb⟩; exact ⟨_, rfl, hK.out _ (hS.trans (hbb.mono hS.size))⟩) | (go_at_call 109; (with_reducible refine (refSetLumC (cl r, cl g, cl b) _ _ u1 E2).mono ?_); rintro e w'' ⟨rfl, hbb⟩; exact ⟨_, rfl, hK.out _ (hS.trans (hbb.mono hS.size))⟩))); simp only [Act.put, List.setIfInBounds_toArray, List.set_cons_succ, List.set_cons_zero]) | (apply wpG_off; rfl; simp only [Act.put, List.setIfInBounds_toArray, List.set_cons_succ, List.set_cons_zero]))
    apply wpG_nil
    intro W6 hS
    replace kx := kx.kept hS
    replace ky := ky.kept hS
    replace kr := kr.kept hS
    replace k9 := k9.kept hS
    replace hb := hb.trans (hS.mono hb.size)
    clear hS
    have c9 := k9.c3
    have cr := kr.c4
    go_wp2_with fail
    refine end4 (((hb.setCell g9 _).setCell g9 _).setCell g9 _) (((kr.other (Ne.symm n9) _).other (Ne.symm n9) _).other (Ne.symm n9) _) (by omega) (fun w3 e => by simp [results, Tryz.results70, go_sem, e]) rfl (fun w3 hb3 => ⟨rfl, hb3⟩)
  · go_upto_region 3 with (fail)
    refine name2d (fun W4 ky kx hS => ?_)
    have kr := k3.kept hS
    have hb4 := hb.trans (hS.mono hb.size)
    have hsz := hS.size
    clear hS k3 hb k1' k2'
    go_upto_region 16 with (fail)
    refine name1 (fun W5 k9 hS => ?_)
    replace kx := kx.kept hS
    replace ky := ky.kept hS
    replace kr := kr.kept hS
    have n9 : W4.heap.size ≠ w.heap.size + 1 + 1 := by omega
    have g9 : w.heap.size ≤ W4.heap.size := hb4.size
    have hb := hb4.trans (hS.mono hb4.size)
    clear hS hb4
    refine wp_region_grow 4 (fun w' => Below (World.heap W5).size W5 w') (by kernel_rfl) (by kernel_rfl) (Below.refl _ _).drew ?_
    simp only [List.take_succ_cons, List.take_zero, List.drop_succ_cons, List.drop_zero]
    repeat (first | (apply wpG_on; rfl; (intro w' hS K hK; have hc0 := (kx.kept hS).c3; have hc1 := (ky.kept hS).c3; have hc2 := (kr.kept hS).c4; have hc3 := (k9.kept hS).c3; go_simp; (first | exact hK.out _ hS | (go_at_call 112; (with_reducible refine (refLumC (cl r', cl g', cl b') _ u2).mono ?_); rintro e w'' ⟨rfl, hbb⟩; exact ⟨_, rfl, hK.out _ (hS.trans (hbb.mono hS.size))⟩) | (go_at_call 109; (with_reducible refine (refSetLumC (cl r, cl g, cl b) _ _ u1 E2).mono ?_); rintro e w'' ⟨rfl, hbb⟩; exact ⟨_, rfl, hK.out _ (hS.trans (hbb.mono hS.size))⟩))); simp only [Act.put, List.setIfInBounds_toArray, List.set_cons_succ, List.set_cons_zero]) | (apply wpG_off; rfl; simp only [Act.put, List.setIfInBounds_toArray, List.set_cons_succ, List.set_cons_zero]))
    apply wpG_nil
    intro W6 hS
    replace kx := kx.kept hS
    replace ky := ky.kept hS
    replace kr := kr.kept hS
    replace k9 := k9.kept hS
    replace hb := hb.trans (hS.mono hb.size)
    clear hS
    have c9 := k9.c3
    have cr := kr.c4
    go_wp2_with fail
    refine end4 (((hb.setCell g9 _).setCell g9 _).setCell g9 _) (((kr.other (Ne.symm n9) _).other (Ne.symm n9) _).other (Ne.symm n9) _) (by omega) (fun w3 e => by simp [results, Tryz.results70, go_sem, e]) rfl (fun w3 hb3 => ⟨rfl, hb3⟩)
end Go.Proofs.YtieacbccadbdbaaGreatDoor


/- Colors of the reference of package blend. -/
namespace Go.Proofs.YtieacbccadbdbaaGreatDoor
open Go.RowKit
set_option linter.unusedVariables false
attribute [local go_sem] Oper.gAt gUponK Oper.sAt stilK

set_option maxHeartbeats 2000000 in
theorem refColorsN (m r g b a r' g' b' a' : Int) (w : World) (hm : m < 14 ∨ 17 < m) :
    Calls Tryz.prog 70 #[.int .i64 m, pv r g b a, pv r' g' b' a'] w fun e w' => e = .returned (pv (chU m (cl r) (cl r')) (chU m (cl g) (cl g')) (chU m (cl b) (cl b')) 65535) ∧ Below w.heap.size w w' := by
  have g1 : (m == 14) = false := by simpa using (show m ≠ 14 by omega)
  have g2 : (m == 15) = false := by simpa using (show m ≠ 15 by omega)
  have g3 : (m == 16) = false := by simpa using (show m ≠ 16 by omega)
  have g4 : (m == 17) = false := by simpa using (show m ≠ 17 by omega)
  have z0 : U (cl r) := cl_bd r
  have y0 : U (cl r') := cl_bd r'
  have z1 : U (cl g) := cl_bd g
  have y1 : U (cl g') := cl_bd g'
  have z2 : U (cl b) := cl_bd b
  have y2 : U (cl b') := cl_bd b'
  clear hm
  go_enter Tryz.func70, Tryz.ntmps70
  go_wp2
  refine name3 (fun W k1 k2 k3 hb => ?_)
  refine wp_region_grow 4 (fun w' => Below (World.heap W).size W w') (by kernel_rfl) (by kernel_rfl) (Below.refl _ _).drew ?_
  simp only [List.take_succ_cons, List.take_zero, List.drop_succ_cons, List.drop_zero]
  repeat (first | (apply wpG_on; rfl; (intro w' hS K hK; have hc0 := (k1.kept hS).c4; have hc1 := (k2.kept hS).c4; have hc2 := (k3.kept hS).c4; go_simp; (first | exact hK.out _ hS | (go_at_call 69; (with_reducible refine (refLimit_any _ _ _ _ _).mono ?_); rintro e w'' ⟨rfl, hbb⟩; exact ⟨_, rfl, hK.out _ (hS.trans (hbb.mono hS.size))⟩))); simp only [Act.put, List.setIfInBounds_toArray, List.set_cons_succ, List.set_cons_zero]) | (apply wpG_off; rfl; simp only [Act.put, List.setIfInBounds_toArray, List.set_cons_succ, List.set_cons_zero]))
  apply wpG_nil
  intro W1 hS
  replace k1 := k1.kept hS
  replace k2 := k2.kept hS
  replace k3 := k3.kept hS
  replace hb := hb.trans (hS.mono hb.size)
  clear hS
  have c1 := k1.c4
  have c2 := k2.c4
  go_upto_region 2 with (fail)
  clear c1 c2
  refine mid44 hb k1 k2 (by omega) (Nat.le_refl _) (by omega) (fun W2 k1' k2' kk hb => ?_)
  replace k3 := kk _ _ (by omega) (by omega) k3
  clear kk k1 k2
  have hlt3 := k3.lt
  have c1 := k1'.c4
  have c2 := k2'.c4
  go_region_held3 (fun w' => w'.cell? ⟨w.heap.size, 0, none⟩ = some (.int .i64 (cl r)) ∧ w'.cell? ⟨w.heap.size, 1, none⟩ = some (.int .i64 (cl g)) ∧ w'.cell? ⟨w.heap.size, 2, none⟩ = some (.int .i64 (cl b)) ∧ w'.cell? ⟨w.heap.size + 1, 0, none⟩ = some (.int .i64 (cl r')) ∧ w'.cell? ⟨w.heap.size + 1, 1, none⟩ = some (.int .i64 (cl g')) ∧ w'.cell? ⟨w.heap.size + 1, 2, none⟩ = some (.int .i64 (cl b'))) (go_keep) (fail)
  all_goals clear c1 c2
  · go_upto_region 3 with (fail)
    refine name2d (fun W4 kx ky hS => ?_)
    have kr := k3.kept hS
    have hb4 := hb.trans (hS.mono hb.size)
    have hsz : W2.heap.size + 1 < W4.heap.size := by first | exact kx.lt | exact ky.lt
    clear hS k3 hb k1' k2'
    go_upto_region 5 with (fail)
    refine name1 (fun W5 k9 hS => ?_)
    replace kx := kx.kept hS
    replace ky := ky.kept hS
    replace kr := kr.kept hS
    have n9 : W4.heap.size ≠ w.heap.size + 1 + 1 := by omega
    have n7 : W2.heap.size ≠ W4.heap.size := by omega
    have n8 : W2.heap.size + 1 ≠ W4.heap.size := by omega
    have g9 : w.heap.size ≤ W4.heap.size := hb4.size
    have hb := hb4.trans (hS.mono hb4.size)
    clear hS hb4
    go_wp2_with fail
    go_loopw [10] (fun i wr => ∃ (k : Nat) (j : Int), k ≤ 3 ∧ j = k ∧ i = .int .i64 j ∧ Blk wr W4.heap.size (.cells (q3 0 0 0 (chU m (cl r) (cl r')) (chU m (cl g) (cl g')) (chU m (cl b) (cl b')) k) 109 (0, 0)) ∧ Blk wr (W2.heap.size) (ob (cl r) (cl g) (cl b) 109) ∧ Blk wr (W2.heap.size + 1) (ob (cl r') (cl g') (cl b') 109) ∧ Blk wr (w.heap.size + 1 + 1) (.cells #[.int .i64 0, .int .i64 0, .int .i64 0, .int .i64 0] 26 (0, 0)) ∧ Below w.heap.size w wr) (fun i _ => 3 - (intOf i).toNat)
    case atStart => exact ⟨0, 0, by omega, rfl, rfl, k9, kx, ky, kr, hb⟩
    case round =>
      clear k9 kx ky kr hb
      obtain ⟨k, j, hk, hj, rfl, k9, kx, ky, kr, hb⟩ := hrel
      obtain rfl | rfl | rfl | rfl : k = 0 ∨ k = 1 ∨ k = 2 ∨ k = 3 := by omega
      · obtain rfl : j = 0 := hj
        replace k9 : Blk wr W4.heap.size (ob 0 0 0 109) := k9
        go_wp2_with fail
        refine wp_region_grow 10 (fun w' => Below (World.heap wr).size wr w') (by kernel_rfl) (by kernel_rfl) (Below.refl _ _).drew ?_
        simp only [List.take_succ_cons, List.take_zero, List.drop_succ_cons, List.drop_zero]
        repeat (first | (apply wpG_on; rfl; (intro w' hS K hK; have hc0 := (k9.kept hS).c3; have hc1 := (kx.kept hS).c3; have hc2 := (ky.kept hS).c3; have hc3 := (kr.kept hS).c4; go_simp; (first | exact hK.out _ hS | (go_at_call 113; (with_reducible refine (refChanU _ _ _ _ z0 y0).mono ?_); rintro e w'' ⟨rfl, hbb⟩; exact ⟨_, rfl, hK.out _ (hS.trans (hbb.mono hS.size))⟩))); simp only [Act.put, List.setIfInBounds_toArray, List.set_cons_succ, List.set_cons_zero]) | (apply wpG_off; rfl; simp only [Act.put, List.setIfInBounds_toArray, List.set_cons_succ, List.set_cons_zero]))
        apply wpG_nil
        intro W6 hS
        replace k9 := k9.kept hS
        replace kx := kx.kept hS
        replace ky := ky.kept hS
        replace kr := kr.kept hS
        replace hb := hb.trans (hS.mono hb.size)
        clear hS
        have c9 := k9.c3
        go_wp2_with fail
        go_roundw
        case rel => exact ⟨1, 1, by omega, rfl, rfl, k9.set1 0 _ (by simp) rfl, kx.other n7 _, ky.other n8 _, kr.other (Ne.symm n9) _, hb.setCell g9 _⟩
        case measure => simp [intOf]
      · obtain rfl : j = 1 := hj
        replace k9 : Blk wr W4.heap.size (ob (chU m (cl r) (cl r')) 0 0 109) := k9
        go_wp2_with fail
        refine wp_region_grow 10 (fun w' => Below (World.heap wr).size wr w') (by kernel_rfl) (by kernel_rfl) (Below.refl _ _).drew ?_
        simp only [List.take_succ_cons, List.take_zero, List.drop_succ_cons, List.drop_zero]
        repeat (first | (apply wpG_on; rfl; (intro w' hS K hK; have hc0 := (k9.kept hS).c3; have hc1 := (kx.kept hS).c3; have hc2 := (ky.kept hS).c3; have hc3 := (kr.kept hS).c4; go_simp; (first | exact hK.out _ hS | (go_at_call 113; (with_reducible refine (refChanU _ _ _ _ z1 y1).mono ?_); rintro e w'' ⟨rfl, hbb⟩; exact ⟨_, rfl, hK.out _ (hS.trans (hbb.mono hS.size))⟩))); simp only [Act.put, List.setIfInBounds_toArray, List.set_cons_succ, List.set_cons_zero]) | (apply wpG_off; rfl; simp only [Act.put, List.setIfInBounds_toArray, List.set_cons_succ, List.set_cons_zero]))
        apply wpG_nil
        intro W6 hS
        replace k9 := k9.kept hS
        replace kx := kx.kept hS
        replace ky := ky.kept hS
        replace kr := kr.kept hS
        replace hb := hb.trans (hS.mono hb.size)
        clear hS
        have c9 := k9.c3
        go_wp2_with fail
        go_roundw
        case rel => exact ⟨2, 2, by omega, rfl, rfl, k9.set1 1 _ (by simp) rfl, kx.other n7 _, ky.other n8 _, kr.other (Ne.symm n9) _, hb.setCell g9 _⟩
        case measure => simp [intOf]
      · obtain rfl : j = 2 := hj
        replace k9 : Blk wr W4.heap.size (ob (chU m (cl r) (cl r')) (chU m (cl g) (cl g')) 0 109) := k9
        go_wp2_with fail
        refine wp_region_grow 10 (fun w' => Below (World.heap wr).size wr w') (by kernel_rfl) (by kernel_rfl) (Below.refl _ _).drew ?_
        simp only [List.take_succ_cons, List.take_zero, List.drop_succ_cons, List.drop_zero]
        repeat (first | (apply wpG_on; rfl; (intro w' hS K hK; have hc0 := (k9.kept hS).c3; have hc1 := (kx.kept hS).c3; have hc2 := (ky.kept hS).c3; have hc3 := (kr.kept hS).c4; go_simp; (first | exact hK.out _ hS | (go_at_call 113; (with_reducible refine (refChanU _ _ _ _ z2 y2).mono ?_); rintro e w'' ⟨rfl, hbb⟩; exact ⟨_, rfl, hK.out _ (hS.trans (hbb.mono hS.size))⟩))); simp only [Act.put, List.setIfInBounds_toArray, List.set_cons_succ, List.set_cons_zero]) | (apply wpG_off; rfl; simp only [Act.put, List.setIfInBounds_toArray, List.set_cons_succ, List.set_cons_zero]))
        apply wpG_nil
        intro W6 hS
        replace k9 := k9.kept hS
        replace kx := kx.kept hS
        replace ky := ky.kept hS
        replace kr := kr.kept hS
        replace hb := hb.trans (hS.mono hb.size)
        clear hS
        have c9 := k9.c3
        go_wp2_with fail
        go_roundw
        case rel => exact ⟨3, 3, by omega, rfl, rfl, k9.set1 2 _ (by simp) rfl, kx.other n7 _, ky.other n8 _, kr.other (Ne.symm n9) _, hb.setCell g9 _⟩
        case measure => simp [intOf]
      · obtain rfl : j = 3 := hj
        replace k9 : Blk wr W4.heap.size (ob (chU m (cl r) (cl r')) (chU m (cl g) (cl g')) (chU m (cl b) (cl b')) 109) := k9
        have c9 := k9.c3
        have cr := kr.c4
        go_wp2_with fail
        refine end4 hb kr (by omega) (fun w3 e => by simp [results, Tryz.results70, go_sem, e]) rfl (fun w3 hb3 => ⟨rfl, hb3⟩)
  · go_upto_region 3 with (fail)
    refine name2d (fun W4 ky kx hS => ?_)
    have kr := k3.kept hS
    have hb4 := hb.trans (hS.mono hb.size)
    have hsz : W2.heap.size + 1 < W4.heap.size := by first | exact kx.lt | exact ky.lt
    clear hS k3 hb k1' k2'
    go_upto_region 5 with (fail)
    refine name1 (fun W5 k9 hS => ?_)
    replace kx := kx.kept hS
    replace ky := ky.kept hS
    replace kr := kr.kept hS
    have n9 : W4.heap.size ≠ w.heap.size + 1 + 1 := by omega
    have n7 : W2.heap.size + 1 ≠ W4.heap.size := by omega
    have n8 : W2.heap.size ≠ W4.heap.size := by omega
    have g9 : w.heap.size ≤ W4.heap.size := hb4.size
    have hb := hb4.trans (hS.mono hb4.size)
    clear hS hb4
    go_wp2_with fail
    go_loopw [10] (fun i wr => ∃ (k : Nat) (j : Int), k ≤ 3 ∧ j = k ∧ i = .int .i64 j ∧ Blk wr W4.heap.size (.cells (q3 0 0 0 (chU m (cl r) (cl r')) (chU m (cl g) (cl g')) (chU m (cl b) (cl b')) k) 109 (0, 0)) ∧ Blk wr (W2.heap.size + 1) (ob (cl r) (cl g) (cl b) 109) ∧ Blk wr (W2.heap.size) (ob (cl r') (cl g') (cl b') 109) ∧ Blk wr (w.heap.size + 1 + 1) (.cells #[.int .i64 0, .int .i64 0, .int .i64 0, .int .i64 0] 26 (0, 0)) ∧ Below w.heap.size w wr) (fun i _ => 3 - (intOf i).toNat)
    case atStart => exact ⟨0, 0, by omega, rfl, rfl, k9, kx, ky, kr, hb⟩
    case round =>
      clear k9 kx ky kr hb
      obtain ⟨k, j, hk, hj, rfl, k9, kx, ky, kr, hb⟩ := hrel
      obtain rfl | rfl | rfl | rfl : k = 0 ∨ k = 1 ∨ k = 2 ∨ k = 3 := by omega
      · obtain rfl : j = 0 := hj
        replace k9 : Blk wr W4.heap.size (ob 0 0 0 109) := k9
        go_wp2_with fail
        refine wp_region_grow 10 (fun w' => Below (World.heap wr).size wr w') (by kernel_rfl) (by kernel_rfl) (Below.refl _ _).drew ?_
        simp only [List.take_succ_cons, List.take_zero, List.drop_succ_cons, List.drop_zero]
        repeat (first | (apply wpG_on; rfl; (intro w' hS K hK; have hc0 := (k9.kept hS).c3; have hc1 := (kx.kept hS).c3; have hc2 := (ky.kept hS).c3; have hc3 := (kr.kept hS).c4; go_simp; (first | exact hK.out _ hS | (go_at_call 113; (with_reducible refine (refChanU _ _ _ _ z0 y0).mono ?_); rintro e w'' ⟨rfl, hbb⟩; exact ⟨_, rfl, hK.out _ (hS.trans (hbb.mono hS.size))⟩))); simp only [Act.put, List.setIfInBounds_toArray, List.set_cons_succ, List.set_cons_zero]) | (apply wpG_off; rfl; simp only [Act.put, List.setIfInBounds_toArray, List.set_cons_succ, List.set_cons_zero]))
        apply wpG_nil
        intro W6 hS
        replace k9 := k9.kept hS
        replace kx := kx.kept hS
        replace ky := ky.kept hS
        replace kr := kr.kept hS
        replace hb := hb.trans (hS.mono hb.size)
        clear hS
        have c9 := k9.c3
        go_wp2_with fail
        go_roundw
        case rel => exact ⟨1, 1, by omega, rfl, rfl, k9.set1 0 _ (by simp) rfl, kx.other n7 _, ky.other n8 _, kr.other (Ne.symm n9) _, hb.setCell g9 _⟩
        case measure => simp [intOf]
      · obtain rfl : j = 1 := hj
        replace k9 : Blk wr W4.heap.size (ob (chU m (cl r) (cl r')) 0 0 109) := k9
        go_wp2_with fail
        refine wp_region_grow 10 (fun w' => Below (World.heap wr).size wr w') (by kernel_rfl) (by kernel_rfl) (Below.refl _ _).drew ?_
        simp only [List.take_succ_cons, List.take_zero, List.drop_succ_cons, List.drop_zero]
        repeat (first | (apply wpG_on; rfl; (intro w' hS K hK; have hc0 := (k9.kept hS).c3; have hc1 := (kx.kept hS).c3; have hc2 := (ky.kept hS).c3; have hc3 := (kr.kept hS).c4; go_simp; (first | exact hK.out _ hS | (go_at_call 113; (with_reducible refine (refChanU _ _ _ _ z1 y1).mono ?_); rintro e w'' ⟨rfl, hbb⟩; exact ⟨_, rfl, hK.out _ (hS.trans (hbb.mono hS.size))⟩))); simp only [Act.put, List.setIfInBounds_toArray, List.set_cons_succ, List.set_cons_zero]) | (apply wpG_off; rfl; simp only [Act.put, List.setIfInBounds_toArray, List.set_cons_succ, List.set_cons_zero]))
        apply wpG_nil
        intro W6 hS
        replace k9 := k9.kept hS
        replace kx := kx.kept hS
        replace ky := ky.kept hS
        replace kr := kr.kept hS
        replace hb := hb.trans (hS.mono hb.size)
        clear hS
        have c9 := k9.c3
        go_wp2_with fail
        go_roundw
        case rel => exact ⟨2, 2, by omega, rfl, rfl, k9.set1 1 _ (by simp) rfl, kx.other n7 _, ky.other n8 _, kr.other (Ne.symm n9) _, hb.setCell g9 _⟩
        case measure => simp [intOf]
      · obtain rfl : j = 2 := hj
        replace k9 : Blk wr W4.heap.size (ob (chU m (cl r) (cl r')) (chU m (cl g) (cl g')) 0 109) := k9
        go_wp2_with fail
        refine wp_region_grow 10 (fun w' => Below (World.heap wr).size wr w') (by kernel_rfl) (by kernel_rfl) (Below.refl _ _).drew ?_
        simp only [List.take_succ_cons, List.take_zero, List.drop_succ_cons, List.drop_zero]
        repeat (first | (apply wpG_on; rfl; (intro w' hS K hK; have hc0 := (k9.kept hS).c3; have hc1 := (kx.kept hS).c3; have hc2 := (ky.kept hS).c3; have hc3 := (kr.kept hS).c4; go_simp; (first | exact hK.out _ hS | (go_at_call 113; (with_reducible refine (refChanU _ _ _ _ z2 y2).mono ?_); rintro e w'' ⟨rfl, hbb⟩; exact ⟨_, rfl, hK.out _ (hS.trans (hbb.mono hS.size))⟩))); simp only [Act.put, List.setIfInBounds_toArray, List.set_cons_succ, List.set_cons_zero]) | (apply wpG_off; rfl; simp only [Act.put, List.setIfInBounds_toArray, List.set_cons_succ, List.set_cons_zero]))
        apply wpG_nil
        intro W6 hS
        replace k9 := k9.kept hS
        replace kx := kx.kept hS
        replace ky := ky.kept hS
        replace kr := kr.kept hS
        replace hb := hb.trans (hS.mono hb.size)
        clear hS
        have c9 := k9.c3
        go_wp2_with fail
        go_roundw
        case rel => exact ⟨3, 3, by omega, rfl, rfl, k9.set1 2 _ (by simp) rfl, kx.other n7 _, ky.other n8 _, kr.other (Ne.symm n9) _, hb.setCell g9 _⟩
        case measure => simp [intOf]
      · obtain rfl : j = 3 := hj
        replace k9 : Blk wr W4.heap.size (ob (chU m (cl r) (cl r')) (chU m (cl g) (cl g')) (chU m (cl b) (cl b')) 109) := k9
        have c9 := k9.c3
        have cr := kr.c4
        go_wp2_with fail
        refine end4 hb kr (by omega) (fun w3 e => by simp [results, Tryz.results70, go_sem, e]) rfl (fun w3 hb3 => ⟨rfl, hb3⟩)

theorem refColors_any (m r g b a r' g' b' a' : Int) (w : World) :
    Calls Tryz.prog 70 #[.int .i64 m, pv r g b a, pv r' g' b' a'] w fun e w' => e = .returned (pv (col3 m (cl r, cl g, cl b) (cl r', cl g', cl b')).1 (col3 m (cl r, cl g, cl b) (cl r', cl g', cl b')).2.1 (col3 m (cl r, cl g, cl b) (cl r', cl g', cl b')).2.2 65535) ∧ Below w.heap.size w w' := by
  by_cases h : m < 14 ∨ 17 < m
  · rw [col3_other m _ _ h]
    exact refColorsN m r g b a r' g' b' a' w h
  · obtain rfl | rfl | rfl | rfl : m = 14 ∨ m = 15 ∨ m = 16 ∨ m = 17 := by omega
    · exact refColors14 r g b a r' g' b' a' w
    · exact refColors15 r g b a r' g' b' a' w
    · exact refColors16 r g b a r' g' b' a' w
    · exact refColors17 r g b a r' g' b' a' w
end Go.Proofs.YtieacbccadbdbaaGreatDoor


/- Over of the reference of package blend. -/
namespace Go.Proofs.YtieacbccadbdbaaGreatDoor
open Go.RowKit
set_option linter.unusedVariables false
attribute [local go_sem] Oper.gAt gUponK Oper.sAt stilK

set_option maxHeartbeats 1000000 in
theorem refOverCh (b s m ba sa d : Int) (w : World) (hb : U b) (hs : U s) (hm : U m) (hba : U ba) (hsa : U sa) (hd : 0 < d) (hd2 : d ≤ 4294836225) :
    Calls Tryz.prog 71 #[.int .i64 b, .int .i64 s, .int .i64 m, .int .i64 ba, .int .i64 sa, .int .i64 d] w fun e w' => e = .returned (.int .i64 (dv (nU b s m ba sa) d)) ∧ Below w.heap.size w w' := by
  unfold U at hb hs hm hba hsa
  have m1 := mul_u2 s sa hs hsa
  have m2 := mul_u3 s sa (65535 - ba) hs hsa (by omega)
  have m3 := mul_u2 b ba hb hba
  have m4 := mul_u3 b ba (65535 - sa) hb hba (by omega)
  have m5 := mul_u2 m sa hm hsa
  have m6 := mul_u3 m sa ba hm hsa hba
  have HN : Hid (nU b s m ba sa = s * sa * (65535 - ba) + b * ba * (65535 - sa) + m * sa * ba) := rfl
  go_enter Tryz.func71, Tryz.ntmps71
  go_wp2_with fail
  refine (refDiv_new _ _ _ hd (by omega) (by omega) (by omega)).mono ?_
  rintro e w1 ⟨rfl, hB⟩
  go_wp2_with fail
  go_ret
  exact ⟨ret_int (by rw [HN.out]), hB⟩
theorem refAlpha (d al : Int) (w : World) (h : dv d 65535 = al) (h0 : 0 ≤ d) (h1 : d ≤ 4294836225) :
    Calls Tryz.prog 67 #[.int .i64 d, .int .i64 65535] w fun e w' => e = .returned (.int .i64 al) ∧ Below w.heap.size w w' := by
  rw [← h]
  exact refDiv_new _ _ _ (by omega) (by omega) (by omega) (by omega)

set_option maxHeartbeats 2000000 in
theorem refOver_zero (m r g b a r' g' b' a' : Int) (w : World) (hz : alU (cl a) (cl a') = 0) :
    Calls Tryz.prog 27 #[.int .i64 m, pv r g b a, pv r' g' b' a'] w fun e w' => e = .returned (pv 0 0 0 0) ∧ Below w.heap.size w w' := by
  have ha := cl_bd a
  have ha' := cl_bd a'
  have hd := dU_bd _ _ ha ha'
  have hm := mul_u2 (cl a') (cl a) ha' ha
  have HD : Hid (dU (cl a) (cl a') = 65535 * (cl a' + cl a) - cl a' * cl a) := rfl
  have HZ : Hid (dv (dU (cl a) (cl a')) 65535 = 0) := hz
  clear hz
  go_enter Tryz.func27, Tryz.ntmps27
  go_wp2
  refine name3 (fun W k1 k2 k3 hb => ?_)
  refine wp_region_grow 4 (fun w' => Below (World.heap W).size W w') (by kernel_rfl) (by kernel_rfl) (Below.refl _ _).drew ?_
  simp only [List.take_succ_cons, List.take_zero, List.drop_succ_cons, List.drop_zero]
  repeat (first | (apply wpG_on; rfl; (intro w' hS K hK; have hc0 := (k1.kept hS).c4; have hc1 := (k2.kept hS).c4; have hc2 := (k3.kept hS).c4; go_simp; (first | exact hK.out _ hS | (go_at_call 69; (with_reducible refine (refLimit_any _ _ _ _ _).mono ?_); rintro e w'' ⟨rfl, hbb⟩; exact ⟨_, rfl, hK.out _ (hS.trans (hbb.mono hS.size))⟩))); simp only [Act.put, List.setIfInBounds_toArray, List.set_cons_succ, List.set_cons_zero]) | (apply wpG_off; rfl; simp only [Act.put, List.setIfInBounds_toArray, List.set_cons_succ, List.set_cons_zero]))
  apply wpG_nil
  intro W1 hS
  replace k1 := k1.kept hS
  replace k2 := k2.kept hS
  replace k3 := k3.kept hS
  replace hb := hb.trans (hS.mono hb.size)
  clear hS
  have c1 := k1.c4
  have c2 := k2.c4
  go_upto_region 2 with (fail)
  clear c1 c2
  refine mid44 hb k1 k2 (by omega) (Nat.le_refl _) (by omega) (fun W2 k1' k2' kk hb => ?_)
  replace k3 := kk _ _ (by omega) (by omega) k3
  clear kk k1 k2
  have c1 := k1'.c4
  have c2 := k2'.c4
  have r1 : 65535 * (cl a' + cl a) - cl a' * cl a = dU (cl a) (cl a') := HD.out.symm
  by_cases hd0 : dU (cl a) (cl a') = 0
  · have hq : (dU (cl a) (cl a') == 0) = true := by simpa using hd0
    clear hd0
    generalize dU (cl a) (cl a') = d at *
    have c3 := k3.c4
    go_wp2_with fail
    refine bodyPost_ret (v := pv 0 0 0 0) (by simp [results, Tryz.results27, go_sem, c3]) rfl ⟨rfl, ?_⟩
    exact below4 hb (by omega) _ _ _ _
  · have hq : (dU (cl a) (cl a') == 0) = false := by simpa using hd0
    generalize dU (cl a) (cl a') = d at *
    go_wp2_with fail
    clear c1 c2 r1
    refine (refDiv_new _ _ _ (by omega) (by omega) (by omega) (by omega)).mono ?_
    rintro e W3 ⟨rfl, hS⟩
    replace k3 := k3.kept hS
    replace hb := hb.trans (hS.mono hb.size)
    clear hS
    rw [HZ.out]
    have c3 := k3.c4
    go_wp2_with fail
    refine bodyPost_ret (v := pv 0 0 0 0) (by simp [results, Tryz.results27, go_sem, c3]) rfl ⟨rfl, ?_⟩
    exact below4 hb (by omega) _ _ _ _

set_option maxHeartbeats 4000000 in
theorem refOver_pos (m r g b a r' g' b' a' : Int) (w : World) (hz : alU (cl a) (cl a') ≠ 0) :
    Calls Tryz.prog 27 #[.int .i64 m, pv r g b a, pv r' g' b' a'] w fun e w' => e = .returned (pv (ovC (cl r) (cl r') (col3 m (cl r, cl g, cl b) (cl r', cl g', cl b')).1 (cl a) (cl a')) (ovC (cl g) (cl g') (col3 m (cl r, cl g, cl b) (cl r', cl g', cl b')).2.1 (cl a) (cl a')) (ovC (cl b) (cl b') (col3 m (cl r, cl g, cl b) (cl r', cl g', cl b')).2.2 (cl a) (cl a')) (alU (cl a) (cl a'))) ∧ Below w.heap.size w w' := by
  have ha := cl_bd a
  have ha' := cl_bd a'
  have hd := dU_bd _ _ ha ha'
  have hd0 := alU_pos _ _ ha ha' hz
  have hm := mul_u2 (cl a') (cl a) ha' ha
  have HD : Hid (dU (cl a) (cl a') = 65535 * (cl a' + cl a) - cl a' * cl a) := rfl
  have HA : Hid (dv (dU (cl a) (cl a')) 65535 = alU (cl a) (cl a')) := rfl
  have hf : (alU (cl a) (cl a') == 0) = false := by simpa using hz
  have HC := Lib.hid (fun w => refColors_any m (cl r) (cl g) (cl b) (cl a) (cl r') (cl g') (cl b') (cl a') w)
  have hu := col3_u m (cl r, cl g, cl b) (cl r', cl g', cl b') ⟨cl_bd _, cl_bd _, cl_bd _⟩ ⟨cl_bd _, cl_bd _, cl_bd _⟩
  simp only [cl_cl] at HC
  have HV : Hid (∀ b s q, ovC b s q (cl a) (cl a') = dv (nU b s q (cl a) (cl a')) (dU (cl a) (cl a'))) := fun _ _ _ => rfl
  generalize col3 m (cl r, cl g, cl b) (cl r', cl g', cl b') = q at *
  obtain ⟨q0, q1, q2⟩ := q
  obtain ⟨u0, u1, u2⟩ := hu
  replace u0 : U q0 := u0
  replace u1 : U q1 := u1
  replace u2 : U q2 := u2
  have z1 : U (cl r) := cl_bd r
  have z2 : U (cl r') := cl_bd r'
  have z3 : U (cl g) := cl_bd g
  have z4 : U (cl g') := cl_bd g'
  have z5 : U (cl b) := cl_bd b
  have z6 : U (cl b') := cl_bd b'
  have za : U (cl a) := ha
  have za' : U (cl a') := ha'
  simp only [HV.out]
  clear hz HV
  generalize alU (cl a) (cl a') = al at *
  go_enter Tryz.func27, Tryz.ntmps27
  go_wp2
  refine name3 (fun W k1 k2 k3 hb => ?_)
  refine wp_region_grow 4 (fun w' => Below (World.heap W).size W w') (by kernel_rfl) (by kernel_rfl) (Below.refl _ _).drew ?_
  simp only [List.take_succ_cons, List.take_zero, List.drop_succ_cons, List.drop_zero]
  repeat (first | (apply wpG_on; rfl; (intro w' hS K hK; have hc0 := (k1.kept hS).c4; have hc1 := (k2.kept hS).c4; have hc2 := (k3.kept hS).c4; go_simp; (first | exact hK.out _ hS | (go_at_call 69; (with_reducible refine (refLimit_any _ _ _ _ _).mono ?_); rintro e w'' ⟨rfl, hbb⟩; exact ⟨_, rfl, hK.out _ (hS.trans (hbb.mono hS.size))⟩))); simp only [Act.put, List.setIfInBounds_toArray, List.set_cons_succ, List.set_cons_zero]) | (apply wpG_off; rfl; simp only [Act.put, List.setIfInBounds_toArray, List.set_cons_succ, List.set_cons_zero]))
  apply wpG_nil
  intro W1 hS
  replace k1 := k1.kept hS
  replace k2 := k2.kept hS
  replace k3 := k3.kept hS
  replace hb := hb.trans (hS.mono hb.size)
  clear hS
  have c1 := k1.c4
  have c2 := k2.c4
  go_upto_region 2 with (fail)
  clear c1 c2
  refine mid44 hb k1 k2 (by omega) (Nat.le_refl _) (by omega) (fun W2 k1' k2' kk hb => ?_)
  replace k3 := kk _ _ (by omega) (by omega) k3
  clear kk k1 k2
  have c1 := k1'.c4
  have c2 := k2'.c4
  have r1 : 65535 * (cl a' + cl a) - cl a' * cl a = dU (cl a) (cl a') := HD.out.symm
  generalize hdd : dU (cl a) (cl a') = d at *
  have HDD := Lib.hid hdd
  have hq : (d == 0) = false := by simp; omega
  clear hdd
  go_wp2_with fail
  clear c1 c2 r1
  refine (refDiv_new _ _ _ (by omega) (by omega) (by omega) (by omega)).mono ?_
  rintro e W3 ⟨rfl, hS⟩
  replace k1' := k1'.kept hS
  replace k2' := k2'.kept hS
  replace k3 := k3.kept hS
  replace hb := hb.trans (hS.mono hb.size)
  clear hS
  rw [HA.out]
  have c1 := k1'.c4
  have c2 := k2'.c4
  go_wp2_with fail
  clear c1 c2
  refine (HC.out _).mono ?_
  rintro e W4 ⟨rfl, hS⟩
  replace k1' := k1'.kept hS
  replace k2' := k2'.kept hS
  replace k3 := k3.kept hS
  replace hb := hb.trans (hS.mono hb.size)
  clear hS HC
  go_wp2_with fail
  refine name1 (fun W5 k5 hS => ?_)
  replace k1' := k1'.kept hS
  replace k2' := k2'.kept hS
  replace k3 := k3.kept hS
  replace hb := hb.trans (hS.mono hb.size)
  clear hS
  have HAL := Lib.hid (fun w => refAlpha d al w HA.out hd.1 hd.2)
  refine wp_region_grow 39 (fun w' => Below (World.heap W5).size W5 w') (by kernel_rfl) (by kernel_rfl) (Below.refl _ _).drew ?_
  simp only [List.take_succ_cons, List.take_zero, List.drop_succ_cons, List.drop_zero]
  repeat (first | (apply wpG_on; rfl; (intro w' hS K hK; have hc0 := (k1'.kept hS).c4; have hc1 := (k2'.kept hS).c4; have hc2 := (k3.kept hS).c4; have hc3 := (k5.kept hS).c4; go_simp; (first | exact hK.out _ hS | (go_at_call 71; (with_reducible refine (refOverCh (cl r) (cl r') q0 (cl a) (cl a') _ _ z1 z2 u0 za za' hd0 hd.2).mono ?_); rintro e w'' ⟨rfl, hbb⟩; exact ⟨_, rfl, hK.out _ (hS.trans (hbb.mono hS.size))⟩) | (go_at_call 71; (with_reducible refine (refOverCh (cl g) (cl g') q1 (cl a) (cl a') _ _ z3 z4 u1 za za' hd0 hd.2).mono ?_); rintro e w'' ⟨rfl, hbb⟩; exact ⟨_, rfl, hK.out _ (hS.trans (hbb.mono hS.size))⟩) | (go_at_call 71; (with_reducible refine (refOverCh (cl b) (cl b') q2 (cl a) (cl a') _ _ z5 z6 u2 za za' hd0 hd.2).mono ?_); rintro e w'' ⟨rfl, hbb⟩; exact ⟨_, rfl, hK.out _ (hS.trans (hbb.mono hS.size))⟩) | (go_at_call 67; (with_reducible refine (HAL.out _).mono ?_); rintro e w'' ⟨rfl, hbb⟩; exact ⟨_, rfl, hK.out _ (hS.trans (hbb.mono hS.size))⟩))); simp only [Act.put, List.setIfInBounds_toArray, List.set_cons_succ, List.set_cons_zero]) | (apply wpG_off; rfl; simp only [Act.put, List.setIfInBounds_toArray, List.set_cons_succ, List.set_cons_zero]))
  apply wpG_nil
  intro W6 hS
  replace k1' := k1'.kept hS
  replace k2' := k2'.kept hS
  replace k3 := k3.kept hS
  replace k5 := k5.kept hS
  replace hb := hb.trans (hS.mono hb.size)
  clear hS
  have c3 := k3.c4
  go_wp2_with fail
  refine end4 hb k3 (by omega) (fun w3 e => by simp [results, Tryz.results27, go_sem, e]) rfl (fun w3 hb3 => ⟨by rw [HDD.out], hb3⟩)
end Go.Proofs.YtieacbccadbdbaaGreatDoor


/- Over of the program and of the reference, both cases in one; the bounds of what it computes. -/
namespace Go.Proofs.YtieacbccadbdbaaGreatDoor
open Go.RowKit
set_option linter.unusedVariables false

def clx (p : Px) : Px := (cl p.1, cl p.2.1, cl p.2.2.1, cl p.2.2.2)
def ovC3 (m : Int) (p q : Px) : C3 := col3 m (cl p.1, cl p.2.1, cl p.2.2.1) (cl q.1, cl q.2.1, cl q.2.2.1)
/-- The pixel q over the pixel p. -/
def ovP (m : Int) (p q : Px) : Px :=
  if alU (cl p.2.2.2) (cl q.2.2.2) = 0 then (0, 0, 0, 0)
  else (ovC (cl p.1) (cl q.1) (ovC3 m p q).1 (cl p.2.2.2) (cl q.2.2.2), ovC (cl p.2.1) (cl q.2.1) (ovC3 m p q).2.1 (cl p.2.2.2) (cl q.2.2.2), ovC (cl p.2.2.1) (cl q.2.2.1) (ovC3 m p q).2.2 (cl p.2.2.2) (cl q.2.2.2), alU (cl p.2.2.2) (cl q.2.2.2))

theorem over_any (m : Int) (p q : Px) (w : World) :
    Calls Tryz.prog 20 #[.int .i64 m, pvx p, pvx q] w fun e w' => e = .returned (pvx (ovP m p q)) ∧ Below w.heap.size w w' := by
  obtain ⟨r, g, b, a⟩ := p
  obtain ⟨r', g', b', a'⟩ := q
  by_cases h : alU (cl a) (cl a') = 0
  · have e : ovP m (r, g, b, a) (r', g', b', a') = (0, 0, 0, 0) := if_pos h
    rw [e]
    exact over_zero m r g b a r' g' b' a' w h
  · have e : ovP m (r, g, b, a) (r', g', b', a') = _ := if_neg h
    rw [e]
    exact over_pos m r g b a r' g' b' a' w h

theorem refOver_any (m : Int) (p q : Px) (w : World) :
    Calls Tryz.prog 27 #[.int .i64 m, pvx p, pvx q] w fun e w' => e = .returned (pvx (ovP m p q)) ∧ Below w.heap.size w w' := by
  obtain ⟨r, g, b, a⟩ := p
  obtain ⟨r', g', b', a'⟩ := q
  by_cases h : alU (cl a) (cl a') = 0
  · have e : ovP m (r, g, b, a) (r', g', b', a') = (0, 0, 0, 0) := if_pos h
    rw [e]
    exact refOver_zero m r g b a r' g' b' a' w h
  · have e : ovP m (r, g, b, a) (r', g', b', a') = _ := if_neg h
    rw [e]
    exact refOver_pos m r g b a r' g' b' a' w h

theorem nU_le (b s m ba sa : Int) (hb : U b) (hs : U s) (hm : U m) (hba : U ba) (hsa : U sa) : 0 ≤ nU b s m ba sa ∧ nU b s m ba sa ≤ 65535 * dU ba sa := by
  unfold U at *
  have h1 := mul_u2 sa (65535 - ba) hsa (by omega)
  have h2 := mul_u2 ba (65535 - sa) hba (by omega)
  have h3 := mul_u2 sa ba hsa hba
  have e1 : nU b s m ba sa = s * (sa * (65535 - ba)) + b * (ba * (65535 - sa)) + m * (sa * ba) := by
    unfold nU
    rw [Int.mul_assoc s, Int.mul_assoc b, Int.mul_assoc m]
  have e2 : dU ba sa = sa * (65535 - ba) + ba * (65535 - sa) + sa * ba := by
    unfold dU
    rw [Int.mul_sub, Int.mul_sub, Int.mul_add, Int.mul_comm ba sa]
    omega
  rw [e1, e2]
  generalize sa * (65535 - ba) = x at *
  generalize ba * (65535 - sa) = y at *
  generalize sa * ba = z at *
  have a1 := Int.mul_nonneg hs.1 h1.1
  have a2 := Int.mul_nonneg hb.1 h2.1
  have a3 := Int.mul_nonneg hm.1 h3.1
  have b1 := Int.mul_le_mul_of_nonneg_right hs.2 h1.1
  have b2 := Int.mul_le_mul_of_nonneg_right hb.2 h2.1
  have b3 := Int.mul_le_mul_of_nonneg_right hm.2 h3.1
  omega
theorem ovC_u (b s m ba sa : Int) (hb : U b) (hs : U s) (hm : U m) (hba : U ba) (hsa : U sa) (hd : 0 < dU ba sa) : U (ovC b s m ba sa) := by
  have h := nU_le b s m ba sa hb hs hm hba hsa
  exact ⟨dv_nonneg _ _ hd h.1, dv_le _ _ _ hd h.2⟩
theorem u_top : U 65535 := ⟨by decide, by decide⟩
def Ux (p : Px) : Prop := U p.1 ∧ U p.2.1 ∧ U p.2.2.1 ∧ U p.2.2.2
theorem ovP_u (m : Int) (p q : Px) : Ux (ovP m p q) := by
  unfold ovP
  split
  · exact ⟨⟨by decide, by decide⟩, ⟨by decide, by decide⟩, ⟨by decide, by decide⟩, ⟨by decide, by decide⟩⟩
  · rename_i h
    have hd := alU_pos _ _ (cl_bd _) (cl_bd _) h
    have hc : U3 (ovC3 m p q) := col3_u _ _ _ ⟨cl_bd _, cl_bd _, cl_bd _⟩ ⟨cl_bd _, cl_bd _, cl_bd _⟩
    exact ⟨ovC_u _ _ _ _ _ (cl_bd _) (cl_bd _) hc.1 (cl_bd _) (cl_bd _) hd, ovC_u _ _ _ _ _ (cl_bd _) (cl_bd _) hc.2.1 (cl_bd _) (cl_bd _) hd, ovC_u _ _ _ _ _ (cl_bd _) (cl_bd _) hc.2.2 (cl_bd _) (cl_bd _) hd, alU_bd _ _ (cl_bd _) (cl_bd _)⟩
theorem ovP_zero (m : Int) (p q : Px) : 0 < (ovP m p q).2.2.2 ∨ ovP m p q = (0, 0, 0, 0) := by
  unfold ovP
  split
  · exact .inr rfl
  · rename_i h
    refine .inl ?_
    have := alU_bd (cl p.2.2.2) (cl q.2.2.2) (cl_bd _) (cl_bd _)
    show 0 < alU (cl p.2.2.2) (cl q.2.2.2)
    omega

theorem Blk.c7 {w : World} {b : Nat} {x0 x1 x2 x3 x4 x5 x6 : Value} {t : TypeId} (k : Blk w b (.cells #[x0, x1, x2, x3, x4, x5, x6] t (0, 0))) :
    w.cell? ⟨b, 0, none⟩ = some x0 ∧ w.cell? ⟨b, 1, none⟩ = some x1 ∧ w.cell? ⟨b, 2, none⟩ = some x2 ∧ w.cell? ⟨b, 3, none⟩ = some x3 ∧ w.cell? ⟨b, 4, none⟩ = some x4 ∧ w.cell? ⟨b, 5, none⟩ = some x5 ∧ w.cell? ⟨b, 6, none⟩ = some x6 :=
  ⟨cell_blk k rfl, cell_blk k rfl, cell_blk k rfl, cell_blk k rfl, cell_blk k rfl, cell_blk k rfl, cell_blk k rfl⟩
end Go.Proofs.YtieacbccadbdbaaGreatDoor

