/- The walks of the colors of package blend's reference: setLum. -/
import Derived.Test.YtfgkgibomgcmpaaDoorCol
namespace Go.Proofs.YtfgkgibomgcmpaaDoor
open Go.RowKit
set_option linter.unusedVariables false
attribute [local go_sem] Oper.gAt gUponK
attribute [local go_sem high] run_min3 run_max3

set_option maxRecDepth 100000 in
set_option maxHeartbeats 2000000 in
theorem refsetLum0 (a b c l : Int) (w : World) (ha : U a) (hb0 : U b) (hc : U c) (hl : U l) (hn : ¬ mn3 (a + (l - lumU a b c)) (b + (l - lumU a b c)) (c + (l - lumU a b c)) < 0) (hx : ¬ 65535 < mx3 (a + (l - lumU a b c)) (b + (l - lumU a b c)) (c + (l - lumU a b c))) :
    Calls Tryd.prog 44 #[cv a b c, .int .i64 l] w fun e w' => e = .returned (cv (slF a b c l a) (slF a b c l b) (slF a b c l c)) ∧ Below w.heap.size w w' := by
  have hd0 := lumU_bd a b c ha hb0 hc
  have HR : Hid (slF a b c l a = _ ∧ slF a b c l b = _ ∧ slF a b c l c = _) := ⟨slF_eq a b c l a, slF_eq a b c l b, slF_eq a b c l c⟩
  generalize slF a b c l a = ra at *
  generalize slF a b c l b = rb at *
  generalize slF a b c l c = rc at *
  go_enter Tryd.func44, Tryd.ntmps44
  go_wp2_with fail
  refine callName2 (fun W k1 k2 hb => ?_)
  refine (reflum_any _ _ _ _ ha hb0 hc).mono ?_
  rintro e W1 ⟨rfl, hS⟩
  replace k1 := k1.kept hS
  replace k2 := k2.kept hS
  replace hb := hb.trans (hS.mono hb.size)
  clear hS
  generalize lumU a b c = lm at *
  unfold U at ha hb0 hc hl hd0
  have hd : -65535 ≤ l - lm ∧ l - lm ≤ 65535 := by omega
  generalize hd' : l - lm = d at *
  have HD := Lib.hid hd'
  clear hd'
  go_wp2_with fail
  rw [HD.out]
  go_loopw [6] (fun i wr => ∃ (k : Nat) (j : Int), k ≤ 3 ∧ j = k ∧ i = .int .i64 j ∧ Blk wr w.heap.size (.cells (p3 (fun v => v + d) a b c k) 51 (0, 0)) ∧ Blk wr (w.heap.size + 1) (ob 0 0 0 51) ∧ Below w.heap.size w wr) (fun i _ => 3 - (intOf i).toNat)
  case atStart => exact ⟨0, 0, by omega, rfl, rfl, k1, k2, hb⟩
  case round =>
    clear k1 k2 hb
    obtain ⟨k, j, hk, hj, rfl, k1, k2, hb⟩ := hrel
    obtain rfl | rfl | rfl | rfl : k = 0 ∨ k = 1 ∨ k = 2 ∨ k = 3 := by omega
    · obtain rfl : j = 0 := hj
      replace k1 : Blk wr w.heap.size (ob a b c 51) := k1
      have c1 := k1.c3
      go_wp2_with fail
      go_roundw
      case rel => exact ⟨1, 1, by omega, rfl, rfl, (k1.set1 0 _ (by simp) rfl), k2.other (by simp) _, hb.setCell (Nat.le_refl _) _⟩
      case measure => simp [intOf]
    · obtain rfl : j = 1 := hj
      replace k1 : Blk wr w.heap.size (ob (a + d) b c 51) := k1
      have c1 := k1.c3
      go_wp2_with fail
      go_roundw
      case rel => exact ⟨2, 2, by omega, rfl, rfl, (k1.set1 1 _ (by simp) rfl), k2.other (by simp) _, hb.setCell (Nat.le_refl _) _⟩
      case measure => simp [intOf]
    · obtain rfl : j = 2 := hj
      replace k1 : Blk wr w.heap.size (ob (a + d) (b + d) c 51) := k1
      have c1 := k1.c3
      go_wp2_with fail
      go_roundw
      case rel => exact ⟨3, 3, by omega, rfl, rfl, (k1.set1 2 _ (by simp) rfl), k2.other (by simp) _, hb.setCell (Nat.le_refl _) _⟩
      case measure => simp [intOf]
    · obtain rfl : j = 3 := hj
      clear hk
      replace k1 : Blk wr w.heap.size (ob (a + d) (b + d) (c + d) 51) := k1
      generalize gA : a + d = A at *
      generalize gB : b + d = B at *
      generalize gC : c + d = C at *
      have hA : -65535 ≤ A ∧ A ≤ 131070 := by omega
      have hB : -65535 ≤ B ∧ B ≤ 131070 := by omega
      have hC : -65535 ≤ C ∧ C ≤ 131070 := by omega
      clear gA gB gC
      go_wp2_with fail
      obtain ⟨W5, hW5⟩ : ∃ W5 : World, W5 = wr := ⟨_, rfl⟩
      rw [← hW5] at k1 k2 hb ⊢
      clear hW5
      refine wp_region_grow 16 (fun w' => Below (World.heap W5).size W5 w') (by kernel_rfl) (by kernel_rfl) (Below.refl _ _).drew ?_
      simp only [List.take_succ_cons, List.take_zero, List.drop_succ_cons, List.drop_zero]
      repeat (first | (apply wpG_on; rfl; (intro w' hS K hK; have hc0 := (k1.kept hS).c3; have hc1 := (k2.kept hS).c3; go_simp; (first | exact hK.out _ hS)); simp only [Act.put, List.setIfInBounds_toArray, List.set_cons_succ, List.set_cons_zero]) | (apply wpG_off; rfl; simp only [Act.put, List.setIfInBounds_toArray, List.set_cons_succ, List.set_cons_zero]))
      apply wpG_nil
      intro W6 hS
      replace k1 := k1.kept hS
      replace k2 := k2.kept hS
      replace hb := hb.trans (hS.mono hb.size)
      clear hS
      have RA := Lib.hid (HR.out.1)
      have RB := Lib.hid (HR.out.2.1)
      have RC := Lib.hid (HR.out.2.2)
      clear HR
      have hnb : -65535 ≤ mn3 A B C := by unfold mn3; omega
      have hxb : mx3 A B C ≤ 131070 := by unfold mx3; omega
      generalize mn3 A B C = n at *
      generalize mx3 A B C = x at *
      have b1 : decide (n < 0) = false := by simpa using hn
      have b2 : decide (65535 < x) = false := by simpa using hx
      go_wp2_with fail
      go_loopw [11] (fun i wr => ∃ (k : Nat) (j : Int), k ≤ 3 ∧ j = k ∧ i = .int .i64 j ∧ Blk wr w.heap.size (.cells (p3 cl A B C k) 51 (0, 0)) ∧ Blk wr (w.heap.size + 1) (ob 0 0 0 51) ∧ Below w.heap.size w wr) (fun i _ => 3 - (intOf i).toNat)
      case atStart => exact ⟨0, 0, by omega, rfl, rfl, k1, k2, hb⟩
      case round =>
        clear k1 k2 hb
        obtain ⟨k, j, hk, hj, rfl, k1, k2, hb⟩ := hrel
        obtain rfl | rfl | rfl | rfl : k = 0 ∨ k = 1 ∨ k = 2 ∨ k = 3 := by omega
        · obtain rfl : j = 0 := hj
          replace k1 : Blk wr w.heap.size (ob A B C 51) := k1
          have c1 := k1.c3
          go_wp2_with fail
          refine (refUnit_n _ _).mono ?_
          rintro e w' ⟨rfl, rfl⟩
          go_wp2_with fail
          go_roundw
          case rel => exact ⟨1, 1, by omega, rfl, rfl, (k1.set1 0 _ (by simp) rfl), k2.other (by simp) _, hb.setCell (Nat.le_refl _) _⟩
          case measure => simp [intOf]
        · obtain rfl : j = 1 := hj
          replace k1 : Blk wr w.heap.size (ob (cl A) B C 51) := k1
          have c1 := k1.c3
          go_wp2_with fail
          refine (refUnit_n _ _).mono ?_
          rintro e w' ⟨rfl, rfl⟩
          go_wp2_with fail
          go_roundw
          case rel => exact ⟨2, 2, by omega, rfl, rfl, (k1.set1 1 _ (by simp) rfl), k2.other (by simp) _, hb.setCell (Nat.le_refl _) _⟩
          case measure => simp [intOf]
        · obtain rfl : j = 2 := hj
          replace k1 : Blk wr w.heap.size (ob (cl A) (cl B) C 51) := k1
          have c1 := k1.c3
          go_wp2_with fail
          refine (refUnit_n _ _).mono ?_
          rintro e w' ⟨rfl, rfl⟩
          go_wp2_with fail
          go_roundw
          case rel => exact ⟨3, 3, by omega, rfl, rfl, (k1.set1 2 _ (by simp) rfl), k2.other (by simp) _, hb.setCell (Nat.le_refl _) _⟩
          case measure => simp [intOf]
        · obtain rfl : j = 3 := hj
          clear hk
          replace k1 : Blk wr w.heap.size (ob (cl A) (cl B) (cl C) 51) := k1
          have c1 := k1.c3
          have c2 := k2.c3
          go_wp2_with fail
          refine end3 hb k2 (by omega) (fun w3 e => by simp [results, Tryd.results44, go_sem, e]) rfl (fun w3 hb3 => ⟨by rw [RA.out, if_neg (by omega), if_neg (by omega)]; rw [RB.out, if_neg (by omega), if_neg (by omega)]; rw [RC.out, if_neg (by omega), if_neg (by omega)], hb3⟩)

set_option maxRecDepth 100000 in
set_option maxHeartbeats 2000000 in
theorem refsetLum1 (a b c l : Int) (w : World) (ha : U a) (hb0 : U b) (hc : U c) (hl : U l) (hn : mn3 (a + (l - lumU a b c)) (b + (l - lumU a b c)) (c + (l - lumU a b c)) < 0) (hx : ¬ 65535 < mx3 (a + (l - lumU a b c)) (b + (l - lumU a b c)) (c + (l - lumU a b c))) :
    Calls Tryd.prog 44 #[cv a b c, .int .i64 l] w fun e w' => e = .returned (cv (slF a b c l a) (slF a b c l b) (slF a b c l c)) ∧ Below w.heap.size w w' := by
  have hd0 := lumU_bd a b c ha hb0 hc
  have HR : Hid (slF a b c l a = _ ∧ slF a b c l b = _ ∧ slF a b c l c = _) := ⟨slF_eq a b c l a, slF_eq a b c l b, slF_eq a b c l c⟩
  generalize slF a b c l a = ra at *
  generalize slF a b c l b = rb at *
  generalize slF a b c l c = rc at *
  go_enter Tryd.func44, Tryd.ntmps44
  go_wp2_with fail
  refine callName2 (fun W k1 k2 hb => ?_)
  refine (reflum_any _ _ _ _ ha hb0 hc).mono ?_
  rintro e W1 ⟨rfl, hS⟩
  replace k1 := k1.kept hS
  replace k2 := k2.kept hS
  replace hb := hb.trans (hS.mono hb.size)
  clear hS
  generalize lumU a b c = lm at *
  unfold U at ha hb0 hc hl hd0
  have hd : -65535 ≤ l - lm ∧ l - lm ≤ 65535 := by omega
  generalize hd' : l - lm = d at *
  have HD := Lib.hid hd'
  clear hd'
  go_wp2_with fail
  rw [HD.out]
  go_loopw [6] (fun i wr => ∃ (k : Nat) (j : Int), k ≤ 3 ∧ j = k ∧ i = .int .i64 j ∧ Blk wr w.heap.size (.cells (p3 (fun v => v + d) a b c k) 51 (0, 0)) ∧ Blk wr (w.heap.size + 1) (ob 0 0 0 51) ∧ Below w.heap.size w wr) (fun i _ => 3 - (intOf i).toNat)
  case atStart => exact ⟨0, 0, by omega, rfl, rfl, k1, k2, hb⟩
  case round =>
    clear k1 k2 hb
    obtain ⟨k, j, hk, hj, rfl, k1, k2, hb⟩ := hrel
    obtain rfl | rfl | rfl | rfl : k = 0 ∨ k = 1 ∨ k = 2 ∨ k = 3 := by omega
    · obtain rfl : j = 0 := hj
      replace k1 : Blk wr w.heap.size (ob a b c 51) := k1
      have c1 := k1.c3
      go_wp2_with fail
      go_roundw
      case rel => exact ⟨1, 1, by omega, rfl, rfl, (k1.set1 0 _ (by simp) rfl), k2.other (by simp) _, hb.setCell (Nat.le_refl _) _⟩
      case measure => simp [intOf]
    · obtain rfl : j = 1 := hj
      replace k1 : Blk wr w.heap.size (ob (a + d) b c 51) := k1
      have c1 := k1.c3
      go_wp2_with fail
      go_roundw
      case rel => exact ⟨2, 2, by omega, rfl, rfl, (k1.set1 1 _ (by simp) rfl), k2.other (by simp) _, hb.setCell (Nat.le_refl _) _⟩
      case measure => simp [intOf]
    · obtain rfl : j = 2 := hj
      replace k1 : Blk wr w.heap.size (ob (a + d) (b + d) c 51) := k1
      have c1 := k1.c3
      go_wp2_with fail
      go_roundw
      case rel => exact ⟨3, 3, by omega, rfl, rfl, (k1.set1 2 _ (by simp) rfl), k2.other (by simp) _, hb.setCell (Nat.le_refl _) _⟩
      case measure => simp [intOf]
    · obtain rfl : j = 3 := hj
      clear hk
      replace k1 : Blk wr w.heap.size (ob (a + d) (b + d) (c + d) 51) := k1
      generalize gA : a + d = A at *
      generalize gB : b + d = B at *
      generalize gC : c + d = C at *
      have hA : -65535 ≤ A ∧ A ≤ 131070 := by omega
      have hB : -65535 ≤ B ∧ B ≤ 131070 := by omega
      have hC : -65535 ≤ C ∧ C ≤ 131070 := by omega
      clear gA gB gC
      go_wp2_with fail
      obtain ⟨W5, hW5⟩ : ∃ W5 : World, W5 = wr := ⟨_, rfl⟩
      rw [← hW5] at k1 k2 hb ⊢
      clear hW5
      refine wp_region_grow 16 (fun w' => Below (World.heap W5).size W5 w') (by kernel_rfl) (by kernel_rfl) (Below.refl _ _).drew ?_
      simp only [List.take_succ_cons, List.take_zero, List.drop_succ_cons, List.drop_zero]
      repeat (first | (apply wpG_on; rfl; (intro w' hS K hK; have hc0 := (k1.kept hS).c3; have hc1 := (k2.kept hS).c3; go_simp; (first | exact hK.out _ hS)); simp only [Act.put, List.setIfInBounds_toArray, List.set_cons_succ, List.set_cons_zero]) | (apply wpG_off; rfl; simp only [Act.put, List.setIfInBounds_toArray, List.set_cons_succ, List.set_cons_zero]))
      apply wpG_nil
      intro W6 hS
      replace k1 := k1.kept hS
      replace k2 := k2.kept hS
      replace hb := hb.trans (hS.mono hb.size)
      clear hS
      have RA := Lib.hid (HR.out.1)
      have RB := Lib.hid (HR.out.2.1)
      have RC := Lib.hid (HR.out.2.2)
      clear HR
      have hnb : -65535 ≤ mn3 A B C := by unfold mn3; omega
      have hxb : mx3 A B C ≤ 131070 := by unfold mx3; omega
      generalize mn3 A B C = n at *
      generalize mx3 A B C = x at *
      have b1 : decide (n < 0) = true := by simpa using hn
      have b2 : decide (65535 < x) = false := by simpa using hx
      go_wp2_with fail
      have Aa := slA_bd n l A hl hn (by omega) (by omega)
      have Ba := slA_bd n l B hl hn (by omega) (by omega)
      have Ca := slA_bd n l C hl hn (by omega) (by omega)
      go_loopw [9] (fun i wr => ∃ (k : Nat) (j : Int), k ≤ 3 ∧ j = k ∧ i = .int .i64 j ∧ Blk wr w.heap.size (.cells (p3 (fun v => l + dv ((v - l) * l) (l - n)) A B C k) 51 (0, 0)) ∧ Blk wr (w.heap.size + 1) (ob 0 0 0 51) ∧ Below w.heap.size w wr) (fun i _ => 3 - (intOf i).toNat)
      case atStart => exact ⟨0, 0, by omega, rfl, rfl, k1, k2, hb⟩
      case round =>
        clear k1 k2 hb
        obtain ⟨k, j, hk, hj, rfl, k1, k2, hb⟩ := hrel
        obtain rfl | rfl | rfl | rfl : k = 0 ∨ k = 1 ∨ k = 2 ∨ k = 3 := by omega
        · obtain rfl : j = 0 := hj
          replace k1 : Blk wr w.heap.size (ob A B C 51) := k1
          have c1 := k1.c3
          go_wp2_with fail
          refine (refDiv_new _ _ _ (by omega) (by omega) (by omega) (by omega)).mono ?_
          rintro e w2 ⟨rfl, hS⟩
          replace k1 := k1.kept hS
          replace k2 := k2.kept hS
          replace hb := hb.trans (hS.mono hb.size)
          clear hS c1
          have c1 := k1.c3
          go_wp2_with fail
          go_roundw
          case rel => exact ⟨1, 1, by omega, rfl, rfl, (k1.set1 0 _ (by simp) rfl), k2.other (by simp) _, hb.setCell (Nat.le_refl _) _⟩
          case measure => simp [intOf]
        · obtain rfl : j = 1 := hj
          replace k1 : Blk wr w.heap.size (ob (l + dv ((A - l) * l) (l - n)) B C 51) := k1
          have c1 := k1.c3
          go_wp2_with fail
          refine (refDiv_new _ _ _ (by omega) (by omega) (by omega) (by omega)).mono ?_
          rintro e w2 ⟨rfl, hS⟩
          replace k1 := k1.kept hS
          replace k2 := k2.kept hS
          replace hb := hb.trans (hS.mono hb.size)
          clear hS c1
          have c1 := k1.c3
          go_wp2_with fail
          go_roundw
          case rel => exact ⟨2, 2, by omega, rfl, rfl, (k1.set1 1 _ (by simp) rfl), k2.other (by simp) _, hb.setCell (Nat.le_refl _) _⟩
          case measure => simp [intOf]
        · obtain rfl : j = 2 := hj
          replace k1 : Blk wr w.heap.size (ob (l + dv ((A - l) * l) (l - n)) (l + dv ((B - l) * l) (l - n)) C 51) := k1
          have c1 := k1.c3
          go_wp2_with fail
          refine (refDiv_new _ _ _ (by omega) (by omega) (by omega) (by omega)).mono ?_
          rintro e w2 ⟨rfl, hS⟩
          replace k1 := k1.kept hS
          replace k2 := k2.kept hS
          replace hb := hb.trans (hS.mono hb.size)
          clear hS c1
          have c1 := k1.c3
          go_wp2_with fail
          go_roundw
          case rel => exact ⟨3, 3, by omega, rfl, rfl, (k1.set1 2 _ (by simp) rfl), k2.other (by simp) _, hb.setCell (Nat.le_refl _) _⟩
          case measure => simp [intOf]
        · obtain rfl : j = 3 := hj
          clear hk
          replace k1 : Blk wr w.heap.size (ob (l + dv ((A - l) * l) (l - n)) (l + dv ((B - l) * l) (l - n)) (l + dv ((C - l) * l) (l - n)) 51) := k1
          generalize gA2 : l + dv ((A - l) * l) (l - n) = A2 at *
          have GA : Hid (slA n l A = A2) := gA2
          have A2r : -12884508675 ≤ A2 ∧ A2 ≤ 12884574210 := by omega
          clear gA2 Aa
          generalize gB2 : l + dv ((B - l) * l) (l - n) = B2 at *
          have GB : Hid (slA n l B = B2) := gB2
          have B2r : -12884508675 ≤ B2 ∧ B2 ≤ 12884574210 := by omega
          clear gB2 Ba
          generalize gC2 : l + dv ((C - l) * l) (l - n) = C2 at *
          have GC : Hid (slA n l C = C2) := gC2
          have C2r : -12884508675 ≤ C2 ∧ C2 ≤ 12884574210 := by omega
          clear gC2 Ca
          go_wp2_with fail
          go_loopw [11] (fun i wr => ∃ (k : Nat) (j : Int), k ≤ 3 ∧ j = k ∧ i = .int .i64 j ∧ Blk wr w.heap.size (.cells (p3 cl A2 B2 C2 k) 51 (0, 0)) ∧ Blk wr (w.heap.size + 1) (ob 0 0 0 51) ∧ Below w.heap.size w wr) (fun i _ => 3 - (intOf i).toNat)
          case atStart => exact ⟨0, 0, by omega, rfl, rfl, k1, k2, hb⟩
          case round =>
            clear k1 k2 hb
            obtain ⟨k, j, hk, hj, rfl, k1, k2, hb⟩ := hrel
            obtain rfl | rfl | rfl | rfl : k = 0 ∨ k = 1 ∨ k = 2 ∨ k = 3 := by omega
            · obtain rfl : j = 0 := hj
              replace k1 : Blk wr w.heap.size (ob A2 B2 C2 51) := k1
              have c1 := k1.c3
              go_wp2_with fail
              refine (refUnit_n _ _).mono ?_
              rintro e w' ⟨rfl, rfl⟩
              go_wp2_with fail
              go_roundw
              case rel => exact ⟨1, 1, by omega, rfl, rfl, (k1.set1 0 _ (by simp) rfl), k2.other (by simp) _, hb.setCell (Nat.le_refl _) _⟩
              case measure => simp [intOf]
            · obtain rfl : j = 1 := hj
              replace k1 : Blk wr w.heap.size (ob (cl A2) B2 C2 51) := k1
              have c1 := k1.c3
              go_wp2_with fail
              refine (refUnit_n _ _).mono ?_
              rintro e w' ⟨rfl, rfl⟩
              go_wp2_with fail
              go_roundw
              case rel => exact ⟨2, 2, by omega, rfl, rfl, (k1.set1 1 _ (by simp) rfl), k2.other (by simp) _, hb.setCell (Nat.le_refl _) _⟩
              case measure => simp [intOf]
            · obtain rfl : j = 2 := hj
              replace k1 : Blk wr w.heap.size (ob (cl A2) (cl B2) C2 51) := k1
              have c1 := k1.c3
              go_wp2_with fail
              refine (refUnit_n _ _).mono ?_
              rintro e w' ⟨rfl, rfl⟩
              go_wp2_with fail
              go_roundw
              case rel => exact ⟨3, 3, by omega, rfl, rfl, (k1.set1 2 _ (by simp) rfl), k2.other (by simp) _, hb.setCell (Nat.le_refl _) _⟩
              case measure => simp [intOf]
            · obtain rfl : j = 3 := hj
              clear hk
              replace k1 : Blk wr w.heap.size (ob (cl A2) (cl B2) (cl C2) 51) := k1
              have c1 := k1.c3
              have c2 := k2.c3
              go_wp2_with fail
              refine end3 hb k2 (by omega) (fun w3 e => by simp [results, Tryd.results44, go_sem, e]) rfl (fun w3 hb3 => ⟨by rw [RA.out, if_neg (by omega), if_pos (by omega), GA.out]; rw [RB.out, if_neg (by omega), if_pos (by omega), GB.out]; rw [RC.out, if_neg (by omega), if_pos (by omega), GC.out], hb3⟩)

set_option maxRecDepth 100000 in
set_option maxHeartbeats 2000000 in
theorem refsetLum2 (a b c l : Int) (w : World) (ha : U a) (hb0 : U b) (hc : U c) (hl : U l) (hn : ¬ mn3 (a + (l - lumU a b c)) (b + (l - lumU a b c)) (c + (l - lumU a b c)) < 0) (hx : 65535 < mx3 (a + (l - lumU a b c)) (b + (l - lumU a b c)) (c + (l - lumU a b c))) :
    Calls Tryd.prog 44 #[cv a b c, .int .i64 l] w fun e w' => e = .returned (cv (slF a b c l a) (slF a b c l b) (slF a b c l c)) ∧ Below w.heap.size w w' := by
  have hd0 := lumU_bd a b c ha hb0 hc
  have HR : Hid (slF a b c l a = _ ∧ slF a b c l b = _ ∧ slF a b c l c = _) := ⟨slF_eq a b c l a, slF_eq a b c l b, slF_eq a b c l c⟩
  generalize slF a b c l a = ra at *
  generalize slF a b c l b = rb at *
  generalize slF a b c l c = rc at *
  go_enter Tryd.func44, Tryd.ntmps44
  go_wp2_with fail
  refine callName2 (fun W k1 k2 hb => ?_)
  refine (reflum_any _ _ _ _ ha hb0 hc).mono ?_
  rintro e W1 ⟨rfl, hS⟩
  replace k1 := k1.kept hS
  replace k2 := k2.kept hS
  replace hb := hb.trans (hS.mono hb.size)
  clear hS
  generalize lumU a b c = lm at *
  unfold U at ha hb0 hc hl hd0
  have hd : -65535 ≤ l - lm ∧ l - lm ≤ 65535 := by omega
  generalize hd' : l - lm = d at *
  have HD := Lib.hid hd'
  clear hd'
  go_wp2_with fail
  rw [HD.out]
  go_loopw [6] (fun i wr => ∃ (k : Nat) (j : Int), k ≤ 3 ∧ j = k ∧ i = .int .i64 j ∧ Blk wr w.heap.size (.cells (p3 (fun v => v + d) a b c k) 51 (0, 0)) ∧ Blk wr (w.heap.size + 1) (ob 0 0 0 51) ∧ Below w.heap.size w wr) (fun i _ => 3 - (intOf i).toNat)
  case atStart => exact ⟨0, 0, by omega, rfl, rfl, k1, k2, hb⟩
  case round =>
    clear k1 k2 hb
    obtain ⟨k, j, hk, hj, rfl, k1, k2, hb⟩ := hrel
    obtain rfl | rfl | rfl | rfl : k = 0 ∨ k = 1 ∨ k = 2 ∨ k = 3 := by omega
    · obtain rfl : j = 0 := hj
      replace k1 : Blk wr w.heap.size (ob a b c 51) := k1
      have c1 := k1.c3
      go_wp2_with fail
      go_roundw
      case rel => exact ⟨1, 1, by omega, rfl, rfl, (k1.set1 0 _ (by simp) rfl), k2.other (by simp) _, hb.setCell (Nat.le_refl _) _⟩
      case measure => simp [intOf]
    · obtain rfl : j = 1 := hj
      replace k1 : Blk wr w.heap.size (ob (a + d) b c 51) := k1
      have c1 := k1.c3
      go_wp2_with fail
      go_roundw
      case rel => exact ⟨2, 2, by omega, rfl, rfl, (k1.set1 1 _ (by simp) rfl), k2.other (by simp) _, hb.setCell (Nat.le_refl _) _⟩
      case measure => simp [intOf]
    · obtain rfl : j = 2 := hj
      replace k1 : Blk wr w.heap.size (ob (a + d) (b + d) c 51) := k1
      have c1 := k1.c3
      go_wp2_with fail
      go_roundw
      case rel => exact ⟨3, 3, by omega, rfl, rfl, (k1.set1 2 _ (by simp) rfl), k2.other (by simp) _, hb.setCell (Nat.le_refl _) _⟩
      case measure => simp [intOf]
    · obtain rfl : j = 3 := hj
      clear hk
      replace k1 : Blk wr w.heap.size (ob (a + d) (b + d) (c + d) 51) := k1
      generalize gA : a + d = A at *
      generalize gB : b + d = B at *
      generalize gC : c + d = C at *
      have hA : -65535 ≤ A ∧ A ≤ 131070 := by omega
      have hB : -65535 ≤ B ∧ B ≤ 131070 := by omega
      have hC : -65535 ≤ C ∧ C ≤ 131070 := by omega
      clear gA gB gC
      go_wp2_with fail
      obtain ⟨W5, hW5⟩ : ∃ W5 : World, W5 = wr := ⟨_, rfl⟩
      rw [← hW5] at k1 k2 hb ⊢
      clear hW5
      refine wp_region_grow 16 (fun w' => Below (World.heap W5).size W5 w') (by kernel_rfl) (by kernel_rfl) (Below.refl _ _).drew ?_
      simp only [List.take_succ_cons, List.take_zero, List.drop_succ_cons, List.drop_zero]
      repeat (first | (apply wpG_on; rfl; (intro w' hS K hK; have hc0 := (k1.kept hS).c3; have hc1 := (k2.kept hS).c3; go_simp; (first | exact hK.out _ hS)); simp only [Act.put, List.setIfInBounds_toArray, List.set_cons_succ, List.set_cons_zero]) | (apply wpG_off; rfl; simp only [Act.put, List.setIfInBounds_toArray, List.set_cons_succ, List.set_cons_zero]))
      apply wpG_nil
      intro W6 hS
      replace k1 := k1.kept hS
      replace k2 := k2.kept hS
      replace hb := hb.trans (hS.mono hb.size)
      clear hS
      have RA := Lib.hid (HR.out.1)
      have RB := Lib.hid (HR.out.2.1)
      have RC := Lib.hid (HR.out.2.2)
      clear HR
      have hnb : -65535 ≤ mn3 A B C := by unfold mn3; omega
      have hxb : mx3 A B C ≤ 131070 := by unfold mx3; omega
      generalize mn3 A B C = n at *
      generalize mx3 A B C = x at *
      have b1 : decide (n < 0) = false := by simpa using hn
      have b2 : decide (65535 < x) = true := by simpa using hx
      go_wp2_with fail
      have Ab := slB_bd x l A hl hx (by omega) (by omega)
      have Bb := slB_bd x l B hl hx (by omega) (by omega)
      have Cb := slB_bd x l C hl hx (by omega) (by omega)
      go_loopw [10] (fun i wr => ∃ (k : Nat) (j : Int), k ≤ 3 ∧ j = k ∧ i = .int .i64 j ∧ Blk wr w.heap.size (.cells (p3 (fun v => l + dv ((v - l) * (65535 - l)) (x - l)) A B C k) 51 (0, 0)) ∧ Blk wr (w.heap.size + 1) (ob 0 0 0 51) ∧ Below w.heap.size w wr) (fun i _ => 3 - (intOf i).toNat)
      case atStart => exact ⟨0, 0, by omega, rfl, rfl, k1, k2, hb⟩
      case round =>
        clear k1 k2 hb
        obtain ⟨k, j, hk, hj, rfl, k1, k2, hb⟩ := hrel
        obtain rfl | rfl | rfl | rfl : k = 0 ∨ k = 1 ∨ k = 2 ∨ k = 3 := by omega
        · obtain rfl : j = 0 := hj
          replace k1 : Blk wr w.heap.size (ob A B C 51) := k1
          have c1 := k1.c3
          go_wp2_with fail
          refine (refDiv_new _ _ _ (by omega) (by omega) (by omega) (by omega)).mono ?_
          rintro e w2 ⟨rfl, hS⟩
          replace k1 := k1.kept hS
          replace k2 := k2.kept hS
          replace hb := hb.trans (hS.mono hb.size)
          clear hS c1
          have c1 := k1.c3
          go_wp2_with fail
          go_roundw
          case rel => exact ⟨1, 1, by omega, rfl, rfl, (k1.set1 0 _ (by simp) rfl), k2.other (by simp) _, hb.setCell (Nat.le_refl _) _⟩
          case measure => simp [intOf]
        · obtain rfl : j = 1 := hj
          replace k1 : Blk wr w.heap.size (ob (l + dv ((A - l) * (65535 - l)) (x - l)) B C 51) := k1
          have c1 := k1.c3
          go_wp2_with fail
          refine (refDiv_new _ _ _ (by omega) (by omega) (by omega) (by omega)).mono ?_
          rintro e w2 ⟨rfl, hS⟩
          replace k1 := k1.kept hS
          replace k2 := k2.kept hS
          replace hb := hb.trans (hS.mono hb.size)
          clear hS c1
          have c1 := k1.c3
          go_wp2_with fail
          go_roundw
          case rel => exact ⟨2, 2, by omega, rfl, rfl, (k1.set1 1 _ (by simp) rfl), k2.other (by simp) _, hb.setCell (Nat.le_refl _) _⟩
          case measure => simp [intOf]
        · obtain rfl : j = 2 := hj
          replace k1 : Blk wr w.heap.size (ob (l + dv ((A - l) * (65535 - l)) (x - l)) (l + dv ((B - l) * (65535 - l)) (x - l)) C 51) := k1
          have c1 := k1.c3
          go_wp2_with fail
          refine (refDiv_new _ _ _ (by omega) (by omega) (by omega) (by omega)).mono ?_
          rintro e w2 ⟨rfl, hS⟩
          replace k1 := k1.kept hS
          replace k2 := k2.kept hS
          replace hb := hb.trans (hS.mono hb.size)
          clear hS c1
          have c1 := k1.c3
          go_wp2_with fail
          go_roundw
          case rel => exact ⟨3, 3, by omega, rfl, rfl, (k1.set1 2 _ (by simp) rfl), k2.other (by simp) _, hb.setCell (Nat.le_refl _) _⟩
          case measure => simp [intOf]
        · obtain rfl : j = 3 := hj
          clear hk
          replace k1 : Blk wr w.heap.size (ob (l + dv ((A - l) * (65535 - l)) (x - l)) (l + dv ((B - l) * (65535 - l)) (x - l)) (l + dv ((C - l) * (65535 - l)) (x - l)) 51) := k1
          generalize gA3 : l + dv ((A - l) * (65535 - l)) (x - l) = A3 at *
          have KA : Hid (slB x l A = A3) := gA3
          clear gA3 Ab
          generalize gB3 : l + dv ((B - l) * (65535 - l)) (x - l) = B3 at *
          have KB : Hid (slB x l B = B3) := gB3
          clear gB3 Bb
          generalize gC3 : l + dv ((C - l) * (65535 - l)) (x - l) = C3 at *
          have KC : Hid (slB x l C = C3) := gC3
          clear gC3 Cb
          go_wp2_with fail
          go_loopw [11] (fun i wr => ∃ (k : Nat) (j : Int), k ≤ 3 ∧ j = k ∧ i = .int .i64 j ∧ Blk wr w.heap.size (.cells (p3 cl A3 B3 C3 k) 51 (0, 0)) ∧ Blk wr (w.heap.size + 1) (ob 0 0 0 51) ∧ Below w.heap.size w wr) (fun i _ => 3 - (intOf i).toNat)
          case atStart => exact ⟨0, 0, by omega, rfl, rfl, k1, k2, hb⟩
          case round =>
            clear k1 k2 hb
            obtain ⟨k, j, hk, hj, rfl, k1, k2, hb⟩ := hrel
            obtain rfl | rfl | rfl | rfl : k = 0 ∨ k = 1 ∨ k = 2 ∨ k = 3 := by omega
            · obtain rfl : j = 0 := hj
              replace k1 : Blk wr w.heap.size (ob A3 B3 C3 51) := k1
              have c1 := k1.c3
              go_wp2_with fail
              refine (refUnit_n _ _).mono ?_
              rintro e w' ⟨rfl, rfl⟩
              go_wp2_with fail
              go_roundw
              case rel => exact ⟨1, 1, by omega, rfl, rfl, (k1.set1 0 _ (by simp) rfl), k2.other (by simp) _, hb.setCell (Nat.le_refl _) _⟩
              case measure => simp [intOf]
            · obtain rfl : j = 1 := hj
              replace k1 : Blk wr w.heap.size (ob (cl A3) B3 C3 51) := k1
              have c1 := k1.c3
              go_wp2_with fail
              refine (refUnit_n _ _).mono ?_
              rintro e w' ⟨rfl, rfl⟩
              go_wp2_with fail
              go_roundw
              case rel => exact ⟨2, 2, by omega, rfl, rfl, (k1.set1 1 _ (by simp) rfl), k2.other (by simp) _, hb.setCell (Nat.le_refl _) _⟩
              case measure => simp [intOf]
            · obtain rfl : j = 2 := hj
              replace k1 : Blk wr w.heap.size (ob (cl A3) (cl B3) C3 51) := k1
              have c1 := k1.c3
              go_wp2_with fail
              refine (refUnit_n _ _).mono ?_
              rintro e w' ⟨rfl, rfl⟩
              go_wp2_with fail
              go_roundw
              case rel => exact ⟨3, 3, by omega, rfl, rfl, (k1.set1 2 _ (by simp) rfl), k2.other (by simp) _, hb.setCell (Nat.le_refl _) _⟩
              case measure => simp [intOf]
            · obtain rfl : j = 3 := hj
              clear hk
              replace k1 : Blk wr w.heap.size (ob (cl A3) (cl B3) (cl C3) 51) := k1
              have c1 := k1.c3
              have c2 := k2.c3
              go_wp2_with fail
              refine end3 hb k2 (by omega) (fun w3 e => by simp [results, Tryd.results44, go_sem, e]) rfl (fun w3 hb3 => ⟨by rw [RA.out, if_pos (by omega), if_neg (by omega), KA.out]; rw [RB.out, if_pos (by omega), if_neg (by omega), KB.out]; rw [RC.out, if_pos (by omega), if_neg (by omega), KC.out], hb3⟩)

set_option maxRecDepth 100000 in
set_option maxHeartbeats 2000000 in
theorem refsetLum3 (a b c l : Int) (w : World) (ha : U a) (hb0 : U b) (hc : U c) (hl : U l) (hn : mn3 (a + (l - lumU a b c)) (b + (l - lumU a b c)) (c + (l - lumU a b c)) < 0) (hx : 65535 < mx3 (a + (l - lumU a b c)) (b + (l - lumU a b c)) (c + (l - lumU a b c))) :
    Calls Tryd.prog 44 #[cv a b c, .int .i64 l] w fun e w' => e = .returned (cv (slF a b c l a) (slF a b c l b) (slF a b c l c)) ∧ Below w.heap.size w w' := by
  have hd0 := lumU_bd a b c ha hb0 hc
  have HR : Hid (slF a b c l a = _ ∧ slF a b c l b = _ ∧ slF a b c l c = _) := ⟨slF_eq a b c l a, slF_eq a b c l b, slF_eq a b c l c⟩
  generalize slF a b c l a = ra at *
  generalize slF a b c l b = rb at *
  generalize slF a b c l c = rc at *
  go_enter Tryd.func44, Tryd.ntmps44
  go_wp2_with fail
  refine callName2 (fun W k1 k2 hb => ?_)
  refine (reflum_any _ _ _ _ ha hb0 hc).mono ?_
  rintro e W1 ⟨rfl, hS⟩
  replace k1 := k1.kept hS
  replace k2 := k2.kept hS
  replace hb := hb.trans (hS.mono hb.size)
  clear hS
  generalize lumU a b c = lm at *
  unfold U at ha hb0 hc hl hd0
  have hd : -65535 ≤ l - lm ∧ l - lm ≤ 65535 := by omega
  generalize hd' : l - lm = d at *
  have HD := Lib.hid hd'
  clear hd'
  go_wp2_with fail
  rw [HD.out]
  go_loopw [6] (fun i wr => ∃ (k : Nat) (j : Int), k ≤ 3 ∧ j = k ∧ i = .int .i64 j ∧ Blk wr w.heap.size (.cells (p3 (fun v => v + d) a b c k) 51 (0, 0)) ∧ Blk wr (w.heap.size + 1) (ob 0 0 0 51) ∧ Below w.heap.size w wr) (fun i _ => 3 - (intOf i).toNat)
  case atStart => exact ⟨0, 0, by omega, rfl, rfl, k1, k2, hb⟩
  case round =>
    clear k1 k2 hb
    obtain ⟨k, j, hk, hj, rfl, k1, k2, hb⟩ := hrel
    obtain rfl | rfl | rfl | rfl : k = 0 ∨ k = 1 ∨ k = 2 ∨ k = 3 := by omega
    · obtain rfl : j = 0 := hj
      replace k1 : Blk wr w.heap.size (ob a b c 51) := k1
      have c1 := k1.c3
      go_wp2_with fail
      go_roundw
      case rel => exact ⟨1, 1, by omega, rfl, rfl, (k1.set1 0 _ (by simp) rfl), k2.other (by simp) _, hb.setCell (Nat.le_refl _) _⟩
      case measure => simp [intOf]
    · obtain rfl : j = 1 := hj
      replace k1 : Blk wr w.heap.size (ob (a + d) b c 51) := k1
      have c1 := k1.c3
      go_wp2_with fail
      go_roundw
      case rel => exact ⟨2, 2, by omega, rfl, rfl, (k1.set1 1 _ (by simp) rfl), k2.other (by simp) _, hb.setCell (Nat.le_refl _) _⟩
      case measure => simp [intOf]
    · obtain rfl : j = 2 := hj
      replace k1 : Blk wr w.heap.size (ob (a + d) (b + d) c 51) := k1
      have c1 := k1.c3
      go_wp2_with fail
      go_roundw
      case rel => exact ⟨3, 3, by omega, rfl, rfl, (k1.set1 2 _ (by simp) rfl), k2.other (by simp) _, hb.setCell (Nat.le_refl _) _⟩
      case measure => simp [intOf]
    · obtain rfl : j = 3 := hj
      clear hk
      replace k1 : Blk wr w.heap.size (ob (a + d) (b + d) (c + d) 51) := k1
      generalize gA : a + d = A at *
      generalize gB : b + d = B at *
      generalize gC : c + d = C at *
      have hA : -65535 ≤ A ∧ A ≤ 131070 := by omega
      have hB : -65535 ≤ B ∧ B ≤ 131070 := by omega
      have hC : -65535 ≤ C ∧ C ≤ 131070 := by omega
      clear gA gB gC
      go_wp2_with fail
      obtain ⟨W5, hW5⟩ : ∃ W5 : World, W5 = wr := ⟨_, rfl⟩
      rw [← hW5] at k1 k2 hb ⊢
      clear hW5
      refine wp_region_grow 16 (fun w' => Below (World.heap W5).size W5 w') (by kernel_rfl) (by kernel_rfl) (Below.refl _ _).drew ?_
      simp only [List.take_succ_cons, List.take_zero, List.drop_succ_cons, List.drop_zero]
      repeat (first | (apply wpG_on; rfl; (intro w' hS K hK; have hc0 := (k1.kept hS).c3; have hc1 := (k2.kept hS).c3; go_simp; (first | exact hK.out _ hS)); simp only [Act.put, List.setIfInBounds_toArray, List.set_cons_succ, List.set_cons_zero]) | (apply wpG_off; rfl; simp only [Act.put, List.setIfInBounds_toArray, List.set_cons_succ, List.set_cons_zero]))
      apply wpG_nil
      intro W6 hS
      replace k1 := k1.kept hS
      replace k2 := k2.kept hS
      replace hb := hb.trans (hS.mono hb.size)
      clear hS
      have RA := Lib.hid (HR.out.1)
      have RB := Lib.hid (HR.out.2.1)
      have RC := Lib.hid (HR.out.2.2)
      clear HR
      have hnb : -65535 ≤ mn3 A B C := by unfold mn3; omega
      have hxb : mx3 A B C ≤ 131070 := by unfold mx3; omega
      generalize mn3 A B C = n at *
      generalize mx3 A B C = x at *
      have b1 : decide (n < 0) = true := by simpa using hn
      have b2 : decide (65535 < x) = true := by simpa using hx
      go_wp2_with fail
      have Aa := slA_bd n l A hl hn (by omega) (by omega)
      have Ba := slA_bd n l B hl hn (by omega) (by omega)
      have Ca := slA_bd n l C hl hn (by omega) (by omega)
      go_loopw [9] (fun i wr => ∃ (k : Nat) (j : Int), k ≤ 3 ∧ j = k ∧ i = .int .i64 j ∧ Blk wr w.heap.size (.cells (p3 (fun v => l + dv ((v - l) * l) (l - n)) A B C k) 51 (0, 0)) ∧ Blk wr (w.heap.size + 1) (ob 0 0 0 51) ∧ Below w.heap.size w wr) (fun i _ => 3 - (intOf i).toNat)
      case atStart => exact ⟨0, 0, by omega, rfl, rfl, k1, k2, hb⟩
      case round =>
        clear k1 k2 hb
        obtain ⟨k, j, hk, hj, rfl, k1, k2, hb⟩ := hrel
        obtain rfl | rfl | rfl | rfl : k = 0 ∨ k = 1 ∨ k = 2 ∨ k = 3 := by omega
        · obtain rfl : j = 0 := hj
          replace k1 : Blk wr w.heap.size (ob A B C 51) := k1
          have c1 := k1.c3
          go_wp2_with fail
          refine (refDiv_new _ _ _ (by omega) (by omega) (by omega) (by omega)).mono ?_
          rintro e w2 ⟨rfl, hS⟩
          replace k1 := k1.kept hS
          replace k2 := k2.kept hS
          replace hb := hb.trans (hS.mono hb.size)
          clear hS c1
          have c1 := k1.c3
          go_wp2_with fail
          go_roundw
          case rel => exact ⟨1, 1, by omega, rfl, rfl, (k1.set1 0 _ (by simp) rfl), k2.other (by simp) _, hb.setCell (Nat.le_refl _) _⟩
          case measure => simp [intOf]
        · obtain rfl : j = 1 := hj
          replace k1 : Blk wr w.heap.size (ob (l + dv ((A - l) * l) (l - n)) B C 51) := k1
          have c1 := k1.c3
          go_wp2_with fail
          refine (refDiv_new _ _ _ (by omega) (by omega) (by omega) (by omega)).mono ?_
          rintro e w2 ⟨rfl, hS⟩
          replace k1 := k1.kept hS
          replace k2 := k2.kept hS
          replace hb := hb.trans (hS.mono hb.size)
          clear hS c1
          have c1 := k1.c3
          go_wp2_with fail
          go_roundw
          case rel => exact ⟨2, 2, by omega, rfl, rfl, (k1.set1 1 _ (by simp) rfl), k2.other (by simp) _, hb.setCell (Nat.le_refl _) _⟩
          case measure => simp [intOf]
        · obtain rfl : j = 2 := hj
          replace k1 : Blk wr w.heap.size (ob (l + dv ((A - l) * l) (l - n)) (l + dv ((B - l) * l) (l - n)) C 51) := k1
          have c1 := k1.c3
          go_wp2_with fail
          refine (refDiv_new _ _ _ (by omega) (by omega) (by omega) (by omega)).mono ?_
          rintro e w2 ⟨rfl, hS⟩
          replace k1 := k1.kept hS
          replace k2 := k2.kept hS
          replace hb := hb.trans (hS.mono hb.size)
          clear hS c1
          have c1 := k1.c3
          go_wp2_with fail
          go_roundw
          case rel => exact ⟨3, 3, by omega, rfl, rfl, (k1.set1 2 _ (by simp) rfl), k2.other (by simp) _, hb.setCell (Nat.le_refl _) _⟩
          case measure => simp [intOf]
        · obtain rfl : j = 3 := hj
          clear hk
          replace k1 : Blk wr w.heap.size (ob (l + dv ((A - l) * l) (l - n)) (l + dv ((B - l) * l) (l - n)) (l + dv ((C - l) * l) (l - n)) 51) := k1
          generalize gA2 : l + dv ((A - l) * l) (l - n) = A2 at *
          have GA : Hid (slA n l A = A2) := gA2
          have A2r : -12884508675 ≤ A2 ∧ A2 ≤ 12884574210 := by omega
          clear gA2 Aa
          generalize gB2 : l + dv ((B - l) * l) (l - n) = B2 at *
          have GB : Hid (slA n l B = B2) := gB2
          have B2r : -12884508675 ≤ B2 ∧ B2 ≤ 12884574210 := by omega
          clear gB2 Ba
          generalize gC2 : l + dv ((C - l) * l) (l - n) = C2 at *
          have GC : Hid (slA n l C = C2) := gC2
          have C2r : -12884508675 ≤ C2 ∧ C2 ≤ 12884574210 := by omega
          clear gC2 Ca
          go_wp2_with fail
          have A2b := slB_bd x l A2 hl hx (by omega) (by omega)
          have B2b := slB_bd x l B2 hl hx (by omega) (by omega)
          have C2b := slB_bd x l C2 hl hx (by omega) (by omega)
          go_loopw [10] (fun i wr => ∃ (k : Nat) (j : Int), k ≤ 3 ∧ j = k ∧ i = .int .i64 j ∧ Blk wr w.heap.size (.cells (p3 (fun v => l + dv ((v - l) * (65535 - l)) (x - l)) A2 B2 C2 k) 51 (0, 0)) ∧ Blk wr (w.heap.size + 1) (ob 0 0 0 51) ∧ Below w.heap.size w wr) (fun i _ => 3 - (intOf i).toNat)
          case atStart => exact ⟨0, 0, by omega, rfl, rfl, k1, k2, hb⟩
          case round =>
            clear k1 k2 hb
            obtain ⟨k, j, hk, hj, rfl, k1, k2, hb⟩ := hrel
            obtain rfl | rfl | rfl | rfl : k = 0 ∨ k = 1 ∨ k = 2 ∨ k = 3 := by omega
            · obtain rfl : j = 0 := hj
              replace k1 : Blk wr w.heap.size (ob A2 B2 C2 51) := k1
              have c1 := k1.c3
              go_wp2_with fail
              refine (refDiv_new _ _ _ (by omega) (by omega) (by omega) (by omega)).mono ?_
              rintro e w2 ⟨rfl, hS⟩
              replace k1 := k1.kept hS
              replace k2 := k2.kept hS
              replace hb := hb.trans (hS.mono hb.size)
              clear hS c1
              have c1 := k1.c3
              go_wp2_with fail
              go_roundw
              case rel => exact ⟨1, 1, by omega, rfl, rfl, (k1.set1 0 _ (by simp) rfl), k2.other (by simp) _, hb.setCell (Nat.le_refl _) _⟩
              case measure => simp [intOf]
            · obtain rfl : j = 1 := hj
              replace k1 : Blk wr w.heap.size (ob (l + dv ((A2 - l) * (65535 - l)) (x - l)) B2 C2 51) := k1
              have c1 := k1.c3
              go_wp2_with fail
              refine (refDiv_new _ _ _ (by omega) (by omega) (by omega) (by omega)).mono ?_
              rintro e w2 ⟨rfl, hS⟩
              replace k1 := k1.kept hS
              replace k2 := k2.kept hS
              replace hb := hb.trans (hS.mono hb.size)
              clear hS c1
              have c1 := k1.c3
              go_wp2_with fail
              go_roundw
              case rel => exact ⟨2, 2, by omega, rfl, rfl, (k1.set1 1 _ (by simp) rfl), k2.other (by simp) _, hb.setCell (Nat.le_refl _) _⟩
              case measure => simp [intOf]
            · obtain rfl : j = 2 := hj
              replace k1 : Blk wr w.heap.size (ob (l + dv ((A2 - l) * (65535 - l)) (x - l)) (l + dv ((B2 - l) * (65535 - l)) (x - l)) C2 51) := k1
              have c1 := k1.c3
              go_wp2_with fail
              refine (refDiv_new _ _ _ (by omega) (by omega) (by omega) (by omega)).mono ?_
              rintro e w2 ⟨rfl, hS⟩
              replace k1 := k1.kept hS
              replace k2 := k2.kept hS
              replace hb := hb.trans (hS.mono hb.size)
              clear hS c1
              have c1 := k1.c3
              go_wp2_with fail
              go_roundw
              case rel => exact ⟨3, 3, by omega, rfl, rfl, (k1.set1 2 _ (by simp) rfl), k2.other (by simp) _, hb.setCell (Nat.le_refl _) _⟩
              case measure => simp [intOf]
            · obtain rfl : j = 3 := hj
              clear hk
              replace k1 : Blk wr w.heap.size (ob (l + dv ((A2 - l) * (65535 - l)) (x - l)) (l + dv ((B2 - l) * (65535 - l)) (x - l)) (l + dv ((C2 - l) * (65535 - l)) (x - l)) 51) := k1
              generalize gA3 : l + dv ((A2 - l) * (65535 - l)) (x - l) = A3 at *
              have KA : Hid (slB x l A2 = A3) := gA3
              clear gA3 A2b
              generalize gB3 : l + dv ((B2 - l) * (65535 - l)) (x - l) = B3 at *
              have KB : Hid (slB x l B2 = B3) := gB3
              clear gB3 B2b
              generalize gC3 : l + dv ((C2 - l) * (65535 - l)) (x - l) = C3 at *
              have KC : Hid (slB x l C2 = C3) := gC3
              clear gC3 C2b
              go_wp2_with fail
              go_loopw [11] (fun i wr => ∃ (k : Nat) (j : Int), k ≤ 3 ∧ j = k ∧ i = .int .i64 j ∧ Blk wr w.heap.size (.cells (p3 cl A3 B3 C3 k) 51 (0, 0)) ∧ Blk wr (w.heap.size + 1) (ob 0 0 0 51) ∧ Below w.heap.size w wr) (fun i _ => 3 - (intOf i).toNat)
              case atStart => exact ⟨0, 0, by omega, rfl, rfl, k1, k2, hb⟩
              case round =>
                clear k1 k2 hb
                obtain ⟨k, j, hk, hj, rfl, k1, k2, hb⟩ := hrel
                obtain rfl | rfl | rfl | rfl : k = 0 ∨ k = 1 ∨ k = 2 ∨ k = 3 := by omega
                · obtain rfl : j = 0 := hj
                  replace k1 : Blk wr w.heap.size (ob A3 B3 C3 51) := k1
                  have c1 := k1.c3
                  go_wp2_with fail
                  refine (refUnit_n _ _).mono ?_
                  rintro e w' ⟨rfl, rfl⟩
                  go_wp2_with fail
                  go_roundw
                  case rel => exact ⟨1, 1, by omega, rfl, rfl, (k1.set1 0 _ (by simp) rfl), k2.other (by simp) _, hb.setCell (Nat.le_refl _) _⟩
                  case measure => simp [intOf]
                · obtain rfl : j = 1 := hj
                  replace k1 : Blk wr w.heap.size (ob (cl A3) B3 C3 51) := k1
                  have c1 := k1.c3
                  go_wp2_with fail
                  refine (refUnit_n _ _).mono ?_
                  rintro e w' ⟨rfl, rfl⟩
                  go_wp2_with fail
                  go_roundw
                  case rel => exact ⟨2, 2, by omega, rfl, rfl, (k1.set1 1 _ (by simp) rfl), k2.other (by simp) _, hb.setCell (Nat.le_refl _) _⟩
                  case measure => simp [intOf]
                · obtain rfl : j = 2 := hj
                  replace k1 : Blk wr w.heap.size (ob (cl A3) (cl B3) C3 51) := k1
                  have c1 := k1.c3
                  go_wp2_with fail
                  refine (refUnit_n _ _).mono ?_
                  rintro e w' ⟨rfl, rfl⟩
                  go_wp2_with fail
                  go_roundw
                  case rel => exact ⟨3, 3, by omega, rfl, rfl, (k1.set1 2 _ (by simp) rfl), k2.other (by simp) _, hb.setCell (Nat.le_refl _) _⟩
                  case measure => simp [intOf]
                · obtain rfl : j = 3 := hj
                  clear hk
                  replace k1 : Blk wr w.heap.size (ob (cl A3) (cl B3) (cl C3) 51) := k1
                  have c1 := k1.c3
                  have c2 := k2.c3
                  go_wp2_with fail
                  refine end3 hb k2 (by omega) (fun w3 e => by simp [results, Tryd.results44, go_sem, e]) rfl (fun w3 hb3 => ⟨by rw [RA.out, if_pos (by omega), if_pos (by omega), GA.out, KA.out]; rw [RB.out, if_pos (by omega), if_pos (by omega), GB.out, KB.out]; rw [RC.out, if_pos (by omega), if_pos (by omega), GC.out, KC.out], hb3⟩)

theorem refsetLum_any (a b c l : Int) (w : World) (ha : U a) (hb0 : U b) (hc : U c) (hl : U l) :
    Calls Tryd.prog 44 #[cv a b c, .int .i64 l] w fun e w' => e = .returned (cv (slF a b c l a) (slF a b c l b) (slF a b c l c)) ∧ Below w.heap.size w w' := by
  by_cases hn : mn3 (a + (l - lumU a b c)) (b + (l - lumU a b c)) (c + (l - lumU a b c)) < 0
  · by_cases hx : 65535 < mx3 (a + (l - lumU a b c)) (b + (l - lumU a b c)) (c + (l - lumU a b c))
    · exact refsetLum3 a b c l w ha hb0 hc hl hn hx
    · exact refsetLum1 a b c l w ha hb0 hc hl hn hx
  · by_cases hx : 65535 < mx3 (a + (l - lumU a b c)) (b + (l - lumU a b c)) (c + (l - lumU a b c))
    · exact refsetLum2 a b c l w ha hb0 hc hl hn hx
    · exact refsetLum0 a b c l w ha hb0 hc hl hn hx
end Go.Proofs.YtfgkgibomgcmpaaDoor
