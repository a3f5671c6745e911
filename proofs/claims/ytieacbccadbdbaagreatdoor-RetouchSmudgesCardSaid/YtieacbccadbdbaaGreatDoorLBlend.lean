/- Several texts in one: Col, ColLum, ColRefLum, BlendChan, BlendRefChan, ColFn. -/
import Derived.Test.YtieacbccadbdbaaGreatDoorLNum
import Derived.Test.YtieacbccadbdbaaGreatDoorLKit
import Derived.Test.YtieacbccadbdbaaGreatDoorLPlain
import Derived.Lib.MinMax
import Derived.IntWalk

/- The walks of the colors of package blend and of its reference: lum, sat, setSat, setLum. -/
namespace Go.Proofs.YtieacbccadbdbaaGreatDoor
open Go.RowKit
set_option linter.unusedVariables false
attribute [local go_sem] Oper.gAt gUponK

theorem run_min3 {P : Program} {w : World} (ts : Array TypeId) (t : TypeId) (k k' k'' : IntKind) (x y z : Int) : (Builtin.min_ ts t #[.int k x, .int k' y, .int k'' z]).run P w = .ok (.int k (mn3 x y z)) w := by
  simp [Builtin.min_, Builtin.min2, mn3]
  omega
theorem run_max3 {P : Program} {w : World} (ts : Array TypeId) (t : TypeId) (k k' k'' : IntKind) (x y z : Int) : (Builtin.max_ ts t #[.int k x, .int k' y, .int k'' z]).run P w = .ok (.int k (mx3 x y z)) w := by
  simp [Builtin.max_, Builtin.max2, mx3]
  omega
attribute [local go_sem high] run_min3 run_max3
abbrev cv (a b c : Int) : Value := .agg #[.int .i64 a, .int .i64 b, .int .i64 c]
abbrev ob (a b c : Int) (t : TypeId) : Obj := .cells #[.int .i64 a, .int .i64 b, .int .i64 c] t (0, 0)
theorem set3 {w : World} {b : Nat} {x0 x1 x2 : Value} {t : TypeId} {m : Nat × Nat} (k : Blk w b (.cells #[x0, x1, x2] t m)) (v0 v1 v2 : Value) :
    Blk (((w.setCell ⟨b, 0, none⟩ v0).setCell ⟨b, 1, none⟩ v1).setCell ⟨b, 2, none⟩ v2) b (.cells #[v0, v1, v2] t m) :=
  ((k.set1 0 v0 (by simp) rfl).set1 1 v1 (by simp) rfl).set1 2 v2 (by simp) rfl
/-- The end of a function that returns a struct of three cells, just stored. -/
theorem end3 {P : Program} {fn : Func} {R : Ending → World → Prop} {a : Act} {B : Nat} {w0 w : World} {b : Nat} {x0 x1 x2 v0 v1 v2 : Value} {t : TypeId} (hb : Below B w0 w) (k : Blk w b (.cells #[x0, x1, x2] t (0, 0))) (hB : B ≤ b)
    (hres : ∀ w3 : World, (w3.cell? ⟨b, 0, none⟩ = some v0 ∧ w3.cell? ⟨b, 1, none⟩ = some v1 ∧ w3.cell? ⟨b, 2, none⟩ = some v2 ∧ ∀ o, w3.frozen? ⟨b, o, none⟩ = false) → (results fn a.tmps).run P w3 = .ok (.agg #[v0, v1, v2]) w3)
    (hd : a.defers = []) (hn : ∀ w3 : World, Below B w0 w3 → R (.returned (.agg #[v0, v1, v2])) w3) :
    bodyPost P fn R .ret a (((w.setCell ⟨b, 0, none⟩ v0).setCell ⟨b, 1, none⟩ v1).setCell ⟨b, 2, none⟩ v2) :=
  bodyPost_ret (hres _ (set3 k v0 v1 v2).c3) hd (hn _ (((hb.setCell hB _).setCell hB _).setCell hB _))
/-- The first k channels are f's, the others as they were. -/
def p3 (f : Int → Int) (a b c : Int) : Nat → Array Value
  | 0 => #[.int .i64 a, .int .i64 b, .int .i64 c]
  | 1 => #[.int .i64 (f a), .int .i64 b, .int .i64 c]
  | 2 => #[.int .i64 (f a), .int .i64 (f b), .int .i64 c]
  | _ => #[.int .i64 (f a), .int .i64 (f b), .int .i64 (f c)]

set_option maxHeartbeats 400000 in
theorem lum_any (a b c : Int) (w : World) (ha : U a) (hb : U b) (hc : U c) :
    Calls Tryz.prog 140 #[cv a b c] w fun e w' => e = .returned (.int .i64 (lumU a b c)) ∧ Below w.heap.size w w' := by
  unfold U at ha hb hc
  go_enter Tryz.func140, Tryz.ntmps140
  go_wp2_with fail
  refine (div_any _ _ _ (by omega) (by omega) (by omega) (by omega)).mono ?_
  rintro e w' ⟨rfl, rfl⟩
  go_wp2_with fail
  go_ret
  exact ⟨rfl, (Below.refl _ _).alloc (Nat.le_refl _) _⟩
set_option maxHeartbeats 400000 in
theorem sat_any (a b c : Int) (w : World) (ha : U a) (hb : U b) (hc : U c) :
    Calls Tryz.prog 139 #[cv a b c] w fun e w' => e = .returned (.int .i64 (mx3 a b c - mn3 a b c)) ∧ Below w.heap.size w w' := by
  have h1 : 0 ≤ mn3 a b c ∧ mn3 a b c ≤ 65535 := by unfold U at *; unfold mn3; omega
  have h2 : 0 ≤ mx3 a b c ∧ mx3 a b c ≤ 65535 := by unfold U at *; unfold mx3; omega
  clear ha hb hc
  go_enter Tryz.func139, Tryz.ntmps139
  go_wp2
  go_ret
  exact ⟨rfl, (Below.refl _ _).alloc (Nat.le_refl _) _⟩

set_option maxHeartbeats 400000 in
theorem reflum_any (a b c : Int) (w : World) (ha : U a) (hb : U b) (hc : U c) :
    Calls Tryz.prog 112 #[cv a b c] w fun e w' => e = .returned (.int .i64 (lumU a b c)) ∧ Below w.heap.size w w' := by
  unfold U at ha hb hc
  go_enter Tryz.func112, Tryz.ntmps112
  go_wp2_with fail
  refine (refDiv_new _ _ _ (by omega) (by omega) (by omega) (by omega)).mono ?_
  rintro e w1 ⟨rfl, hB⟩
  go_wp2_with fail
  go_ret
  exact ⟨rfl, ((Below.refl _ _).alloc (Nat.le_refl _) _).trans (hB.mono (by simp))⟩
set_option maxHeartbeats 400000 in
theorem refsat_any (a b c : Int) (w : World) (ha : U a) (hb : U b) (hc : U c) :
    Calls Tryz.prog 111 #[cv a b c] w fun e w' => e = .returned (.int .i64 (mx3 a b c - mn3 a b c)) ∧ Below w.heap.size w w' := by
  have h1 : 0 ≤ mn3 a b c ∧ mn3 a b c ≤ 65535 := by unfold U at *; unfold mn3; omega
  have h2 : 0 ≤ mx3 a b c ∧ mx3 a b c ≤ 65535 := by unfold U at *; unfold mx3; omega
  clear ha hb hc
  go_enter Tryz.func111, Tryz.ntmps111
  go_wp2
  go_ret
  exact ⟨rfl, (Below.refl _ _).alloc (Nat.le_refl _) _⟩

set_option maxHeartbeats 1000000 in
theorem setSat_any (a b c s : Int) (w : World) (ha : U a) (hb0 : U b) (hc : U c) (hs : U s) :
    Calls Tryz.prog 138 #[cv a b c, .int .i64 s] w fun e w' => e = .returned (cv (ssC s (mn3 a b c) (mx3 a b c) a) (ssC s (mn3 a b c) (mx3 a b c) b) (ssC s (mn3 a b c) (mx3 a b c) c)) ∧ Below w.heap.size w w' := by
  unfold U at ha hb0 hc hs
  have n1 : 0 ≤ mn3 a b c ∧ mn3 a b c ≤ a ∧ mn3 a b c ≤ b ∧ mn3 a b c ≤ c := by unfold mn3; omega
  have x1 : a ≤ mx3 a b c ∧ b ≤ mx3 a b c ∧ c ≤ mx3 a b c ∧ mx3 a b c ≤ 65535 := by unfold mx3; omega
  have HE : Hid (∀ v, ssC s (mn3 a b c) (mx3 a b c) v = if mx3 a b c = mn3 a b c then 0 else dv ((v - mn3 a b c) * s) (mx3 a b c - mn3 a b c)) := fun v => rfl
  generalize ha' : ssC s (mn3 a b c) (mx3 a b c) a = ra
  generalize hb' : ssC s (mn3 a b c) (mx3 a b c) b = rb
  generalize hc' : ssC s (mn3 a b c) (mx3 a b c) c = rc
  have RA := Lib.hid (ha'.symm.trans (HE.out a))
  have RB := Lib.hid (hb'.symm.trans (HE.out b))
  have RC := Lib.hid (hc'.symm.trans (HE.out c))
  clear ha' hb' hc' HE
  go_enter Tryz.func138, Tryz.ntmps138
  go_wp2
  refine name2 (fun W k1 k2 hb => ?_)
  refine wp_region_grow 16 (fun w' => Below (World.heap W).size W w') (by kernel_rfl) (by kernel_rfl) (Below.refl _ _).drew ?_
  simp only [List.take_succ_cons, List.take_zero, List.drop_succ_cons, List.drop_zero]
  repeat (first | (apply wpG_on; rfl; (intro w' hS K hK; have hc0 := (k1.kept hS).c3; have hc1 := (k2.kept hS).c3; go_simp; (first | exact hK.out _ hS)); simp only [Act.put, List.setIfInBounds_toArray, List.set_cons_succ, List.set_cons_zero]) | (apply wpG_off; rfl; simp only [Act.put, List.setIfInBounds_toArray, List.set_cons_succ, List.set_cons_zero]))
  apply wpG_nil
  intro W1 hS
  replace k1 := k1.kept hS
  replace k2 := k2.kept hS
  replace hb := hb.trans (hS.mono hb.size)
  clear hS
  generalize mn3 a b c = n at *
  generalize mx3 a b c = x at *
  by_cases hxn : x = n
  · have hf : (x == n) = true := by simpa using hxn
    have HX := Lib.hid hxn
    clear hxn
    have c2 := k2.c3
    go_wp2_with fail
    refine end3 hb k2 (by omega) (fun w3 e => by simp [results, Tryz.results138, go_sem, e]) rfl (fun w3 hb3 => ⟨by rw [RA.out, RB.out, RC.out, if_pos (HX.out), if_pos (HX.out), if_pos (HX.out)], hb3⟩)
  · have hf : (x == n) = false := by simpa using hxn
    have HX := Lib.hid hxn
    have f0 : 0 < x - n := by omega
    have f1 : x - n ≤ 4611686018427387904 := by omega
    clear hxn
    have qa := prod_bd (a - n) s 65535 (by omega) (by omega) hs (by omega)
    have qb := prod_bd (b - n) s 65535 (by omega) (by omega) hs (by omega)
    have qc := prod_bd (c - n) s 65535 (by omega) (by omega) hs (by omega)
    go_wp2_with fail
    go_loopw [7, 26] (fun _ i wr => ∃ (k : Nat) (j : Int), k ≤ 3 ∧ j = k ∧ i = .int .i64 j ∧ Blk wr w.heap.size (.cells (p3 (fun v => dv ((v - n) * s) (x - n)) a b c k) 110 (0, 0)) ∧ Blk wr (w.heap.size + 1) (ob 0 0 0 110) ∧ Below w.heap.size w wr) (fun _ i _ => 3 - (intOf i).toNat)
    case atStart => exact ⟨0, 0, by omega, rfl, rfl, k1, k2, hb⟩
    case round =>
      clear k1 k2 hb
      obtain ⟨k, j, hk, hj, rfl, k1, k2, hb⟩ := hrel
      obtain rfl | rfl | rfl | rfl : k = 0 ∨ k = 1 ∨ k = 2 ∨ k = 3 := by omega
      · obtain rfl : j = 0 := hj
        replace k1 : Blk wr w.heap.size (ob a b c 110) := k1
        have c1 := k1.c3
        go_wp2_with fail
        refine (div_any _ _ _ f0 f1 (by omega) (by omega)).mono ?_
        rintro e w' ⟨rfl, rfl⟩
        go_wp2_with fail
        go_roundw
        case rel => exact ⟨1, 1, by omega, rfl, rfl, (k1.set1 0 _ (by simp) rfl), k2.other (by simp) _, hb.setCell (Nat.le_refl _) _⟩
        case measure => simp [intOf]
      · obtain rfl : j = 1 := hj
        replace k1 : Blk wr w.heap.size (ob ((fun v => dv ((v - n) * s) (x - n)) a) b c 110) := k1
        have c1 := k1.c3
        go_wp2_with fail
        refine (div_any _ _ _ f0 f1 (by omega) (by omega)).mono ?_
        rintro e w' ⟨rfl, rfl⟩
        go_wp2_with fail
        go_roundw
        case rel => exact ⟨2, 2, by omega, rfl, rfl, (k1.set1 1 _ (by simp) rfl), k2.other (by simp) _, hb.setCell (Nat.le_refl _) _⟩
        case measure => simp [intOf]
      · obtain rfl : j = 2 := hj
        replace k1 : Blk wr w.heap.size (ob ((fun v => dv ((v - n) * s) (x - n)) a) ((fun v => dv ((v - n) * s) (x - n)) b) c 110) := k1
        have c1 := k1.c3
        go_wp2_with fail
        refine (div_any _ _ _ f0 f1 (by omega) (by omega)).mono ?_
        rintro e w' ⟨rfl, rfl⟩
        go_wp2_with fail
        go_roundw
        case rel => exact ⟨3, 3, by omega, rfl, rfl, (k1.set1 2 _ (by simp) rfl), k2.other (by simp) _, hb.setCell (Nat.le_refl _) _⟩
        case measure => simp [intOf]
      · obtain rfl : j = 3 := hj
        clear hk
        replace k1 : Blk wr w.heap.size (ob ((fun v => dv ((v - n) * s) (x - n)) a) ((fun v => dv ((v - n) * s) (x - n)) b) ((fun v => dv ((v - n) * s) (x - n)) c) 110) := k1
        have c1 := k1.c3
        have c2 := k2.c3
        go_wp2_with fail
        refine end3 hb k2 (by omega) (fun w3 e => by simp [results, Tryz.results138, go_sem, e]) rfl (fun w3 hb3 => ⟨by rw [RA.out, RB.out, RC.out, if_neg (HX.out), if_neg (HX.out), if_neg (HX.out)], hb3⟩)

set_option maxHeartbeats 1000000 in
theorem refsetSat_any (a b c s : Int) (w : World) (ha : U a) (hb0 : U b) (hc : U c) (hs : U s) :
    Calls Tryz.prog 110 #[cv a b c, .int .i64 s] w fun e w' => e = .returned (cv (ssC s (mn3 a b c) (mx3 a b c) a) (ssC s (mn3 a b c) (mx3 a b c) b) (ssC s (mn3 a b c) (mx3 a b c) c)) ∧ Below w.heap.size w w' := by
  unfold U at ha hb0 hc hs
  have n1 : 0 ≤ mn3 a b c ∧ mn3 a b c ≤ a ∧ mn3 a b c ≤ b ∧ mn3 a b c ≤ c := by unfold mn3; omega
  have x1 : a ≤ mx3 a b c ∧ b ≤ mx3 a b c ∧ c ≤ mx3 a b c ∧ mx3 a b c ≤ 65535 := by unfold mx3; omega
  have HE : Hid (∀ v, ssC s (mn3 a b c) (mx3 a b c) v = if mx3 a b c = mn3 a b c then 0 else dv ((v - mn3 a b c) * s) (mx3 a b c - mn3 a b c)) := fun v => rfl
  generalize ha' : ssC s (mn3 a b c) (mx3 a b c) a = ra
  generalize hb' : ssC s (mn3 a b c) (mx3 a b c) b = rb
  generalize hc' : ssC s (mn3 a b c) (mx3 a b c) c = rc
  have RA := Lib.hid (ha'.symm.trans (HE.out a))
  have RB := Lib.hid (hb'.symm.trans (HE.out b))
  have RC := Lib.hid (hc'.symm.trans (HE.out c))
  clear ha' hb' hc' HE
  go_enter Tryz.func110, Tryz.ntmps110
  go_wp2
  refine name2 (fun W k1 k2 hb => ?_)
  refine wp_region_grow 16 (fun w' => Below (World.heap W).size W w') (by kernel_rfl) (by kernel_rfl) (Below.refl _ _).drew ?_
  simp only [List.take_succ_cons, List.take_zero, List.drop_succ_cons, List.drop_zero]
  repeat (first | (apply wpG_on; rfl; (intro w' hS K hK; have hc0 := (k1.kept hS).c3; have hc1 := (k2.kept hS).c3; go_simp; (first | exact hK.out _ hS)); simp only [Act.put, List.setIfInBounds_toArray, List.set_cons_succ, List.set_cons_zero]) | (apply wpG_off; rfl; simp only [Act.put, List.setIfInBounds_toArray, List.set_cons_succ, List.set_cons_zero]))
  apply wpG_nil
  intro W1 hS
  replace k1 := k1.kept hS
  replace k2 := k2.kept hS
  replace hb := hb.trans (hS.mono hb.size)
  clear hS
  generalize mn3 a b c = n at *
  generalize mx3 a b c = x at *
  by_cases hxn : x = n
  · have hf : (x == n) = true := by simpa using hxn
    have HX := Lib.hid hxn
    clear hxn
    clear n1 x1
    go_wp2_with fail
    go_loopw [7] (fun i wr => ∃ (k : Nat) (j : Int), k ≤ 3 ∧ j = k ∧ i = .int .i64 j ∧ Blk wr w.heap.size (.cells (p3 (fun _ => 0) a b c k) 109 (0, 0)) ∧ Blk wr (w.heap.size + 1) (ob 0 0 0 109) ∧ Below w.heap.size w wr) (fun i _ => 3 - (intOf i).toNat)
    case atStart => exact ⟨0, 0, by omega, rfl, rfl, k1, k2, hb⟩
    case round =>
      clear k1 k2 hb
      obtain ⟨k, j, hk, hj, rfl, k1, k2, hb⟩ := hrel
      obtain rfl | rfl | rfl | rfl : k = 0 ∨ k = 1 ∨ k = 2 ∨ k = 3 := by omega
      · obtain rfl : j = 0 := hj
        replace k1 : Blk wr w.heap.size (ob a b c 109) := k1
        have c1 := k1.c3
        go_wp2_with fail
        go_roundw
        case rel => exact ⟨1, 1, by omega, rfl, rfl, (k1.set1 0 _ (by simp) rfl), k2.other (by simp) _, hb.setCell (Nat.le_refl _) _⟩
        case measure => simp [intOf]
      · obtain rfl : j = 1 := hj
        replace k1 : Blk wr w.heap.size (ob ((fun _ => 0) a) b c 109) := k1
        have c1 := k1.c3
        go_wp2_with fail
        go_roundw
        case rel => exact ⟨2, 2, by omega, rfl, rfl, (k1.set1 1 _ (by simp) rfl), k2.other (by simp) _, hb.setCell (Nat.le_refl _) _⟩
        case measure => simp [intOf]
      · obtain rfl : j = 2 := hj
        replace k1 : Blk wr w.heap.size (ob ((fun _ => 0) a) ((fun _ => 0) b) c 109) := k1
        have c1 := k1.c3
        go_wp2_with fail
        go_roundw
        case rel => exact ⟨3, 3, by omega, rfl, rfl, (k1.set1 2 _ (by simp) rfl), k2.other (by simp) _, hb.setCell (Nat.le_refl _) _⟩
        case measure => simp [intOf]
      · obtain rfl : j = 3 := hj
        clear hk
        replace k1 : Blk wr w.heap.size (ob ((fun _ => 0) a) ((fun _ => 0) b) ((fun _ => 0) c) 109) := k1
        have c1 := k1.c3
        have c2 := k2.c3
        go_wp2_with fail
        refine end3 hb k2 (by omega) (fun w3 e => by simp [results, Tryz.results110, go_sem, e]) rfl (fun w3 hb3 => ⟨by rw [RA.out, RB.out, RC.out, if_pos (HX.out), if_pos (HX.out), if_pos (HX.out)], hb3⟩)
  · have hf : (x == n) = false := by simpa using hxn
    have HX := Lib.hid hxn
    have f0 : 0 < x - n := by omega
    have f1 : x - n ≤ 4611686018427387904 := by omega
    clear hxn
    have qa := prod_bd (a - n) s 65535 (by omega) (by omega) hs (by omega)
    have qb := prod_bd (b - n) s 65535 (by omega) (by omega) hs (by omega)
    have qc := prod_bd (c - n) s 65535 (by omega) (by omega) hs (by omega)
    go_wp2_with fail
    go_loopw [7] (fun i wr => ∃ (k : Nat) (j : Int), k ≤ 3 ∧ j = k ∧ i = .int .i64 j ∧ Blk wr w.heap.size (.cells (p3 (fun v => dv ((v - n) * s) (x - n)) a b c k) 109 (0, 0)) ∧ Blk wr (w.heap.size + 1) (ob 0 0 0 109) ∧ Below w.heap.size w wr) (fun i _ => 3 - (intOf i).toNat)
    case atStart => exact ⟨0, 0, by omega, rfl, rfl, k1, k2, hb⟩
    case round =>
      clear k1 k2 hb
      obtain ⟨k, j, hk, hj, rfl, k1, k2, hb⟩ := hrel
      obtain rfl | rfl | rfl | rfl : k = 0 ∨ k = 1 ∨ k = 2 ∨ k = 3 := by omega
      · obtain rfl : j = 0 := hj
        replace k1 : Blk wr w.heap.size (ob a b c 109) := k1
        have c1 := k1.c3
        go_wp2_with fail
        refine (refDiv_new _ _ _ f0 f1 (by omega) (by omega)).mono ?_
        rintro e w2 ⟨rfl, hS⟩
        replace k1 := k1.kept hS
        replace k2 := k2.kept hS
        replace hb := hb.trans (hS.mono hb.size)
        clear hS c1
        have c1 := k1.c3
        go_wp2_with fail
        go_roundw
        case rel => exact ⟨1, 1, by omega, rfl, rfl, (k1.set1 0 _ (by simp) rfl), k2.other (by simp) _, hb.setCell (Nat.le_refl _) _⟩
        case measure => simp [intOf]
      · obtain rfl : j = 1 := hj
        replace k1 : Blk wr w.heap.size (ob ((fun v => dv ((v - n) * s) (x - n)) a) b c 109) := k1
        have c1 := k1.c3
        go_wp2_with fail
        refine (refDiv_new _ _ _ f0 f1 (by omega) (by omega)).mono ?_
        rintro e w2 ⟨rfl, hS⟩
        replace k1 := k1.kept hS
        replace k2 := k2.kept hS
        replace hb := hb.trans (hS.mono hb.size)
        clear hS c1
        have c1 := k1.c3
        go_wp2_with fail
        go_roundw
        case rel => exact ⟨2, 2, by omega, rfl, rfl, (k1.set1 1 _ (by simp) rfl), k2.other (by simp) _, hb.setCell (Nat.le_refl _) _⟩
        case measure => simp [intOf]
      · obtain rfl : j = 2 := hj
        replace k1 : Blk wr w.heap.size (ob ((fun v => dv ((v - n) * s) (x - n)) a) ((fun v => dv ((v - n) * s) (x - n)) b) c 109) := k1
        have c1 := k1.c3
        go_wp2_with fail
        refine (refDiv_new _ _ _ f0 f1 (by omega) (by omega)).mono ?_
        rintro e w2 ⟨rfl, hS⟩
        replace k1 := k1.kept hS
        replace k2 := k2.kept hS
        replace hb := hb.trans (hS.mono hb.size)
        clear hS c1
        have c1 := k1.c3
        go_wp2_with fail
        go_roundw
        case rel => exact ⟨3, 3, by omega, rfl, rfl, (k1.set1 2 _ (by simp) rfl), k2.other (by simp) _, hb.setCell (Nat.le_refl _) _⟩
        case measure => simp [intOf]
      · obtain rfl : j = 3 := hj
        clear hk
        replace k1 : Blk wr w.heap.size (ob ((fun v => dv ((v - n) * s) (x - n)) a) ((fun v => dv ((v - n) * s) (x - n)) b) ((fun v => dv ((v - n) * s) (x - n)) c) 109) := k1
        have c1 := k1.c3
        have c2 := k2.c3
        go_wp2_with fail
        refine end3 hb k2 (by omega) (fun w3 e => by simp [results, Tryz.results110, go_sem, e]) rfl (fun w3 hb3 => ⟨by rw [RA.out, RB.out, RC.out, if_neg (HX.out), if_neg (HX.out), if_neg (HX.out)], hb3⟩)
end Go.Proofs.YtieacbccadbdbaaGreatDoor


/- The walks of the colors of package blend: setLum. -/
namespace Go.Proofs.YtieacbccadbdbaaGreatDoor
open Go.RowKit
set_option linter.unusedVariables false
attribute [local go_sem] Oper.gAt gUponK
attribute [local go_sem high] run_min3 run_max3

set_option maxHeartbeats 400000 in
theorem unit_bb (x : Int) (w : World) :
    Calls Tryz.prog 162 #[.int .i64 x] w fun e w' => e = .returned (.int .i64 (cl x)) ∧ w = w' := by
  go_enter Tryz.func162, Tryz.ntmps162
  go_wp2_with fail
  refine (clamp_any _ _ _ _).mono ?_
  rintro e w' ⟨rfl, rfl⟩
  go_wp2_with fail
  go_ret
  exact ⟨ret_int (cl_min x), rfl⟩

set_option maxRecDepth 100000 in
set_option maxHeartbeats 2000000 in
theorem setLum0 (a b c l : Int) (w : World) (ha : U a) (hb0 : U b) (hc : U c) (hl : U l) (hn : ¬ mn3 (a + (l - lumU a b c)) (b + (l - lumU a b c)) (c + (l - lumU a b c)) < 0) (hx : ¬ 65535 < mx3 (a + (l - lumU a b c)) (b + (l - lumU a b c)) (c + (l - lumU a b c))) :
    Calls Tryz.prog 137 #[cv a b c, .int .i64 l] w fun e w' => e = .returned (cv (slF a b c l a) (slF a b c l b) (slF a b c l c)) ∧ Below w.heap.size w w' := by
  have hd0 := lumU_bd a b c ha hb0 hc
  have HR : Hid (slF a b c l a = _ ∧ slF a b c l b = _ ∧ slF a b c l c = _) := ⟨slF_eq a b c l a, slF_eq a b c l b, slF_eq a b c l c⟩
  generalize slF a b c l a = ra at *
  generalize slF a b c l b = rb at *
  generalize slF a b c l c = rc at *
  go_enter Tryz.func137, Tryz.ntmps137
  go_wp2_with fail
  refine callName2 (fun W k1 k2 hb => ?_)
  refine (lum_any _ _ _ _ ha hb0 hc).mono ?_
  rintro e W1 ⟨rfl, hS⟩
  replace k1 := k1.kept hS
  replace k2 := k2.kept hS
  replace hb := hb.trans (hS.mono hb.size)
  clear hS
  generalize lumU a b c = lm at *
  unfold U at ha hb0 hc hl hd0
  have hd : -65535 ≤ l - lm ∧ l - lm ≤ 65535 := by omega
  generalize hd' : l - lm = d at *
  have HD := Lib.hid hd'
  clear hd'
  go_wp2_with fail
  rw [HD.out]
  go_loopw [6, 16] (fun _ i wr => ∃ (k : Nat) (j : Int), k ≤ 3 ∧ j = k ∧ i = .int .i64 j ∧ Blk wr w.heap.size (.cells (p3 (fun v => v + d) a b c k) 110 (0, 0)) ∧ Blk wr (w.heap.size + 1) (ob 0 0 0 110) ∧ Below w.heap.size w wr) (fun _ i _ => 3 - (intOf i).toNat)
  case atStart => exact ⟨0, 0, by omega, rfl, rfl, k1, k2, hb⟩
  case round =>
    clear k1 k2 hb
    obtain ⟨k, j, hk, hj, rfl, k1, k2, hb⟩ := hrel
    obtain rfl | rfl | rfl | rfl : k = 0 ∨ k = 1 ∨ k = 2 ∨ k = 3 := by omega
    · obtain rfl : j = 0 := hj
      replace k1 : Blk wr w.heap.size (ob a b c 110) := k1
      have c1 := k1.c3
      go_wp2_with fail
      go_roundw
      case rel => exact ⟨1, 1, by omega, rfl, rfl, (k1.set1 0 _ (by simp) rfl), k2.other (by simp) _, hb.setCell (Nat.le_refl _) _⟩
      case measure => simp [intOf]
    · obtain rfl : j = 1 := hj
      replace k1 : Blk wr w.heap.size (ob (a + d) b c 110) := k1
      have c1 := k1.c3
      go_wp2_with fail
      go_roundw
      case rel => exact ⟨2, 2, by omega, rfl, rfl, (k1.set1 1 _ (by simp) rfl), k2.other (by simp) _, hb.setCell (Nat.le_refl _) _⟩
      case measure => simp [intOf]
    · obtain rfl : j = 2 := hj
      replace k1 : Blk wr w.heap.size (ob (a + d) (b + d) c 110) := k1
      have c1 := k1.c3
      go_wp2_with fail
      go_roundw
      case rel => exact ⟨3, 3, by omega, rfl, rfl, (k1.set1 2 _ (by simp) rfl), k2.other (by simp) _, hb.setCell (Nat.le_refl _) _⟩
      case measure => simp [intOf]
    · obtain rfl : j = 3 := hj
      clear hk
      replace k1 : Blk wr w.heap.size (ob (a + d) (b + d) (c + d) 110) := k1
      generalize gA : a + d = A at *
      generalize gB : b + d = B at *
      generalize gC : c + d = C at *
      have hA : -65535 ≤ A ∧ A ≤ 131070 := by omega
      have hB : -65535 ≤ B ∧ B ≤ 131070 := by omega
      have hC : -65535 ≤ C ∧ C ≤ 131070 := by omega
      clear gA gB gC
      go_wp2_with fail
      obtain ⟨W5, hW5⟩ : ∃ W5 : World, W5 = wr := ⟨_, rfl⟩
      rw [← hW5] at k1 k2 hb ⊢
      clear hW5
      refine wp_region_grow 16 (fun w' => Below (World.heap W5).size W5 w') (by kernel_rfl) (by kernel_rfl) (Below.refl _ _).drew ?_
      simp only [List.take_succ_cons, List.take_zero, List.drop_succ_cons, List.drop_zero]
      repeat (first | (apply wpG_on; rfl; (intro w' hS K hK; have hc0 := (k1.kept hS).c3; have hc1 := (k2.kept hS).c3; go_simp; (first | exact hK.out _ hS)); simp only [Act.put, List.setIfInBounds_toArray, List.set_cons_succ, List.set_cons_zero]) | (apply wpG_off; rfl; simp only [Act.put, List.setIfInBounds_toArray, List.set_cons_succ, List.set_cons_zero]))
      apply wpG_nil
      intro W6 hS
      replace k1 := k1.kept hS
      replace k2 := k2.kept hS
      replace hb := hb.trans (hS.mono hb.size)
      clear hS
      have RA := Lib.hid (HR.out.1)
      have RB := Lib.hid (HR.out.2.1)
      have RC := Lib.hid (HR.out.2.2)
      clear HR
      have hnb : -65535 ≤ mn3 A B C := by unfold mn3; omega
      have hxb : mx3 A B C ≤ 131070 := by unfold mx3; omega
      generalize mn3 A B C = n at *
      generalize mx3 A B C = x at *
      have b1 : decide (n < 0) = false := by simpa using hn
      have b2 : decide (65535 < x) = false := by simpa using hx
      go_wp2_with fail
      go_loopw [11, 83] (fun _ i wr => ∃ (k : Nat) (j : Int), k ≤ 3 ∧ j = k ∧ i = .int .i64 j ∧ Blk wr w.heap.size (.cells (p3 cl A B C k) 110 (0, 0)) ∧ Blk wr (w.heap.size + 1) (ob 0 0 0 110) ∧ Below w.heap.size w wr) (fun _ i _ => 3 - (intOf i).toNat)
      case atStart => exact ⟨0, 0, by omega, rfl, rfl, k1, k2, hb⟩
      case round =>
        clear k1 k2 hb
        obtain ⟨k, j, hk, hj, rfl, k1, k2, hb⟩ := hrel
        obtain rfl | rfl | rfl | rfl : k = 0 ∨ k = 1 ∨ k = 2 ∨ k = 3 := by omega
        · obtain rfl : j = 0 := hj
          replace k1 : Blk wr w.heap.size (ob A B C 110) := k1
          have c1 := k1.c3
          go_wp2_with fail
          refine (unit_bb _ _).mono ?_
          rintro e w' ⟨rfl, rfl⟩
          go_wp2_with fail
          go_roundw
          case rel => exact ⟨1, 1, by omega, rfl, rfl, (k1.set1 0 _ (by simp) rfl), k2.other (by simp) _, hb.setCell (Nat.le_refl _) _⟩
          case measure => simp [intOf]
        · obtain rfl : j = 1 := hj
          replace k1 : Blk wr w.heap.size (ob (cl A) B C 110) := k1
          have c1 := k1.c3
          go_wp2_with fail
          refine (unit_bb _ _).mono ?_
          rintro e w' ⟨rfl, rfl⟩
          go_wp2_with fail
          go_roundw
          case rel => exact ⟨2, 2, by omega, rfl, rfl, (k1.set1 1 _ (by simp) rfl), k2.other (by simp) _, hb.setCell (Nat.le_refl _) _⟩
          case measure => simp [intOf]
        · obtain rfl : j = 2 := hj
          replace k1 : Blk wr w.heap.size (ob (cl A) (cl B) C 110) := k1
          have c1 := k1.c3
          go_wp2_with fail
          refine (unit_bb _ _).mono ?_
          rintro e w' ⟨rfl, rfl⟩
          go_wp2_with fail
          go_roundw
          case rel => exact ⟨3, 3, by omega, rfl, rfl, (k1.set1 2 _ (by simp) rfl), k2.other (by simp) _, hb.setCell (Nat.le_refl _) _⟩
          case measure => simp [intOf]
        · obtain rfl : j = 3 := hj
          clear hk
          replace k1 : Blk wr w.heap.size (ob (cl A) (cl B) (cl C) 110) := k1
          have c1 := k1.c3
          have c2 := k2.c3
          go_wp2_with fail
          refine end3 hb k2 (by omega) (fun w3 e => by simp [results, Tryz.results137, go_sem, e]) rfl (fun w3 hb3 => ⟨by rw [RA.out, if_neg (by omega), if_neg (by omega)]; rw [RB.out, if_neg (by omega), if_neg (by omega)]; rw [RC.out, if_neg (by omega), if_neg (by omega)], hb3⟩)

set_option maxRecDepth 100000 in
set_option maxHeartbeats 2000000 in
theorem setLum1 (a b c l : Int) (w : World) (ha : U a) (hb0 : U b) (hc : U c) (hl : U l) (hn : mn3 (a + (l - lumU a b c)) (b + (l - lumU a b c)) (c + (l - lumU a b c)) < 0) (hx : ¬ 65535 < mx3 (a + (l - lumU a b c)) (b + (l - lumU a b c)) (c + (l - lumU a b c))) :
    Calls Tryz.prog 137 #[cv a b c, .int .i64 l] w fun e w' => e = .returned (cv (slF a b c l a) (slF a b c l b) (slF a b c l c)) ∧ Below w.heap.size w w' := by
  have hd0 := lumU_bd a b c ha hb0 hc
  have HR : Hid (slF a b c l a = _ ∧ slF a b c l b = _ ∧ slF a b c l c = _) := ⟨slF_eq a b c l a, slF_eq a b c l b, slF_eq a b c l c⟩
  generalize slF a b c l a = ra at *
  generalize slF a b c l b = rb at *
  generalize slF a b c l c = rc at *
  go_enter Tryz.func137, Tryz.ntmps137
  go_wp2_with fail
  refine callName2 (fun W k1 k2 hb => ?_)
  refine (lum_any _ _ _ _ ha hb0 hc).mono ?_
  rintro e W1 ⟨rfl, hS⟩
  replace k1 := k1.kept hS
  replace k2 := k2.kept hS
  replace hb := hb.trans (hS.mono hb.size)
  clear hS
  generalize lumU a b c = lm at *
  unfold U at ha hb0 hc hl hd0
  have hd : -65535 ≤ l - lm ∧ l - lm ≤ 65535 := by omega
  generalize hd' : l - lm = d at *
  have HD := Lib.hid hd'
  clear hd'
  go_wp2_with fail
  rw [HD.out]
  go_loopw [6, 16] (fun _ i wr => ∃ (k : Nat) (j : Int), k ≤ 3 ∧ j = k ∧ i = .int .i64 j ∧ Blk wr w.heap.size (.cells (p3 (fun v => v + d) a b c k) 110 (0, 0)) ∧ Blk wr (w.heap.size + 1) (ob 0 0 0 110) ∧ Below w.heap.size w wr) (fun _ i _ => 3 - (intOf i).toNat)
  case atStart => exact ⟨0, 0, by omega, rfl, rfl, k1, k2, hb⟩
  case round =>
    clear k1 k2 hb
    obtain ⟨k, j, hk, hj, rfl, k1, k2, hb⟩ := hrel
    obtain rfl | rfl | rfl | rfl : k = 0 ∨ k = 1 ∨ k = 2 ∨ k = 3 := by omega
    · obtain rfl : j = 0 := hj
      replace k1 : Blk wr w.heap.size (ob a b c 110) := k1
      have c1 := k1.c3
      go_wp2_with fail
      go_roundw
      case rel => exact ⟨1, 1, by omega, rfl, rfl, (k1.set1 0 _ (by simp) rfl), k2.other (by simp) _, hb.setCell (Nat.le_refl _) _⟩
      case measure => simp [intOf]
    · obtain rfl : j = 1 := hj
      replace k1 : Blk wr w.heap.size (ob (a + d) b c 110) := k1
      have c1 := k1.c3
      go_wp2_with fail
      go_roundw
      case rel => exact ⟨2, 2, by omega, rfl, rfl, (k1.set1 1 _ (by simp) rfl), k2.other (by simp) _, hb.setCell (Nat.le_refl _) _⟩
      case measure => simp [intOf]
    · obtain rfl : j = 2 := hj
      replace k1 : Blk wr w.heap.size (ob (a + d) (b + d) c 110) := k1
      have c1 := k1.c3
      go_wp2_with fail
      go_roundw
      case rel => exact ⟨3, 3, by omega, rfl, rfl, (k1.set1 2 _ (by simp) rfl), k2.other (by simp) _, hb.setCell (Nat.le_refl _) _⟩
      case measure => simp [intOf]
    · obtain rfl : j = 3 := hj
      clear hk
      replace k1 : Blk wr w.heap.size (ob (a + d) (b + d) (c + d) 110) := k1
      generalize gA : a + d = A at *
      generalize gB : b + d = B at *
      generalize gC : c + d = C at *
      have hA : -65535 ≤ A ∧ A ≤ 131070 := by omega
      have hB : -65535 ≤ B ∧ B ≤ 131070 := by omega
      have hC : -65535 ≤ C ∧ C ≤ 131070 := by omega
      clear gA gB gC
      go_wp2_with fail
      obtain ⟨W5, hW5⟩ : ∃ W5 : World, W5 = wr := ⟨_, rfl⟩
      rw [← hW5] at k1 k2 hb ⊢
      clear hW5
      refine wp_region_grow 16 (fun w' => Below (World.heap W5).size W5 w') (by kernel_rfl) (by kernel_rfl) (Below.refl _ _).drew ?_
      simp only [List.take_succ_cons, List.take_zero, List.drop_succ_cons, List.drop_zero]
      repeat (first | (apply wpG_on; rfl; (intro w' hS K hK; have hc0 := (k1.kept hS).c3; have hc1 := (k2.kept hS).c3; go_simp; (first | exact hK.out _ hS)); simp only [Act.put, List.setIfInBounds_toArray, List.set_cons_succ, List.set_cons_zero]) | (apply wpG_off; rfl; simp only [Act.put, List.setIfInBounds_toArray, List.set_cons_succ, List.set_cons_zero]))
      apply wpG_nil
      intro W6 hS
      replace k1 := k1.kept hS
      replace k2 := k2.kept hS
      replace hb := hb.trans (hS.mono hb.size)
      clear hS
      have RA := Lib.hid (HR.out.1)
      have RB := Lib.hid (HR.out.2.1)
      have RC := Lib.hid (HR.out.2.2)
      clear HR
      have hnb : -65535 ≤ mn3 A B C := by unfold mn3; omega
      have hxb : mx3 A B C ≤ 131070 := by unfold mx3; omega
      generalize mn3 A B C = n at *
      generalize mx3 A B C = x at *
      have b1 : decide (n < 0) = true := by simpa using hn
      have b2 : decide (65535 < x) = false := by simpa using hx
      go_wp2_with fail
      have Aa := slA_bd n l A hl hn (by omega) (by omega)
      have Ba := slA_bd n l B hl hn (by omega) (by omega)
      have Ca := slA_bd n l C hl hn (by omega) (by omega)
      go_loopw [9, 42] (fun _ i wr => ∃ (k : Nat) (j : Int), k ≤ 3 ∧ j = k ∧ i = .int .i64 j ∧ Blk wr w.heap.size (.cells (p3 (fun v => l + dv ((v - l) * l) (l - n)) A B C k) 110 (0, 0)) ∧ Blk wr (w.heap.size + 1) (ob 0 0 0 110) ∧ Below w.heap.size w wr) (fun _ i _ => 3 - (intOf i).toNat)
      case atStart => exact ⟨0, 0, by omega, rfl, rfl, k1, k2, hb⟩
      case round =>
        clear k1 k2 hb
        obtain ⟨k, j, hk, hj, rfl, k1, k2, hb⟩ := hrel
        obtain rfl | rfl | rfl | rfl : k = 0 ∨ k = 1 ∨ k = 2 ∨ k = 3 := by omega
        · obtain rfl : j = 0 := hj
          replace k1 : Blk wr w.heap.size (ob A B C 110) := k1
          have c1 := k1.c3
          go_wp2_with fail
          refine (div_any _ _ _ (by omega) (by omega) (by omega) (by omega)).mono ?_
          rintro e w' ⟨rfl, rfl⟩
          go_wp2_with fail
          go_roundw
          case rel => exact ⟨1, 1, by omega, rfl, rfl, (k1.set1 0 _ (by simp) rfl), k2.other (by simp) _, hb.setCell (Nat.le_refl _) _⟩
          case measure => simp [intOf]
        · obtain rfl : j = 1 := hj
          replace k1 : Blk wr w.heap.size (ob (l + dv ((A - l) * l) (l - n)) B C 110) := k1
          have c1 := k1.c3
          go_wp2_with fail
          refine (div_any _ _ _ (by omega) (by omega) (by omega) (by omega)).mono ?_
          rintro e w' ⟨rfl, rfl⟩
          go_wp2_with fail
          go_roundw
          case rel => exact ⟨2, 2, by omega, rfl, rfl, (k1.set1 1 _ (by simp) rfl), k2.other (by simp) _, hb.setCell (Nat.le_refl _) _⟩
          case measure => simp [intOf]
        · obtain rfl : j = 2 := hj
          replace k1 : Blk wr w.heap.size (ob (l + dv ((A - l) * l) (l - n)) (l + dv ((B - l) * l) (l - n)) C 110) := k1
          have c1 := k1.c3
          go_wp2_with fail
          refine (div_any _ _ _ (by omega) (by omega) (by omega) (by omega)).mono ?_
          rintro e w' ⟨rfl, rfl⟩
          go_wp2_with fail
          go_roundw
          case rel => exact ⟨3, 3, by omega, rfl, rfl, (k1.set1 2 _ (by simp) rfl), k2.other (by simp) _, hb.setCell (Nat.le_refl _) _⟩
          case measure => simp [intOf]
        · obtain rfl : j = 3 := hj
          clear hk
          replace k1 : Blk wr w.heap.size (ob (l + dv ((A - l) * l) (l - n)) (l + dv ((B - l) * l) (l - n)) (l + dv ((C - l) * l) (l - n)) 110) := k1
          generalize gA2 : l + dv ((A - l) * l) (l - n) = A2 at *
          have GA : Hid (slA n l A = A2) := gA2
          have A2r : -12884508675 ≤ A2 ∧ A2 ≤ 12884574210 := by omega
          clear gA2 Aa
          generalize gB2 : l + dv ((B - l) * l) (l - n) = B2 at *
          have GB : Hid (slA n l B = B2) := gB2
          have B2r : -12884508675 ≤ B2 ∧ B2 ≤ 12884574210 := by omega
          clear gB2 Ba
          generalize gC2 : l + dv ((C - l) * l) (l - n) = C2 at *
          have GC : Hid (slA n l C = C2) := gC2
          have C2r : -12884508675 ≤ C2 ∧ C2 ≤ 12884574210 := by omega
          clear gC2 Ca
          go_wp2_with fail
          go_loopw [11, 83] (fun _ i wr => ∃ (k : Nat) (j : Int), k ≤ 3 ∧ j = k ∧ i = .int .i64 j ∧ Blk wr w.heap.size (.cells (p3 cl A2 B2 C2 k) 110 (0, 0)) ∧ Blk wr (w.heap.size + 1) (ob 0 0 0 110) ∧ Below w.heap.size w wr) (fun _ i _ => 3 - (intOf i).toNat)
          case atStart => exact ⟨0, 0, by omega, rfl, rfl, k1, k2, hb⟩
          case round =>
            clear k1 k2 hb
            obtain ⟨k, j, hk, hj, rfl, k1, k2, hb⟩ := hrel
            obtain rfl | rfl | rfl | rfl : k = 0 ∨ k = 1 ∨ k = 2 ∨ k = 3 := by omega
            · obtain rfl : j = 0 := hj
              replace k1 : Blk wr w.heap.size (ob A2 B2 C2 110) := k1
              have c1 := k1.c3
              go_wp2_with fail
              refine (unit_bb _ _).mono ?_
              rintro e w' ⟨rfl, rfl⟩
              go_wp2_with fail
              go_roundw
              case rel => exact ⟨1, 1, by omega, rfl, rfl, (k1.set1 0 _ (by simp) rfl), k2.other (by simp) _, hb.setCell (Nat.le_refl _) _⟩
              case measure => simp [intOf]
            · obtain rfl : j = 1 := hj
              replace k1 : Blk wr w.heap.size (ob (cl A2) B2 C2 110) := k1
              have c1 := k1.c3
              go_wp2_with fail
              refine (unit_bb _ _).mono ?_
              rintro e w' ⟨rfl, rfl⟩
              go_wp2_with fail
              go_roundw
              case rel => exact ⟨2, 2, by omega, rfl, rfl, (k1.set1 1 _ (by simp) rfl), k2.other (by simp) _, hb.setCell (Nat.le_refl _) _⟩
              case measure => simp [intOf]
            · obtain rfl : j = 2 := hj
              replace k1 : Blk wr w.heap.size (ob (cl A2) (cl B2) C2 110) := k1
              have c1 := k1.c3
              go_wp2_with fail
              refine (unit_bb _ _).mono ?_
              rintro e w' ⟨rfl, rfl⟩
              go_wp2_with fail
              go_roundw
              case rel => exact ⟨3, 3, by omega, rfl, rfl, (k1.set1 2 _ (by simp) rfl), k2.other (by simp) _, hb.setCell (Nat.le_refl _) _⟩
              case measure => simp [intOf]
            · obtain rfl : j = 3 := hj
              clear hk
              replace k1 : Blk wr w.heap.size (ob (cl A2) (cl B2) (cl C2) 110) := k1
              have c1 := k1.c3
              have c2 := k2.c3
              go_wp2_with fail
              refine end3 hb k2 (by omega) (fun w3 e => by simp [results, Tryz.results137, go_sem, e]) rfl (fun w3 hb3 => ⟨by rw [RA.out, if_neg (by omega), if_pos (by omega), GA.out]; rw [RB.out, if_neg (by omega), if_pos (by omega), GB.out]; rw [RC.out, if_neg (by omega), if_pos (by omega), GC.out], hb3⟩)

set_option maxRecDepth 100000 in
set_option maxHeartbeats 2000000 in
theorem setLum2 (a b c l : Int) (w : World) (ha : U a) (hb0 : U b) (hc : U c) (hl : U l) (hn : ¬ mn3 (a + (l - lumU a b c)) (b + (l - lumU a b c)) (c + (l - lumU a b c)) < 0) (hx : 65535 < mx3 (a + (l - lumU a b c)) (b + (l - lumU a b c)) (c + (l - lumU a b c))) :
    Calls Tryz.prog 137 #[cv a b c, .int .i64 l] w fun e w' => e = .returned (cv (slF a b c l a) (slF a b c l b) (slF a b c l c)) ∧ Below w.heap.size w w' := by
  have hd0 := lumU_bd a b c ha hb0 hc
  have HR : Hid (slF a b c l a = _ ∧ slF a b c l b = _ ∧ slF a b c l c = _) := ⟨slF_eq a b c l a, slF_eq a b c l b, slF_eq a b c l c⟩
  generalize slF a b c l a = ra at *
  generalize slF a b c l b = rb at *
  generalize slF a b c l c = rc at *
  go_enter Tryz.func137, Tryz.ntmps137
  go_wp2_with fail
  refine callName2 (fun W k1 k2 hb => ?_)
  refine (lum_any _ _ _ _ ha hb0 hc).mono ?_
  rintro e W1 ⟨rfl, hS⟩
  replace k1 := k1.kept hS
  replace k2 := k2.kept hS
  replace hb := hb.trans (hS.mono hb.size)
  clear hS
  generalize lumU a b c = lm at *
  unfold U at ha hb0 hc hl hd0
  have hd : -65535 ≤ l - lm ∧ l - lm ≤ 65535 := by omega
  generalize hd' : l - lm = d at *
  have HD := Lib.hid hd'
  clear hd'
  go_wp2_with fail
  rw [HD.out]
  go_loopw [6, 16] (fun _ i wr => ∃ (k : Nat) (j : Int), k ≤ 3 ∧ j = k ∧ i = .int .i64 j ∧ Blk wr w.heap.size (.cells (p3 (fun v => v + d) a b c k) 110 (0, 0)) ∧ Blk wr (w.heap.size + 1) (ob 0 0 0 110) ∧ Below w.heap.size w wr) (fun _ i _ => 3 - (intOf i).toNat)
  case atStart => exact ⟨0, 0, by omega, rfl, rfl, k1, k2, hb⟩
  case round =>
    clear k1 k2 hb
    obtain ⟨k, j, hk, hj, rfl, k1, k2, hb⟩ := hrel
    obtain rfl | rfl | rfl | rfl : k = 0 ∨ k = 1 ∨ k = 2 ∨ k = 3 := by omega
    · obtain rfl : j = 0 := hj
      replace k1 : Blk wr w.heap.size (ob a b c 110) := k1
      have c1 := k1.c3
      go_wp2_with fail
      go_roundw
      case rel => exact ⟨1, 1, by omega, rfl, rfl, (k1.set1 0 _ (by simp) rfl), k2.other (by simp) _, hb.setCell (Nat.le_refl _) _⟩
      case measure => simp [intOf]
    · obtain rfl : j = 1 := hj
      replace k1 : Blk wr w.heap.size (ob (a + d) b c 110) := k1
      have c1 := k1.c3
      go_wp2_with fail
      go_roundw
      case rel => exact ⟨2, 2, by omega, rfl, rfl, (k1.set1 1 _ (by simp) rfl), k2.other (by simp) _, hb.setCell (Nat.le_refl _) _⟩
      case measure => simp [intOf]
    · obtain rfl : j = 2 := hj
      replace k1 : Blk wr w.heap.size (ob (a + d) (b + d) c 110) := k1
      have c1 := k1.c3
      go_wp2_with fail
      go_roundw
      case rel => exact ⟨3, 3, by omega, rfl, rfl, (k1.set1 2 _ (by simp) rfl), k2.other (by simp) _, hb.setCell (Nat.le_refl _) _⟩
      case measure => simp [intOf]
    · obtain rfl : j = 3 := hj
      clear hk
      replace k1 : Blk wr w.heap.size (ob (a + d) (b + d) (c + d) 110) := k1
      generalize gA : a + d = A at *
      generalize gB : b + d = B at *
      generalize gC : c + d = C at *
      have hA : -65535 ≤ A ∧ A ≤ 131070 := by omega
      have hB : -65535 ≤ B ∧ B ≤ 131070 := by omega
      have hC : -65535 ≤ C ∧ C ≤ 131070 := by omega
      clear gA gB gC
      go_wp2_with fail
      obtain ⟨W5, hW5⟩ : ∃ W5 : World, W5 = wr := ⟨_, rfl⟩
      rw [← hW5] at k1 k2 hb ⊢
      clear hW5
      refine wp_region_grow 16 (fun w' => Below (World.heap W5).size W5 w') (by kernel_rfl) (by kernel_rfl) (Below.refl _ _).drew ?_
      simp only [List.take_succ_cons, List.take_zero, List.drop_succ_cons, List.drop_zero]
      repeat (first | (apply wpG_on; rfl; (intro w' hS K hK; have hc0 := (k1.kept hS).c3; have hc1 := (k2.kept hS).c3; go_simp; (first | exact hK.out _ hS)); simp only [Act.put, List.setIfInBounds_toArray, List.set_cons_succ, List.set_cons_zero]) | (apply wpG_off; rfl; simp only [Act.put, List.setIfInBounds_toArray, List.set_cons_succ, List.set_cons_zero]))
      apply wpG_nil
      intro W6 hS
      replace k1 := k1.kept hS
      replace k2 := k2.kept hS
      replace hb := hb.trans (hS.mono hb.size)
      clear hS
      have RA := Lib.hid (HR.out.1)
      have RB := Lib.hid (HR.out.2.1)
      have RC := Lib.hid (HR.out.2.2)
      clear HR
      have hnb : -65535 ≤ mn3 A B C := by unfold mn3; omega
      have hxb : mx3 A B C ≤ 131070 := by unfold mx3; omega
      generalize mn3 A B C = n at *
      generalize mx3 A B C = x at *
      have b1 : decide (n < 0) = false := by simpa using hn
      have b2 : decide (65535 < x) = true := by simpa using hx
      go_wp2_with fail
      have Ab := slB_bd x l A hl hx (by omega) (by omega)
      have Bb := slB_bd x l B hl hx (by omega) (by omega)
      have Cb := slB_bd x l C hl hx (by omega) (by omega)
      go_loopw [10, 63] (fun _ i wr => ∃ (k : Nat) (j : Int), k ≤ 3 ∧ j = k ∧ i = .int .i64 j ∧ Blk wr w.heap.size (.cells (p3 (fun v => l + dv ((v - l) * (65535 - l)) (x - l)) A B C k) 110 (0, 0)) ∧ Blk wr (w.heap.size + 1) (ob 0 0 0 110) ∧ Below w.heap.size w wr) (fun _ i _ => 3 - (intOf i).toNat)
      case atStart => exact ⟨0, 0, by omega, rfl, rfl, k1, k2, hb⟩
      case round =>
        clear k1 k2 hb
        obtain ⟨k, j, hk, hj, rfl, k1, k2, hb⟩ := hrel
        obtain rfl | rfl | rfl | rfl : k = 0 ∨ k = 1 ∨ k = 2 ∨ k = 3 := by omega
        · obtain rfl : j = 0 := hj
          replace k1 : Blk wr w.heap.size (ob A B C 110) := k1
          have c1 := k1.c3
          go_wp2_with fail
          refine (div_any _ _ _ (by omega) (by omega) (by omega) (by omega)).mono ?_
          rintro e w' ⟨rfl, rfl⟩
          go_wp2_with fail
          go_roundw
          case rel => exact ⟨1, 1, by omega, rfl, rfl, (k1.set1 0 _ (by simp) rfl), k2.other (by simp) _, hb.setCell (Nat.le_refl _) _⟩
          case measure => simp [intOf]
        · obtain rfl : j = 1 := hj
          replace k1 : Blk wr w.heap.size (ob (l + dv ((A - l) * (65535 - l)) (x - l)) B C 110) := k1
          have c1 := k1.c3
          go_wp2_with fail
          refine (div_any _ _ _ (by omega) (by omega) (by omega) (by omega)).mono ?_
          rintro e w' ⟨rfl, rfl⟩
          go_wp2_with fail
          go_roundw
          case rel => exact ⟨2, 2, by omega, rfl, rfl, (k1.set1 1 _ (by simp) rfl), k2.other (by simp) _, hb.setCell (Nat.le_refl _) _⟩
          case measure => simp [intOf]
        · obtain rfl : j = 2 := hj
          replace k1 : Blk wr w.heap.size (ob (l + dv ((A - l) * (65535 - l)) (x - l)) (l + dv ((B - l) * (65535 - l)) (x - l)) C 110) := k1
          have c1 := k1.c3
          go_wp2_with fail
          refine (div_any _ _ _ (by omega) (by omega) (by omega) (by omega)).mono ?_
          rintro e w' ⟨rfl, rfl⟩
          go_wp2_with fail
          go_roundw
          case rel => exact ⟨3, 3, by omega, rfl, rfl, (k1.set1 2 _ (by simp) rfl), k2.other (by simp) _, hb.setCell (Nat.le_refl _) _⟩
          case measure => simp [intOf]
        · obtain rfl : j = 3 := hj
          clear hk
          replace k1 : Blk wr w.heap.size (ob (l + dv ((A - l) * (65535 - l)) (x - l)) (l + dv ((B - l) * (65535 - l)) (x - l)) (l + dv ((C - l) * (65535 - l)) (x - l)) 110) := k1
          generalize gA3 : l + dv ((A - l) * (65535 - l)) (x - l) = A3 at *
          have KA : Hid (slB x l A = A3) := gA3
          clear gA3 Ab
          generalize gB3 : l + dv ((B - l) * (65535 - l)) (x - l) = B3 at *
          have KB : Hid (slB x l B = B3) := gB3
          clear gB3 Bb
          generalize gC3 : l + dv ((C - l) * (65535 - l)) (x - l) = C3 at *
          have KC : Hid (slB x l C = C3) := gC3
          clear gC3 Cb
          go_wp2_with fail
          go_loopw [11, 83] (fun _ i wr => ∃ (k : Nat) (j : Int), k ≤ 3 ∧ j = k ∧ i = .int .i64 j ∧ Blk wr w.heap.size (.cells (p3 cl A3 B3 C3 k) 110 (0, 0)) ∧ Blk wr (w.heap.size + 1) (ob 0 0 0 110) ∧ Below w.heap.size w wr) (fun _ i _ => 3 - (intOf i).toNat)
          case atStart => exact ⟨0, 0, by omega, rfl, rfl, k1, k2, hb⟩
          case round =>
            clear k1 k2 hb
            obtain ⟨k, j, hk, hj, rfl, k1, k2, hb⟩ := hrel
            obtain rfl | rfl | rfl | rfl : k = 0 ∨ k = 1 ∨ k = 2 ∨ k = 3 := by omega
            · obtain rfl : j = 0 := hj
              replace k1 : Blk wr w.heap.size (ob A3 B3 C3 110) := k1
              have c1 := k1.c3
              go_wp2_with fail
              refine (unit_bb _ _).mono ?_
              rintro e w' ⟨rfl, rfl⟩
              go_wp2_with fail
              go_roundw
              case rel => exact ⟨1, 1, by omega, rfl, rfl, (k1.set1 0 _ (by simp) rfl), k2.other (by simp) _, hb.setCell (Nat.le_refl _) _⟩
              case measure => simp [intOf]
            · obtain rfl : j = 1 := hj
              replace k1 : Blk wr w.heap.size (ob (cl A3) B3 C3 110) := k1
              have c1 := k1.c3
              go_wp2_with fail
              refine (unit_bb _ _).mono ?_
              rintro e w' ⟨rfl, rfl⟩
              go_wp2_with fail
              go_roundw
              case rel => exact ⟨2, 2, by omega, rfl, rfl, (k1.set1 1 _ (by simp) rfl), k2.other (by simp) _, hb.setCell (Nat.le_refl _) _⟩
              case measure => simp [intOf]
            · obtain rfl : j = 2 := hj
              replace k1 : Blk wr w.heap.size (ob (cl A3) (cl B3) C3 110) := k1
              have c1 := k1.c3
              go_wp2_with fail
              refine (unit_bb _ _).mono ?_
              rintro e w' ⟨rfl, rfl⟩
              go_wp2_with fail
              go_roundw
              case rel => exact ⟨3, 3, by omega, rfl, rfl, (k1.set1 2 _ (by simp) rfl), k2.other (by simp) _, hb.setCell (Nat.le_refl _) _⟩
              case measure => simp [intOf]
            · obtain rfl : j = 3 := hj
              clear hk
              replace k1 : Blk wr w.heap.size (ob (cl A3) (cl B3) (cl C3) 110) := k1
              have c1 := k1.c3
              have c2 := k2.c3
              go_wp2_with fail
              refine end3 hb k2 (by omega) (fun w3 e => by simp [results, Tryz.results137, go_sem, e]) rfl (fun w3 hb3 => ⟨by rw [RA.out, if_pos (by omega), if_neg (by omega), KA.out]; rw [RB.out, if_pos (by omega), if_neg (by omega), KB.out]; rw [RC.out, if_pos (by omega), if_neg (by omega), KC.out], hb3⟩)

set_option maxRecDepth 100000 in
set_option maxHeartbeats 2000000 in
theorem setLum3 (a b c l : Int) (w : World) (ha : U a) (hb0 : U b) (hc : U c) (hl : U l) (hn : mn3 (a + (l - lumU a b c)) (b + (l - lumU a b c)) (c + (l - lumU a b c)) < 0) (hx : 65535 < mx3 (a + (l - lumU a b c)) (b + (l - lumU a b c)) (c + (l - lumU a b c))) :
    Calls Tryz.prog 137 #[cv a b c, .int .i64 l] w fun e w' => e = .returned (cv (slF a b c l a) (slF a b c l b) (slF a b c l c)) ∧ Below w.heap.size w w' := by
  have hd0 := lumU_bd a b c ha hb0 hc
  have HR : Hid (slF a b c l a = _ ∧ slF a b c l b = _ ∧ slF a b c l c = _) := ⟨slF_eq a b c l a, slF_eq a b c l b, slF_eq a b c l c⟩
  generalize slF a b c l a = ra at *
  generalize slF a b c l b = rb at *
  generalize slF a b c l c = rc at *
  go_enter Tryz.func137, Tryz.ntmps137
  go_wp2_with fail
  refine callName2 (fun W k1 k2 hb => ?_)
  refine (lum_any _ _ _ _ ha hb0 hc).mono ?_
  rintro e W1 ⟨rfl, hS⟩
  replace k1 := k1.kept hS
  replace k2 := k2.kept hS
  replace hb := hb.trans (hS.mono hb.size)
  clear hS
  generalize lumU a b c = lm at *
  unfold U at ha hb0 hc hl hd0
  have hd : -65535 ≤ l - lm ∧ l - lm ≤ 65535 := by omega
  generalize hd' : l - lm = d at *
  have HD := Lib.hid hd'
  clear hd'
  go_wp2_with fail
  rw [HD.out]
  go_loopw [6, 16] (fun _ i wr => ∃ (k : Nat) (j : Int), k ≤ 3 ∧ j = k ∧ i = .int .i64 j ∧ Blk wr w.heap.size (.cells (p3 (fun v => v + d) a b c k) 110 (0, 0)) ∧ Blk wr (w.heap.size + 1) (ob 0 0 0 110) ∧ Below w.heap.size w wr) (fun _ i _ => 3 - (intOf i).toNat)
  case atStart => exact ⟨0, 0, by omega, rfl, rfl, k1, k2, hb⟩
  case round =>
    clear k1 k2 hb
    obtain ⟨k, j, hk, hj, rfl, k1, k2, hb⟩ := hrel
    obtain rfl | rfl | rfl | rfl : k = 0 ∨ k = 1 ∨ k = 2 ∨ k = 3 := by omega
    · obtain rfl : j = 0 := hj
      replace k1 : Blk wr w.heap.size (ob a b c 110) := k1
      have c1 := k1.c3
      go_wp2_with fail
      go_roundw
      case rel => exact ⟨1, 1, by omega, rfl, rfl, (k1.set1 0 _ (by simp) rfl), k2.other (by simp) _, hb.setCell (Nat.le_refl _) _⟩
      case measure => simp [intOf]
    · obtain rfl : j = 1 := hj
      replace k1 : Blk wr w.heap.size (ob (a + d) b c 110) := k1
      have c1 := k1.c3
      go_wp2_with fail
      go_roundw
      case rel => exact ⟨2, 2, by omega, rfl, rfl, (k1.set1 1 _ (by simp) rfl), k2.other (by simp) _, hb.setCell (Nat.le_refl _) _⟩
      case measure => simp [intOf]
    · obtain rfl : j = 2 := hj
      replace k1 : Blk wr w.heap.size (ob (a + d) (b + d) c 110) := k1
      have c1 := k1.c3
      go_wp2_with fail
      go_roundw
      case rel => exact ⟨3, 3, by omega, rfl, rfl, (k1.set1 2 _ (by simp) rfl), k2.other (by simp) _, hb.setCell (Nat.le_refl _) _⟩
      case measure => simp [intOf]
    · obtain rfl : j = 3 := hj
      clear hk
      replace k1 : Blk wr w.heap.size (ob (a + d) (b + d) (c + d) 110) := k1
      generalize gA : a + d = A at *
      generalize gB : b + d = B at *
      generalize gC : c + d = C at *
      have hA : -65535 ≤ A ∧ A ≤ 131070 := by omega
      have hB : -65535 ≤ B ∧ B ≤ 131070 := by omega
      have hC : -65535 ≤ C ∧ C ≤ 131070 := by omega
      clear gA gB gC
      go_wp2_with fail
      obtain ⟨W5, hW5⟩ : ∃ W5 : World, W5 = wr := ⟨_, rfl⟩
      rw [← hW5] at k1 k2 hb ⊢
      clear hW5
      refine wp_region_grow 16 (fun w' => Below (World.heap W5).size W5 w') (by kernel_rfl) (by kernel_rfl) (Below.refl _ _).drew ?_
      simp only [List.take_succ_cons, List.take_zero, List.drop_succ_cons, List.drop_zero]
      repeat (first | (apply wpG_on; rfl; (intro w' hS K hK; have hc0 := (k1.kept hS).c3; have hc1 := (k2.kept hS).c3; go_simp; (first | exact hK.out _ hS)); simp only [Act.put, List.setIfInBounds_toArray, List.set_cons_succ, List.set_cons_zero]) | (apply wpG_off; rfl; simp only [Act.put, List.setIfInBounds_toArray, List.set_cons_succ, List.set_cons_zero]))
      apply wpG_nil
      intro W6 hS
      replace k1 := k1.kept hS
      replace k2 := k2.kept hS
      replace hb := hb.trans (hS.mono hb.size)
      clear hS
      have RA := Lib.hid (HR.out.1)
      have RB := Lib.hid (HR.out.2.1)
      have RC := Lib.hid (HR.out.2.2)
      clear HR
      have hnb : -65535 ≤ mn3 A B C := by unfold mn3; omega
      have hxb : mx3 A B C ≤ 131070 := by unfold mx3; omega
      generalize mn3 A B C = n at *
      generalize mx3 A B C = x at *
      have b1 : decide (n < 0) = true := by simpa using hn
      have b2 : decide (65535 < x) = true := by simpa using hx
      go_wp2_with fail
      have Aa := slA_bd n l A hl hn (by omega) (by omega)
      have Ba := slA_bd n l B hl hn (by omega) (by omega)
      have Ca := slA_bd n l C hl hn (by omega) (by omega)
      go_loopw [9, 42] (fun _ i wr => ∃ (k : Nat) (j : Int), k ≤ 3 ∧ j = k ∧ i = .int .i64 j ∧ Blk wr w.heap.size (.cells (p3 (fun v => l + dv ((v - l) * l) (l - n)) A B C k) 110 (0, 0)) ∧ Blk wr (w.heap.size + 1) (ob 0 0 0 110) ∧ Below w.heap.size w wr) (fun _ i _ => 3 - (intOf i).toNat)
      case atStart => exact ⟨0, 0, by omega, rfl, rfl, k1, k2, hb⟩
      case round =>
        clear k1 k2 hb
        obtain ⟨k, j, hk, hj, rfl, k1, k2, hb⟩ := hrel
        obtain rfl | rfl | rfl | rfl : k = 0 ∨ k = 1 ∨ k = 2 ∨ k = 3 := by omega
        · obtain rfl : j = 0 := hj
          replace k1 : Blk wr w.heap.size (ob A B C 110) := k1
          have c1 := k1.c3
          go_wp2_with fail
          refine (div_any _ _ _ (by omega) (by omega) (by omega) (by omega)).mono ?_
          rintro e w' ⟨rfl, rfl⟩
          go_wp2_with fail
          go_roundw
          case rel => exact ⟨1, 1, by omega, rfl, rfl, (k1.set1 0 _ (by simp) rfl), k2.other (by simp) _, hb.setCell (Nat.le_refl _) _⟩
          case measure => simp [intOf]
        · obtain rfl : j = 1 := hj
          replace k1 : Blk wr w.heap.size (ob (l + dv ((A - l) * l) (l - n)) B C 110) := k1
          have c1 := k1.c3
          go_wp2_with fail
          refine (div_any _ _ _ (by omega) (by omega) (by omega) (by omega)).mono ?_
          rintro e w' ⟨rfl, rfl⟩
          go_wp2_with fail
          go_roundw
          case rel => exact ⟨2, 2, by omega, rfl, rfl, (k1.set1 1 _ (by simp) rfl), k2.other (by simp) _, hb.setCell (Nat.le_refl _) _⟩
          case measure => simp [intOf]
        · obtain rfl : j = 2 := hj
          replace k1 : Blk wr w.heap.size (ob (l + dv ((A - l) * l) (l - n)) (l + dv ((B - l) * l) (l - n)) C 110) := k1
          have c1 := k1.c3
          go_wp2_with fail
          refine (div_any _ _ _ (by omega) (by omega) (by omega) (by omega)).mono ?_
          rintro e w' ⟨rfl, rfl⟩
          go_wp2_with fail
          go_roundw
          case rel => exact ⟨3, 3, by omega, rfl, rfl, (k1.set1 2 _ (by simp) rfl), k2.other (by simp) _, hb.setCell (Nat.le_refl _) _⟩
          case measure => simp [intOf]
        · obtain rfl : j = 3 := hj
          clear hk
          replace k1 : Blk wr w.heap.size (ob (l + dv ((A - l) * l) (l - n)) (l + dv ((B - l) * l) (l - n)) (l + dv ((C - l) * l) (l - n)) 110) := k1
          generalize gA2 : l + dv ((A - l) * l) (l - n) = A2 at *
          have GA : Hid (slA n l A = A2) := gA2
          have A2r : -12884508675 ≤ A2 ∧ A2 ≤ 12884574210 := by omega
          clear gA2 Aa
          generalize gB2 : l + dv ((B - l) * l) (l - n) = B2 at *
          have GB : Hid (slA n l B = B2) := gB2
          have B2r : -12884508675 ≤ B2 ∧ B2 ≤ 12884574210 := by omega
          clear gB2 Ba
          generalize gC2 : l + dv ((C - l) * l) (l - n) = C2 at *
          have GC : Hid (slA n l C = C2) := gC2
          have C2r : -12884508675 ≤ C2 ∧ C2 ≤ 12884574210 := by omega
          clear gC2 Ca
          go_wp2_with fail
          have A2b := slB_bd x l A2 hl hx (by omega) (by omega)
          have B2b := slB_bd x l B2 hl hx (by omega) (by omega)
          have C2b := slB_bd x l C2 hl hx (by omega) (by omega)
          go_loopw [10, 63] (fun _ i wr => ∃ (k : Nat) (j : Int), k ≤ 3 ∧ j = k ∧ i = .int .i64 j ∧ Blk wr w.heap.size (.cells (p3 (fun v => l + dv ((v - l) * (65535 - l)) (x - l)) A2 B2 C2 k) 110 (0, 0)) ∧ Blk wr (w.heap.size + 1) (ob 0 0 0 110) ∧ Below w.heap.size w wr) (fun _ i _ => 3 - (intOf i).toNat)
          case atStart => exact ⟨0, 0, by omega, rfl, rfl, k1, k2, hb⟩
          case round =>
            clear k1 k2 hb
            obtain ⟨k, j, hk, hj, rfl, k1, k2, hb⟩ := hrel
            obtain rfl | rfl | rfl | rfl : k = 0 ∨ k = 1 ∨ k = 2 ∨ k = 3 := by omega
            · obtain rfl : j = 0 := hj
              replace k1 : Blk wr w.heap.size (ob A2 B2 C2 110) := k1
              have c1 := k1.c3
              go_wp2_with fail
              refine (div_any _ _ _ (by omega) (by omega) (by omega) (by omega)).mono ?_
              rintro e w' ⟨rfl, rfl⟩
              go_wp2_with fail
              go_roundw
              case rel => exact ⟨1, 1, by omega, rfl, rfl, (k1.set1 0 _ (by simp) rfl), k2.other (by simp) _, hb.setCell (Nat.le_refl _) _⟩
              case measure => simp [intOf]
            · obtain rfl : j = 1 := hj
              replace k1 : Blk wr w.heap.size (ob (l + dv ((A2 - l) * (65535 - l)) (x - l)) B2 C2 110) := k1
              have c1 := k1.c3
              go_wp2_with fail
              refine (div_any _ _ _ (by omega) (by omega) (by omega) (by omega)).mono ?_
              rintro e w' ⟨rfl, rfl⟩
              go_wp2_with fail
              go_roundw
              case rel => exact ⟨2, 2, by omega, rfl, rfl, (k1.set1 1 _ (by simp) rfl), k2.other (by simp) _, hb.setCell (Nat.le_refl _) _⟩
              case measure => simp [intOf]
            · obtain rfl : j = 2 := hj
              replace k1 : Blk wr w.heap.size (ob (l + dv ((A2 - l) * (65535 - l)) (x - l)) (l + dv ((B2 - l) * (65535 - l)) (x - l)) C2 110) := k1
              have c1 := k1.c3
              go_wp2_with fail
              refine (div_any _ _ _ (by omega) (by omega) (by omega) (by omega)).mono ?_
              rintro e w' ⟨rfl, rfl⟩
              go_wp2_with fail
              go_roundw
              case rel => exact ⟨3, 3, by omega, rfl, rfl, (k1.set1 2 _ (by simp) rfl), k2.other (by simp) _, hb.setCell (Nat.le_refl _) _⟩
              case measure => simp [intOf]
            · obtain rfl : j = 3 := hj
              clear hk
              replace k1 : Blk wr w.heap.size (ob (l + dv ((A2 - l) * (65535 - l)) (x - l)) (l + dv ((B2 - l) * (65535 - l)) (x - l)) (l + dv ((C2 - l) * (65535 - l)) (x - l)) 110) := k1
              generalize gA3 : l + dv ((A2 - l) * (65535 - l)) (x - l) = A3 at *
              have KA : Hid (slB x l A2 = A3) := gA3
              clear gA3 A2b
              generalize gB3 : l + dv ((B2 - l) * (65535 - l)) (x - l) = B3 at *
              have KB : Hid (slB x l B2 = B3) := gB3
              clear gB3 B2b
              generalize gC3 : l + dv ((C2 - l) * (65535 - l)) (x - l) = C3 at *
              have KC : Hid (slB x l C2 = C3) := gC3
              clear gC3 C2b
              go_wp2_with fail
              go_loopw [11, 83] (fun _ i wr => ∃ (k : Nat) (j : Int), k ≤ 3 ∧ j = k ∧ i = .int .i64 j ∧ Blk wr w.heap.size (.cells (p3 cl A3 B3 C3 k) 110 (0, 0)) ∧ Blk wr (w.heap.size + 1) (ob 0 0 0 110) ∧ Below w.heap.size w wr) (fun _ i _ => 3 - (intOf i).toNat)
              case atStart => exact ⟨0, 0, by omega, rfl, rfl, k1, k2, hb⟩
              case round =>
                clear k1 k2 hb
                obtain ⟨k, j, hk, hj, rfl, k1, k2, hb⟩ := hrel
                obtain rfl | rfl | rfl | rfl : k = 0 ∨ k = 1 ∨ k = 2 ∨ k = 3 := by omega
                · obtain rfl : j = 0 := hj
                  replace k1 : Blk wr w.heap.size (ob A3 B3 C3 110) := k1
                  have c1 := k1.c3
                  go_wp2_with fail
                  refine (unit_bb _ _).mono ?_
                  rintro e w' ⟨rfl, rfl⟩
                  go_wp2_with fail
                  go_roundw
                  case rel => exact ⟨1, 1, by omega, rfl, rfl, (k1.set1 0 _ (by simp) rfl), k2.other (by simp) _, hb.setCell (Nat.le_refl _) _⟩
                  case measure => simp [intOf]
                · obtain rfl : j = 1 := hj
                  replace k1 : Blk wr w.heap.size (ob (cl A3) B3 C3 110) := k1
                  have c1 := k1.c3
                  go_wp2_with fail
                  refine (unit_bb _ _).mono ?_
                  rintro e w' ⟨rfl, rfl⟩
                  go_wp2_with fail
                  go_roundw
                  case rel => exact ⟨2, 2, by omega, rfl, rfl, (k1.set1 1 _ (by simp) rfl), k2.other (by simp) _, hb.setCell (Nat.le_refl _) _⟩
                  case measure => simp [intOf]
                · obtain rfl : j = 2 := hj
                  replace k1 : Blk wr w.heap.size (ob (cl A3) (cl B3) C3 110) := k1
                  have c1 := k1.c3
                  go_wp2_with fail
                  refine (unit_bb _ _).mono ?_
                  rintro e w' ⟨rfl, rfl⟩
                  go_wp2_with fail
                  go_roundw
                  case rel => exact ⟨3, 3, by omega, rfl, rfl, (k1.set1 2 _ (by simp) rfl), k2.other (by simp) _, hb.setCell (Nat.le_refl _) _⟩
                  case measure => simp [intOf]
                · obtain rfl : j = 3 := hj
                  clear hk
                  replace k1 : Blk wr w.heap.size (ob (cl A3) (cl B3) (cl C3) 110) := k1
                  have c1 := k1.c3
                  have c2 := k2.c3
                  go_wp2_with fail
                  refine end3 hb k2 (by omega) (fun w3 e => by simp [results, Tryz.results137, go_sem, e]) rfl (fun w3 hb3 => ⟨by rw [RA.out, if_pos (by omega), if_pos (by omega), GA.out, KA.out]; rw [RB.out, if_pos (by omega), if_pos (by omega), GB.out, KB.out]; rw [RC.out, if_pos (by omega), if_pos (by omega), GC.out, KC.out], hb3⟩)

theorem setLum_any (a b c l : Int) (w : World) (ha : U a) (hb0 : U b) (hc : U c) (hl : U l) :
    Calls Tryz.prog 137 #[cv a b c, .int .i64 l] w fun e w' => e = .returned (cv (slF a b c l a) (slF a b c l b) (slF a b c l c)) ∧ Below w.heap.size w w' := by
  by_cases hn : mn3 (a + (l - lumU a b c)) (b + (l - lumU a b c)) (c + (l - lumU a b c)) < 0
  · by_cases hx : 65535 < mx3 (a + (l - lumU a b c)) (b + (l - lumU a b c)) (c + (l - lumU a b c))
    · exact setLum3 a b c l w ha hb0 hc hl hn hx
    · exact setLum1 a b c l w ha hb0 hc hl hn hx
  · by_cases hx : 65535 < mx3 (a + (l - lumU a b c)) (b + (l - lumU a b c)) (c + (l - lumU a b c))
    · exact setLum2 a b c l w ha hb0 hc hl hn hx
    · exact setLum0 a b c l w ha hb0 hc hl hn hx
end Go.Proofs.YtieacbccadbdbaaGreatDoor


/- The walks of the colors of package blend's reference: setLum. -/
namespace Go.Proofs.YtieacbccadbdbaaGreatDoor
open Go.RowKit
set_option linter.unusedVariables false
attribute [local go_sem] Oper.gAt gUponK
attribute [local go_sem high] run_min3 run_max3

set_option maxRecDepth 100000 in
set_option maxHeartbeats 2000000 in
theorem refsetLum0 (a b c l : Int) (w : World) (ha : U a) (hb0 : U b) (hc : U c) (hl : U l) (hn : ¬ mn3 (a + (l - lumU a b c)) (b + (l - lumU a b c)) (c + (l - lumU a b c)) < 0) (hx : ¬ 65535 < mx3 (a + (l - lumU a b c)) (b + (l - lumU a b c)) (c + (l - lumU a b c))) :
    Calls Tryz.prog 109 #[cv a b c, .int .i64 l] w fun e w' => e = .returned (cv (slF a b c l a) (slF a b c l b) (slF a b c l c)) ∧ Below w.heap.size w w' := by
  have hd0 := lumU_bd a b c ha hb0 hc
  have HR : Hid (slF a b c l a = _ ∧ slF a b c l b = _ ∧ slF a b c l c = _) := ⟨slF_eq a b c l a, slF_eq a b c l b, slF_eq a b c l c⟩
  generalize slF a b c l a = ra at *
  generalize slF a b c l b = rb at *
  generalize slF a b c l c = rc at *
  go_enter Tryz.func109, Tryz.ntmps109
  go_wp2_with fail
  refine callName2 (fun W k1 k2 hb => ?_)
  refine (reflum_any _ _ _ _ ha hb0 hc).mono ?_
  rintro e W1 ⟨rfl, hS⟩
  replace k1 := k1.kept hS
  replace k2 := k2.kept hS
  replace hb := hb.trans (hS.mono hb.size)
  clear hS
  generalize lumU a b c = lm at *
  unfold U at ha hb0 hc hl hd0
  have hd : -65535 ≤ l - lm ∧ l - lm ≤ 65535 := by omega
  generalize hd' : l - lm = d at *
  have HD := Lib.hid hd'
  clear hd'
  go_wp2_with fail
  rw [HD.out]
  go_loopw [6] (fun i wr => ∃ (k : Nat) (j : Int), k ≤ 3 ∧ j = k ∧ i = .int .i64 j ∧ Blk wr w.heap.size (.cells (p3 (fun v => v + d) a b c k) 109 (0, 0)) ∧ Blk wr (w.heap.size + 1) (ob 0 0 0 109) ∧ Below w.heap.size w wr) (fun i _ => 3 - (intOf i).toNat)
  case atStart => exact ⟨0, 0, by omega, rfl, rfl, k1, k2, hb⟩
  case round =>
    clear k1 k2 hb
    obtain ⟨k, j, hk, hj, rfl, k1, k2, hb⟩ := hrel
    obtain rfl | rfl | rfl | rfl : k = 0 ∨ k = 1 ∨ k = 2 ∨ k = 3 := by omega
    · obtain rfl : j = 0 := hj
      replace k1 : Blk wr w.heap.size (ob a b c 109) := k1
      have c1 := k1.c3
      go_wp2_with fail
      go_roundw
      case rel => exact ⟨1, 1, by omega, rfl, rfl, (k1.set1 0 _ (by simp) rfl), k2.other (by simp) _, hb.setCell (Nat.le_refl _) _⟩
      case measure => simp [intOf]
    · obtain rfl : j = 1 := hj
      replace k1 : Blk wr w.heap.size (ob (a + d) b c 109) := k1
      have c1 := k1.c3
      go_wp2_with fail
      go_roundw
      case rel => exact ⟨2, 2, by omega, rfl, rfl, (k1.set1 1 _ (by simp) rfl), k2.other (by simp) _, hb.setCell (Nat.le_refl _) _⟩
      case measure => simp [intOf]
    · obtain rfl : j = 2 := hj
      replace k1 : Blk wr w.heap.size (ob (a + d) (b + d) c 109) := k1
      have c1 := k1.c3
      go_wp2_with fail
      go_roundw
      case rel => exact ⟨3, 3, by omega, rfl, rfl, (k1.set1 2 _ (by simp) rfl), k2.other (by simp) _, hb.setCell (Nat.le_refl _) _⟩
      case measure => simp [intOf]
    · obtain rfl : j = 3 := hj
      clear hk
      replace k1 : Blk wr w.heap.size (ob (a + d) (b + d) (c + d) 109) := k1
      generalize gA : a + d = A at *
      generalize gB : b + d = B at *
      generalize gC : c + d = C at *
      have hA : -65535 ≤ A ∧ A ≤ 131070 := by omega
      have hB : -65535 ≤ B ∧ B ≤ 131070 := by omega
      have hC : -65535 ≤ C ∧ C ≤ 131070 := by omega
      clear gA gB gC
      go_wp2_with fail
      obtain ⟨W5, hW5⟩ : ∃ W5 : World, W5 = wr := ⟨_, rfl⟩
      rw [← hW5] at k1 k2 hb ⊢
      clear hW5
      refine wp_region_grow 16 (fun w' => Below (World.heap W5).size W5 w') (by kernel_rfl) (by kernel_rfl) (Below.refl _ _).drew ?_
      simp only [List.take_succ_cons, List.take_zero, List.drop_succ_cons, List.drop_zero]
      repeat (first | (apply wpG_on; rfl; (intro w' hS K hK; have hc0 := (k1.kept hS).c3; have hc1 := (k2.kept hS).c3; go_simp; (first | exact hK.out _ hS)); simp only [Act.put, List.setIfInBounds_toArray, List.set_cons_succ, List.set_cons_zero]) | (apply wpG_off; rfl; simp only [Act.put, List.setIfInBounds_toArray, List.set_cons_succ, List.set_cons_zero]))
      apply wpG_nil
      intro W6 hS
      replace k1 := k1.kept hS
      replace k2 := k2.kept hS
      replace hb := hb.trans (hS.mono hb.size)
      clear hS
      have RA := Lib.hid (HR.out.1)
      have RB := Lib.hid (HR.out.2.1)
      have RC := Lib.hid (HR.out.2.2)
      clear HR
      have hnb : -65535 ≤ mn3 A B C := by unfold mn3; omega
      have hxb : mx3 A B C ≤ 131070 := by unfold mx3; omega
      generalize mn3 A B C = n at *
      generalize mx3 A B C = x at *
      have b1 : decide (n < 0) = false := by simpa using hn
      have b2 : decide (65535 < x) = false := by simpa using hx
      go_wp2_with fail
      go_loopw [11] (fun i wr => ∃ (k : Nat) (j : Int), k ≤ 3 ∧ j = k ∧ i = .int .i64 j ∧ Blk wr w.heap.size (.cells (p3 cl A B C k) 109 (0, 0)) ∧ Blk wr (w.heap.size + 1) (ob 0 0 0 109) ∧ Below w.heap.size w wr) (fun i _ => 3 - (intOf i).toNat)
      case atStart => exact ⟨0, 0, by omega, rfl, rfl, k1, k2, hb⟩
      case round =>
        clear k1 k2 hb
        obtain ⟨k, j, hk, hj, rfl, k1, k2, hb⟩ := hrel
        obtain rfl | rfl | rfl | rfl : k = 0 ∨ k = 1 ∨ k = 2 ∨ k = 3 := by omega
        · obtain rfl : j = 0 := hj
          replace k1 : Blk wr w.heap.size (ob A B C 109) := k1
          have c1 := k1.c3
          go_wp2_with fail
          refine (refUnit_n _ _).mono ?_
          rintro e w' ⟨rfl, rfl⟩
          go_wp2_with fail
          go_roundw
          case rel => exact ⟨1, 1, by omega, rfl, rfl, (k1.set1 0 _ (by simp) rfl), k2.other (by simp) _, hb.setCell (Nat.le_refl _) _⟩
          case measure => simp [intOf]
        · obtain rfl : j = 1 := hj
          replace k1 : Blk wr w.heap.size (ob (cl A) B C 109) := k1
          have c1 := k1.c3
          go_wp2_with fail
          refine (refUnit_n _ _).mono ?_
          rintro e w' ⟨rfl, rfl⟩
          go_wp2_with fail
          go_roundw
          case rel => exact ⟨2, 2, by omega, rfl, rfl, (k1.set1 1 _ (by simp) rfl), k2.other (by simp) _, hb.setCell (Nat.le_refl _) _⟩
          case measure => simp [intOf]
        · obtain rfl : j = 2 := hj
          replace k1 : Blk wr w.heap.size (ob (cl A) (cl B) C 109) := k1
          have c1 := k1.c3
          go_wp2_with fail
          refine (refUnit_n _ _).mono ?_
          rintro e w' ⟨rfl, rfl⟩
          go_wp2_with fail
          go_roundw
          case rel => exact ⟨3, 3, by omega, rfl, rfl, (k1.set1 2 _ (by simp) rfl), k2.other (by simp) _, hb.setCell (Nat.le_refl _) _⟩
          case measure => simp [intOf]
        · obtain rfl : j = 3 := hj
          clear hk
          replace k1 : Blk wr w.heap.size (ob (cl A) (cl B) (cl C) 109) := k1
          have c1 := k1.c3
          have c2 := k2.c3
          go_wp2_with fail
          refine end3 hb k2 (by omega) (fun w3 e => by simp [results, Tryz.results109, go_sem, e]) rfl (fun w3 hb3 => ⟨by rw [RA.out, if_neg (by omega), if_neg (by omega)]; rw [RB.out, if_neg (by omega), if_neg (by omega)]; rw [RC.out, if_neg (by omega), if_neg (by omega)], hb3⟩)

set_option maxRecDepth 100000 in
set_option maxHeartbeats 2000000 in
theorem refsetLum1 (a b c l : Int) (w : World) (ha : U a) (hb0 : U b) (hc : U c) (hl : U l) (hn : mn3 (a + (l - lumU a b c)) (b + (l - lumU a b c)) (c + (l - lumU a b c)) < 0) (hx : ¬ 65535 < mx3 (a + (l - lumU a b c)) (b + (l - lumU a b c)) (c + (l - lumU a b c))) :
    Calls Tryz.prog 109 #[cv a b c, .int .i64 l] w fun e w' => e = .returned (cv (slF a b c l a) (slF a b c l b) (slF a b c l c)) ∧ Below w.heap.size w w' := by
  have hd0 := lumU_bd a b c ha hb0 hc
  have HR : Hid (slF a b c l a = _ ∧ slF a b c l b = _ ∧ slF a b c l c = _) := ⟨slF_eq a b c l a, slF_eq a b c l b, slF_eq a b c l c⟩
  generalize slF a b c l a = ra at *
  generalize slF a b c l b = rb at *
  generalize slF a b c l c = rc at *
  go_enter Tryz.func109, Tryz.ntmps109
  go_wp2_with fail
  refine callName2 (fun W k1 k2 hb => ?_)
  refine (reflum_any _ _ _ _ ha hb0 hc).mono ?_
  rintro e W1 ⟨rfl, hS⟩
  replace k1 := k1.kept hS
  replace k2 := k2.kept hS
  replace hb := hb.trans (hS.mono hb.size)
  clear hS
  generalize lumU a b c = lm at *
  unfold U at ha hb0 hc hl hd0
  have hd : -65535 ≤ l - lm ∧ l - lm ≤ 65535 := by omega
  generalize hd' : l - lm = d at *
  have HD := Lib.hid hd'
  clear hd'
  go_wp2_with fail
  rw [HD.out]
  go_loopw [6] (fun i wr => ∃ (k : Nat) (j : Int), k ≤ 3 ∧ j = k ∧ i = .int .i64 j ∧ Blk wr w.heap.size (.cells (p3 (fun v => v + d) a b c k) 109 (0, 0)) ∧ Blk wr (w.heap.size + 1) (ob 0 0 0 109) ∧ Below w.heap.size w wr) (fun i _ => 3 - (intOf i).toNat)
  case atStart => exact ⟨0, 0, by omega, rfl, rfl, k1, k2, hb⟩
  case round =>
    clear k1 k2 hb
    obtain ⟨k, j, hk, hj, rfl, k1, k2, hb⟩ := hrel
    obtain rfl | rfl | rfl | rfl : k = 0 ∨ k = 1 ∨ k = 2 ∨ k = 3 := by omega
    · obtain rfl : j = 0 := hj
      replace k1 : Blk wr w.heap.size (ob a b c 109) := k1
      have c1 := k1.c3
      go_wp2_with fail
      go_roundw
      case rel => exact ⟨1, 1, by omega, rfl, rfl, (k1.set1 0 _ (by simp) rfl), k2.other (by simp) _, hb.setCell (Nat.le_refl _) _⟩
      case measure => simp [intOf]
    · obtain rfl : j = 1 := hj
      replace k1 : Blk wr w.heap.size (ob (a + d) b c 109) := k1
      have c1 := k1.c3
      go_wp2_with fail
      go_roundw
      case rel => exact ⟨2, 2, by omega, rfl, rfl, (k1.set1 1 _ (by simp) rfl), k2.other (by simp) _, hb.setCell (Nat.le_refl _) _⟩
      case measure => simp [intOf]
    · obtain rfl : j = 2 := hj
      replace k1 : Blk wr w.heap.size (ob (a + d) (b + d) c 109) := k1
      have c1 := k1.c3
      go_wp2_with fail
      go_roundw
      case rel => exact ⟨3, 3, by omega, rfl, rfl, (k1.set1 2 _ (by simp) rfl), k2.other (by simp) _, hb.setCell (Nat.le_refl _) _⟩
      case measure => simp [intOf]
    · obtain rfl : j = 3 := hj
      clear hk
      replace k1 : Blk wr w.heap.size (ob (a + d) (b + d) (c + d) 109) := k1
      generalize gA : a + d = A at *
      generalize gB : b + d = B at *
      generalize gC : c + d = C at *
      have hA : -65535 ≤ A ∧ A ≤ 131070 := by omega
      have hB : -65535 ≤ B ∧ B ≤ 131070 := by omega
      have hC : -65535 ≤ C ∧ C ≤ 131070 := by omega
      clear gA gB gC
      go_wp2_with fail
      obtain ⟨W5, hW5⟩ : ∃ W5 : World, W5 = wr := ⟨_, rfl⟩
      rw [← hW5] at k1 k2 hb ⊢
      clear hW5
      refine wp_region_grow 16 (fun w' => Below (World.heap W5).size W5 w') (by kernel_rfl) (by kernel_rfl) (Below.refl _ _).drew ?_
      simp only [List.take_succ_cons, List.take_zero, List.drop_succ_cons, List.drop_zero]
      repeat (first | (apply wpG_on; rfl; (intro w' hS K hK; have hc0 := (k1.kept hS).c3; have hc1 := (k2.kept hS).c3; go_simp; (first | exact hK.out _ hS)); simp only [Act.put, List.setIfInBounds_toArray, List.set_cons_succ, List.set_cons_zero]) | (apply wpG_off; rfl; simp only [Act.put, List.setIfInBounds_toArray, List.set_cons_succ, List.set_cons_zero]))
      apply wpG_nil
      intro W6 hS
      replace k1 := k1.kept hS
      replace k2 := k2.kept hS
      replace hb := hb.trans (hS.mono hb.size)
      clear hS
      have RA := Lib.hid (HR.out.1)
      have RB := Lib.hid (HR.out.2.1)
      have RC := Lib.hid (HR.out.2.2)
      clear HR
      have hnb : -65535 ≤ mn3 A B C := by unfold mn3; omega
      have hxb : mx3 A B C ≤ 131070 := by unfold mx3; omega
      generalize mn3 A B C = n at *
      generalize mx3 A B C = x at *
      have b1 : decide (n < 0) = true := by simpa using hn
      have b2 : decide (65535 < x) = false := by simpa using hx
      go_wp2_with fail
      have Aa := slA_bd n l A hl hn (by omega) (by omega)
      have Ba := slA_bd n l B hl hn (by omega) (by omega)
      have Ca := slA_bd n l C hl hn (by omega) (by omega)
      go_loopw [9] (fun i wr => ∃ (k : Nat) (j : Int), k ≤ 3 ∧ j = k ∧ i = .int .i64 j ∧ Blk wr w.heap.size (.cells (p3 (fun v => l + dv ((v - l) * l) (l - n)) A B C k) 109 (0, 0)) ∧ Blk wr (w.heap.size + 1) (ob 0 0 0 109) ∧ Below w.heap.size w wr) (fun i _ => 3 - (intOf i).toNat)
      case atStart => exact ⟨0, 0, by omega, rfl, rfl, k1, k2, hb⟩
      case round =>
        clear k1 k2 hb
        obtain ⟨k, j, hk, hj, rfl, k1, k2, hb⟩ := hrel
        obtain rfl | rfl | rfl | rfl : k = 0 ∨ k = 1 ∨ k = 2 ∨ k = 3 := by omega
        · obtain rfl : j = 0 := hj
          replace k1 : Blk wr w.heap.size (ob A B C 109) := k1
          have c1 := k1.c3
          go_wp2_with fail
          refine (refDiv_new _ _ _ (by omega) (by omega) (by omega) (by omega)).mono ?_
          rintro e w2 ⟨rfl, hS⟩
          replace k1 := k1.kept hS
          replace k2 := k2.kept hS
          replace hb := hb.trans (hS.mono hb.size)
          clear hS c1
          have c1 := k1.c3
          go_wp2_with fail
          go_roundw
          case rel => exact ⟨1, 1, by omega, rfl, rfl, (k1.set1 0 _ (by simp) rfl), k2.other (by simp) _, hb.setCell (Nat.le_refl _) _⟩
          case measure => simp [intOf]
        · obtain rfl : j = 1 := hj
          replace k1 : Blk wr w.heap.size (ob (l + dv ((A - l) * l) (l - n)) B C 109) := k1
          have c1 := k1.c3
          go_wp2_with fail
          refine (refDiv_new _ _ _ (by omega) (by omega) (by omega) (by omega)).mono ?_
          rintro e w2 ⟨rfl, hS⟩
          replace k1 := k1.kept hS
          replace k2 := k2.kept hS
          replace hb := hb.trans (hS.mono hb.size)
          clear hS c1
          have c1 := k1.c3
          go_wp2_with fail
          go_roundw
          case rel => exact ⟨2, 2, by omega, rfl, rfl, (k1.set1 1 _ (by simp) rfl), k2.other (by simp) _, hb.setCell (Nat.le_refl _) _⟩
          case measure => simp [intOf]
        · obtain rfl : j = 2 := hj
          replace k1 : Blk wr w.heap.size (ob (l + dv ((A - l) * l) (l - n)) (l + dv ((B - l) * l) (l - n)) C 109) := k1
          have c1 := k1.c3
          go_wp2_with fail
          refine (refDiv_new _ _ _ (by omega) (by omega) (by omega) (by omega)).mono ?_
          rintro e w2 ⟨rfl, hS⟩
          replace k1 := k1.kept hS
          replace k2 := k2.kept hS
          replace hb := hb.trans (hS.mono hb.size)
          clear hS c1
          have c1 := k1.c3
          go_wp2_with fail
          go_roundw
          case rel => exact ⟨3, 3, by omega, rfl, rfl, (k1.set1 2 _ (by simp) rfl), k2.other (by simp) _, hb.setCell (Nat.le_refl _) _⟩
          case measure => simp [intOf]
        · obtain rfl : j = 3 := hj
          clear hk
          replace k1 : Blk wr w.heap.size (ob (l + dv ((A - l) * l) (l - n)) (l + dv ((B - l) * l) (l - n)) (l + dv ((C - l) * l) (l - n)) 109) := k1
          generalize gA2 : l + dv ((A - l) * l) (l - n) = A2 at *
          have GA : Hid (slA n l A = A2) := gA2
          have A2r : -12884508675 ≤ A2 ∧ A2 ≤ 12884574210 := by omega
          clear gA2 Aa
          generalize gB2 : l + dv ((B - l) * l) (l - n) = B2 at *
          have GB : Hid (slA n l B = B2) := gB2
          have B2r : -12884508675 ≤ B2 ∧ B2 ≤ 12884574210 := by omega
          clear gB2 Ba
          generalize gC2 : l + dv ((C - l) * l) (l - n) = C2 at *
          have GC : Hid (slA n l C = C2) := gC2
          have C2r : -12884508675 ≤ C2 ∧ C2 ≤ 12884574210 := by omega
          clear gC2 Ca
          go_wp2_with fail
          go_loopw [11] (fun i wr => ∃ (k : Nat) (j : Int), k ≤ 3 ∧ j = k ∧ i = .int .i64 j ∧ Blk wr w.heap.size (.cells (p3 cl A2 B2 C2 k) 109 (0, 0)) ∧ Blk wr (w.heap.size + 1) (ob 0 0 0 109) ∧ Below w.heap.size w wr) (fun i _ => 3 - (intOf i).toNat)
          case atStart => exact ⟨0, 0, by omega, rfl, rfl, k1, k2, hb⟩
          case round =>
            clear k1 k2 hb
            obtain ⟨k, j, hk, hj, rfl, k1, k2, hb⟩ := hrel
            obtain rfl | rfl | rfl | rfl : k = 0 ∨ k = 1 ∨ k = 2 ∨ k = 3 := by omega
            · obtain rfl : j = 0 := hj
              replace k1 : Blk wr w.heap.size (ob A2 B2 C2 109) := k1
              have c1 := k1.c3
              go_wp2_with fail
              refine (refUnit_n _ _).mono ?_
              rintro e w' ⟨rfl, rfl⟩
              go_wp2_with fail
              go_roundw
              case rel => exact ⟨1, 1, by omega, rfl, rfl, (k1.set1 0 _ (by simp) rfl), k2.other (by simp) _, hb.setCell (Nat.le_refl _) _⟩
              case measure => simp [intOf]
            · obtain rfl : j = 1 := hj
              replace k1 : Blk wr w.heap.size (ob (cl A2) B2 C2 109) := k1
              have c1 := k1.c3
              go_wp2_with fail
              refine (refUnit_n _ _).mono ?_
              rintro e w' ⟨rfl, rfl⟩
              go_wp2_with fail
              go_roundw
              case rel => exact ⟨2, 2, by omega, rfl, rfl, (k1.set1 1 _ (by simp) rfl), k2.other (by simp) _, hb.setCell (Nat.le_refl _) _⟩
              case measure => simp [intOf]
            · obtain rfl : j = 2 := hj
              replace k1 : Blk wr w.heap.size (ob (cl A2) (cl B2) C2 109) := k1
              have c1 := k1.c3
              go_wp2_with fail
              refine (refUnit_n _ _).mono ?_
              rintro e w' ⟨rfl, rfl⟩
              go_wp2_with fail
              go_roundw
              case rel => exact ⟨3, 3, by omega, rfl, rfl, (k1.set1 2 _ (by simp) rfl), k2.other (by simp) _, hb.setCell (Nat.le_refl _) _⟩
              case measure => simp [intOf]
            · obtain rfl : j = 3 := hj
              clear hk
              replace k1 : Blk wr w.heap.size (ob (cl A2) (cl B2) (cl C2) 109) := k1
              have c1 := k1.c3
              have c2 := k2.c3
              go_wp2_with fail
              refine end3 hb k2 (by omega) (fun w3 e => by simp [results, Tryz.results109, go_sem, e]) rfl (fun w3 hb3 => ⟨by rw [RA.out, if_neg (by omega), if_pos (by omega), GA.out]; rw [RB.out, if_neg (by omega), if_pos (by omega), GB.out]; rw [RC.out, if_neg (by omega), if_pos (by omega), GC.out], hb3⟩)

set_option maxRecDepth 100000 in
set_option maxHeartbeats 2000000 in
theorem refsetLum2 (a b c l : Int) (w : World) (ha : U a) (hb0 : U b) (hc : U c) (hl : U l) (hn : ¬ mn3 (a + (l - lumU a b c)) (b + (l - lumU a b c)) (c + (l - lumU a b c)) < 0) (hx : 65535 < mx3 (a + (l - lumU a b c)) (b + (l - lumU a b c)) (c + (l - lumU a b c))) :
    Calls Tryz.prog 109 #[cv a b c, .int .i64 l] w fun e w' => e = .returned (cv (slF a b c l a) (slF a b c l b) (slF a b c l c)) ∧ Below w.heap.size w w' := by
  have hd0 := lumU_bd a b c ha hb0 hc
  have HR : Hid (slF a b c l a = _ ∧ slF a b c l b = _ ∧ slF a b c l c = _) := ⟨slF_eq a b c l a, slF_eq a b c l b, slF_eq a b c l c⟩
  generalize slF a b c l a = ra at *
  generalize slF a b c l b = rb at *
  generalize slF a b c l c = rc at *
  go_enter Tryz.func109, Tryz.ntmps109
  go_wp2_with fail
  refine callName2 (fun W k1 k2 hb => ?_)
  refine (reflum_any _ _ _ _ ha hb0 hc).mono ?_
  rintro e W1 ⟨rfl, hS⟩
  replace k1 := k1.kept hS
  replace k2 := k2.kept hS
  replace hb := hb.trans (hS.mono hb.size)
  clear hS
  generalize lumU a b c = lm at *
  unfold U at ha hb0 hc hl hd0
  have hd : -65535 ≤ l - lm ∧ l - lm ≤ 65535 := by omega
  generalize hd' : l - lm = d at *
  have HD := Lib.hid hd'
  clear hd'
  go_wp2_with fail
  rw [HD.out]
  go_loopw [6] (fun i wr => ∃ (k : Nat) (j : Int), k ≤ 3 ∧ j = k ∧ i = .int .i64 j ∧ Blk wr w.heap.size (.cells (p3 (fun v => v + d) a b c k) 109 (0, 0)) ∧ Blk wr (w.heap.size + 1) (ob 0 0 0 109) ∧ Below w.heap.size w wr) (fun i _ => 3 - (intOf i).toNat)
  case atStart => exact ⟨0, 0, by omega, rfl, rfl, k1, k2, hb⟩
  case round =>
    clear k1 k2 hb
    obtain ⟨k, j, hk, hj, rfl, k1, k2, hb⟩ := hrel
    obtain rfl | rfl | rfl | rfl : k = 0 ∨ k = 1 ∨ k = 2 ∨ k = 3 := by omega
    · obtain rfl : j = 0 := hj
      replace k1 : Blk wr w.heap.size (ob a b c 109) := k1
      have c1 := k1.c3
      go_wp2_with fail
      go_roundw
      case rel => exact ⟨1, 1, by omega, rfl, rfl, (k1.set1 0 _ (by simp) rfl), k2.other (by simp) _, hb.setCell (Nat.le_refl _) _⟩
      case measure => simp [intOf]
    · obtain rfl : j = 1 := hj
      replace k1 : Blk wr w.heap.size (ob (a + d) b c 109) := k1
      have c1 := k1.c3
      go_wp2_with fail
      go_roundw
      case rel => exact ⟨2, 2, by omega, rfl, rfl, (k1.set1 1 _ (by simp) rfl), k2.other (by simp) _, hb.setCell (Nat.le_refl _) _⟩
      case measure => simp [intOf]
    · obtain rfl : j = 2 := hj
      replace k1 : Blk wr w.heap.size (ob (a + d) (b + d) c 109) := k1
      have c1 := k1.c3
      go_wp2_with fail
      go_roundw
      case rel => exact ⟨3, 3, by omega, rfl, rfl, (k1.set1 2 _ (by simp) rfl), k2.other (by simp) _, hb.setCell (Nat.le_refl _) _⟩
      case measure => simp [intOf]
    · obtain rfl : j = 3 := hj
      clear hk
      replace k1 : Blk wr w.heap.size (ob (a + d) (b + d) (c + d) 109) := k1
      generalize gA : a + d = A at *
      generalize gB : b + d = B at *
      generalize gC : c + d = C at *
      have hA : -65535 ≤ A ∧ A ≤ 131070 := by omega
      have hB : -65535 ≤ B ∧ B ≤ 131070 := by omega
      have hC : -65535 ≤ C ∧ C ≤ 131070 := by omega
      clear gA gB gC
      go_wp2_with fail
      obtain ⟨W5, hW5⟩ : ∃ W5 : World, W5 = wr := ⟨_, rfl⟩
      rw [← hW5] at k1 k2 hb ⊢
      clear hW5
      refine wp_region_grow 16 (fun w' => Below (World.heap W5).size W5 w') (by kernel_rfl) (by kernel_rfl) (Below.refl _ _).drew ?_
      simp only [List.take_succ_cons, List.take_zero, List.drop_succ_cons, List.drop_zero]
      repeat (first | (apply wpG_on; rfl; (intro w' hS K hK; have hc0 := (k1.kept hS).c3; have hc1 := (k2.kept hS).c3; go_simp; (first | exact hK.out _ hS)); simp only [Act.put, List.setIfInBounds_toArray, List.set_cons_succ, List.set_cons_zero]) | (apply wpG_off; rfl; simp only [Act.put, List.setIfInBounds_toArray, List.set_cons_succ, List.set_cons_zero]))
      apply wpG_nil
      intro W6 hS
      replace k1 := k1.kept hS
      replace k2 := k2.kept hS
      replace hb := hb.trans (hS.mono hb.size)
      clear hS
      have RA := Lib.hid (HR.out.1)
      have RB := Lib.hid (HR.out.2.1)
      have RC := Lib.hid (HR.out.2.2)
      clear HR
      have hnb : -65535 ≤ mn3 A B C := by unfold mn3; omega
      have hxb : mx3 A B C ≤ 131070 := by unfold mx3; omega
      generalize mn3 A B C = n at *
      generalize mx3 A B C = x at *
      have b1 : decide (n < 0) = false := by simpa using hn
      have b2 : decide (65535 < x) = true := by simpa using hx
      go_wp2_with fail
      have Ab := slB_bd x l A hl hx (by omega) (by omega)
      have Bb := slB_bd x l B hl hx (by omega) (by omega)
      have Cb := slB_bd x l C hl hx (by omega) (by omega)
      go_loopw [10] (fun i wr => ∃ (k : Nat) (j : Int), k ≤ 3 ∧ j = k ∧ i = .int .i64 j ∧ Blk wr w.heap.size (.cells (p3 (fun v => l + dv ((v - l) * (65535 - l)) (x - l)) A B C k) 109 (0, 0)) ∧ Blk wr (w.heap.size + 1) (ob 0 0 0 109) ∧ Below w.heap.size w wr) (fun i _ => 3 - (intOf i).toNat)
      case atStart => exact ⟨0, 0, by omega, rfl, rfl, k1, k2, hb⟩
      case round =>
        clear k1 k2 hb
        obtain ⟨k, j, hk, hj, rfl, k1, k2, hb⟩ := hrel
        obtain rfl | rfl | rfl | rfl : k = 0 ∨ k = 1 ∨ k = 2 ∨ k = 3 := by omega
        · obtain rfl : j = 0 := hj
          replace k1 : Blk wr w.heap.size (ob A B C 109) := k1
          have c1 := k1.c3
          go_wp2_with fail
          refine (refDiv_new _ _ _ (by omega) (by omega) (by omega) (by omega)).mono ?_
          rintro e w2 ⟨rfl, hS⟩
          replace k1 := k1.kept hS
          replace k2 := k2.kept hS
          replace hb := hb.trans (hS.mono hb.size)
          clear hS c1
          have c1 := k1.c3
          go_wp2_with fail
          go_roundw
          case rel => exact ⟨1, 1, by omega, rfl, rfl, (k1.set1 0 _ (by simp) rfl), k2.other (by simp) _, hb.setCell (Nat.le_refl _) _⟩
          case measure => simp [intOf]
        · obtain rfl : j = 1 := hj
          replace k1 : Blk wr w.heap.size (ob (l + dv ((A - l) * (65535 - l)) (x - l)) B C 109) := k1
          have c1 := k1.c3
          go_wp2_with fail
          refine (refDiv_new _ _ _ (by omega) (by omega) (by omega) (by omega)).mono ?_
          rintro e w2 ⟨rfl, hS⟩
          replace k1 := k1.kept hS
          replace k2 := k2.kept hS
          replace hb := hb.trans (hS.mono hb.size)
          clear hS c1
          have c1 := k1.c3
          go_wp2_with fail
          go_roundw
          case rel => exact ⟨2, 2, by omega, rfl, rfl, (k1.set1 1 _ (by simp) rfl), k2.other (by simp) _, hb.setCell (Nat.le_refl _) _⟩
          case measure => simp [intOf]
        · obtain rfl : j = 2 := hj
          replace k1 : Blk wr w.heap.size (ob (l + dv ((A - l) * (65535 - l)) (x - l)) (l + dv ((B - l) * (65535 - l)) (x - l)) C 109) := k1
          have c1 := k1.c3
          go_wp2_with fail
          refine (refDiv_new _ _ _ (by omega) (by omega) (by omega) (by omega)).mono ?_
          rintro e w2 ⟨rfl, hS⟩
          replace k1 := k1.kept hS
          replace k2 := k2.kept hS
          replace hb := hb.trans (hS.mono hb.size)
          clear hS c1
          have c1 := k1.c3
          go_wp2_with fail
          go_roundw
          case rel => exact ⟨3, 3, by omega, rfl, rfl, (k1.set1 2 _ (by simp) rfl), k2.other (by simp) _, hb.setCell (Nat.le_refl _) _⟩
          case measure => simp [intOf]
        · obtain rfl : j = 3 := hj
          clear hk
          replace k1 : Blk wr w.heap.size (ob (l + dv ((A - l) * (65535 - l)) (x - l)) (l + dv ((B - l) * (65535 - l)) (x - l)) (l + dv ((C - l) * (65535 - l)) (x - l)) 109) := k1
          generalize gA3 : l + dv ((A - l) * (65535 - l)) (x - l) = A3 at *
          have KA : Hid (slB x l A = A3) := gA3
          clear gA3 Ab
          generalize gB3 : l + dv ((B - l) * (65535 - l)) (x - l) = B3 at *
          have KB : Hid (slB x l B = B3) := gB3
          clear gB3 Bb
          generalize gC3 : l + dv ((C - l) * (65535 - l)) (x - l) = C3 at *
          have KC : Hid (slB x l C = C3) := gC3
          clear gC3 Cb
          go_wp2_with fail
          go_loopw [11] (fun i wr => ∃ (k : Nat) (j : Int), k ≤ 3 ∧ j = k ∧ i = .int .i64 j ∧ Blk wr w.heap.size (.cells (p3 cl A3 B3 C3 k) 109 (0, 0)) ∧ Blk wr (w.heap.size + 1) (ob 0 0 0 109) ∧ Below w.heap.size w wr) (fun i _ => 3 - (intOf i).toNat)
          case atStart => exact ⟨0, 0, by omega, rfl, rfl, k1, k2, hb⟩
          case round =>
            clear k1 k2 hb
            obtain ⟨k, j, hk, hj, rfl, k1, k2, hb⟩ := hrel
            obtain rfl | rfl | rfl | rfl : k = 0 ∨ k = 1 ∨ k = 2 ∨ k = 3 := by omega
            · obtain rfl : j = 0 := hj
              replace k1 : Blk wr w.heap.size (ob A3 B3 C3 109) := k1
              have c1 := k1.c3
              go_wp2_with fail
              refine (refUnit_n _ _).mono ?_
              rintro e w' ⟨rfl, rfl⟩
              go_wp2_with fail
              go_roundw
              case rel => exact ⟨1, 1, by omega, rfl, rfl, (k1.set1 0 _ (by simp) rfl), k2.other (by simp) _, hb.setCell (Nat.le_refl _) _⟩
              case measure => simp [intOf]
            · obtain rfl : j = 1 := hj
              replace k1 : Blk wr w.heap.size (ob (cl A3) B3 C3 109) := k1
              have c1 := k1.c3
              go_wp2_with fail
              refine (refUnit_n _ _).mono ?_
              rintro e w' ⟨rfl, rfl⟩
              go_wp2_with fail
              go_roundw
              case rel => exact ⟨2, 2, by omega, rfl, rfl, (k1.set1 1 _ (by simp) rfl), k2.other (by simp) _, hb.setCell (Nat.le_refl _) _⟩
              case measure => simp [intOf]
            · obtain rfl : j = 2 := hj
              replace k1 : Blk wr w.heap.size (ob (cl A3) (cl B3) C3 109) := k1
              have c1 := k1.c3
              go_wp2_with fail
              refine (refUnit_n _ _).mono ?_
              rintro e w' ⟨rfl, rfl⟩
              go_wp2_with fail
              go_roundw
              case rel => exact ⟨3, 3, by omega, rfl, rfl, (k1.set1 2 _ (by simp) rfl), k2.other (by simp) _, hb.setCell (Nat.le_refl _) _⟩
              case measure => simp [intOf]
            · obtain rfl : j = 3 := hj
              clear hk
              replace k1 : Blk wr w.heap.size (ob (cl A3) (cl B3) (cl C3) 109) := k1
              have c1 := k1.c3
              have c2 := k2.c3
              go_wp2_with fail
              refine end3 hb k2 (by omega) (fun w3 e => by simp [results, Tryz.results109, go_sem, e]) rfl (fun w3 hb3 => ⟨by rw [RA.out, if_pos (by omega), if_neg (by omega), KA.out]; rw [RB.out, if_pos (by omega), if_neg (by omega), KB.out]; rw [RC.out, if_pos (by omega), if_neg (by omega), KC.out], hb3⟩)

set_option maxRecDepth 100000 in
set_option maxHeartbeats 2000000 in
theorem refsetLum3 (a b c l : Int) (w : World) (ha : U a) (hb0 : U b) (hc : U c) (hl : U l) (hn : mn3 (a + (l - lumU a b c)) (b + (l - lumU a b c)) (c + (l - lumU a b c)) < 0) (hx : 65535 < mx3 (a + (l - lumU a b c)) (b + (l - lumU a b c)) (c + (l - lumU a b c))) :
    Calls Tryz.prog 109 #[cv a b c, .int .i64 l] w fun e w' => e = .returned (cv (slF a b c l a) (slF a b c l b) (slF a b c l c)) ∧ Below w.heap.size w w' := by
  have hd0 := lumU_bd a b c ha hb0 hc
  have HR : Hid (slF a b c l a = _ ∧ slF a b c l b = _ ∧ slF a b c l c = _) := ⟨slF_eq a b c l a, slF_eq a b c l b, slF_eq a b c l c⟩
  generalize slF a b c l a = ra at *
  generalize slF a b c l b = rb at *
  generalize slF a b c l c = rc at *
  go_enter Tryz.func109, Tryz.ntmps109
  go_wp2_with fail
  refine callName2 (fun W k1 k2 hb => ?_)
  refine (reflum_any _ _ _ _ ha hb0 hc).mono ?_
  rintro e W1 ⟨rfl, hS⟩
  replace k1 := k1.kept hS
  replace k2 := k2.kept hS
  replace hb := hb.trans (hS.mono hb.size)
  clear hS
  generalize lumU a b c = lm at *
  unfold U at ha hb0 hc hl hd0
  have hd : -65535 ≤ l - lm ∧ l - lm ≤ 65535 := by omega
  generalize hd' : l - lm = d at *
  have HD := Lib.hid hd'
  clear hd'
  go_wp2_with fail
  rw [HD.out]
  go_loopw [6] (fun i wr => ∃ (k : Nat) (j : Int), k ≤ 3 ∧ j = k ∧ i = .int .i64 j ∧ Blk wr w.heap.size (.cells (p3 (fun v => v + d) a b c k) 109 (0, 0)) ∧ Blk wr (w.heap.size + 1) (ob 0 0 0 109) ∧ Below w.heap.size w wr) (fun i _ => 3 - (intOf i).toNat)
  case atStart => exact ⟨0, 0, by omega, rfl, rfl, k1, k2, hb⟩
  case round =>
    clear k1 k2 hb
    obtain ⟨k, j, hk, hj, rfl, k1, k2, hb⟩ := hrel
    obtain rfl | rfl | rfl | rfl : k = 0 ∨ k = 1 ∨ k = 2 ∨ k = 3 := by omega
    · obtain rfl : j = 0 := hj
      replace k1 : Blk wr w.heap.size (ob a b c 109) := k1
      have c1 := k1.c3
      go_wp2_with fail
      go_roundw
      case rel => exact ⟨1, 1, by omega, rfl, rfl, (k1.set1 0 _ (by simp) rfl), k2.other (by simp) _, hb.setCell (Nat.le_refl _) _⟩
      case measure => simp [intOf]
    · obtain rfl : j = 1 := hj
      replace k1 : Blk wr w.heap.size (ob (a + d) b c 109) := k1
      have c1 := k1.c3
      go_wp2_with fail
      go_roundw
      case rel => exact ⟨2, 2, by omega, rfl, rfl, (k1.set1 1 _ (by simp) rfl), k2.other (by simp) _, hb.setCell (Nat.le_refl _) _⟩
      case measure => simp [intOf]
    · obtain rfl : j = 2 := hj
      replace k1 : Blk wr w.heap.size (ob (a + d) (b + d) c 109) := k1
      have c1 := k1.c3
      go_wp2_with fail
      go_roundw
      case rel => exact ⟨3, 3, by omega, rfl, rfl, (k1.set1 2 _ (by simp) rfl), k2.other (by simp) _, hb.setCell (Nat.le_refl _) _⟩
      case measure => simp [intOf]
    · obtain rfl : j = 3 := hj
      clear hk
      replace k1 : Blk wr w.heap.size (ob (a + d) (b + d) (c + d) 109) := k1
      generalize gA : a + d = A at *
      generalize gB : b + d = B at *
      generalize gC : c + d = C at *
      have hA : -65535 ≤ A ∧ A ≤ 131070 := by omega
      have hB : -65535 ≤ B ∧ B ≤ 131070 := by omega
      have hC : -65535 ≤ C ∧ C ≤ 131070 := by omega
      clear gA gB gC
      go_wp2_with fail
      obtain ⟨W5, hW5⟩ : ∃ W5 : World, W5 = wr := ⟨_, rfl⟩
      rw [← hW5] at k1 k2 hb ⊢
      clear hW5
      refine wp_region_grow 16 (fun w' => Below (World.heap W5).size W5 w') (by kernel_rfl) (by kernel_rfl) (Below.refl _ _).drew ?_
      simp only [List.take_succ_cons, List.take_zero, List.drop_succ_cons, List.drop_zero]
      repeat (first | (apply wpG_on; rfl; (intro w' hS K hK; have hc0 := (k1.kept hS).c3; have hc1 := (k2.kept hS).c3; go_simp; (first | exact hK.out _ hS)); simp only [Act.put, List.setIfInBounds_toArray, List.set_cons_succ, List.set_cons_zero]) | (apply wpG_off; rfl; simp only [Act.put, List.setIfInBounds_toArray, List.set_cons_succ, List.set_cons_zero]))
      apply wpG_nil
      intro W6 hS
      replace k1 := k1.kept hS
      replace k2 := k2.kept hS
      replace hb := hb.trans (hS.mono hb.size)
      clear hS
      have RA := Lib.hid (HR.out.1)
      have RB := Lib.hid (HR.out.2.1)
      have RC := Lib.hid (HR.out.2.2)
      clear HR
      have hnb : -65535 ≤ mn3 A B C := by unfold mn3; omega
      have hxb : mx3 A B C ≤ 131070 := by unfold mx3; omega
      generalize mn3 A B C = n at *
      generalize mx3 A B C = x at *
      have b1 : decide (n < 0) = true := by simpa using hn
      have b2 : decide (65535 < x) = true := by simpa using hx
      go_wp2_with fail
      have Aa := slA_bd n l A hl hn (by omega) (by omega)
      have Ba := slA_bd n l B hl hn (by omega) (by omega)
      have Ca := slA_bd n l C hl hn (by omega) (by omega)
      go_loopw [9] (fun i wr => ∃ (k : Nat) (j : Int), k ≤ 3 ∧ j = k ∧ i = .int .i64 j ∧ Blk wr w.heap.size (.cells (p3 (fun v => l + dv ((v - l) * l) (l - n)) A B C k) 109 (0, 0)) ∧ Blk wr (w.heap.size + 1) (ob 0 0 0 109) ∧ Below w.heap.size w wr) (fun i _ => 3 - (intOf i).toNat)
      case atStart => exact ⟨0, 0, by omega, rfl, rfl, k1, k2, hb⟩
      case round =>
        clear k1 k2 hb
        obtain ⟨k, j, hk, hj, rfl, k1, k2, hb⟩ := hrel
        obtain rfl | rfl | rfl | rfl : k = 0 ∨ k = 1 ∨ k = 2 ∨ k = 3 := by omega
        · obtain rfl : j = 0 := hj
          replace k1 : Blk wr w.heap.size (ob A B C 109) := k1
          have c1 := k1.c3
          go_wp2_with fail
          refine (refDiv_new _ _ _ (by omega) (by omega) (by omega) (by omega)).mono ?_
          rintro e w2 ⟨rfl, hS⟩
          replace k1 := k1.kept hS
          replace k2 := k2.kept hS
          replace hb := hb.trans (hS.mono hb.size)
          clear hS c1
          have c1 := k1.c3
          go_wp2_with fail
          go_roundw
          case rel => exact ⟨1, 1, by omega, rfl, rfl, (k1.set1 0 _ (by simp) rfl), k2.other (by simp) _, hb.setCell (Nat.le_refl _) _⟩
          case measure => simp [intOf]
        · obtain rfl : j = 1 := hj
          replace k1 : Blk wr w.heap.size (ob (l + dv ((A - l) * l) (l - n)) B C 109) := k1
          have c1 := k1.c3
          go_wp2_with fail
          refine (refDiv_new _ _ _ (by omega) (by omega) (by omega) (by omega)).mono ?_
          rintro e w2 ⟨rfl, hS⟩
          replace k1 := k1.kept hS
          replace k2 := k2.kept hS
          replace hb := hb.trans (hS.mono hb.size)
          clear hS c1
          have c1 := k1.c3
          go_wp2_with fail
          go_roundw
          case rel => exact ⟨2, 2, by omega, rfl, rfl, (k1.set1 1 _ (by simp) rfl), k2.other (by simp) _, hb.setCell (Nat.le_refl _) _⟩
          case measure => simp [intOf]
        · obtain rfl : j = 2 := hj
          replace k1 : Blk wr w.heap.size (ob (l + dv ((A - l) * l) (l - n)) (l + dv ((B - l) * l) (l - n)) C 109) := k1
          have c1 := k1.c3
          go_wp2_with fail
          refine (refDiv_new _ _ _ (by omega) (by omega) (by omega) (by omega)).mono ?_
          rintro e w2 ⟨rfl, hS⟩
          replace k1 := k1.kept hS
          replace k2 := k2.kept hS
          replace hb := hb.trans (hS.mono hb.size)
          clear hS c1
          have c1 := k1.c3
          go_wp2_with fail
          go_roundw
          case rel => exact ⟨3, 3, by omega, rfl, rfl, (k1.set1 2 _ (by simp) rfl), k2.other (by simp) _, hb.setCell (Nat.le_refl _) _⟩
          case measure => simp [intOf]
        · obtain rfl : j = 3 := hj
          clear hk
          replace k1 : Blk wr w.heap.size (ob (l + dv ((A - l) * l) (l - n)) (l + dv ((B - l) * l) (l - n)) (l + dv ((C - l) * l) (l - n)) 109) := k1
          generalize gA2 : l + dv ((A - l) * l) (l - n) = A2 at *
          have GA : Hid (slA n l A = A2) := gA2
          have A2r : -12884508675 ≤ A2 ∧ A2 ≤ 12884574210 := by omega
          clear gA2 Aa
          generalize gB2 : l + dv ((B - l) * l) (l - n) = B2 at *
          have GB : Hid (slA n l B = B2) := gB2
          have B2r : -12884508675 ≤ B2 ∧ B2 ≤ 12884574210 := by omega
          clear gB2 Ba
          generalize gC2 : l + dv ((C - l) * l) (l - n) = C2 at *
          have GC : Hid (slA n l C = C2) := gC2
          have C2r : -12884508675 ≤ C2 ∧ C2 ≤ 12884574210 := by omega
          clear gC2 Ca
          go_wp2_with fail
          have A2b := slB_bd x l A2 hl hx (by omega) (by omega)
          have B2b := slB_bd x l B2 hl hx (by omega) (by omega)
          have C2b := slB_bd x l C2 hl hx (by omega) (by omega)
          go_loopw [10] (fun i wr => ∃ (k : Nat) (j : Int), k ≤ 3 ∧ j = k ∧ i = .int .i64 j ∧ Blk wr w.heap.size (.cells (p3 (fun v => l + dv ((v - l) * (65535 - l)) (x - l)) A2 B2 C2 k) 109 (0, 0)) ∧ Blk wr (w.heap.size + 1) (ob 0 0 0 109) ∧ Below w.heap.size w wr) (fun i _ => 3 - (intOf i).toNat)
          case atStart => exact ⟨0, 0, by omega, rfl, rfl, k1, k2, hb⟩
          case round =>
            clear k1 k2 hb
            obtain ⟨k, j, hk, hj, rfl, k1, k2, hb⟩ := hrel
            obtain rfl | rfl | rfl | rfl : k = 0 ∨ k = 1 ∨ k = 2 ∨ k = 3 := by omega
            · obtain rfl : j = 0 := hj
              replace k1 : Blk wr w.heap.size (ob A2 B2 C2 109) := k1
              have c1 := k1.c3
              go_wp2_with fail
              refine (refDiv_new _ _ _ (by omega) (by omega) (by omega) (by omega)).mono ?_
              rintro e w2 ⟨rfl, hS⟩
              replace k1 := k1.kept hS
              replace k2 := k2.kept hS
              replace hb := hb.trans (hS.mono hb.size)
              clear hS c1
              have c1 := k1.c3
              go_wp2_with fail
              go_roundw
              case rel => exact ⟨1, 1, by omega, rfl, rfl, (k1.set1 0 _ (by simp) rfl), k2.other (by simp) _, hb.setCell (Nat.le_refl _) _⟩
              case measure => simp [intOf]
            · obtain rfl : j = 1 := hj
              replace k1 : Blk wr w.heap.size (ob (l + dv ((A2 - l) * (65535 - l)) (x - l)) B2 C2 109) := k1
              have c1 := k1.c3
              go_wp2_with fail
              refine (refDiv_new _ _ _ (by omega) (by omega) (by omega) (by omega)).mono ?_
              rintro e w2 ⟨rfl, hS⟩
              replace k1 := k1.kept hS
              replace k2 := k2.kept hS
              replace hb := hb.trans (hS.mono hb.size)
              clear hS c1
              have c1 := k1.c3
              go_wp2_with fail
              go_roundw
              case rel => exact ⟨2, 2, by omega, rfl, rfl, (k1.set1 1 _ (by simp) rfl), k2.other (by simp) _, hb.setCell (Nat.le_refl _) _⟩
              case measure => simp [intOf]
            · obtain rfl : j = 2 := hj
              replace k1 : Blk wr w.heap.size (ob (l + dv ((A2 - l) * (65535 - l)) (x - l)) (l + dv ((B2 - l) * (65535 - l)) (x - l)) C2 109) := k1
              have c1 := k1.c3
              go_wp2_with fail
              refine (refDiv_new _ _ _ (by omega) (by omega) (by omega) (by omega)).mono ?_
              rintro e w2 ⟨rfl, hS⟩
              replace k1 := k1.kept hS
              replace k2 := k2.kept hS
              replace hb := hb.trans (hS.mono hb.size)
              clear hS c1
              have c1 := k1.c3
              go_wp2_with fail
              go_roundw
              case rel => exact ⟨3, 3, by omega, rfl, rfl, (k1.set1 2 _ (by simp) rfl), k2.other (by simp) _, hb.setCell (Nat.le_refl _) _⟩
              case measure => simp [intOf]
            · obtain rfl : j = 3 := hj
              clear hk
              replace k1 : Blk wr w.heap.size (ob (l + dv ((A2 - l) * (65535 - l)) (x - l)) (l + dv ((B2 - l) * (65535 - l)) (x - l)) (l + dv ((C2 - l) * (65535 - l)) (x - l)) 109) := k1
              generalize gA3 : l + dv ((A2 - l) * (65535 - l)) (x - l) = A3 at *
              have KA : Hid (slB x l A2 = A3) := gA3
              clear gA3 A2b
              generalize gB3 : l + dv ((B2 - l) * (65535 - l)) (x - l) = B3 at *
              have KB : Hid (slB x l B2 = B3) := gB3
              clear gB3 B2b
              generalize gC3 : l + dv ((C2 - l) * (65535 - l)) (x - l) = C3 at *
              have KC : Hid (slB x l C2 = C3) := gC3
              clear gC3 C2b
              go_wp2_with fail
              go_loopw [11] (fun i wr => ∃ (k : Nat) (j : Int), k ≤ 3 ∧ j = k ∧ i = .int .i64 j ∧ Blk wr w.heap.size (.cells (p3 cl A3 B3 C3 k) 109 (0, 0)) ∧ Blk wr (w.heap.size + 1) (ob 0 0 0 109) ∧ Below w.heap.size w wr) (fun i _ => 3 - (intOf i).toNat)
              case atStart => exact ⟨0, 0, by omega, rfl, rfl, k1, k2, hb⟩
              case round =>
                clear k1 k2 hb
                obtain ⟨k, j, hk, hj, rfl, k1, k2, hb⟩ := hrel
                obtain rfl | rfl | rfl | rfl : k = 0 ∨ k = 1 ∨ k = 2 ∨ k = 3 := by omega
                · obtain rfl : j = 0 := hj
                  replace k1 : Blk wr w.heap.size (ob A3 B3 C3 109) := k1
                  have c1 := k1.c3
                  go_wp2_with fail
                  refine (refUnit_n _ _).mono ?_
                  rintro e w' ⟨rfl, rfl⟩
                  go_wp2_with fail
                  go_roundw
                  case rel => exact ⟨1, 1, by omega, rfl, rfl, (k1.set1 0 _ (by simp) rfl), k2.other (by simp) _, hb.setCell (Nat.le_refl _) _⟩
                  case measure => simp [intOf]
                · obtain rfl : j = 1 := hj
                  replace k1 : Blk wr w.heap.size (ob (cl A3) B3 C3 109) := k1
                  have c1 := k1.c3
                  go_wp2_with fail
                  refine (refUnit_n _ _).mono ?_
                  rintro e w' ⟨rfl, rfl⟩
                  go_wp2_with fail
                  go_roundw
                  case rel => exact ⟨2, 2, by omega, rfl, rfl, (k1.set1 1 _ (by simp) rfl), k2.other (by simp) _, hb.setCell (Nat.le_refl _) _⟩
                  case measure => simp [intOf]
                · obtain rfl : j = 2 := hj
                  replace k1 : Blk wr w.heap.size (ob (cl A3) (cl B3) C3 109) := k1
                  have c1 := k1.c3
                  go_wp2_with fail
                  refine (refUnit_n _ _).mono ?_
                  rintro e w' ⟨rfl, rfl⟩
                  go_wp2_with fail
                  go_roundw
                  case rel => exact ⟨3, 3, by omega, rfl, rfl, (k1.set1 2 _ (by simp) rfl), k2.other (by simp) _, hb.setCell (Nat.le_refl _) _⟩
                  case measure => simp [intOf]
                · obtain rfl : j = 3 := hj
                  clear hk
                  replace k1 : Blk wr w.heap.size (ob (cl A3) (cl B3) (cl C3) 109) := k1
                  have c1 := k1.c3
                  have c2 := k2.c3
                  go_wp2_with fail
                  refine end3 hb k2 (by omega) (fun w3 e => by simp [results, Tryz.results109, go_sem, e]) rfl (fun w3 hb3 => ⟨by rw [RA.out, if_pos (by omega), if_pos (by omega), GA.out, KA.out]; rw [RB.out, if_pos (by omega), if_pos (by omega), GB.out, KB.out]; rw [RC.out, if_pos (by omega), if_pos (by omega), GC.out, KC.out], hb3⟩)

theorem refsetLum_any (a b c l : Int) (w : World) (ha : U a) (hb0 : U b) (hc : U c) (hl : U l) :
    Calls Tryz.prog 109 #[cv a b c, .int .i64 l] w fun e w' => e = .returned (cv (slF a b c l a) (slF a b c l b) (slF a b c l c)) ∧ Below w.heap.size w w' := by
  by_cases hn : mn3 (a + (l - lumU a b c)) (b + (l - lumU a b c)) (c + (l - lumU a b c)) < 0
  · by_cases hx : 65535 < mx3 (a + (l - lumU a b c)) (b + (l - lumU a b c)) (c + (l - lumU a b c))
    · exact refsetLum3 a b c l w ha hb0 hc hl hn hx
    · exact refsetLum1 a b c l w ha hb0 hc hl hn hx
  · by_cases hx : 65535 < mx3 (a + (l - lumU a b c)) (b + (l - lumU a b c)) (c + (l - lumU a b c))
    · exact refsetLum2 a b c l w ha hb0 hc hl hn hx
    · exact refsetLum0 a b c l w ha hb0 hc hl hn hx
end Go.Proofs.YtieacbccadbdbaaGreatDoor


/- The walks of the channels of package blend. -/
namespace Go.Proofs.YtieacbccadbdbaaGreatDoor
open Go.RowKit
set_option linter.unusedVariables false

set_option maxHeartbeats 400000 in
theorem unit_b (x : Int) (w : World) :
    Calls Tryz.prog 162 #[.int .i64 x] w fun e w' => e = .returned (.int .i64 (cl x)) ∧ w = w' := by
  go_enter Tryz.func162, Tryz.ntmps162
  go_wp2_with fail
  refine (clamp_any _ _ _ _).mono ?_
  rintro e w' ⟨rfl, rfl⟩
  go_wp2_with fail
  go_ret
  exact ⟨ret_int (cl_min x), rfl⟩

set_option maxHeartbeats 400000 in
theorem mulU_any (a b : Int) (w : World) (ha : 0 ≤ a ∧ a ≤ 65535) (hb : 0 ≤ b ∧ b ≤ 65535) :
    Calls Tryz.prog 17 #[.int .i64 a, .int .i64 b] w fun e w' => e = .returned (.int .i64 (mulU a b)) ∧ w = w' := by
  have c := mul_any a b w
  rw [cl_id a ha.1 ha.2, cl_id b hb.1 hb.2] at c
  exact c

set_option maxHeartbeats 400000 in
theorem dodge_any (b s : Int) (w : World) (hb : 0 ≤ b ∧ b ≤ 65535) (hs : 0 ≤ s ∧ s ≤ 65535) :
    Calls Tryz.prog 175 #[.int .i64 b, .int .i64 s] w fun e w' => e = .returned (.int .i64 (ddgU b s)) ∧ w = w' := by
  by_cases h0 : b = 0
  · have E : Hid (ddgU b s = 0) := by show _ = _; unfold ddgU; rw [if_pos h0]
    subst h0
    go_enter Tryz.func175, Tryz.ntmps175
    go_wp2_with fail
    go_ret
    exact ⟨ret_int E.out.symm, rfl⟩
  · have z0 : (b == 0) = false := by simpa using h0
    by_cases h1 : s = 65535
    · have E : Hid (ddgU b s = 65535) := by show _ = _; unfold ddgU; rw [if_neg h0, if_pos h1]
      clear h0
      subst h1
      go_enter Tryz.func175, Tryz.ntmps175
      go_wp2_with fail
      go_ret
      exact ⟨ret_int E.out.symm, rfl⟩
    · have z1 : (s == 65535) = false := by simpa using h1
      have E : Hid (ddgU b s = min 65535 (dv (b * 65535) (65535 - s))) := by show _ = _; unfold ddgU; rw [if_neg h0, if_neg h1]
      have C : ∀ w : World, Calls Tryz.prog 124 #[.int .i64 b, .int .i64 (65535 - s)] w fun e w' => e = .returned (.int .i64 (min 65535 (dv (b * 65535) (65535 - s)))) ∧ w = w' := fun w => by
        have c := quo_any b (65535 - s) w (by rw [cl_id _ (by omega) (by omega)]; omega)
        rw [cl_id b hb.1 hb.2, cl_id (65535 - s) (by omega) (by omega)] at c
        exact c
      have HC := Lib.hid C
      clear C h0 h1
      go_enter Tryz.func175, Tryz.ntmps175
      go_wp2_with fail
      refine (HC.out _).mono ?_
      rintro e w' ⟨rfl, rfl⟩
      go_wp2_with fail
      go_ret
      exact ⟨ret_int E.out.symm, rfl⟩

set_option maxRecDepth 100000 in
set_option maxHeartbeats 1000000 in
theorem channel1 (b s : Int) (w : World) :
    Calls Tryz.prog 164 #[.int .i64 1, .int .i64 b, .int .i64 s] w fun e w' => e = .returned (.int .i64 (chU 1 (cl b) (cl s))) ∧ w = w' := by
  have hb := cl_bd b
  have hs := cl_bd s
  generalize hB : cl b = B at *
  generalize hS : cl s = S at *
  have HB := Lib.hid hB
  have HS := Lib.hid hS
  clear hB hS
  go_enter Tryz.func164, Tryz.ntmps164
  go_wp2_with fail
  refine (unit_b _ _).mono ?_
  rintro e w' ⟨rfl, rfl⟩
  rw [HB.out]
  go_wp2_with fail
  refine (unit_b _ _).mono ?_
  rintro e w' ⟨rfl, rfl⟩
  rw [HS.out]
  go_wp2_with fail
  refine (mulU_any _ _ _ hb hs).mono ?_
  rintro e w' ⟨rfl, rfl⟩
  go_wp2_with fail
  go_ret
  exact ⟨rfl, rfl⟩

set_option maxRecDepth 100000 in
set_option maxHeartbeats 1000000 in
theorem channel2 (b s : Int) (w : World) :
    Calls Tryz.prog 164 #[.int .i64 2, .int .i64 b, .int .i64 s] w fun e w' => e = .returned (.int .i64 (chU 2 (cl b) (cl s))) ∧ w = w' := by
  have hb := cl_bd b
  have hs := cl_bd s
  generalize hB : cl b = B at *
  generalize hS : cl s = S at *
  have HB := Lib.hid hB
  have HS := Lib.hid hS
  clear hB hS
  have hm := mulU_bd B S hb hs
  go_enter Tryz.func164, Tryz.ntmps164
  go_wp2_with fail
  refine (unit_b _ _).mono ?_
  rintro e w' ⟨rfl, rfl⟩
  rw [HB.out]
  go_wp2_with fail
  refine (unit_b _ _).mono ?_
  rintro e w' ⟨rfl, rfl⟩
  rw [HS.out]
  go_wp2_with fail
  refine (mulU_any _ _ _ hb hs).mono ?_
  rintro e w' ⟨rfl, rfl⟩
  go_wp2_with fail
  go_ret
  exact ⟨rfl, rfl⟩

set_option maxRecDepth 100000 in
set_option maxHeartbeats 1000000 in
theorem channel3 (b s : Int) (w : World) :
    Calls Tryz.prog 164 #[.int .i64 3, .int .i64 b, .int .i64 s] w fun e w' => e = .returned (.int .i64 (chU 3 (cl b) (cl s))) ∧ w = w' := by
  have hb := cl_bd b
  have hs := cl_bd s
  generalize hB : cl b = B at *
  generalize hS : cl s = S at *
  have HB := Lib.hid hB
  have HS := Lib.hid hS
  clear hB hS
  by_cases hc : 2 * B ≤ 65535
  · have E : Hid (hrdU S B = mulU S (2 * B)) := by show _ = _; unfold hrdU; rw [if_pos hc]
    go_enter Tryz.func164, Tryz.ntmps164
    go_wp2_with fail
    refine (unit_b _ _).mono ?_
    rintro e w' ⟨rfl, rfl⟩
    rw [HB.out]
    go_wp2_with fail
    refine (unit_b _ _).mono ?_
    rintro e w' ⟨rfl, rfl⟩
    rw [HS.out]
    go_wp2_with fail
    refine (mulU_any _ _ _ hs (by omega)).mono ?_
    rintro e w' ⟨rfl, rfl⟩
    go_wp2_with fail
    go_ret
    exact ⟨ret_int E.out.symm, rfl⟩
  · have E : Hid (hrdU S B = scrU S (2 * B - 65535)) := by show _ = _; unfold hrdU; rw [if_neg hc]
    have hm := mulU_bd S (2 * B - 65535) hs (by omega)
    go_enter Tryz.func164, Tryz.ntmps164
    go_wp2_with fail
    refine (unit_b _ _).mono ?_
    rintro e w' ⟨rfl, rfl⟩
    rw [HB.out]
    go_wp2_with fail
    refine (unit_b _ _).mono ?_
    rintro e w' ⟨rfl, rfl⟩
    rw [HS.out]
    go_wp2_with fail
    refine (mulU_any _ _ _ hs (by omega)).mono ?_
    rintro e w' ⟨rfl, rfl⟩
    go_wp2_with fail
    go_ret
    exact ⟨ret_int (by show _ = hrdU _ _; rw [E.out]; rfl), rfl⟩

set_option maxRecDepth 100000 in
set_option maxHeartbeats 1000000 in
theorem channel4 (b s : Int) (w : World) :
    Calls Tryz.prog 164 #[.int .i64 4, .int .i64 b, .int .i64 s] w fun e w' => e = .returned (.int .i64 (chU 4 (cl b) (cl s))) ∧ w = w' := by
  have hb := cl_bd b
  have hs := cl_bd s
  generalize hB : cl b = B at *
  generalize hS : cl s = S at *
  have HB := Lib.hid hB
  have HS := Lib.hid hS
  clear hB hS
  go_enter Tryz.func164, Tryz.ntmps164
  go_wp2_with fail
  refine (unit_b _ _).mono ?_
  rintro e w' ⟨rfl, rfl⟩
  rw [HB.out]
  go_wp2_with fail
  refine (unit_b _ _).mono ?_
  rintro e w' ⟨rfl, rfl⟩
  rw [HS.out]
  go_wp2_with fail
  go_ret
  exact ⟨rfl, rfl⟩

set_option maxRecDepth 100000 in
set_option maxHeartbeats 1000000 in
theorem channel5 (b s : Int) (w : World) :
    Calls Tryz.prog 164 #[.int .i64 5, .int .i64 b, .int .i64 s] w fun e w' => e = .returned (.int .i64 (chU 5 (cl b) (cl s))) ∧ w = w' := by
  have hb := cl_bd b
  have hs := cl_bd s
  generalize hB : cl b = B at *
  generalize hS : cl s = S at *
  have HB := Lib.hid hB
  have HS := Lib.hid hS
  clear hB hS
  go_enter Tryz.func164, Tryz.ntmps164
  go_wp2_with fail
  refine (unit_b _ _).mono ?_
  rintro e w' ⟨rfl, rfl⟩
  rw [HB.out]
  go_wp2_with fail
  refine (unit_b _ _).mono ?_
  rintro e w' ⟨rfl, rfl⟩
  rw [HS.out]
  go_wp2_with fail
  go_ret
  exact ⟨rfl, rfl⟩

set_option maxRecDepth 100000 in
set_option maxHeartbeats 1000000 in
theorem channel6 (b s : Int) (w : World) :
    Calls Tryz.prog 164 #[.int .i64 6, .int .i64 b, .int .i64 s] w fun e w' => e = .returned (.int .i64 (chU 6 (cl b) (cl s))) ∧ w = w' := by
  have hb := cl_bd b
  have hs := cl_bd s
  generalize hB : cl b = B at *
  generalize hS : cl s = S at *
  have HB := Lib.hid hB
  have HS := Lib.hid hS
  clear hB hS
  go_enter Tryz.func164, Tryz.ntmps164
  go_wp2_with fail
  refine (unit_b _ _).mono ?_
  rintro e w' ⟨rfl, rfl⟩
  rw [HB.out]
  go_wp2_with fail
  refine (unit_b _ _).mono ?_
  rintro e w' ⟨rfl, rfl⟩
  rw [HS.out]
  go_wp2_with fail
  refine (dodge_any _ _ _ hb hs).mono ?_
  rintro e w' ⟨rfl, rfl⟩
  go_wp2_with fail
  go_ret
  exact ⟨rfl, rfl⟩

set_option maxRecDepth 100000 in
set_option maxHeartbeats 1000000 in
theorem channel7 (b s : Int) (w : World) :
    Calls Tryz.prog 164 #[.int .i64 7, .int .i64 b, .int .i64 s] w fun e w' => e = .returned (.int .i64 (chU 7 (cl b) (cl s))) ∧ w = w' := by
  have hb := cl_bd b
  have hs := cl_bd s
  generalize hB : cl b = B at *
  generalize hS : cl s = S at *
  have HB := Lib.hid hB
  have HS := Lib.hid hS
  clear hB hS
  have hm := ddgU_bd (65535 - B) (65535 - S) (by omega) (by omega)
  go_enter Tryz.func164, Tryz.ntmps164
  go_wp2_with fail
  refine (unit_b _ _).mono ?_
  rintro e w' ⟨rfl, rfl⟩
  rw [HB.out]
  go_wp2_with fail
  refine (unit_b _ _).mono ?_
  rintro e w' ⟨rfl, rfl⟩
  rw [HS.out]
  go_wp2_with fail
  refine (dodge_any _ _ _ (by omega) (by omega)).mono ?_
  rintro e w' ⟨rfl, rfl⟩
  go_wp2_with fail
  go_ret
  exact ⟨rfl, rfl⟩

set_option maxRecDepth 100000 in
set_option maxHeartbeats 1000000 in
theorem channel8 (b s : Int) (w : World) :
    Calls Tryz.prog 164 #[.int .i64 8, .int .i64 b, .int .i64 s] w fun e w' => e = .returned (.int .i64 (chU 8 (cl b) (cl s))) ∧ w = w' := by
  have hb := cl_bd b
  have hs := cl_bd s
  generalize hB : cl b = B at *
  generalize hS : cl s = S at *
  have HB := Lib.hid hB
  have HS := Lib.hid hS
  clear hB hS
  by_cases hc : 2 * S ≤ 65535
  · have E : Hid (hrdU B S = mulU B (2 * S)) := by show _ = _; unfold hrdU; rw [if_pos hc]
    go_enter Tryz.func164, Tryz.ntmps164
    go_wp2_with fail
    refine (unit_b _ _).mono ?_
    rintro e w' ⟨rfl, rfl⟩
    rw [HB.out]
    go_wp2_with fail
    refine (unit_b _ _).mono ?_
    rintro e w' ⟨rfl, rfl⟩
    rw [HS.out]
    go_wp2_with fail
    refine (mulU_any _ _ _ hb (by omega)).mono ?_
    rintro e w' ⟨rfl, rfl⟩
    go_wp2_with fail
    go_ret
    exact ⟨ret_int E.out.symm, rfl⟩
  · have E : Hid (hrdU B S = scrU B (2 * S - 65535)) := by show _ = _; unfold hrdU; rw [if_neg hc]
    have hm := mulU_bd B (2 * S - 65535) hb (by omega)
    go_enter Tryz.func164, Tryz.ntmps164
    go_wp2_with fail
    refine (unit_b _ _).mono ?_
    rintro e w' ⟨rfl, rfl⟩
    rw [HB.out]
    go_wp2_with fail
    refine (unit_b _ _).mono ?_
    rintro e w' ⟨rfl, rfl⟩
    rw [HS.out]
    go_wp2_with fail
    refine (mulU_any _ _ _ hb (by omega)).mono ?_
    rintro e w' ⟨rfl, rfl⟩
    go_wp2_with fail
    go_ret
    exact ⟨ret_int (by show _ = hrdU _ _; rw [E.out]; rfl), rfl⟩

set_option maxRecDepth 100000 in
set_option maxHeartbeats 1000000 in
theorem channel9 (b s : Int) (w : World) :
    Calls Tryz.prog 164 #[.int .i64 9, .int .i64 b, .int .i64 s] w fun e w' => e = .returned (.int .i64 (chU 9 (cl b) (cl s))) ∧ w = w' := by
  have hb := cl_bd b
  have hs := cl_bd s
  generalize hB : cl b = B at *
  generalize hS : cl s = S at *
  have HB := Lib.hid hB
  have HS := Lib.hid hS
  clear hB hS
  obtain ⟨m1, m2, m3, m4⟩ := soft_bd B S hb hs
  go_enter Tryz.func164, Tryz.ntmps164
  go_wp2_with fail
  refine (unit_b _ _).mono ?_
  rintro e w' ⟨rfl, rfl⟩
  rw [HB.out]
  go_wp2_with fail
  refine (unit_b _ _).mono ?_
  rintro e w' ⟨rfl, rfl⟩
  rw [HS.out]
  go_wp2_with fail
  refine (div_any _ _ _ (by omega) (by omega) (by omega) (by omega)).mono ?_
  rintro e w' ⟨rfl, rfl⟩
  go_wp2_with fail
  refine (unit_b _ _).mono ?_
  rintro e w' ⟨rfl, rfl⟩
  go_wp2_with fail
  go_ret
  exact ⟨rfl, rfl⟩

set_option maxRecDepth 100000 in
set_option maxHeartbeats 1000000 in
theorem channel10 (b s : Int) (w : World) :
    Calls Tryz.prog 164 #[.int .i64 10, .int .i64 b, .int .i64 s] w fun e w' => e = .returned (.int .i64 (chU 10 (cl b) (cl s))) ∧ w = w' := by
  have hb := cl_bd b
  have hs := cl_bd s
  generalize hB : cl b = B at *
  generalize hS : cl s = S at *
  have HB := Lib.hid hB
  have HS := Lib.hid hS
  clear hB hS
  go_enter Tryz.func164, Tryz.ntmps164
  go_wp2_with fail
  refine (unit_b _ _).mono ?_
  rintro e w' ⟨rfl, rfl⟩
  rw [HB.out]
  go_wp2_with fail
  refine (unit_b _ _).mono ?_
  rintro e w' ⟨rfl, rfl⟩
  rw [HS.out]
  go_wp2_with fail
  go_ret
  exact ⟨rfl, rfl⟩

set_option maxRecDepth 100000 in
set_option maxHeartbeats 1000000 in
theorem channel11 (b s : Int) (w : World) :
    Calls Tryz.prog 164 #[.int .i64 11, .int .i64 b, .int .i64 s] w fun e w' => e = .returned (.int .i64 (chU 11 (cl b) (cl s))) ∧ w = w' := by
  have hb := cl_bd b
  have hs := cl_bd s
  generalize hB : cl b = B at *
  generalize hS : cl s = S at *
  have HB := Lib.hid hB
  have HS := Lib.hid hS
  clear hB hS
  obtain ⟨m1, m2, m3, m4⟩ := exc_bd B S hb hs
  go_enter Tryz.func164, Tryz.ntmps164
  go_wp2_with fail
  refine (unit_b _ _).mono ?_
  rintro e w' ⟨rfl, rfl⟩
  rw [HB.out]
  go_wp2_with fail
  refine (unit_b _ _).mono ?_
  rintro e w' ⟨rfl, rfl⟩
  rw [HS.out]
  go_wp2_with fail
  refine (div_any _ _ _ (by omega) (by omega) (by omega) (by omega)).mono ?_
  rintro e w' ⟨rfl, rfl⟩
  go_wp2_with fail
  refine (unit_b _ _).mono ?_
  rintro e w' ⟨rfl, rfl⟩
  go_wp2_with fail
  go_ret
  exact ⟨rfl, rfl⟩

set_option maxRecDepth 100000 in
set_option maxHeartbeats 1000000 in
theorem channel12 (b s : Int) (w : World) :
    Calls Tryz.prog 164 #[.int .i64 12, .int .i64 b, .int .i64 s] w fun e w' => e = .returned (.int .i64 (chU 12 (cl b) (cl s))) ∧ w = w' := by
  have hb := cl_bd b
  have hs := cl_bd s
  generalize hB : cl b = B at *
  generalize hS : cl s = S at *
  have HB := Lib.hid hB
  have HS := Lib.hid hS
  clear hB hS
  go_enter Tryz.func164, Tryz.ntmps164
  go_wp2_with fail
  refine (unit_b _ _).mono ?_
  rintro e w' ⟨rfl, rfl⟩
  rw [HB.out]
  go_wp2_with fail
  refine (unit_b _ _).mono ?_
  rintro e w' ⟨rfl, rfl⟩
  rw [HS.out]
  go_wp2_with fail
  refine (unit_b _ _).mono ?_
  rintro e w' ⟨rfl, rfl⟩
  go_wp2_with fail
  go_ret
  exact ⟨rfl, rfl⟩

set_option maxRecDepth 100000 in
set_option maxHeartbeats 1000000 in
theorem channel13 (b s : Int) (w : World) :
    Calls Tryz.prog 164 #[.int .i64 13, .int .i64 b, .int .i64 s] w fun e w' => e = .returned (.int .i64 (chU 13 (cl b) (cl s))) ∧ w = w' := by
  have hb := cl_bd b
  have hs := cl_bd s
  generalize hB : cl b = B at *
  generalize hS : cl s = S at *
  have HB := Lib.hid hB
  have HS := Lib.hid hS
  clear hB hS
  go_enter Tryz.func164, Tryz.ntmps164
  go_wp2_with fail
  refine (unit_b _ _).mono ?_
  rintro e w' ⟨rfl, rfl⟩
  rw [HB.out]
  go_wp2_with fail
  refine (unit_b _ _).mono ?_
  rintro e w' ⟨rfl, rfl⟩
  rw [HS.out]
  go_wp2_with fail
  refine (unit_b _ _).mono ?_
  rintro e w' ⟨rfl, rfl⟩
  go_wp2_with fail
  go_ret
  exact ⟨ret_int (by show cl (B + -S) = cl (B - S); rw [Int.sub_eq_add_neg]), rfl⟩

theorem chU_other (m b s : Int) (h : m < 1 ∨ 13 < m) : chU m b s = s := by
  unfold chU
  repeat' rw [if_neg (by omega)]

set_option maxRecDepth 100000 in
set_option maxHeartbeats 1000000 in
theorem channelN (m b s : Int) (w : World) (h : m < 1 ∨ 13 < m) :
    Calls Tryz.prog 164 #[.int .i64 m, .int .i64 b, .int .i64 s] w fun e w' => e = .returned (.int .i64 (chU m (cl b) (cl s))) ∧ w = w' := by
  have E := Lib.hid (chU_other m (cl b) (cl s) h)
  have g1 : (m == 1) = false := by simpa using (show m ≠ 1 by omega)
  have g2 : (m == 2) = false := by simpa using (show m ≠ 2 by omega)
  have g3 : (m == 3) = false := by simpa using (show m ≠ 3 by omega)
  have g4 : (m == 4) = false := by simpa using (show m ≠ 4 by omega)
  have g5 : (m == 5) = false := by simpa using (show m ≠ 5 by omega)
  have g6 : (m == 6) = false := by simpa using (show m ≠ 6 by omega)
  have g7 : (m == 7) = false := by simpa using (show m ≠ 7 by omega)
  have g8 : (m == 8) = false := by simpa using (show m ≠ 8 by omega)
  have g9 : (m == 9) = false := by simpa using (show m ≠ 9 by omega)
  have g10 : (m == 10) = false := by simpa using (show m ≠ 10 by omega)
  have g11 : (m == 11) = false := by simpa using (show m ≠ 11 by omega)
  have g12 : (m == 12) = false := by simpa using (show m ≠ 12 by omega)
  have g13 : (m == 13) = false := by simpa using (show m ≠ 13 by omega)
  clear h
  go_enter Tryz.func164, Tryz.ntmps164
  go_wp2_with fail
  refine (unit_b _ _).mono ?_
  rintro e w' ⟨rfl, rfl⟩
  go_wp2_with fail
  refine (unit_b _ _).mono ?_
  rintro e w' ⟨rfl, rfl⟩
  go_wp2_with fail
  go_ret
  exact ⟨ret_int E.out.symm, rfl⟩

theorem channel_any (m b s : Int) (w : World) :
    Calls Tryz.prog 164 #[.int .i64 m, .int .i64 b, .int .i64 s] w fun e w' => e = .returned (.int .i64 (chU m (cl b) (cl s))) ∧ w = w' := by
  by_cases h : m < 1 ∨ 13 < m
  · exact channelN m b s w h
  · obtain rfl | rfl | rfl | rfl | rfl | rfl | rfl | rfl | rfl | rfl | rfl | rfl | rfl : m = 1 ∨ m = 2 ∨ m = 3 ∨ m = 4 ∨ m = 5 ∨ m = 6 ∨ m = 7 ∨ m = 8 ∨ m = 9 ∨ m = 10 ∨ m = 11 ∨ m = 12 ∨ m = 13 := by omega
    · exact channel1 b s w
    · exact channel2 b s w
    · exact channel3 b s w
    · exact channel4 b s w
    · exact channel5 b s w
    · exact channel6 b s w
    · exact channel7 b s w
    · exact channel8 b s w
    · exact channel9 b s w
    · exact channel10 b s w
    · exact channel11 b s w
    · exact channel12 b s w
    · exact channel13 b s w
end Go.Proofs.YtieacbccadbdbaaGreatDoor


/- The walks of the channels of the reference of package blend. -/
namespace Go.Proofs.YtieacbccadbdbaaGreatDoor
open Go.RowKit
set_option linter.unusedVariables false

theorem drewNew {P : Program} {f : FuncId} {args : Array Value} {w : World} {v : Value} (h : Calls P f args w fun e w' => e = .returned v ∧ ∃ n, w' = w.drewN n) : Calls P f args w fun e w' => e = .returned v ∧ Below w.heap.size w w' :=
  h.mono fun _ _ ⟨h1, n, hn⟩ => ⟨h1, by rw [hn]; exact belowN (Below.refl _ _) n⟩

theorem refMulU (a b : Int) (w : World) (ha : 0 ≤ a ∧ a ≤ 65535) (hb : 0 ≤ b ∧ b ≤ 65535) :
    Calls Tryz.prog 24 #[.int .i64 a, .int .i64 b] w fun e w' => e = .returned (.int .i64 (mulU a b)) ∧ Below w.heap.size w w' := by
  have c := drewNew (refMul_any a b w)
  rw [cl_id a ha.1 ha.2, cl_id b hb.1 hb.2] at c
  exact c
theorem refQuoU (a b : Int) (w : World) (ha : 0 ≤ a ∧ a ≤ 65535) (hb : 0 < b ∧ b ≤ 65535) :
    Calls Tryz.prog 168 #[.int .i64 a, .int .i64 b] w fun e w' => e = .returned (.int .i64 (min 65535 (dv (a * 65535) b))) ∧ Below w.heap.size w w' := by
  have c := drewNew (refQuo_any a b w (by rw [cl_id b (by omega) hb.2]; exact hb.1))
  rw [cl_id a ha.1 ha.2, cl_id b (by omega) hb.2] at c
  exact c

set_option maxHeartbeats 400000 in
theorem refScreen (b s : Int) (w : World) (hb : 0 ≤ b ∧ b ≤ 65535) (hs : 0 ≤ s ∧ s ≤ 65535) :
    Calls Tryz.prog 151 #[.int .i64 b, .int .i64 s] w fun e w' => e = .returned (.int .i64 (scrU b s)) ∧ Below w.heap.size w w' := by
  have hm := mulU_bd b s hb hs
  go_enter Tryz.func151, Tryz.ntmps151
  go_wp2_with fail
  refine (refMulU _ _ _ hb hs).mono ?_
  rintro e w1 ⟨rfl, hB⟩
  go_wp2_with fail
  go_ret
  exact ⟨rfl, hB⟩

set_option maxHeartbeats 400000 in
theorem refHard (b s : Int) (w : World) (hb : 0 ≤ b ∧ b ≤ 65535) (hs : 0 ≤ s ∧ s ≤ 65535) :
    Calls Tryz.prog 152 #[.int .i64 b, .int .i64 s] w fun e w' => e = .returned (.int .i64 (hrdU b s)) ∧ Below w.heap.size w w' := by
  by_cases hc : 2 * s ≤ 65535
  · have E : Hid (hrdU b s = mulU b (2 * s)) := by show _ = _; unfold hrdU; rw [if_pos hc]
    go_enter Tryz.func152, Tryz.ntmps152
    go_wp2_with fail
    refine (refMulU _ _ _ hb (by omega)).mono ?_
    rintro e w1 ⟨rfl, hB⟩
    go_wp2_with fail
    go_ret
    exact ⟨ret_int E.out.symm, hB⟩
  · have E : Hid (hrdU b s = scrU b (2 * s - 65535)) := by show _ = _; unfold hrdU; rw [if_neg hc]
    go_enter Tryz.func152, Tryz.ntmps152
    go_wp2_with fail
    refine (refScreen _ _ _ hb (by omega)).mono ?_
    rintro e w1 ⟨rfl, hB⟩
    go_wp2_with fail
    go_ret
    exact ⟨ret_int E.out.symm, hB⟩

set_option maxHeartbeats 400000 in
theorem refDodge (b s : Int) (w : World) (hb : 0 ≤ b ∧ b ≤ 65535) (hs : 0 ≤ s ∧ s ≤ 65535) :
    Calls Tryz.prog 153 #[.int .i64 b, .int .i64 s] w fun e w' => e = .returned (.int .i64 (ddgU b s)) ∧ Below w.heap.size w w' := by
  by_cases h0 : b = 0
  · have E : Hid (ddgU b s = 0) := by show _ = _; unfold ddgU; rw [if_pos h0]
    subst h0
    go_enter Tryz.func153, Tryz.ntmps153
    go_wp2_with fail
    go_ret
    exact ⟨ret_int E.out.symm, Below.refl _ _⟩
  · have z0 : (b == 0) = false := by simpa using h0
    by_cases h1 : s = 65535
    · have E : Hid (ddgU b s = 65535) := by show _ = _; unfold ddgU; rw [if_neg h0, if_pos h1]
      clear h0
      subst h1
      go_enter Tryz.func153, Tryz.ntmps153
      go_wp2_with fail
      go_ret
      exact ⟨ret_int E.out.symm, Below.refl _ _⟩
    · have z1 : (s == 65535) = false := by simpa using h1
      have E : Hid (ddgU b s = min 65535 (dv (b * 65535) (65535 - s))) := by show _ = _; unfold ddgU; rw [if_neg h0, if_neg h1]
      have f1 : 0 < 65535 - s ∧ 65535 - s ≤ 65535 := by omega
      clear h0 h1
      go_enter Tryz.func153, Tryz.ntmps153
      go_wp2_with fail
      refine (refQuoU _ _ _ hb f1).mono ?_
      rintro e w1 ⟨rfl, hB⟩
      go_wp2_with fail
      go_ret
      exact ⟨ret_int E.out.symm, hB⟩

theorem burn_eq (b s : Int) (hb : 0 ≤ b ∧ b ≤ 65535) (hs : 0 ≤ s ∧ s ≤ 65535) :
    (b = 65535 → 65535 - ddgU (65535 - b) (65535 - s) = 65535) ∧ (b ≠ 65535 → s = 0 → 65535 - ddgU (65535 - b) (65535 - s) = 0) ∧ (b ≠ 65535 → s ≠ 0 → 65535 - ddgU (65535 - b) (65535 - s) = 65535 - min 65535 (dv ((65535 - b) * 65535) s)) := by
  refine ⟨fun h => ?_, fun h1 h2 => ?_, fun h1 h2 => ?_⟩
  · subst h; rfl
  · subst h2; unfold ddgU; rw [if_neg (by omega), if_pos (by omega)]; rfl
  · unfold ddgU; rw [if_neg (by omega), if_neg (by omega), show 65535 - (65535 - s) = s from by omega]

set_option maxHeartbeats 400000 in
theorem refBurn (b s : Int) (w : World) (hb : 0 ≤ b ∧ b ≤ 65535) (hs : 0 ≤ s ∧ s ≤ 65535) :
    Calls Tryz.prog 154 #[.int .i64 b, .int .i64 s] w fun e w' => e = .returned (.int .i64 (65535 - ddgU (65535 - b) (65535 - s))) ∧ Below w.heap.size w w' := by
  have H := Lib.hid (burn_eq b s hb hs)
  by_cases h0 : b = 65535
  · have E : Hid (65535 - ddgU (65535 - b) (65535 - s) = 65535) := H.out.1 h0
    generalize ddgU (65535 - b) (65535 - s) = d at *
    subst h0
    go_enter Tryz.func154, Tryz.ntmps154
    go_wp2_with fail
    go_ret
    exact ⟨ret_int E.out.symm, Below.refl _ _⟩
  · have z0 : (b == 65535) = false := by simpa using h0
    by_cases h1 : s = 0
    · have E : Hid (65535 - ddgU (65535 - b) (65535 - s) = 0) := H.out.2.1 h0 h1
      generalize ddgU (65535 - b) (65535 - s) = d at *
      clear h0
      subst h1
      go_enter Tryz.func154, Tryz.ntmps154
      go_wp2_with fail
      go_ret
      exact ⟨ret_int E.out.symm, Below.refl _ _⟩
    · have z1 : (s == 0) = false := by simpa using h1
      have E : Hid (65535 - ddgU (65535 - b) (65535 - s) = 65535 - min 65535 (dv ((65535 - b) * 65535) s)) := H.out.2.2 h0 h1
      have f1 : 0 < s ∧ s ≤ 65535 := by omega
      have f2 : 0 ≤ 65535 - b ∧ 65535 - b ≤ 65535 := by omega
      have hq := dv_nonneg ((65535 - b) * 65535) s f1.1 (by omega)
      generalize ddgU (65535 - b) (65535 - s) = d at *
      clear h0 h1 H
      go_enter Tryz.func154, Tryz.ntmps154
      go_wp2_with fail
      refine (refQuoU _ _ _ f2 f1).mono ?_
      rintro e w1 ⟨rfl, hB⟩
      generalize dv ((65535 - b) * 65535) s = q at *
      go_wp2_with fail
      go_ret
      exact ⟨ret_int E.out.symm, hB⟩

set_option maxRecDepth 100000 in
set_option maxHeartbeats 1000000 in
theorem refChannel1 (b s : Int) (w : World) :
    Calls Tryz.prog 113 #[.int .i64 1, .int .i64 b, .int .i64 s] w fun e w' => e = .returned (.int .i64 (chU 1 (cl b) (cl s))) ∧ Below w.heap.size w w' := by
  have hb := cl_bd b
  have hs := cl_bd s
  generalize hB : cl b = B at *
  generalize hS : cl s = S at *
  have HB := Lib.hid hB
  have HS := Lib.hid hS
  clear hB hS
  go_enter Tryz.func113, Tryz.ntmps113
  go_wp2_with fail
  refine (refUnit_n _ _).mono ?_
  rintro e w' ⟨rfl, rfl⟩
  rw [HB.out]
  go_wp2_with fail
  refine (refUnit_n _ _).mono ?_
  rintro e w' ⟨rfl, rfl⟩
  rw [HS.out]
  go_wp2_with fail
  refine (refMulU _ _ _ hb hs).mono ?_
  rintro e w1 ⟨rfl, hB⟩
  go_wp2_with fail
  go_ret
  exact ⟨rfl, hB⟩

set_option maxRecDepth 100000 in
set_option maxHeartbeats 1000000 in
theorem refChannel2 (b s : Int) (w : World) :
    Calls Tryz.prog 113 #[.int .i64 2, .int .i64 b, .int .i64 s] w fun e w' => e = .returned (.int .i64 (chU 2 (cl b) (cl s))) ∧ Below w.heap.size w w' := by
  have hb := cl_bd b
  have hs := cl_bd s
  generalize hB : cl b = B at *
  generalize hS : cl s = S at *
  have HB := Lib.hid hB
  have HS := Lib.hid hS
  clear hB hS
  go_enter Tryz.func113, Tryz.ntmps113
  go_wp2_with fail
  refine (refUnit_n _ _).mono ?_
  rintro e w' ⟨rfl, rfl⟩
  rw [HB.out]
  go_wp2_with fail
  refine (refUnit_n _ _).mono ?_
  rintro e w' ⟨rfl, rfl⟩
  rw [HS.out]
  go_wp2_with fail
  refine (refScreen _ _ _ hb hs).mono ?_
  rintro e w1 ⟨rfl, hB⟩
  go_wp2_with fail
  go_ret
  exact ⟨rfl, hB⟩

set_option maxRecDepth 100000 in
set_option maxHeartbeats 1000000 in
theorem refChannel3 (b s : Int) (w : World) :
    Calls Tryz.prog 113 #[.int .i64 3, .int .i64 b, .int .i64 s] w fun e w' => e = .returned (.int .i64 (chU 3 (cl b) (cl s))) ∧ Below w.heap.size w w' := by
  have hb := cl_bd b
  have hs := cl_bd s
  generalize hB : cl b = B at *
  generalize hS : cl s = S at *
  have HB := Lib.hid hB
  have HS := Lib.hid hS
  clear hB hS
  go_enter Tryz.func113, Tryz.ntmps113
  go_wp2_with fail
  refine (refUnit_n _ _).mono ?_
  rintro e w' ⟨rfl, rfl⟩
  rw [HB.out]
  go_wp2_with fail
  refine (refUnit_n _ _).mono ?_
  rintro e w' ⟨rfl, rfl⟩
  rw [HS.out]
  go_wp2_with fail
  refine (refHard _ _ _ hs hb).mono ?_
  rintro e w1 ⟨rfl, hB⟩
  go_wp2_with fail
  go_ret
  exact ⟨rfl, hB⟩

set_option maxRecDepth 100000 in
set_option maxHeartbeats 1000000 in
theorem refChannel4 (b s : Int) (w : World) :
    Calls Tryz.prog 113 #[.int .i64 4, .int .i64 b, .int .i64 s] w fun e w' => e = .returned (.int .i64 (chU 4 (cl b) (cl s))) ∧ Below w.heap.size w w' := by
  have hb := cl_bd b
  have hs := cl_bd s
  generalize hB : cl b = B at *
  generalize hS : cl s = S at *
  have HB := Lib.hid hB
  have HS := Lib.hid hS
  clear hB hS
  go_enter Tryz.func113, Tryz.ntmps113
  go_wp2_with fail
  refine (refUnit_n _ _).mono ?_
  rintro e w' ⟨rfl, rfl⟩
  rw [HB.out]
  go_wp2_with fail
  refine (refUnit_n _ _).mono ?_
  rintro e w' ⟨rfl, rfl⟩
  rw [HS.out]
  go_wp2_with fail
  go_ret
  exact ⟨rfl, Below.refl _ _⟩

set_option maxRecDepth 100000 in
set_option maxHeartbeats 1000000 in
theorem refChannel5 (b s : Int) (w : World) :
    Calls Tryz.prog 113 #[.int .i64 5, .int .i64 b, .int .i64 s] w fun e w' => e = .returned (.int .i64 (chU 5 (cl b) (cl s))) ∧ Below w.heap.size w w' := by
  have hb := cl_bd b
  have hs := cl_bd s
  generalize hB : cl b = B at *
  generalize hS : cl s = S at *
  have HB := Lib.hid hB
  have HS := Lib.hid hS
  clear hB hS
  go_enter Tryz.func113, Tryz.ntmps113
  go_wp2_with fail
  refine (refUnit_n _ _).mono ?_
  rintro e w' ⟨rfl, rfl⟩
  rw [HB.out]
  go_wp2_with fail
  refine (refUnit_n _ _).mono ?_
  rintro e w' ⟨rfl, rfl⟩
  rw [HS.out]
  go_wp2_with fail
  go_ret
  exact ⟨rfl, Below.refl _ _⟩

set_option maxRecDepth 100000 in
set_option maxHeartbeats 1000000 in
theorem refChannel6 (b s : Int) (w : World) :
    Calls Tryz.prog 113 #[.int .i64 6, .int .i64 b, .int .i64 s] w fun e w' => e = .returned (.int .i64 (chU 6 (cl b) (cl s))) ∧ Below w.heap.size w w' := by
  have hb := cl_bd b
  have hs := cl_bd s
  generalize hB : cl b = B at *
  generalize hS : cl s = S at *
  have HB := Lib.hid hB
  have HS := Lib.hid hS
  clear hB hS
  go_enter Tryz.func113, Tryz.ntmps113
  go_wp2_with fail
  refine (refUnit_n _ _).mono ?_
  rintro e w' ⟨rfl, rfl⟩
  rw [HB.out]
  go_wp2_with fail
  refine (refUnit_n _ _).mono ?_
  rintro e w' ⟨rfl, rfl⟩
  rw [HS.out]
  go_wp2_with fail
  refine (refDodge _ _ _ hb hs).mono ?_
  rintro e w1 ⟨rfl, hB⟩
  go_wp2_with fail
  go_ret
  exact ⟨rfl, hB⟩

set_option maxRecDepth 100000 in
set_option maxHeartbeats 1000000 in
theorem refChannel7 (b s : Int) (w : World) :
    Calls Tryz.prog 113 #[.int .i64 7, .int .i64 b, .int .i64 s] w fun e w' => e = .returned (.int .i64 (chU 7 (cl b) (cl s))) ∧ Below w.heap.size w w' := by
  have hb := cl_bd b
  have hs := cl_bd s
  generalize hB : cl b = B at *
  generalize hS : cl s = S at *
  have HB := Lib.hid hB
  have HS := Lib.hid hS
  clear hB hS
  go_enter Tryz.func113, Tryz.ntmps113
  go_wp2_with fail
  refine (refUnit_n _ _).mono ?_
  rintro e w' ⟨rfl, rfl⟩
  rw [HB.out]
  go_wp2_with fail
  refine (refUnit_n _ _).mono ?_
  rintro e w' ⟨rfl, rfl⟩
  rw [HS.out]
  go_wp2_with fail
  refine (refBurn _ _ _ hb hs).mono ?_
  rintro e w1 ⟨rfl, hB⟩
  go_wp2_with fail
  go_ret
  exact ⟨rfl, hB⟩

set_option maxRecDepth 100000 in
set_option maxHeartbeats 1000000 in
theorem refChannel8 (b s : Int) (w : World) :
    Calls Tryz.prog 113 #[.int .i64 8, .int .i64 b, .int .i64 s] w fun e w' => e = .returned (.int .i64 (chU 8 (cl b) (cl s))) ∧ Below w.heap.size w w' := by
  have hb := cl_bd b
  have hs := cl_bd s
  generalize hB : cl b = B at *
  generalize hS : cl s = S at *
  have HB := Lib.hid hB
  have HS := Lib.hid hS
  clear hB hS
  go_enter Tryz.func113, Tryz.ntmps113
  go_wp2_with fail
  refine (refUnit_n _ _).mono ?_
  rintro e w' ⟨rfl, rfl⟩
  rw [HB.out]
  go_wp2_with fail
  refine (refUnit_n _ _).mono ?_
  rintro e w' ⟨rfl, rfl⟩
  rw [HS.out]
  go_wp2_with fail
  refine (refHard _ _ _ hb hs).mono ?_
  rintro e w1 ⟨rfl, hB⟩
  go_wp2_with fail
  go_ret
  exact ⟨rfl, hB⟩

set_option maxRecDepth 100000 in
set_option maxHeartbeats 1000000 in
theorem refChannel9 (b s : Int) (w : World) :
    Calls Tryz.prog 113 #[.int .i64 9, .int .i64 b, .int .i64 s] w fun e w' => e = .returned (.int .i64 (chU 9 (cl b) (cl s))) ∧ Below w.heap.size w w' := by
  have hb := cl_bd b
  have hs := cl_bd s
  generalize hB : cl b = B at *
  generalize hS : cl s = S at *
  have HB := Lib.hid hB
  have HS := Lib.hid hS
  clear hB hS
  obtain ⟨m1, m2, m3, m4⟩ := soft_bd B S hb hs
  go_enter Tryz.func113, Tryz.ntmps113
  go_wp2_with fail
  refine (refUnit_n _ _).mono ?_
  rintro e w' ⟨rfl, rfl⟩
  rw [HB.out]
  go_wp2_with fail
  refine (refUnit_n _ _).mono ?_
  rintro e w' ⟨rfl, rfl⟩
  rw [HS.out]
  go_wp2_with fail
  refine (refDiv_new _ _ _ (by omega) (by omega) (by omega) (by omega)).mono ?_
  rintro e w1 ⟨rfl, hB⟩
  go_wp2_with fail
  refine (refUnit_n _ _).mono ?_
  rintro e w' ⟨rfl, rfl⟩
  go_wp2_with fail
  go_ret
  exact ⟨rfl, hB⟩

set_option maxRecDepth 100000 in
set_option maxHeartbeats 1000000 in
theorem refChannel10 (b s : Int) (w : World) :
    Calls Tryz.prog 113 #[.int .i64 10, .int .i64 b, .int .i64 s] w fun e w' => e = .returned (.int .i64 (chU 10 (cl b) (cl s))) ∧ Below w.heap.size w w' := by
  have hb := cl_bd b
  have hs := cl_bd s
  generalize hB : cl b = B at *
  generalize hS : cl s = S at *
  have HB := Lib.hid hB
  have HS := Lib.hid hS
  clear hB hS
  go_enter Tryz.func113, Tryz.ntmps113
  go_wp2_with fail
  refine (refUnit_n _ _).mono ?_
  rintro e w' ⟨rfl, rfl⟩
  rw [HB.out]
  go_wp2_with fail
  refine (refUnit_n _ _).mono ?_
  rintro e w' ⟨rfl, rfl⟩
  rw [HS.out]
  go_wp2_with fail
  go_ret
  exact ⟨ret_int (by show max B S - min B S = max (B - S) (S - B); omega), Below.refl _ _⟩

set_option maxRecDepth 100000 in
set_option maxHeartbeats 1000000 in
theorem refChannel11 (b s : Int) (w : World) :
    Calls Tryz.prog 113 #[.int .i64 11, .int .i64 b, .int .i64 s] w fun e w' => e = .returned (.int .i64 (chU 11 (cl b) (cl s))) ∧ Below w.heap.size w w' := by
  have hb := cl_bd b
  have hs := cl_bd s
  generalize hB : cl b = B at *
  generalize hS : cl s = S at *
  have HB := Lib.hid hB
  have HS := Lib.hid hS
  clear hB hS
  obtain ⟨m1, m2, m3, m4⟩ := exc_bd B S hb hs
  go_enter Tryz.func113, Tryz.ntmps113
  go_wp2_with fail
  refine (refUnit_n _ _).mono ?_
  rintro e w' ⟨rfl, rfl⟩
  rw [HB.out]
  go_wp2_with fail
  refine (refUnit_n _ _).mono ?_
  rintro e w' ⟨rfl, rfl⟩
  rw [HS.out]
  go_wp2_with fail
  refine (refDiv_new _ _ _ (by omega) (by omega) (by omega) (by omega)).mono ?_
  rintro e w1 ⟨rfl, hB⟩
  go_wp2_with fail
  refine (refUnit_n _ _).mono ?_
  rintro e w' ⟨rfl, rfl⟩
  go_wp2_with fail
  go_ret
  exact ⟨rfl, hB⟩

set_option maxRecDepth 100000 in
set_option maxHeartbeats 1000000 in
theorem refChannel12 (b s : Int) (w : World) :
    Calls Tryz.prog 113 #[.int .i64 12, .int .i64 b, .int .i64 s] w fun e w' => e = .returned (.int .i64 (chU 12 (cl b) (cl s))) ∧ Below w.heap.size w w' := by
  have hb := cl_bd b
  have hs := cl_bd s
  generalize hB : cl b = B at *
  generalize hS : cl s = S at *
  have HB := Lib.hid hB
  have HS := Lib.hid hS
  clear hB hS
  go_enter Tryz.func113, Tryz.ntmps113
  go_wp2_with fail
  refine (refUnit_n _ _).mono ?_
  rintro e w' ⟨rfl, rfl⟩
  rw [HB.out]
  go_wp2_with fail
  refine (refUnit_n _ _).mono ?_
  rintro e w' ⟨rfl, rfl⟩
  rw [HS.out]
  go_wp2_with fail
  refine (refUnit_n _ _).mono ?_
  rintro e w' ⟨rfl, rfl⟩
  go_wp2_with fail
  go_ret
  exact ⟨rfl, Below.refl _ _⟩

set_option maxRecDepth 100000 in
set_option maxHeartbeats 1000000 in
theorem refChannel13 (b s : Int) (w : World) :
    Calls Tryz.prog 113 #[.int .i64 13, .int .i64 b, .int .i64 s] w fun e w' => e = .returned (.int .i64 (chU 13 (cl b) (cl s))) ∧ Below w.heap.size w w' := by
  have hb := cl_bd b
  have hs := cl_bd s
  generalize hB : cl b = B at *
  generalize hS : cl s = S at *
  have HB := Lib.hid hB
  have HS := Lib.hid hS
  clear hB hS
  go_enter Tryz.func113, Tryz.ntmps113
  go_wp2_with fail
  refine (refUnit_n _ _).mono ?_
  rintro e w' ⟨rfl, rfl⟩
  rw [HB.out]
  go_wp2_with fail
  refine (refUnit_n _ _).mono ?_
  rintro e w' ⟨rfl, rfl⟩
  rw [HS.out]
  go_wp2_with fail
  refine (refUnit_n _ _).mono ?_
  rintro e w' ⟨rfl, rfl⟩
  go_wp2_with fail
  go_ret
  exact ⟨rfl, Below.refl _ _⟩

theorem chU_oth (m b s : Int) (h : m < 1 ∨ 13 < m) : chU m b s = s := by
  unfold chU
  repeat' rw [if_neg (by omega)]

set_option maxRecDepth 100000 in
set_option maxHeartbeats 1000000 in
theorem refChannelN (m b s : Int) (w : World) (h : m < 1 ∨ 13 < m) :
    Calls Tryz.prog 113 #[.int .i64 m, .int .i64 b, .int .i64 s] w fun e w' => e = .returned (.int .i64 (chU m (cl b) (cl s))) ∧ Below w.heap.size w w' := by
  have E := Lib.hid (chU_oth m (cl b) (cl s) h)
  have g1 : (m == 1) = false := by simpa using (show m ≠ 1 by omega)
  have g2 : (m == 2) = false := by simpa using (show m ≠ 2 by omega)
  have g3 : (m == 3) = false := by simpa using (show m ≠ 3 by omega)
  have g4 : (m == 4) = false := by simpa using (show m ≠ 4 by omega)
  have g5 : (m == 5) = false := by simpa using (show m ≠ 5 by omega)
  have g6 : (m == 6) = false := by simpa using (show m ≠ 6 by omega)
  have g7 : (m == 7) = false := by simpa using (show m ≠ 7 by omega)
  have g8 : (m == 8) = false := by simpa using (show m ≠ 8 by omega)
  have g9 : (m == 9) = false := by simpa using (show m ≠ 9 by omega)
  have g10 : (m == 10) = false := by simpa using (show m ≠ 10 by omega)
  have g11 : (m == 11) = false := by simpa using (show m ≠ 11 by omega)
  have g12 : (m == 12) = false := by simpa using (show m ≠ 12 by omega)
  have g13 : (m == 13) = false := by simpa using (show m ≠ 13 by omega)
  clear h
  go_enter Tryz.func113, Tryz.ntmps113
  go_wp2_with fail
  refine (refUnit_n _ _).mono ?_
  rintro e w' ⟨rfl, rfl⟩
  go_wp2_with fail
  refine (refUnit_n _ _).mono ?_
  rintro e w' ⟨rfl, rfl⟩
  go_wp2_with fail
  go_ret
  exact ⟨ret_int E.out.symm, Below.refl _ _⟩

theorem refChannel_any (m b s : Int) (w : World) :
    Calls Tryz.prog 113 #[.int .i64 m, .int .i64 b, .int .i64 s] w fun e w' => e = .returned (.int .i64 (chU m (cl b) (cl s))) ∧ Below w.heap.size w w' := by
  by_cases h : m < 1 ∨ 13 < m
  · exact refChannelN m b s w h
  · obtain rfl | rfl | rfl | rfl | rfl | rfl | rfl | rfl | rfl | rfl | rfl | rfl | rfl : m = 1 ∨ m = 2 ∨ m = 3 ∨ m = 4 ∨ m = 5 ∨ m = 6 ∨ m = 7 ∨ m = 8 ∨ m = 9 ∨ m = 10 ∨ m = 11 ∨ m = 12 ∨ m = 13 := by omega
    · exact refChannel1 b s w
    · exact refChannel2 b s w
    · exact refChannel3 b s w
    · exact refChannel4 b s w
    · exact refChannel5 b s w
    · exact refChannel6 b s w
    · exact refChannel7 b s w
    · exact refChannel8 b s w
    · exact refChannel9 b s w
    · exact refChannel10 b s w
    · exact refChannel11 b s w
    · exact refChannel12 b s w
    · exact refChannel13 b s w
end Go.Proofs.YtieacbccadbdbaaGreatDoor


/- The functions of the modes of package blend, from two colors to one. -/
namespace Go.Proofs.YtieacbccadbdbaaGreatDoor
open Go.RowKit
set_option linter.unusedVariables false
attribute [local go_sem] Oper.gAt gUponK

abbrev C3 := Int × Int × Int
def U3 (c : C3) : Prop := U c.1 ∧ U c.2.1 ∧ U c.2.2
abbrev cv3 (c : C3) : Value := cv c.1 c.2.1 c.2.2
def lum3 (c : C3) : Int := lumU c.1 c.2.1 c.2.2
def sat3 (c : C3) : Int := mx3 c.1 c.2.1 c.2.2 - mn3 c.1 c.2.1 c.2.2
def setSat3 (c : C3) (s : Int) : C3 := (ssC s (mn3 c.1 c.2.1 c.2.2) (mx3 c.1 c.2.1 c.2.2) c.1, ssC s (mn3 c.1 c.2.1 c.2.2) (mx3 c.1 c.2.1 c.2.2) c.2.1, ssC s (mn3 c.1 c.2.1 c.2.2) (mx3 c.1 c.2.1 c.2.2) c.2.2)
def lumSet3 (c : C3) (l : Int) : C3 := (slF c.1 c.2.1 c.2.2 l c.1, slF c.1 c.2.1 c.2.2 l c.2.1, slF c.1 c.2.1 c.2.2 l c.2.2)
theorem lum3_u (c : C3) (h : U3 c) : U (lum3 c) := lumU_bd _ _ _ h.1 h.2.1 h.2.2
theorem sat3_u (c : C3) (h : U3 c) : U (sat3 c) := by
  obtain ⟨h1, h2, h3⟩ := h
  unfold U at *
  unfold sat3 mx3 mn3
  omega
theorem setSat3_u (c : C3) (s : Int) (h : U3 c) (hs : U s) : U3 (setSat3 c s) := by
  have h1 : mn3 c.1 c.2.1 c.2.2 ≤ c.1 ∧ mn3 c.1 c.2.1 c.2.2 ≤ c.2.1 ∧ mn3 c.1 c.2.1 c.2.2 ≤ c.2.2 := by unfold mn3; omega
  have h2 : c.1 ≤ mx3 c.1 c.2.1 c.2.2 ∧ c.2.1 ≤ mx3 c.1 c.2.1 c.2.2 ∧ c.2.2 ≤ mx3 c.1 c.2.1 c.2.2 := by unfold mx3; omega
  exact ⟨ssC_bd _ _ _ _ hs h1.1 h2.1, ssC_bd _ _ _ _ hs h1.2.1 h2.2.1, ssC_bd _ _ _ _ hs h1.2.2 h2.2.2⟩
theorem lumSet3_u (c : C3) (l : Int) : U3 (lumSet3 c l) := ⟨slF_bd _ _ _ _ _, slF_bd _ _ _ _ _, slF_bd _ _ _ _ _⟩
/-- The blended color of two colors by a mode. -/
def col3 (m : Int) (b s : C3) : C3 :=
  if m = 14 then lumSet3 (setSat3 s (sat3 b)) (lum3 b) else if m = 15 then lumSet3 (setSat3 b (sat3 s)) (lum3 b) else if m = 16 then lumSet3 s (lum3 b) else if m = 17 then lumSet3 b (lum3 s)
  else (chU m b.1 s.1, chU m b.2.1 s.2.1, chU m b.2.2 s.2.2)
theorem col3_u (m : Int) (b s : C3) (hb : U3 b) (hs : U3 s) : U3 (col3 m b s) := by
  unfold col3
  split
  · exact lumSet3_u _ _
  · split
    · exact lumSet3_u _ _
    · split
      · exact lumSet3_u _ _
      · split
        · exact lumSet3_u _ _
        · exact ⟨chU_bd m _ _ hb.1 hs.1, chU_bd m _ _ hb.2.1 hs.2.1, chU_bd m _ _ hb.2.2 hs.2.2⟩

theorem lumC (c : C3) (w : World) (h : U3 c) : Calls Tryz.prog 140 #[cv3 c] w fun e w' => e = .returned (.int .i64 (lum3 c)) ∧ Below w.heap.size w w' := lum_any _ _ _ _ h.1 h.2.1 h.2.2
theorem satC (c : C3) (w : World) (h : U3 c) : Calls Tryz.prog 139 #[cv3 c] w fun e w' => e = .returned (.int .i64 (sat3 c)) ∧ Below w.heap.size w w' := sat_any _ _ _ _ h.1 h.2.1 h.2.2
theorem setSatC (c : C3) (s : Int) (w : World) (h : U3 c) (hs : U s) : Calls Tryz.prog 138 #[cv3 c, .int .i64 s] w fun e w' => e = .returned (cv3 (setSat3 c s)) ∧ Below w.heap.size w w' := setSat_any _ _ _ _ _ h.1 h.2.1 h.2.2 hs
theorem setLumC (c : C3) (l : Int) (w : World) (h : U3 c) (hl : U l) : Calls Tryz.prog 137 #[cv3 c, .int .i64 l] w fun e w' => e = .returned (cv3 (lumSet3 c l)) ∧ Below w.heap.size w w' := setLum_any _ _ _ _ _ h.1 h.2.1 h.2.2 hl
theorem refLumC (c : C3) (w : World) (h : U3 c) : Calls Tryz.prog 112 #[cv3 c] w fun e w' => e = .returned (.int .i64 (lum3 c)) ∧ Below w.heap.size w w' := reflum_any _ _ _ _ h.1 h.2.1 h.2.2
theorem refSatC (c : C3) (w : World) (h : U3 c) : Calls Tryz.prog 111 #[cv3 c] w fun e w' => e = .returned (.int .i64 (sat3 c)) ∧ Below w.heap.size w w' := refsat_any _ _ _ _ h.1 h.2.1 h.2.2
theorem refSetSatC (c : C3) (s : Int) (w : World) (h : U3 c) (hs : U s) : Calls Tryz.prog 110 #[cv3 c, .int .i64 s] w fun e w' => e = .returned (cv3 (setSat3 c s)) ∧ Below w.heap.size w w' := refsetSat_any _ _ _ _ _ h.1 h.2.1 h.2.2 hs
theorem refSetLumC (c : C3) (l : Int) (w : World) (h : U3 c) (hl : U l) : Calls Tryz.prog 109 #[cv3 c, .int .i64 l] w fun e w' => e = .returned (cv3 (lumSet3 c l)) ∧ Below w.heap.size w w' := refsetLum_any _ _ _ _ _ h.1 h.2.1 h.2.2 hl

set_option maxHeartbeats 400000 in
theorem fn14 (b s : C3) (w : World) (hb0 : U3 b) (hs : U3 s) :
    Calls Tryz.prog 136 #[cv3 b, cv3 s] w fun e w' => e = .returned (cv3 (col3 14 b s)) ∧ Below w.heap.size w w' := by
  have HS := setSat3_u s (sat3 b) hs (sat3_u b hb0)
  have HL := lum3_u b hb0
  have HB := sat3_u b hb0
  go_enter Tryz.func136, Tryz.ntmps136
  go_wp2
  refine name3 (fun W k1 k2 k3 hb => ?_)
  refine wp_region_grow 7 (fun w' => Below (World.heap W).size W w') (by kernel_rfl) (by kernel_rfl) (Below.refl _ _).drew ?_
  simp only [List.take_succ_cons, List.take_zero, List.drop_succ_cons, List.drop_zero]
  repeat (first | (apply wpG_on; rfl; (intro w' hS K hK; have hc0 := (k1.kept hS).c3; have hc1 := (k2.kept hS).c3; have hc2 := (k3.kept hS).c3; go_simp; (first | exact hK.out _ hS | (go_at_call 139; (with_reducible refine (satC b _ hb0).mono ?_); rintro e w'' ⟨rfl, hbb⟩; exact ⟨_, rfl, hK.out _ (hS.trans (hbb.mono hS.size))⟩) | (go_at_call 138; (with_reducible refine (setSatC s _ _ hs HB).mono ?_); rintro e w'' ⟨rfl, hbb⟩; exact ⟨_, rfl, hK.out _ (hS.trans (hbb.mono hS.size))⟩) | (go_at_call 140; (with_reducible refine (lumC b _ hb0).mono ?_); rintro e w'' ⟨rfl, hbb⟩; exact ⟨_, rfl, hK.out _ (hS.trans (hbb.mono hS.size))⟩) | (go_at_call 137; (with_reducible refine (setLumC _ _ _ HS HL).mono ?_); rintro e w'' ⟨rfl, hbb⟩; exact ⟨_, rfl, hK.out _ (hS.trans (hbb.mono hS.size))⟩))); simp only [Act.put, List.setIfInBounds_toArray, List.set_cons_succ, List.set_cons_zero]) | (apply wpG_off; rfl; simp only [Act.put, List.setIfInBounds_toArray, List.set_cons_succ, List.set_cons_zero]))
  apply wpG_nil
  intro W1 hS
  replace k1 := k1.kept hS
  replace k2 := k2.kept hS
  replace k3 := k3.kept hS
  replace hb := hb.trans (hS.mono hb.size)
  clear hS
  have c3 := k3.c3
  go_wp2
  refine end3 hb k3 (by omega) (fun w3 e => by simp [results, Tryz.results136, go_sem, e]) rfl (fun w3 hb3 => ⟨rfl, hb3⟩)

set_option maxHeartbeats 400000 in
theorem fn15 (b s : C3) (w : World) (hb0 : U3 b) (hs : U3 s) :
    Calls Tryz.prog 141 #[cv3 b, cv3 s] w fun e w' => e = .returned (cv3 (col3 15 b s)) ∧ Below w.heap.size w w' := by
  have HS := setSat3_u b (sat3 s) hb0 (sat3_u s hs)
  have HL := lum3_u b hb0
  have HB := sat3_u s hs
  go_enter Tryz.func141, Tryz.ntmps141
  go_wp2
  refine name3 (fun W k1 k2 k3 hb => ?_)
  refine wp_region_grow 7 (fun w' => Below (World.heap W).size W w') (by kernel_rfl) (by kernel_rfl) (Below.refl _ _).drew ?_
  simp only [List.take_succ_cons, List.take_zero, List.drop_succ_cons, List.drop_zero]
  repeat (first | (apply wpG_on; rfl; (intro w' hS K hK; have hc0 := (k1.kept hS).c3; have hc1 := (k2.kept hS).c3; have hc2 := (k3.kept hS).c3; go_simp; (first | exact hK.out _ hS | (go_at_call 139; (with_reducible refine (satC s _ hs).mono ?_); rintro e w'' ⟨rfl, hbb⟩; exact ⟨_, rfl, hK.out _ (hS.trans (hbb.mono hS.size))⟩) | (go_at_call 138; (with_reducible refine (setSatC b _ _ hb0 HB).mono ?_); rintro e w'' ⟨rfl, hbb⟩; exact ⟨_, rfl, hK.out _ (hS.trans (hbb.mono hS.size))⟩) | (go_at_call 140; (with_reducible refine (lumC b _ hb0).mono ?_); rintro e w'' ⟨rfl, hbb⟩; exact ⟨_, rfl, hK.out _ (hS.trans (hbb.mono hS.size))⟩) | (go_at_call 137; (with_reducible refine (setLumC _ _ _ HS HL).mono ?_); rintro e w'' ⟨rfl, hbb⟩; exact ⟨_, rfl, hK.out _ (hS.trans (hbb.mono hS.size))⟩))); simp only [Act.put, List.setIfInBounds_toArray, List.set_cons_succ, List.set_cons_zero]) | (apply wpG_off; rfl; simp only [Act.put, List.setIfInBounds_toArray, List.set_cons_succ, List.set_cons_zero]))
  apply wpG_nil
  intro W1 hS
  replace k1 := k1.kept hS
  replace k2 := k2.kept hS
  replace k3 := k3.kept hS
  replace hb := hb.trans (hS.mono hb.size)
  clear hS
  have c3 := k3.c3
  go_wp2
  refine end3 hb k3 (by omega) (fun w3 e => by simp [results, Tryz.results141, go_sem, e]) rfl (fun w3 hb3 => ⟨rfl, hb3⟩)

set_option maxHeartbeats 400000 in
theorem fn16 (b s : C3) (w : World) (hb0 : U3 b) (hs : U3 s) :
    Calls Tryz.prog 142 #[cv3 b, cv3 s] w fun e w' => e = .returned (cv3 (col3 16 b s)) ∧ Below w.heap.size w w' := by
  have HL := lum3_u b hb0
  go_enter Tryz.func142, Tryz.ntmps142
  go_wp2
  refine name3 (fun W k1 k2 k3 hb => ?_)
  refine wp_region_grow 4 (fun w' => Below (World.heap W).size W w') (by kernel_rfl) (by kernel_rfl) (Below.refl _ _).drew ?_
  simp only [List.take_succ_cons, List.take_zero, List.drop_succ_cons, List.drop_zero]
  repeat (first | (apply wpG_on; rfl; (intro w' hS K hK; have hc0 := (k1.kept hS).c3; have hc1 := (k2.kept hS).c3; have hc2 := (k3.kept hS).c3; go_simp; (first | exact hK.out _ hS | (go_at_call 140; (with_reducible refine (lumC b _ hb0).mono ?_); rintro e w'' ⟨rfl, hbb⟩; exact ⟨_, rfl, hK.out _ (hS.trans (hbb.mono hS.size))⟩) | (go_at_call 137; (with_reducible refine (setLumC s _ _ hs HL).mono ?_); rintro e w'' ⟨rfl, hbb⟩; exact ⟨_, rfl, hK.out _ (hS.trans (hbb.mono hS.size))⟩))); simp only [Act.put, List.setIfInBounds_toArray, List.set_cons_succ, List.set_cons_zero]) | (apply wpG_off; rfl; simp only [Act.put, List.setIfInBounds_toArray, List.set_cons_succ, List.set_cons_zero]))
  apply wpG_nil
  intro W1 hS
  replace k1 := k1.kept hS
  replace k2 := k2.kept hS
  replace k3 := k3.kept hS
  replace hb := hb.trans (hS.mono hb.size)
  clear hS
  have c3 := k3.c3
  go_wp2
  refine end3 hb k3 (by omega) (fun w3 e => by simp [results, Tryz.results142, go_sem, e]) rfl (fun w3 hb3 => ⟨rfl, hb3⟩)

set_option maxHeartbeats 400000 in
theorem fn17 (b s : C3) (w : World) (hb0 : U3 b) (hs : U3 s) :
    Calls Tryz.prog 143 #[cv3 b, cv3 s] w fun e w' => e = .returned (cv3 (col3 17 b s)) ∧ Below w.heap.size w w' := by
  have HL := lum3_u s hs
  go_enter Tryz.func143, Tryz.ntmps143
  go_wp2
  refine name3 (fun W k1 k2 k3 hb => ?_)
  refine wp_region_grow 4 (fun w' => Below (World.heap W).size W w') (by kernel_rfl) (by kernel_rfl) (Below.refl _ _).drew ?_
  simp only [List.take_succ_cons, List.take_zero, List.drop_succ_cons, List.drop_zero]
  repeat (first | (apply wpG_on; rfl; (intro w' hS K hK; have hc0 := (k1.kept hS).c3; have hc1 := (k2.kept hS).c3; have hc2 := (k3.kept hS).c3; go_simp; (first | exact hK.out _ hS | (go_at_call 140; (with_reducible refine (lumC s _ hs).mono ?_); rintro e w'' ⟨rfl, hbb⟩; exact ⟨_, rfl, hK.out _ (hS.trans (hbb.mono hS.size))⟩) | (go_at_call 137; (with_reducible refine (setLumC b _ _ hb0 HL).mono ?_); rintro e w'' ⟨rfl, hbb⟩; exact ⟨_, rfl, hK.out _ (hS.trans (hbb.mono hS.size))⟩))); simp only [Act.put, List.setIfInBounds_toArray, List.set_cons_succ, List.set_cons_zero]) | (apply wpG_off; rfl; simp only [Act.put, List.setIfInBounds_toArray, List.set_cons_succ, List.set_cons_zero]))
  apply wpG_nil
  intro W1 hS
  replace k1 := k1.kept hS
  replace k2 := k2.kept hS
  replace k3 := k3.kept hS
  replace hb := hb.trans (hS.mono hb.size)
  clear hS
  have c3 := k3.c3
  go_wp2
  refine end3 hb k3 (by omega) (fun w3 e => by simp [results, Tryz.results143, go_sem, e]) rfl (fun w3 hb3 => ⟨rfl, hb3⟩)

theorem chanU (m b s : Int) (w : World) (hb : U b) (hs : U s) : Calls Tryz.prog 164 #[.int .i64 m, .int .i64 b, .int .i64 s] w fun e w' => e = .returned (.int .i64 (chU m b s)) ∧ w = w' := by
  have c := channel_any m b s w
  rw [cl_id b hb.1 hb.2, cl_id s hs.1 hs.2] at c
  exact c
theorem refChanU (m b s : Int) (w : World) (hb : U b) (hs : U s) : Calls Tryz.prog 113 #[.int .i64 m, .int .i64 b, .int .i64 s] w fun e w' => e = .returned (.int .i64 (chU m b s)) ∧ Below w.heap.size w w' := by
  have c := refChannel_any m b s w
  rw [cl_id b hb.1 hb.2, cl_id s hs.1 hs.2] at c
  exact c
theorem col3_other (m : Int) (b s : C3) (h : m < 14 ∨ 17 < m) : col3 m b s = (chU m b.1 s.1, chU m b.2.1 s.2.1, chU m b.2.2 s.2.2) := by
  unfold col3
  repeat' rw [if_neg (by omega)]
end Go.Proofs.YtieacbccadbdbaaGreatDoor

