/- The walks of the colors of package blend and of its reference: lum, sat, setSat, setLum. -/
import Derived.Test.YtfgkgibomgcmpaaDoorNumRef
import Derived.Test.YtfgkgibomgcmpaaDoorBlk
import Derived.Test.YtfgkgibomgcmpaaDoorColPlain
import Derived.Lib.MinMax
import Derived.IntWalk
namespace Go.Proofs.YtfgkgibomgcmpaaDoor
open Go.RowKit
set_option linter.unusedVariables false
attribute [local go_sem] Oper.gAt gUponK

theorem run_min3 {P : Program} {w : World} (ts : Array TypeId) (t : TypeId) (k k' k'' : IntKind) (x y z : Int) : (Builtin.min_ ts t #[.int k x, .int k' y, .int k'' z]).run P w = .ok (.int k (mn3 x y z)) w := by
  simp [Builtin.min_, Builtin.min2, mn3]
  omega
theorem run_max3 {P : Program} {w : World} (ts : Array TypeId) (t : TypeId) (k k' k'' : IntKind) (x y z : Int) : (Builtin.max_ ts t #[.int k x, .int k' y, .int k'' z]).run P w = .ok (.int k (mx3 x y z)) w := by
  simp [Builtin.max_, Builtin.max2, mx3]
  omega
attribute [local go_sem high] run_min3 run_max3
abbrev cv (a b c : Int) : Value := .agg #[.int .i64 a, .int .i64 b, .int .i64 c]
abbrev ob (a b c : Int) (t : TypeId) : Obj := .cells #[.int .i64 a, .int .i64 b, .int .i64 c] t (0, 0)
theorem set3 {w : World} {b : Nat} {x0 x1 x2 : Value} {t : TypeId} {m : Nat × Nat} (k : Blk w b (.cells #[x0, x1, x2] t m)) (v0 v1 v2 : Value) :
    Blk (((w.setCell ⟨b, 0, none⟩ v0).setCell ⟨b, 1, none⟩ v1).setCell ⟨b, 2, none⟩ v2) b (.cells #[v0, v1, v2] t m) :=
  ((k.set1 0 v0 (by simp) rfl).set1 1 v1 (by simp) rfl).set1 2 v2 (by simp) rfl
/-- The end of a function that returns a struct of three cells, just stored. -/
theorem end3 {P : Program} {fn : Func} {R : Ending → World → Prop} {a : Act} {B : Nat} {w0 w : World} {b : Nat} {x0 x1 x2 v0 v1 v2 : Value} {t : TypeId} (hb : Below B w0 w) (k : Blk w b (.cells #[x0, x1, x2] t (0, 0))) (hB : B ≤ b)
    (hres : ∀ w3 : World, (w3.cell? ⟨b, 0, none⟩ = some v0 ∧ w3.cell? ⟨b, 1, none⟩ = some v1 ∧ w3.cell? ⟨b, 2, none⟩ = some v2 ∧ ∀ o, w3.frozen? ⟨b, o, none⟩ = false) → (results fn a.tmps).run P w3 = .ok (.agg #[v0, v1, v2]) w3)
    (hd : a.defers = []) (hn : ∀ w3 : World, Below B w0 w3 → R (.returned (.agg #[v0, v1, v2])) w3) :
    bodyPost P fn R .ret a (((w.setCell ⟨b, 0, none⟩ v0).setCell ⟨b, 1, none⟩ v1).setCell ⟨b, 2, none⟩ v2) :=
  bodyPost_ret (hres _ (set3 k v0 v1 v2).c3) hd (hn _ (((hb.setCell hB _).setCell hB _).setCell hB _))
/-- The first k channels are f's, the others as they were. -/
def p3 (f : Int → Int) (a b c : Int) : Nat → Array Value
  | 0 => #[.int .i64 a, .int .i64 b, .int .i64 c]
  | 1 => #[.int .i64 (f a), .int .i64 b, .int .i64 c]
  | 2 => #[.int .i64 (f a), .int .i64 (f b), .int .i64 c]
  | _ => #[.int .i64 (f a), .int .i64 (f b), .int .i64 (f c)]

set_option maxHeartbeats 400000 in
theorem lum_any (a b c : Int) (w : World) (ha : U a) (hb : U b) (hc : U c) :
    Calls Tryd.prog 68 #[cv a b c] w fun e w' => e = .returned (.int .i64 (lumU a b c)) ∧ Below w.heap.size w w' := by
  unfold U at ha hb hc
  go_enter Tryd.func68, Tryd.ntmps68
  go_wp2_with fail
  refine (div_any _ _ _ (by omega) (by omega) (by omega) (by omega)).mono ?_
  rintro e w' ⟨rfl, rfl⟩
  go_wp2_with fail
  go_ret
  exact ⟨rfl, (Below.refl _ _).alloc (Nat.le_refl _) _⟩
set_option maxHeartbeats 400000 in
theorem sat_any (a b c : Int) (w : World) (ha : U a) (hb : U b) (hc : U c) :
    Calls Tryd.prog 67 #[cv a b c] w fun e w' => e = .returned (.int .i64 (mx3 a b c - mn3 a b c)) ∧ Below w.heap.size w w' := by
  have h1 : 0 ≤ mn3 a b c ∧ mn3 a b c ≤ 65535 := by unfold U at *; unfold mn3; omega
  have h2 : 0 ≤ mx3 a b c ∧ mx3 a b c ≤ 65535 := by unfold U at *; unfold mx3; omega
  clear ha hb hc
  go_enter Tryd.func67, Tryd.ntmps67
  go_wp2
  go_ret
  exact ⟨rfl, (Below.refl _ _).alloc (Nat.le_refl _) _⟩

set_option maxHeartbeats 400000 in
theorem reflum_any (a b c : Int) (w : World) (ha : U a) (hb : U b) (hc : U c) :
    Calls Tryd.prog 47 #[cv a b c] w fun e w' => e = .returned (.int .i64 (lumU a b c)) ∧ Below w.heap.size w w' := by
  unfold U at ha hb hc
  go_enter Tryd.func47, Tryd.ntmps47
  go_wp2_with fail
  refine (refDiv_new _ _ _ (by omega) (by omega) (by omega) (by omega)).mono ?_
  rintro e w1 ⟨rfl, hB⟩
  go_wp2_with fail
  go_ret
  exact ⟨rfl, ((Below.refl _ _).alloc (Nat.le_refl _) _).trans (hB.mono (by simp))⟩
set_option maxHeartbeats 400000 in
theorem refsat_any (a b c : Int) (w : World) (ha : U a) (hb : U b) (hc : U c) :
    Calls Tryd.prog 46 #[cv a b c] w fun e w' => e = .returned (.int .i64 (mx3 a b c - mn3 a b c)) ∧ Below w.heap.size w w' := by
  have h1 : 0 ≤ mn3 a b c ∧ mn3 a b c ≤ 65535 := by unfold U at *; unfold mn3; omega
  have h2 : 0 ≤ mx3 a b c ∧ mx3 a b c ≤ 65535 := by unfold U at *; unfold mx3; omega
  clear ha hb hc
  go_enter Tryd.func46, Tryd.ntmps46
  go_wp2
  go_ret
  exact ⟨rfl, (Below.refl _ _).alloc (Nat.le_refl _) _⟩

set_option maxHeartbeats 1000000 in
theorem setSat_any (a b c s : Int) (w : World) (ha : U a) (hb0 : U b) (hc : U c) (hs : U s) :
    Calls Tryd.prog 66 #[cv a b c, .int .i64 s] w fun e w' => e = .returned (cv (ssC s (mn3 a b c) (mx3 a b c) a) (ssC s (mn3 a b c) (mx3 a b c) b) (ssC s (mn3 a b c) (mx3 a b c) c)) ∧ Below w.heap.size w w' := by
  unfold U at ha hb0 hc hs
  have n1 : 0 ≤ mn3 a b c ∧ mn3 a b c ≤ a ∧ mn3 a b c ≤ b ∧ mn3 a b c ≤ c := by unfold mn3; omega
  have x1 : a ≤ mx3 a b c ∧ b ≤ mx3 a b c ∧ c ≤ mx3 a b c ∧ mx3 a b c ≤ 65535 := by unfold mx3; omega
  have HE : Hid (∀ v, ssC s (mn3 a b c) (mx3 a b c) v = if mx3 a b c = mn3 a b c then 0 else dv ((v - mn3 a b c) * s) (mx3 a b c - mn3 a b c)) := fun v => rfl
  generalize ha' : ssC s (mn3 a b c) (mx3 a b c) a = ra
  generalize hb' : ssC s (mn3 a b c) (mx3 a b c) b = rb
  generalize hc' : ssC s (mn3 a b c) (mx3 a b c) c = rc
  have RA := Lib.hid (ha'.symm.trans (HE.out a))
  have RB := Lib.hid (hb'.symm.trans (HE.out b))
  have RC := Lib.hid (hc'.symm.trans (HE.out c))
  clear ha' hb' hc' HE
  go_enter Tryd.func66, Tryd.ntmps66
  go_wp2
  refine name2 (fun W k1 k2 hb => ?_)
  refine wp_region_grow 16 (fun w' => Below (World.heap W).size W w') (by kernel_rfl) (by kernel_rfl) (Below.refl _ _).drew ?_
  simp only [List.take_succ_cons, List.take_zero, List.drop_succ_cons, List.drop_zero]
  repeat (first | (apply wpG_on; rfl; (intro w' hS K hK; have hc0 := (k1.kept hS).c3; have hc1 := (k2.kept hS).c3; go_simp; (first | exact hK.out _ hS)); simp only [Act.put, List.setIfInBounds_toArray, List.set_cons_succ, List.set_cons_zero]) | (apply wpG_off; rfl; simp only [Act.put, List.setIfInBounds_toArray, List.set_cons_succ, List.set_cons_zero]))
  apply wpG_nil
  intro W1 hS
  replace k1 := k1.kept hS
  replace k2 := k2.kept hS
  replace hb := hb.trans (hS.mono hb.size)
  clear hS
  generalize mn3 a b c = n at *
  generalize mx3 a b c = x at *
  by_cases hxn : x = n
  · have hf : (x == n) = true := by simpa using hxn
    have HX := Lib.hid hxn
    clear hxn
    have c2 := k2.c3
    go_wp2_with fail
    refine end3 hb k2 (by omega) (fun w3 e => by simp [results, Tryd.results66, go_sem, e]) rfl (fun w3 hb3 => ⟨by rw [RA.out, RB.out, RC.out, if_pos (HX.out), if_pos (HX.out), if_pos (HX.out)], hb3⟩)
  · have hf : (x == n) = false := by simpa using hxn
    have HX := Lib.hid hxn
    have f0 : 0 < x - n := by omega
    have f1 : x - n ≤ 4611686018427387904 := by omega
    clear hxn
    have qa := prod_bd (a - n) s 65535 (by omega) (by omega) hs (by omega)
    have qb := prod_bd (b - n) s 65535 (by omega) (by omega) hs (by omega)
    have qc := prod_bd (c - n) s 65535 (by omega) (by omega) hs (by omega)
    go_wp2_with fail
    go_loopw [7, 26] (fun _ i wr => ∃ (k : Nat) (j : Int), k ≤ 3 ∧ j = k ∧ i = .int .i64 j ∧ Blk wr w.heap.size (.cells (p3 (fun v => dv ((v - n) * s) (x - n)) a b c k) 52 (0, 0)) ∧ Blk wr (w.heap.size + 1) (ob 0 0 0 52) ∧ Below w.heap.size w wr) (fun _ i _ => 3 - (intOf i).toNat)
    case atStart => exact ⟨0, 0, by omega, rfl, rfl, k1, k2, hb⟩
    case round =>
      clear k1 k2 hb
      obtain ⟨k, j, hk, hj, rfl, k1, k2, hb⟩ := hrel
      obtain rfl | rfl | rfl | rfl : k = 0 ∨ k = 1 ∨ k = 2 ∨ k = 3 := by omega
      · obtain rfl : j = 0 := hj
        replace k1 : Blk wr w.heap.size (ob a b c 52) := k1
        have c1 := k1.c3
        go_wp2_with fail
        refine (div_any _ _ _ f0 f1 (by omega) (by omega)).mono ?_
        rintro e w' ⟨rfl, rfl⟩
        go_wp2_with fail
        go_roundw
        case rel => exact ⟨1, 1, by omega, rfl, rfl, (k1.set1 0 _ (by simp) rfl), k2.other (by simp) _, hb.setCell (Nat.le_refl _) _⟩
        case measure => simp [intOf]
      · obtain rfl : j = 1 := hj
        replace k1 : Blk wr w.heap.size (ob ((fun v => dv ((v - n) * s) (x - n)) a) b c 52) := k1
        have c1 := k1.c3
        go_wp2_with fail
        refine (div_any _ _ _ f0 f1 (by omega) (by omega)).mono ?_
        rintro e w' ⟨rfl, rfl⟩
        go_wp2_with fail
        go_roundw
        case rel => exact ⟨2, 2, by omega, rfl, rfl, (k1.set1 1 _ (by simp) rfl), k2.other (by simp) _, hb.setCell (Nat.le_refl _) _⟩
        case measure => simp [intOf]
      · obtain rfl : j = 2 := hj
        replace k1 : Blk wr w.heap.size (ob ((fun v => dv ((v - n) * s) (x - n)) a) ((fun v => dv ((v - n) * s) (x - n)) b) c 52) := k1
        have c1 := k1.c3
        go_wp2_with fail
        refine (div_any _ _ _ f0 f1 (by omega) (by omega)).mono ?_
        rintro e w' ⟨rfl, rfl⟩
        go_wp2_with fail
        go_roundw
        case rel => exact ⟨3, 3, by omega, rfl, rfl, (k1.set1 2 _ (by simp) rfl), k2.other (by simp) _, hb.setCell (Nat.le_refl _) _⟩
        case measure => simp [intOf]
      · obtain rfl : j = 3 := hj
        clear hk
        replace k1 : Blk wr w.heap.size (ob ((fun v => dv ((v - n) * s) (x - n)) a) ((fun v => dv ((v - n) * s) (x - n)) b) ((fun v => dv ((v - n) * s) (x - n)) c) 52) := k1
        have c1 := k1.c3
        have c2 := k2.c3
        go_wp2_with fail
        refine end3 hb k2 (by omega) (fun w3 e => by simp [results, Tryd.results66, go_sem, e]) rfl (fun w3 hb3 => ⟨by rw [RA.out, RB.out, RC.out, if_neg (HX.out), if_neg (HX.out), if_neg (HX.out)], hb3⟩)

set_option maxHeartbeats 1000000 in
theorem refsetSat_any (a b c s : Int) (w : World) (ha : U a) (hb0 : U b) (hc : U c) (hs : U s) :
    Calls Tryd.prog 45 #[cv a b c, .int .i64 s] w fun e w' => e = .returned (cv (ssC s (mn3 a b c) (mx3 a b c) a) (ssC s (mn3 a b c) (mx3 a b c) b) (ssC s (mn3 a b c) (mx3 a b c) c)) ∧ Below w.heap.size w w' := by
  unfold U at ha hb0 hc hs
  have n1 : 0 ≤ mn3 a b c ∧ mn3 a b c ≤ a ∧ mn3 a b c ≤ b ∧ mn3 a b c ≤ c := by unfold mn3; omega
  have x1 : a ≤ mx3 a b c ∧ b ≤ mx3 a b c ∧ c ≤ mx3 a b c ∧ mx3 a b c ≤ 65535 := by unfold mx3; omega
  have HE : Hid (∀ v, ssC s (mn3 a b c) (mx3 a b c) v = if mx3 a b c = mn3 a b c then 0 else dv ((v - mn3 a b c) * s) (mx3 a b c - mn3 a b c)) := fun v => rfl
  generalize ha' : ssC s (mn3 a b c) (mx3 a b c) a = ra
  generalize hb' : ssC s (mn3 a b c) (mx3 a b c) b = rb
  generalize hc' : ssC s (mn3 a b c) (mx3 a b c) c = rc
  have RA := Lib.hid (ha'.symm.trans (HE.out a))
  have RB := Lib.hid (hb'.symm.trans (HE.out b))
  have RC := Lib.hid (hc'.symm.trans (HE.out c))
  clear ha' hb' hc' HE
  go_enter Tryd.func45, Tryd.ntmps45
  go_wp2
  refine name2 (fun W k1 k2 hb => ?_)
  refine wp_region_grow 16 (fun w' => Below (World.heap W).size W w') (by kernel_rfl) (by kernel_rfl) (Below.refl _ _).drew ?_
  simp only [List.take_succ_cons, List.take_zero, List.drop_succ_cons, List.drop_zero]
  repeat (first | (apply wpG_on; rfl; (intro w' hS K hK; have hc0 := (k1.kept hS).c3; have hc1 := (k2.kept hS).c3; go_simp; (first | exact hK.out _ hS)); simp only [Act.put, List.setIfInBounds_toArray, List.set_cons_succ, List.set_cons_zero]) | (apply wpG_off; rfl; simp only [Act.put, List.setIfInBounds_toArray, List.set_cons_succ, List.set_cons_zero]))
  apply wpG_nil
  intro W1 hS
  replace k1 := k1.kept hS
  replace k2 := k2.kept hS
  replace hb := hb.trans (hS.mono hb.size)
  clear hS
  generalize mn3 a b c = n at *
  generalize mx3 a b c = x at *
  by_cases hxn : x = n
  · have hf : (x == n) = true := by simpa using hxn
    have HX := Lib.hid hxn
    clear hxn
    clear n1 x1
    go_wp2_with fail
    go_loopw [7] (fun i wr => ∃ (k : Nat) (j : Int), k ≤ 3 ∧ j = k ∧ i = .int .i64 j ∧ Blk wr w.heap.size (.cells (p3 (fun _ => 0) a b c k) 51 (0, 0)) ∧ Blk wr (w.heap.size + 1) (ob 0 0 0 51) ∧ Below w.heap.size w wr) (fun i _ => 3 - (intOf i).toNat)
    case atStart => exact ⟨0, 0, by omega, rfl, rfl, k1, k2, hb⟩
    case round =>
      clear k1 k2 hb
      obtain ⟨k, j, hk, hj, rfl, k1, k2, hb⟩ := hrel
      obtain rfl | rfl | rfl | rfl : k = 0 ∨ k = 1 ∨ k = 2 ∨ k = 3 := by omega
      · obtain rfl : j = 0 := hj
        replace k1 : Blk wr w.heap.size (ob a b c 51) := k1
        have c1 := k1.c3
        go_wp2_with fail
        go_roundw
        case rel => exact ⟨1, 1, by omega, rfl, rfl, (k1.set1 0 _ (by simp) rfl), k2.other (by simp) _, hb.setCell (Nat.le_refl _) _⟩
        case measure => simp [intOf]
      · obtain rfl : j = 1 := hj
        replace k1 : Blk wr w.heap.size (ob ((fun _ => 0) a) b c 51) := k1
        have c1 := k1.c3
        go_wp2_with fail
        go_roundw
        case rel => exact ⟨2, 2, by omega, rfl, rfl, (k1.set1 1 _ (by simp) rfl), k2.other (by simp) _, hb.setCell (Nat.le_refl _) _⟩
        case measure => simp [intOf]
      · obtain rfl : j = 2 := hj
        replace k1 : Blk wr w.heap.size (ob ((fun _ => 0) a) ((fun _ => 0) b) c 51) := k1
        have c1 := k1.c3
        go_wp2_with fail
        go_roundw
        case rel => exact ⟨3, 3, by omega, rfl, rfl, (k1.set1 2 _ (by simp) rfl), k2.other (by simp) _, hb.setCell (Nat.le_refl _) _⟩
        case measure => simp [intOf]
      · obtain rfl : j = 3 := hj
        clear hk
        replace k1 : Blk wr w.heap.size (ob ((fun _ => 0) a) ((fun _ => 0) b) ((fun _ => 0) c) 51) := k1
        have c1 := k1.c3
        have c2 := k2.c3
        go_wp2_with fail
        refine end3 hb k2 (by omega) (fun w3 e => by simp [results, Tryd.results45, go_sem, e]) rfl (fun w3 hb3 => ⟨by rw [RA.out, RB.out, RC.out, if_pos (HX.out), if_pos (HX.out), if_pos (HX.out)], hb3⟩)
  · have hf : (x == n) = false := by simpa using hxn
    have HX := Lib.hid hxn
    have f0 : 0 < x - n := by omega
    have f1 : x - n ≤ 4611686018427387904 := by omega
    clear hxn
    have qa := prod_bd (a - n) s 65535 (by omega) (by omega) hs (by omega)
    have qb := prod_bd (b - n) s 65535 (by omega) (by omega) hs (by omega)
    have qc := prod_bd (c - n) s 65535 (by omega) (by omega) hs (by omega)
    go_wp2_with fail
    go_loopw [7] (fun i wr => ∃ (k : Nat) (j : Int), k ≤ 3 ∧ j = k ∧ i = .int .i64 j ∧ Blk wr w.heap.size (.cells (p3 (fun v => dv ((v - n) * s) (x - n)) a b c k) 51 (0, 0)) ∧ Blk wr (w.heap.size + 1) (ob 0 0 0 51) ∧ Below w.heap.size w wr) (fun i _ => 3 - (intOf i).toNat)
    case atStart => exact ⟨0, 0, by omega, rfl, rfl, k1, k2, hb⟩
    case round =>
      clear k1 k2 hb
      obtain ⟨k, j, hk, hj, rfl, k1, k2, hb⟩ := hrel
      obtain rfl | rfl | rfl | rfl : k = 0 ∨ k = 1 ∨ k = 2 ∨ k = 3 := by omega
      · obtain rfl : j = 0 := hj
        replace k1 : Blk wr w.heap.size (ob a b c 51) := k1
        have c1 := k1.c3
        go_wp2_with fail
        refine (refDiv_new _ _ _ f0 f1 (by omega) (by omega)).mono ?_
        rintro e w2 ⟨rfl, hS⟩
        replace k1 := k1.kept hS
        replace k2 := k2.kept hS
        replace hb := hb.trans (hS.mono hb.size)
        clear hS c1
        have c1 := k1.c3
        go_wp2_with fail
        go_roundw
        case rel => exact ⟨1, 1, by omega, rfl, rfl, (k1.set1 0 _ (by simp) rfl), k2.other (by simp) _, hb.setCell (Nat.le_refl _) _⟩
        case measure => simp [intOf]
      · obtain rfl : j = 1 := hj
        replace k1 : Blk wr w.heap.size (ob ((fun v => dv ((v - n) * s) (x - n)) a) b c 51) := k1
        have c1 := k1.c3
        go_wp2_with fail
        refine (refDiv_new _ _ _ f0 f1 (by omega) (by omega)).mono ?_
        rintro e w2 ⟨rfl, hS⟩
        replace k1 := k1.kept hS
        replace k2 := k2.kept hS
        replace hb := hb.trans (hS.mono hb.size)
        clear hS c1
        have c1 := k1.c3
        go_wp2_with fail
        go_roundw
        case rel => exact ⟨2, 2, by omega, rfl, rfl, (k1.set1 1 _ (by simp) rfl), k2.other (by simp) _, hb.setCell (Nat.le_refl _) _⟩
        case measure => simp [intOf]
      · obtain rfl : j = 2 := hj
        replace k1 : Blk wr w.heap.size (ob ((fun v => dv ((v - n) * s) (x - n)) a) ((fun v => dv ((v - n) * s) (x - n)) b) c 51) := k1
        have c1 := k1.c3
        go_wp2_with fail
        refine (refDiv_new _ _ _ f0 f1 (by omega) (by omega)).mono ?_
        rintro e w2 ⟨rfl, hS⟩
        replace k1 := k1.kept hS
        replace k2 := k2.kept hS
        replace hb := hb.trans (hS.mono hb.size)
        clear hS c1
        have c1 := k1.c3
        go_wp2_with fail
        go_roundw
        case rel => exact ⟨3, 3, by omega, rfl, rfl, (k1.set1 2 _ (by simp) rfl), k2.other (by simp) _, hb.setCell (Nat.le_refl _) _⟩
        case measure => simp [intOf]
      · obtain rfl : j = 3 := hj
        clear hk
        replace k1 : Blk wr w.heap.size (ob ((fun v => dv ((v - n) * s) (x - n)) a) ((fun v => dv ((v - n) * s) (x - n)) b) ((fun v => dv ((v - n) * s) (x - n)) c) 51) := k1
        have c1 := k1.c3
        have c2 := k2.c3
        go_wp2_with fail
        refine end3 hb k2 (by omega) (fun w3 e => by simp [results, Tryd.results45, go_sem, e]) rfl (fun w3 hb3 => ⟨by rw [RA.out, RB.out, RC.out, if_neg (HX.out), if_neg (HX.out), if_neg (HX.out)], hb3⟩)
end Go.Proofs.YtfgkgibomgcmpaaDoor
