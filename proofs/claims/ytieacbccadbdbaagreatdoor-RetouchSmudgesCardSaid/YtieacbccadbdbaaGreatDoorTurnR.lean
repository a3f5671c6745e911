/- The sines by the reference (printed by genturn.py). -/
import Derived.Test.YtieacbccadbdbaaGreatDoorLPlain
import Derived.Test.YtieacbccadbdbaaGreatDoorLNumW
import Derived.Test.YtieacbccadbdbaaGreatDoorLNumW
import Derived.Test.YtieacbccadbdbaaGreatDoorLKit
import Derived.Test.YtieacbccadbdbaaGreatDoorLKit
import Derived.Deep.Cut
import Derived.Deep.WholeRow
namespace Go.Proofs.YtieacbccadbdbaaGreatDoor
open Go.RowKit
set_option linter.unusedVariables false
attribute [local go_sem] Oper.gAt gUponK Oper.sAt stilK

def tabA : Array Value := (sinTab.map fun z => Value.int .i64 z).toArray
theorem tabA_at (i : Nat) (h : i < 65) : tabA[i]? = some (.int .i64 (sT i)) := by
  have hl : sinTab.length = 65 := by decide
  show ((sinTab.map fun z => Value.int .i64 z).toArray)[i]? = _
  rw [List.getElem?_toArray, List.getElem?_map, List.getElem?_eq_getElem (by omega)]
  show some (Value.int .i64 _) = some (Value.int .i64 (sinTab.getD i 0))
  rw [List.getD_eq_getElem?_getD, List.getElem?_eq_getElem (by omega)]
  rfl
theorem wpList_build_to {P : Program} {ops : Array Oper} {rest : List Oper} {o : Oper} {a : Act} {w : World} {Q : Exit → Act → World → Prop} (hg : o.guard = none) (t : TypeId) (parts : Array (Nat × Operand)) (ho : o.op = .build t parts) (cells : Array Value)
    (hf : P.built t (parts.map fun (i, x) => (i, a.eval x)).toList = some cells)
    (h : wpList P ops Q rest (a.put o.dst (.agg cells)) w) : wpList P ops Q (o :: rest) a w :=
  wpList_build hg t parts ho (by rw [hf]; rfl) (by rw [hf]; exact h)
theorem infoTab : (Tryz.prog.info? 138).map (·.size) = some tabA.size := by kernel_rfl
theorem tabA_one : tabA.all (·.oneCell') = true := by kernel_rfl

set_option maxRecDepth 20000 in
set_option maxHeartbeats 2000000 in
theorem table_any (w : World) : Calls Tryz.prog 172 #[] w fun e w' => e = .returned (.agg tabA) ∧ Below w.heap.size w w' := by
  go_enter Tryz.func172, Tryz.ntmps172
  go_wp2_with (first | (refine wpList_build_to rfl _ _ rfl tabA (by kernel_rfl) ?_) | (refine wpList_store_row rfl _ _ _ rfl w.heap.size tabA rfl rfl 138 _ (heap_alloc_last w _) infoTab (by kernel_rfl) tabA_one ?_))
  rw [World.setRow_alloc_new]
  go_wp2_with fail
  refine bodyPost_ret (v := .agg tabA) ?_ rfl ⟨rfl, (Below.refl _ _).alloc (Nat.le_refl _) _⟩
  exact results_cell_row Tryz.results172 _ _ w.heap.size 138 tabA (0, 0) _ rfl (heap_alloc_last w _) Tryz.underlying138 rfl infoTab

set_option maxHeartbeats 2000000 in
theorem refQuarter_any (u : Int) (w : World) (h0 : 0 ≤ u) (h1 : u ≤ 16384) :
    Calls Tryz.prog 158 #[.int .i64 u] w fun e w' => e = .returned (.int .i64 (qtr u)) ∧ Below w.heap.size w w' := by
  have t1 : u.tdiv 256 = u / 256 := Int.tdiv_eq_ediv_of_nonneg h0
  by_cases hu : u = 16384
  · subst hu
    have HE : Hid (qtr 16384 = 65536) := by show _ = _; decide +kernel
    have e : sT 64 = 65536 := by decide
    have CE : Hid (∀ (w' : World) (b : Nat), Blk w' b (.cells tabA 138 (0, 0)) → w'.cell? ⟨b, 64, none⟩ = some (.int .i64 65536)) := fun w' b h => by rw [← e]; exact cell_blk h (tabA_at 64 (by omega))
    clear e
    go_enter Tryz.func158, Tryz.ntmps158
    go_wp2_with fail
    refine (table_any _).mono ?_
    rintro e W1 ⟨rfl, hb⟩
    have c : ((W1.alloc (.cells Tryz.zeroCells138 138 (0, 0))).setRow W1.heap.size tabA).cell? ⟨W1.heap.size, 64, none⟩ = some (.int .i64 65536) := by
      rw [World.setRow_alloc_new]
      exact CE.out _ _ (heap_alloc_last W1 _)
    go_wp2_with (refine wpList_store_row rfl _ _ _ rfl W1.heap.size tabA rfl rfl 138 _ (heap_alloc_last W1 _) infoTab (by kernel_rfl) tabA_one ?_)
    rw [World.setRow_alloc_new]
    go_ret
    exact ⟨ret_int HE.out.symm, hb.alloc hb.size _⟩
  · obtain ⟨i, hi⟩ : ∃ i : Nat, u / 256 = i := ⟨(u / 256).toNat, by omega⟩
    have hl : i < 64 := by omega
    have HE : Hid (qtr u = sT i + dv ((sT (i + 1) - sT i) * (u - 256 * i)) 256) := by
      show _ = _
      unfold qtr
      rw [if_neg hu, hi]
      rfl
    have hq := qtr_in u h0 (by omega)
    rw [hi] at hq
    simp only [Int.toNat_natCast] at hq
    have b := sT_ok i hl
    have CE : Hid (∀ (w' : World) (b : Nat), Blk w' b (.cells tabA 138 (0, 0)) → w'.cell? ⟨b, i, none⟩ = some (.int .i64 (sT i)) ∧ w'.cell? ⟨b, i + 1, none⟩ = some (.int .i64 (sT (i + 1)))) := fun w' b h => ⟨cell_blk h (tabA_at i (by omega)), cell_blk h (tabA_at (i + 1) (by omega))⟩
    rw [hi] at t1
    have r1 : 0 ≤ u - 256 * (i : Int) ∧ u - 256 * (i : Int) < 256 := by omega
    clear hi
    generalize sT i = a at *
    generalize sT (i + 1) = b' at *
    have m1 : IntKind.i64.wrap ((b' - a) * (u - 256 * (i : Int))) = (b' - a) * (u - 256 * (i : Int)) := IntWalk.i64_in _ (by omega)
    have m2 : IntKind.i64.wrap (256 * (i : Int)) = 256 * (i : Int) := IntWalk.i64_in _ (by omega)
    have m3 : IntKind.i64.wrap (u - 256 * (i : Int)) = u - 256 * (i : Int) := IntWalk.i64_in _ (by omega)
    have m4 : IntKind.i64.wrap (b' - a) = b' - a := IntWalk.i64_in _ (by omega)
    have m5 : IntKind.i64.wrap ((i : Int) + 1) = (i : Int) + 1 := IntWalk.i64_in _ (by omega)
    have D := Lib.hid (fun w => refDiv_new ((b' - a) * (u - 256 * (i : Int))) 256 w (by omega) (by omega) (by omega) (by omega))
    have d0 := dv_nonneg ((b' - a) * (u - 256 * (i : Int))) 256 (by omega) hq.1
    have d1 := dv_le ((b' - a) * (u - 256 * (i : Int))) 256 (b' - a) (by omega) hq.2
    generalize dv ((b' - a) * (u - 256 * (i : Int))) 256 = z at *
    have m6 : IntKind.i64.wrap (a + z) = a + z := IntWalk.i64_in _ (by omega)
    have i0 : ¬ (64 : Int) ≤ (i : Int) := by omega
    have i1 : (i : Int) < 65 := by omega
    have i2 : (i : Int) + 1 < 65 := by omega
    have i3 : (0 : Int) ≤ (i : Int) := by omega
    have i4 : (0 : Int) ≤ (i : Int) + 1 := by omega
    have i5 : ((i : Int) + 1).toNat = i + 1 := by omega
    clear hq
    go_enter Tryz.func158, Tryz.ntmps158
    have bu : (u == 16384) = false := by simpa using hu
    go_wp2_with fail
    refine (table_any _).mono ?_
    rintro e W1 ⟨rfl, hb⟩
    go_wp2_with (refine wpList_store_row rfl _ _ _ rfl W1.heap.size tabA rfl rfl 138 _ (heap_alloc_last W1 _) infoTab (by kernel_rfl) tabA_one ?_)
    rw [World.setRow_alloc_new]
    obtain ⟨W2, hW2⟩ : ∃ W2, W2 = W1.alloc (.cells tabA 138 (0, 0)) := ⟨_, rfl⟩
    have kt : Blk W2 W1.heap.size (.cells tabA 138 (0, 0)) := by rw [hW2]; exact heap_alloc_last W1 _
    replace hb : Below w.heap.size w W2 := by rw [hW2]; exact hb.alloc hb.size _
    rw [← hW2]
    clear hW2
    generalize W1.heap.size = bt at *
    go_upto_region 5 with (fail)
    refine wp_region_grow 18 (fun w' => Below (World.heap W2).size W2 w') (by kernel_rfl) (by kernel_rfl) (Below.refl _ _).drew ?_
    simp only [List.take_succ_cons, List.take_zero, List.drop_succ_cons, List.drop_zero]
    repeat (first | (apply wpG_on; rfl; (intro w' hS K hK; have hr0 := (CE.out _ _ (kt.kept hS)).1; have hr1 := (CE.out _ _ (kt.kept hS)).2; go_simp; (first | exact hK.out _ hS | (go_at_call 67; (with_reducible refine (D.out _).mono ?_); rintro e w'' ⟨rfl, hbb⟩; exact ⟨_, rfl, hK.out _ (hS.trans (hbb.mono hS.size))⟩))); simp only [Act.put, List.setIfInBounds_toArray, List.set_cons_succ, List.set_cons_zero]) | (apply wpG_off; rfl; simp only [Act.put, List.setIfInBounds_toArray, List.set_cons_succ, List.set_cons_zero]))
    apply wpG_nil
    intro W3 hS
    replace hb := hb.trans (hS.mono hb.size)
    clear hS
    go_wp2_with fail
    go_ret
    exact ⟨ret_int HE.out.symm, hb⟩

set_option maxHeartbeats 2000000 in
theorem refSine_any (a : Int) (w : World) (h0 : 0 ≤ a) (h1 : a < 65536) :
    Calls Tryz.prog 121 #[.int .i64 a] w fun e w' => e = .returned (.int .i64 (sinA a)) ∧ Below w.heap.size w w' := by
  have t1 : a.tdiv 16384 = a / 16384 := Int.tdiv_eq_ediv_of_nonneg h0
  have hc : a < 16384 ∨ (16384 ≤ a ∧ a < 32768) ∨ (32768 ≤ a ∧ a < 49152) ∨ 49152 ≤ a := by omega
  rcases hc with c | c | c | c
  · have HE : Hid (sinA a = qtr (a)) := by show _ = _; unfold sinA; rw [if_pos c]
    have t2 : a / 16384 = 0 := by omega
    rw [t2] at t1
    have Q := Lib.hid (fun w => refQuarter_any (a) w (by omega) (by omega))
    have qb := qtr_bd (a) (by omega) (by omega)
    generalize qtr (a) = z at *
    go_enter Tryz.func121, Tryz.ntmps121
    go_wp2_with fail
    refine (Q.out _).mono ?_
    rintro e W1 ⟨rfl, hb⟩
    go_wp2_with fail
    go_ret
    exact ⟨ret_int HE.out.symm, hb⟩
  · have HE : Hid (sinA a = qtr (16384 - (a - 16384))) := by show _ = _; unfold sinA; rw [if_neg (by omega), if_pos c.2]
    have t2 : a / 16384 = 1 := by omega
    rw [t2] at t1
    have Q := Lib.hid (fun w => refQuarter_any (16384 - (a - 16384)) w (by omega) (by omega))
    have qb := qtr_bd (16384 - (a - 16384)) (by omega) (by omega)
    generalize qtr (16384 - (a - 16384)) = z at *
    go_enter Tryz.func121, Tryz.ntmps121
    go_wp2_with fail
    refine (Q.out _).mono ?_
    rintro e W1 ⟨rfl, hb⟩
    go_wp2_with fail
    go_ret
    exact ⟨ret_int HE.out.symm, hb⟩
  · have HE : Hid (sinA a = -qtr (a - 32768)) := by show _ = _; unfold sinA; rw [if_neg (by omega), if_neg (by omega), if_pos c.2]
    have t2 : a / 16384 = 2 := by omega
    rw [t2] at t1
    have Q := Lib.hid (fun w => refQuarter_any (a - 32768) w (by omega) (by omega))
    have qb := qtr_bd (a - 32768) (by omega) (by omega)
    generalize qtr (a - 32768) = z at *
    go_enter Tryz.func121, Tryz.ntmps121
    go_wp2_with fail
    refine (Q.out _).mono ?_
    rintro e W1 ⟨rfl, hb⟩
    go_wp2_with fail
    go_ret
    exact ⟨ret_int HE.out.symm, hb⟩
  · have HE : Hid (sinA a = -qtr (16384 - (a - 49152))) := by show _ = _; unfold sinA; rw [if_neg (by omega), if_neg (by omega), if_neg (by omega)]
    have t2 : a / 16384 = 3 := by omega
    rw [t2] at t1
    have Q := Lib.hid (fun w => refQuarter_any (16384 - (a - 49152)) w (by omega) (by omega))
    have qb := qtr_bd (16384 - (a - 49152)) (by omega) (by omega)
    generalize qtr (16384 - (a - 49152)) = z at *
    go_enter Tryz.func121, Tryz.ntmps121
    go_wp2_with fail
    refine (Q.out _).mono ?_
    rintro e W1 ⟨rfl, hb⟩
    go_wp2_with fail
    go_ret
    exact ⟨ret_int HE.out.symm, hb⟩


set_option maxHeartbeats 2000000 in
theorem refTurn_any (a : Int) (w : World) (h0 : -9223372036854775808 ≤ a) (h1 : a ≤ 9223372036854775807) :
    Calls Tryz.prog 84 #[.int .i64 a] w fun e w' => e = .returned (.tuple #[.int .i64 (tS a), .int .i64 (tC a)]) ∧ Below w.heap.size w w' := by
  have S1 : Hid (∀ w, Calls Tryz.prog 121 #[.int .i64 (a % 65536)] w fun e w' => e = .returned (.int .i64 (tS a)) ∧ Below w.heap.size w w') := fun w => by rw [tS_def]; exact refSine_any (a % 65536) w (by omega) (by omega)
  have S2 : Hid (∀ w, Calls Tryz.prog 121 #[.int .i64 ((a % 65536 + 16384) % 65536)] w fun e w' => e = .returned (.int .i64 (tC a)) ∧ Below w.heap.size w w') := fun w => by rw [tC_def]; exact refSine_any ((a % 65536 + 16384) % 65536) w (by omega) (by omega)
  generalize tS a = sn at *
  generalize tC a = cn at *
  have r0 : 0 ≤ a % 65536 ∧ a % 65536 < 65536 := by omega
  by_cases hn : a.tmod 65536 < 0
  · have m1 : IntKind.i64.wrap (a.tmod 65536 + 65536) = a % 65536 := by
      have hb := tmod_bd a 65536 (by omega)
      have hm := mod_pos a 65536 (by omega)
      have e1 : (a.tmod 65536 + 65536).tmod 65536 = a.tmod 65536 + 65536 := by
        clear hm
        generalize a.tmod 65536 = q at *
        rw [Int.tmod_eq_emod_of_nonneg (by omega)]
        omega
      rw [IntWalk.i64_in _ (by omega)]
      omega
    generalize a % 65536 = r at *
    have m2 : IntKind.i64.wrap (r + 16384) = r + 16384 := IntWalk.i64_in _ (by omega)
    have m3 : (r + 16384).tmod 65536 = (r + 16384) % 65536 := Int.tmod_eq_emod_of_nonneg (by omega)
    go_enter Tryz.func84, Tryz.ntmps84
    go_wp2_with fail
    refine (S1.out _).mono ?_
    rintro e W1 ⟨rfl, hb⟩
    go_wp2_with fail
    refine (S2.out _).mono ?_
    rintro e W2 ⟨rfl, hS⟩
    replace hb := hb.trans (hS.mono hb.size)
    go_wp2_with fail
    go_ret2
    exact ⟨rfl, hb⟩
  · have m1 : a.tmod 65536 = a % 65536 := by
      have hb := tmod_bd a 65536 (by omega)
      have hm := mod_pos a 65536 (by omega)
      rw [← hm]
      generalize a.tmod 65536 = q at *
      rw [Int.tmod_eq_emod_of_nonneg (by omega)]
      omega
    have hn2 : ¬ a % 65536 < 0 := by omega
    generalize a % 65536 = r at *
    have m2 : IntKind.i64.wrap (r + 16384) = r + 16384 := IntWalk.i64_in _ (by omega)
    have m3 : (r + 16384).tmod 65536 = (r + 16384) % 65536 := Int.tmod_eq_emod_of_nonneg (by omega)
    go_enter Tryz.func84, Tryz.ntmps84
    go_wp2_with fail
    refine (S1.out _).mono ?_
    rintro e W1 ⟨rfl, hb⟩
    go_wp2_with fail
    refine (S2.out _).mono ?_
    rintro e W2 ⟨rfl, hS⟩
    replace hb := hb.trans (hS.mono hb.size)
    go_wp2_with fail
    go_ret2
    exact ⟨rfl, hb⟩
end Go.Proofs.YtieacbccadbdbaaGreatDoor

