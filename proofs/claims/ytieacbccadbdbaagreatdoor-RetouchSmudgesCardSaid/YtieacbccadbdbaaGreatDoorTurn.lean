/- The sines by the program (its table is a package's variable) and by the reference (printed by genturn.py). -/
import Derived.Test.YtieacbccadbdbaaGreatDoorLPlain
import Derived.Test.YtieacbccadbdbaaGreatDoorLNumW
import Derived.Test.YtieacbccadbdbaaGreatDoorLKit
import Derived.Test.YtieacbccadbdbaaGreatDoorLKit
import Derived.Deep.Cut
namespace Go.Proofs.YtieacbccadbdbaaGreatDoor
open Go.RowKit
set_option linter.unusedVariables false
attribute [local go_sem] Oper.gAt gUponK Oper.sAt stilK

/-- The table of the sines lies in block 0. -/
def Sines (w : World) : Prop := 0 < w.heap.size ∧ ∀ i, i < 65 → w.cell? ⟨0, i, none⟩ = some (.int .i64 (sT i))
theorem Sines.kept {w w' : World} (h : Sines w) (hb : Below w.heap.size w w') : Sines w' :=
  ⟨Nat.lt_of_lt_of_le h.1 hb.size, fun i hi => by rw [hb.cell (p := ⟨0, i, none⟩) h.1]; exact h.2 i hi⟩

set_option maxHeartbeats 2000000 in
theorem quarter_any (u : Int) (w : World) (hs : Sines w) (h0 : 0 ≤ u) (h1 : u ≤ 16384) :
    Calls Tryz.prog 170 #[.int .i64 u] w fun e w' => e = .returned (.int .i64 (qtr u)) ∧ Below w.heap.size w w' := by
  have t1 : u.tdiv 256 = u / 256 := Int.tdiv_eq_ediv_of_nonneg h0
  by_cases hu : u = 16384
  · subst hu
    have HE : Hid (qtr 16384 = 65536) := by show _ = _; decide +kernel
    have c := hs.2 64 (by omega)
    have e : sT 64 = 65536 := by decide
    rw [e] at c
    clear hs t1
    go_enter Tryz.func170, Tryz.ntmps170
    go_wp2_with fail
    go_ret
    exact ⟨ret_int HE.out.symm, Below.refl _ _⟩
  · obtain ⟨i, hi⟩ : ∃ i : Nat, u / 256 = i := ⟨(u / 256).toNat, by omega⟩
    have hl : i < 64 := by omega
    have HE : Hid (qtr u = sT i + dv ((sT (i + 1) - sT i) * (u - 256 * i)) 256) := by
      show _ = _
      unfold qtr
      rw [if_neg hu, hi]
      rfl
    have hq := qtr_in u h0 (by omega)
    rw [hi] at hq
    simp only [Int.toNat_natCast] at hq
    have b := sT_ok i hl
    have CE : Hid (∀ w', Sines w' → w'.cell? ⟨0, i, none⟩ = some (.int .i64 (sT i)) ∧ w'.cell? ⟨0, i + 1, none⟩ = some (.int .i64 (sT (i + 1)))) := fun w' h => ⟨h.2 i (by omega), h.2 (i + 1) (by omega)⟩
    rw [hi] at t1
    have r1 : 0 ≤ u - 256 * (i : Int) ∧ u - 256 * (i : Int) < 256 := by omega
    clear hi
    generalize sT i = a at *
    generalize sT (i + 1) = b' at *
    have m1 : IntKind.i64.wrap ((b' - a) * (u - 256 * (i : Int))) = (b' - a) * (u - 256 * (i : Int)) := IntWalk.i64_in _ (by omega)
    have m2 : IntKind.i64.wrap (256 * (i : Int)) = 256 * (i : Int) := IntWalk.i64_in _ (by omega)
    have m3 : IntKind.i64.wrap (u - 256 * (i : Int)) = u - 256 * (i : Int) := IntWalk.i64_in _ (by omega)
    have m4 : IntKind.i64.wrap (b' - a) = b' - a := IntWalk.i64_in _ (by omega)
    have m5 : IntKind.i64.wrap ((i : Int) + 1) = (i : Int) + 1 := IntWalk.i64_in _ (by omega)
    have D := Lib.hid (fun w => div_any ((b' - a) * (u - 256 * (i : Int))) 256 w (by omega) (by omega) (by omega) (by omega))
    have d0 := dv_nonneg ((b' - a) * (u - 256 * (i : Int))) 256 (by omega) hq.1
    have d1 := dv_le ((b' - a) * (u - 256 * (i : Int))) 256 (b' - a) (by omega) hq.2
    generalize dv ((b' - a) * (u - 256 * (i : Int))) 256 = z at *
    have m6 : IntKind.i64.wrap (a + z) = a + z := IntWalk.i64_in _ (by omega)
    have i0 : ¬ (64 : Int) ≤ (i : Int) := by omega
    have i1 : (i : Int) < 65 := by omega
    have i2 : (i : Int) + 1 < 65 := by omega
    have i3 : (0 : Int) ≤ (i : Int) := by omega
    have i4 : (0 : Int) ≤ (i : Int) + 1 := by omega
    have i5 : ((i : Int) + 1).toNat = i + 1 := by omega
    clear hq
    have HSn := Lib.hid hs
    clear hs
    have hb := Below.refl w.heap.size w
    go_enter Tryz.func170, Tryz.ntmps170
    go_upto_region 4 with (fail)
    refine wp_region_grow 18 (fun w' => Below (World.heap w).size w w') (by kernel_rfl) (by kernel_rfl) (Below.refl _ _).drew ?_
    simp only [List.take_succ_cons, List.take_zero, List.drop_succ_cons, List.drop_zero]
    repeat (first | (apply wpG_on; rfl; (intro w' hS K hK; have hr0 := (CE.out _ (HSn.out.kept hS)).1; have hr1 := (CE.out _ (HSn.out.kept hS)).2; go_simp; (first | exact hK.out _ hS | (go_at_call 61; (with_reducible refine (D.out _).mono ?_); rintro e w'' ⟨rfl, rfl⟩; exact ⟨_, rfl, hK.out _ hS⟩))); simp only [Act.put, List.setIfInBounds_toArray, List.set_cons_succ, List.set_cons_zero]) | (apply wpG_off; rfl; simp only [Act.put, List.setIfInBounds_toArray, List.set_cons_succ, List.set_cons_zero]))
    apply wpG_nil
    intro W1 hS
    replace hb := hb.trans (hS.mono hb.size)
    clear hS
    go_wp2_with fail
    go_ret
    exact ⟨ret_int HE.out.symm, hb⟩

set_option maxHeartbeats 2000000 in
theorem sine_any (a : Int) (w : World) (hs : Sines w) (h0 : 0 ≤ a) (h1 : a < 65536) :
    Calls Tryz.prog 156 #[.int .i64 a] w fun e w' => e = .returned (.int .i64 (sinA a)) ∧ Below w.heap.size w w' := by
  have HSn := Lib.hid hs
  clear hs
  have t1 : a.tdiv 16384 = a / 16384 := Int.tdiv_eq_ediv_of_nonneg h0
  have hc : a < 16384 ∨ (16384 ≤ a ∧ a < 32768) ∨ (32768 ≤ a ∧ a < 49152) ∨ 49152 ≤ a := by omega
  rcases hc with c | c | c | c
  · have HE : Hid (sinA a = qtr (a)) := by show _ = _; unfold sinA; rw [if_pos c]
    have t2 : a / 16384 = 0 := by omega
    rw [t2] at t1
    have Q := Lib.hid (fun w h => quarter_any (a) w h (by omega) (by omega))
    have qb := qtr_bd (a) (by omega) (by omega)
    generalize qtr (a) = z at *
    go_enter Tryz.func156, Tryz.ntmps156
    go_wp2_with fail
    refine (Q.out _ HSn.out).mono ?_
    rintro e W1 ⟨rfl, hb⟩
    go_wp2_with fail
    go_ret
    exact ⟨ret_int HE.out.symm, hb⟩
  · have HE : Hid (sinA a = qtr (16384 - (a - 16384))) := by show _ = _; unfold sinA; rw [if_neg (by omega), if_pos c.2]
    have t2 : a / 16384 = 1 := by omega
    rw [t2] at t1
    have Q := Lib.hid (fun w h => quarter_any (16384 - (a - 16384)) w h (by omega) (by omega))
    have qb := qtr_bd (16384 - (a - 16384)) (by omega) (by omega)
    generalize qtr (16384 - (a - 16384)) = z at *
    go_enter Tryz.func156, Tryz.ntmps156
    go_wp2_with fail
    refine (Q.out _ HSn.out).mono ?_
    rintro e W1 ⟨rfl, hb⟩
    go_wp2_with fail
    go_ret
    exact ⟨ret_int HE.out.symm, hb⟩
  · have HE : Hid (sinA a = -qtr (a - 32768)) := by show _ = _; unfold sinA; rw [if_neg (by omega), if_neg (by omega), if_pos c.2]
    have t2 : a / 16384 = 2 := by omega
    rw [t2] at t1
    have Q := Lib.hid (fun w h => quarter_any (a - 32768) w h (by omega) (by omega))
    have qb := qtr_bd (a - 32768) (by omega) (by omega)
    generalize qtr (a - 32768) = z at *
    go_enter Tryz.func156, Tryz.ntmps156
    go_wp2_with fail
    refine (Q.out _ HSn.out).mono ?_
    rintro e W1 ⟨rfl, hb⟩
    go_wp2_with fail
    go_ret
    exact ⟨ret_int HE.out.symm, hb⟩
  · have HE : Hid (sinA a = -qtr (16384 - (a - 49152))) := by show _ = _; unfold sinA; rw [if_neg (by omega), if_neg (by omega), if_neg (by omega)]
    have t2 : a / 16384 = 3 := by omega
    rw [t2] at t1
    have Q := Lib.hid (fun w h => quarter_any (16384 - (a - 49152)) w h (by omega) (by omega))
    have qb := qtr_bd (16384 - (a - 49152)) (by omega) (by omega)
    generalize qtr (16384 - (a - 49152)) = z at *
    go_enter Tryz.func156, Tryz.ntmps156
    go_wp2_with fail
    refine (Q.out _ HSn.out).mono ?_
    rintro e W1 ⟨rfl, hb⟩
    go_wp2_with fail
    go_ret
    exact ⟨ret_int HE.out.symm, hb⟩

theorem and_full (a : Int) : bits .and .i64 a 65535 = a % 65536 := by
  have h2 : (BitVec.ofInt 64 65535).toNat = 65535 := by decide
  show IntKind.i64.wrap ((BitVec.ofInt 64 a &&& BitVec.ofInt 64 65535).toNat : Int) = _
  rw [BitVec.toNat_and, h2, show (65535 : Nat) = 2 ^ 16 - 1 from rfl, Nat.and_two_pow_sub_one_eq_mod, BitVec.toNat_ofInt]
  have e : ((2 ^ 64 : Nat) : Int) = 18446744073709551616 := by decide
  have e2 : (2 : Nat) ^ 16 = 65536 := by decide
  rw [e, e2, IntWalk.i64_in _ (by omega)]
  omega

set_option maxHeartbeats 2000000 in
theorem turn_any (a : Int) (w : World) (hs : Sines w) (h0 : -9223372036854775808 ≤ a) (h1 : a ≤ 9223372036854775807) :
    Calls Tryz.prog 117 #[.int .i64 a] w fun e w' => e = .returned (.tuple #[.int .i64 (tS a), .int .i64 (tC a)]) ∧ Below w.heap.size w w' := by
  have HSn := Lib.hid hs
  clear hs
  have S1 : Hid (∀ w, Sines w → Calls Tryz.prog 156 #[.int .i64 (a % 65536)] w fun e w' => e = .returned (.int .i64 (tS a)) ∧ Below w.heap.size w w') := fun w h => by rw [tS_def]; exact sine_any (a % 65536) w h (by omega) (by omega)
  have S2 : Hid (∀ w, Sines w → Calls Tryz.prog 156 #[.int .i64 ((a % 65536 + 16384) % 65536)] w fun e w' => e = .returned (.int .i64 (tC a)) ∧ Below w.heap.size w w') := fun w h => by rw [tC_def]; exact sine_any ((a % 65536 + 16384) % 65536) w h (by omega) (by omega)
  have hb := Below.refl w.heap.size w
  have m1 := and_full a
  have r0 : 0 ≤ a % 65536 ∧ a % 65536 < 65536 := by omega
  generalize tS a = sn at *
  generalize tC a = cn at *
  generalize a % 65536 = r at *
  have m2 : IntKind.i64.wrap (r + 16384) = r + 16384 := IntWalk.i64_in _ (by omega)
  have m3 : (r + 16384).tmod 65536 = (r + 16384) % 65536 := Int.tmod_eq_emod_of_nonneg (by omega)
  go_enter Tryz.func117, Tryz.ntmps117
  go_wp2_with fail
  refine (S1.out _ HSn.out).mono ?_
  rintro e W1 ⟨rfl, hb⟩
  go_wp2_with fail
  refine (S2.out _ (HSn.out.kept hb)).mono ?_
  rintro e W2 ⟨rfl, hS⟩
  replace hb := hb.trans (hS.mono hb.size)
  go_wp2_with fail
  go_ret2
  exact ⟨rfl, hb⟩

end Go.Proofs.YtieacbccadbdbaaGreatDoor

