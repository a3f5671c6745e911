/- BlendNames: the walk. -/
import Derived.Test.YtfgkgibomgcmpaaDoorFrame
import Derived.Test.YtfgkgibomgcmpaaDoorBlendEx
import Derived.Laws.StructEq
namespace Go.Proofs.YtfgkgibomgcmpaaDoor.blendNames
open Go.ChangeShapes Go.WideShapes Go.ChangeAt Go.RowKit
set_option linter.unusedVariables false
attribute [local go_sem] Oper.gAt gUponK Oper.sAt stilK

def nm (k : Nat) : ByteArray := ⟨(nameTab.getD k []).toArray⟩
/-- The first mode from k on, of n modes, with the name z. -/
def fnd (z : ByteArray) : Nat → Nat → Int × Bool
  | 0, _ => (0, false)
  | n + 1, k => if nm k = z then ((k : Int), true) else fnd z n (k + 1)
theorem fnd_end (z : ByteArray) (k : Nat) (h : 18 ≤ k) : fnd z (18 - k) k = (0, false) := by
  rw [show 18 - k = 0 by omega]; rfl
theorem fnd_hit (z : ByteArray) (k : Nat) (h : k < 18) (e : nm k = z) : fnd z (18 - k) k = ((k : Int), true) := by
  rw [show 18 - k = (17 - k) + 1 by omega]
  exact if_pos e
theorem fnd_miss (z : ByteArray) (k : Nat) (h : k < 18) (e : nm k ≠ z) : fnd z (18 - k) k = fnd z (18 - (k + 1)) (k + 1) := by
  rw [show 18 - k = (17 - k) + 1 by omega, show 18 - (k + 1) = 17 - k by omega]
  exact if_neg e

set_option maxHeartbeats 1000000 in
theorem find_any (z : ByteArray) (w : World) (hN : Names w) :
    Calls Tryd.prog 26 #[.string z] w fun e w' => e = .returned (.tuple #[.int .i64 (fnd z 18 0).1, .bool (fnd z 18 0).2]) ∧ w = w' := by
  have hc : ∀ i, i < 18 → w.cell? ⟨0, i, none⟩ = some (.string (nm i)) := hN.2
  obtain ⟨q, hq⟩ : ∃ q, q = fnd z 18 0 := ⟨_, rfl⟩
  rw [← hq]
  have T : Hid (q = fnd z (18 - 0) 0) := hq
  clear hq
  clear hN
  go_enter Tryd.func26, Tryd.ntmps26
  go_wp2_with fail
  go_loopw [5] (fun i wr => ∃ (k : Nat), k ≤ 18 ∧ i = .int .i64 k ∧ wr = w ∧ Hid (q = fnd z (18 - k) k)) (fun i _ => 18 - (intOf i).toNat)
  case atStart => exact ⟨0, by omega, rfl, rfl, T⟩
  case round =>
    clear T
    obtain ⟨k, hk, rfl, rfl, T⟩ := hrel
    by_cases h18 : k = 18
    · subst h18
      have e := T.out.trans (fnd_end z 18 (by omega))
      subst e
      go_wp2_with fail
      refine bodyPost_ret (v := .tuple #[.int .i64 0, .bool false]) (by simp [results, Tryd.results26, go_sem]) rfl ⟨rfl, rfl⟩
    · have i1 : (0 : Int) ≤ (k : Int) := by omega
      have i2 : (k : Int) < 18 := by omega
      have hck := hc k (by omega)
      by_cases h : nm k = z
      · have e := T.out.trans (fnd_hit z k (by omega) h)
        subst e
        rw [h] at hck
        go_wp2_with fail
        refine bodyPost_ret (v := .tuple #[.int .i64 (k : Int), .bool true]) (by simp [results, Tryd.results26, go_sem]) rfl ⟨rfl, rfl⟩
      · have T2 : Hid (q = fnd z (18 - (k + 1)) (k + 1)) := T.out.trans (fnd_miss z k (by omega) h)
        have hs : ((nm k).toList == z.toList) = false := by
          rw [ByteArray.toList_eq, ByteArray.toList_eq, beq_eq_false_iff_ne]
          exact fun hh => h (ByteArray.ext (Array.toList_inj.1 hh))
        generalize nm k = y at hck h hs
        clear T
        go_wp2_with fail
        go_roundw
        case rel => exact ⟨k + 1, by omega, by simp, trivial, T2⟩
        case measure => simp only [intOf]; omega

set_option maxHeartbeats 1000000 in
theorem names_any (w : World) :
    Calls Tryd.prog 55 #[] w fun e w' => e = .returned (.slice (some ⟨w.heap.size, 0, none⟩) 18 18) ∧ (∀ i, i < 18 → w'.cell? ⟨w.heap.size, i, none⟩ = some (.string (nm i))) ∧ Below w.heap.size w w' := by
  go_enter Tryd.func55, Tryd.ntmps55
  go_wp2_with fail
  go_ret
  refine ⟨rfl, ?_, (Below.refl _ _).alloc (Nat.le_refl _) _⟩
  intro i hi
  refine cell_blk (heap_alloc_new _ _) ?_
  obtain rfl | rfl | rfl | rfl | rfl | rfl | rfl | rfl | rfl | rfl | rfl | rfl | rfl | rfl | rfl | rfl | rfl | rfl : i = 0 ∨ i = 1 ∨ i = 2 ∨ i = 3 ∨ i = 4 ∨ i = 5 ∨ i = 6 ∨ i = 7 ∨ i = 8 ∨ i = 9 ∨ i = 10 ∨ i = 11 ∨ i = 12 ∨ i = 13 ∨ i = 14 ∨ i = 15 ∨ i = 16 ∨ i = 17 := by omega
  all_goals rfl

set_option maxHeartbeats 1000000 in
theorem refFind_any (z : ByteArray) (w : World) :
    Calls Tryd.prog 27 #[.string z] w fun e w' => e = .returned (.tuple #[.int .i64 (fnd z 18 0).1, .bool (fnd z 18 0).2]) ∧ Below w.heap.size w w' := by
  obtain ⟨q, hq⟩ : ∃ q, q = fnd z 18 0 := ⟨_, rfl⟩
  rw [← hq]
  have T : Hid (q = fnd z (18 - 0) 0) := hq
  clear hq
  go_enter Tryd.func27, Tryd.ntmps27
  go_wp2_with fail
  refine (names_any _).mono ?_
  rintro e W1 ⟨rfl, hc, hb⟩
  go_wp2_with fail
  go_loopw [5] (fun i wr => ∃ (k : Nat), k ≤ 18 ∧ i = .int .i64 k ∧ wr = W1 ∧ Hid (q = fnd z (18 - k) k)) (fun i _ => 18 - (intOf i).toNat)
  case atStart => exact ⟨0, by omega, rfl, rfl, T⟩
  case round =>
    clear T
    obtain ⟨k, hk, rfl, rfl, T⟩ := hrel
    by_cases h18 : k = 18
    · subst h18
      have e := T.out.trans (fnd_end z 18 (by omega))
      subst e
      go_wp2_with fail
      refine bodyPost_ret (v := .tuple #[.int .i64 0, .bool false]) (by simp [results, Tryd.results27, go_sem]) rfl ⟨rfl, hb⟩
    · have i1 : (0 : Int) ≤ (k : Int) := by omega
      have i2 : (k : Int) < 18 := by omega
      have hck := hc k (by omega)
      by_cases h : nm k = z
      · have e := T.out.trans (fnd_hit z k (by omega) h)
        subst e
        rw [h] at hck
        go_wp2_with fail
        refine bodyPost_ret (v := .tuple #[.int .i64 (k : Int), .bool true]) (by simp [results, Tryd.results27, go_sem]) rfl ⟨rfl, hb⟩
      · have T2 : Hid (q = fnd z (18 - (k + 1)) (k + 1)) := T.out.trans (fnd_miss z k (by omega) h)
        have hs : ((nm k).toList == z.toList) = false := by
          rw [ByteArray.toList_eq, ByteArray.toList_eq, beq_eq_false_iff_ne]
          exact fun hh => h (ByteArray.ext (Array.toList_inj.1 hh))
        generalize nm k = y at hck h hs
        clear T
        go_wp2_with fail
        go_roundw
        case rel => exact ⟨k + 1, by omega, by simp, trivial, T2⟩
        case measure => simp only [intOf]; omega

def nmI (m : Int) : ByteArray := if 0 ≤ m ∧ m ≤ 17 then nm m.toNat else ⟨#[]⟩
set_option maxHeartbeats 1000000 in
theorem name_any (m : Int) (w : World) (hN : Names w) :
    Calls Tryd.prog 30 #[.int .i64 m] w fun e w' => e = .returned (.string (nmI m)) ∧ w = w' := by
  by_cases h : 0 ≤ m ∧ m ≤ 17
  · obtain ⟨k, rfl⟩ : ∃ k : Nat, m = k := ⟨m.toNat, by omega⟩
    have e : nmI (k : Int) = nm k := if_pos h
    rw [e]
    exact name_in k w (by omega) hN
  · have e : nmI m = ⟨#[]⟩ := if_neg h
    rw [e]
    have hv : decide (0 ≤ m ∧ m ≤ 17) = false := decide_eq_false h
    clear h e hN
    go_enter Tryd.func30, Tryd.ntmps30
    go_wp2_with fail
    refine (bValid_any _ _).mono ?_
    rintro e w' ⟨rfl, rfl⟩
    rw [hv]
    go_wp2_with fail
    go_ret
    exact ⟨rfl, rfl⟩
set_option maxHeartbeats 1000000 in
theorem refName_any (m : Int) (w : World) :
    Calls Tryd.prog 31 #[.int .i64 m] w fun e w' => e = .returned (.string (nmI m)) ∧ Below w.heap.size w w' := by
  by_cases h : 0 ≤ m ∧ m ≤ 17
  · obtain ⟨k, rfl⟩ : ∃ k : Nat, m = k := ⟨m.toNat, by omega⟩
    have e : nmI (k : Int) = nm k := if_pos h
    rw [e]
    have hv : decide (0 ≤ (k : Int) ∧ (k : Int) ≤ 17) = true := decide_eq_true h
    have i1 : (0 : Int) ≤ (k : Int) := by omega
    have i2 : (k : Int) < 18 := by omega
    clear h e
    go_enter Tryd.func31, Tryd.ntmps31
    go_wp2_with fail
    refine (refBValid_any _ _).mono ?_
    rintro e w' ⟨rfl, rfl⟩
    rw [hv]
    go_wp2_with fail
    refine (names_any _).mono ?_
    rintro e W1 ⟨rfl, hc, hb⟩
    have hck := hc k (by omega)
    clear hc
    go_wp2_with fail
    go_ret
    exact ⟨rfl, hb⟩
  · have e : nmI m = ⟨#[]⟩ := if_neg h
    rw [e]
    have hv : decide (0 ≤ m ∧ m ≤ 17) = false := decide_eq_false h
    clear h e
    go_enter Tryd.func31, Tryd.ntmps31
    go_wp2_with fail
    refine (refBValid_any _ _).mono ?_
    rintro e w' ⟨rfl, rfl⟩
    rw [hv]
    go_wp2_with fail
    go_ret
    exact ⟨rfl, Below.refl _ _⟩

set_option maxHeartbeats 1000000 in
theorem walk (m : Int) (z : ByteArray) (w : World) (hN : Names w) (w0 : (Lit.int .i64 m).wf = true) (w1 : z.size ≤ maxLen) :
    Calls Tryd.prog 11 #[.int .i64 m, .string z] w fun e w' => e = .returned (.bool true) ∧ Below w.heap.size w w' := by
  clear w0 w1
  have HN := Lib.hid hN
  clear hN
  have F1 := Lib.hid (fun w h => find_any z w h)
  have F2 := Lib.hid (fun w => refFind_any z w)
  have G1 := Lib.hid (fun w h => name_any m w h)
  have G2 := Lib.hid (fun w => refName_any m w)
  generalize fnd z 18 0 = q at *
  generalize nmI m = y at *
  obtain ⟨q0, q1⟩ := q
  go_enter Tryd.func11, Tryd.ntmps11
  go_wp2_with fail
  refine (F1.out _ HN.out).mono ?_
  rintro e w' ⟨rfl, rfl⟩
  go_wp2_with fail
  refine (F2.out _).mono ?_
  rintro e W1 ⟨rfl, hb⟩
  replace HN := Lib.hid (HN.out.kept hb)
  go_wp2_with fail
  refine (bValid_any _ _).mono ?_
  rintro e w' ⟨rfl, rfl⟩
  go_wp2_with fail
  refine (refBValid_any _ _).mono ?_
  rintro e w' ⟨rfl, rfl⟩
  go_wp2_with fail
  refine (G1.out _ HN.out).mono ?_
  rintro e w' ⟨rfl, rfl⟩
  go_wp2_with fail
  refine (G2.out _).mono ?_
  rintro e W2 ⟨rfl, hS⟩
  replace HN := Lib.hid (HN.out.kept hS)
  replace hb := hb.trans (hS.mono hb.size)
  clear hS
  go_wp2_with fail
  refine (example_any _ HN.out).mono ?_
  rintro e w2 ⟨rfl, hb2⟩
  go_wp2_with fail
  go_ret
  exact ⟨ret_bool (by simp), hb.trans (hb2.mono hb.size)⟩
end Go.Proofs.YtfgkgibomgcmpaaDoor.blendNames
