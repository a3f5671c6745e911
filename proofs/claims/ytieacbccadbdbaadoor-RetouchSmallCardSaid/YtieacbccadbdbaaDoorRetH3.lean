/- retouch.smoothed. -/
import Derived.Test.YtieacbccadbdbaaDoorRetH1
import Derived.Deep.Cut
namespace Go.Proofs.YtieacbccadbdbaaDoor
open Go.RowKit
set_option linter.unusedVariables false
attribute [local go_sem] Oper.gAt gUponK Oper.sAt stilK

set_option maxRecDepth 100000 in
set_option maxHeartbeats 16000000 in
theorem smoothed_any (wd ht g : Nat) (O S : Nat → Int) (w : World) (row : RowI w g (wd * ht * 4) O) (hw : 1 ≤ wd ∧ wd ≤ 32) (hh : 1 ≤ ht ∧ ht ≤ 32) (hO : ∀ j, -65535 ≤ O j ∧ O j ≤ 65535)
    (hSb : ∀ j, onBorder wd ht (j / 4) = true → S j = O j) (hSi : ∀ k c, c < 4 → onBorder wd ht k = false → S (k * 4 + c) = dv (O ((k - 1) * 4 + c) + O ((k + 1) * 4 + c) + O ((k - wd) * 4 + c) + O ((k + wd) * 4 + c)) 4) :
    Calls Tryd.prog 37 #[.slice (some ⟨g, 0, none⟩) (wd * ht) (wd * ht), .int .i64 wd, .int .i64 ht] w fun e w' => ∃ g', e = .returned (.slice (some ⟨g', 0, none⟩) (wd * ht) (wd * ht)) ∧ w.heap.size ≤ g' ∧ RowI w' g' (wd * ht * 4) S ∧ Below w.heap.size w w' := by
  have hN : wd * ht ≤ 32 * 32 := Nat.mul_le_mul hw.2 hh.2
  have hkk : Hid (∀ y x, 1 ≤ y → y + 1 < ht → x + 1 < wd → y * wd + x + wd < wd * ht ∧ wd ≤ y * wd) := fun y x hy hy2 hx => by
    have a := Nat.mul_le_mul_right wd (show y + 1 + 1 ≤ ht by omega)
    rw [Nat.add_mul, Nat.add_mul, Nat.one_mul, Nat.mul_comm ht] at a
    have b := Nat.mul_le_mul_right wd hy
    omega
  have H1 : Hid (∀ j, j < (wd + 1) * 4 → S j = O j) := fun j hj => hSb j (brd_first (by omega) (by omega))
  have HR : Hid (∀ y x j, ((x + 1 ≤ wd) ∨ x = 1) → 1 ≤ x → ¬ x + 1 < wd → (y * wd + x) * 4 ≤ j → j < (y * wd + wd + 1) * 4 → S j = O j) := fun y x j h1 h2 h3 h4 h5 => hSb j (brd_row (y := y) (by omega) (by omega) (by rw [Nat.add_mul, Nat.one_mul]; omega))
  have HE : Hid (∀ y j, ht ≤ y + 1 → (y * wd + 1) * 4 ≤ j → j < wd * ht * 4 → S j = O j) := fun y j h1 h2 h3 => hSb j (brd_last (y := y) (by omega) (by omega) (by omega) (by omega))
  have HI : Hid (∀ y x c, c < 4 → 1 ≤ x → x + 1 < wd → 1 ≤ y → y + 1 < ht → S ((y * wd + x) * 4 + c) = dv (O ((y * wd + x - 1) * 4 + c) + O ((y * wd + x + 1) * 4 + c) + O ((y * wd + x - wd) * 4 + c) + O ((y * wd + x + wd) * 4 + c)) 4) := fun y x c hc hx hx2 hy hy2 => hSi _ c hc (brd_in hx hx2 hy hy2)
  have HO := Lib.hid hO
  clear hSb hSi hO
  generalize wd * ht = N at *
  have mk := fun w => makeQ N (by omega) w
  have ew : IntKind.i64.wrap ((wd : Int) - 1) = (wd : Int) - 1 := IntWalk.i64_in _ (by omega)
  have eh : IntKind.i64.wrap ((ht : Int) - 1) = (ht : Int) - 1 := IntWalk.i64_in _ (by omega)
  have lg := row.lt
  go_enter Tryd.func37, Tryd.ntmps37
  go_upto_region 2 with (fail)
  refine name1 (fun W1 kr hb => ?_)
  have HK := Lib.hid kr
  have HW := Lib.hid (row.kept hb)
  clear kr mk row
  go_wp2_with (refine wpList_copy_all (o := ⟨some 17, _, _, _, _, _⟩) rfl _ _ 76 76 rfl 79 4 Tryd.underlying76 infoQ4 w.heap.size N N N (some ⟨g, 0, none⟩) rfl rfl _ _ HK.out (icF O (N * 4)) (icF_len _ _) ?cs ?src (icF_one _ _) w.heap.size w hb (by omega) ?_)
  case cs => rw [size_madeCells, icF_len]
  case src => exact fun _ => ⟨_, rfl, HW.out.src⟩
  intro W3 hr hother hb3
  have row := rowI_of_cells hr.out
  have rowO := HW.out.same (hother g (by omega))
  clear hr hother hb HW HK
  have hb := hb3
  clear hb3
  replace row := row.congr (f' := fun j => if j < (wd + 1) * 4 then S j else O j) (fun j _ => by
    by_cases h : j < (wd + 1) * 4
    · rw [if_pos h, H1.out j h]
    · rw [if_neg h])
  have hgne : w.heap.size ≠ g := by omega
  go_wp2_with fail
  go_loopw [8] (fun i wr => ∃ y yk : Nat, 1 ≤ y ∧ Hid (yk = y * wd) ∧ i = .int .i64 y ∧ (y + 1 ≤ ht ∨ y = 1) ∧ RowI wr w.heap.size (N * 4) (fun j => if j < (yk + 1) * 4 then S j else O j) ∧ RowI wr g (N * 4) O ∧ Below w.heap.size w wr) (fun i _ => ht - (intOf i).toNat)
  case atStart => exact ⟨1, wd, Nat.le_refl _, (Nat.one_mul _).symm, rfl, .inr rfl, row, rowO, hb⟩
  case round =>
    clear row rowO hb
    obtain ⟨y, yk, hy1, hyk, rfl, hy2, row, rowO, hb⟩ := hrel
    by_cases hlt : y + 1 < ht
    · have d1 : (y : Int) < (ht : Int) - 1 := by omega
      have hrow := row
      go_wp2_with fail
      go_loopw [9] (fun i wr => ∃ x : Nat, 1 ≤ x ∧ i = .int .i64 x ∧ (x + 1 ≤ wd ∨ x = 1) ∧ RowI wr w.heap.size (N * 4) (fun j => if j < (yk + x) * 4 then S j else O j) ∧ RowI wr g (N * 4) O ∧ Below w.heap.size w wr) (fun i _ => wd - (intOf i).toNat)
      case atStart => exact ⟨1, Nat.le_refl _, rfl, .inr rfl, row, rowO, hb⟩
      case round =>
        clear row hrow rowO hb
        obtain ⟨x, hx1, rfl, hx2, row, rowO, hb⟩ := hrel
        by_cases hxl : x + 1 < wd
        · have d2 : (x : Int) < (wd : Int) - 1 := by omega
          obtain ⟨hk1, hk2⟩ := hkk.out y x hy1 hlt hxl
          have HI1 := Lib.hid (fun c hc => HI.out y x c hc hx1 hxl hy1 hlt)
          rw [← hyk.out] at hk1 hk2 HI1
          have e8 : IntKind.i64.wrap ((y : Int) * (wd : Int)) = (yk : Int) := by rw [← Int.natCast_mul, ← hyk.out]; exact IntWalk.i64_in _ (by omega)
          obtain ⟨k0, hk0⟩ : ∃ k0, yk + x = k0 := ⟨_, rfl⟩
          have e9 : IntKind.i64.wrap ((yk : Int) + (x : Int)) = (k0 : Int) := by rw [← Int.natCast_add, hk0]; exact IntWalk.i64_in _ (by omega)
          rw [hk0] at hk1 HI1
          have hk3 : wd ≤ k0 ∧ 1 ≤ k0 := by omega
          replace row : RowI wr w.heap.size (N * 4) (fun j => if j < k0 * 4 + 0 then S j else O j) := by rw [hk0] at row; exact row
          go_wp2_with fail
          clear e8 e9
          go_loopw [35] (fun i wr => ∃ c : Nat, c ≤ 4 ∧ i = .int .i64 c ∧ RowI wr w.heap.size (N * 4) (fun j => if j < k0 * 4 + c then S j else O j) ∧ RowI wr g (N * 4) O ∧ Below w.heap.size w wr) (fun i _ => 4 - (intOf i).toNat)
          case atStart => exact ⟨0, Nat.zero_le _, rfl, row, rowO, hb⟩
          case round =>
            clear row rowO hb
            obtain ⟨c, hc, rfl, row, rowO, hb⟩ := hrel
            by_cases hcl : c < 4
            · have hS := HI1.out c hcl
              obtain ⟨ka, hka⟩ : ∃ ka, k0 - 1 = ka := ⟨_, rfl⟩
              obtain ⟨kb, hkb⟩ : ∃ kb, k0 + 1 = kb := ⟨_, rfl⟩
              obtain ⟨kc, hkc⟩ : ∃ kc, k0 - wd = kc := ⟨_, rfl⟩
              obtain ⟨kd, hkd⟩ : ∃ kd, k0 + wd = kd := ⟨_, rfl⟩
              rw [hka, hkb, hkc, hkd] at hS
              have R1 := Lib.hid (fun w (h : RowI w g (N * 4) O) => h.c (ka * 4 + c) (by omega))
              have R2 := Lib.hid (fun w (h : RowI w g (N * 4) O) => h.c (kb * 4 + c) (by omega))
              have R3 := Lib.hid (fun w (h : RowI w g (N * 4) O) => h.c (kc * 4 + c) (by omega))
              have R4 := Lib.hid (fun w (h : RowI w g (N * 4) O) => h.c (kd * 4 + c) (by omega))
              have b1 := HO.out (ka * 4 + c)
              have b2 := HO.out (kb * 4 + c)
              have b3 := HO.out (kc * 4 + c)
              have b4 := HO.out (kd * 4 + c)
              have DV := Lib.hid (fun w => div_any (O (ka * 4 + c) + O (kb * 4 + c) + O (kc * 4 + c) + O (kd * 4 + c)) 4 w (by omega) (by omega) (by omega) (by omega))
              rw [← hS] at DV
              have RC := Lib.hid (fun w' (h : RowI w' w.heap.size (N * 4) (fun j => if j < k0 * 4 + c then S j else O j)) => h.c (k0 * 4 + c) (by omega))
              simp only [Nat.lt_irrefl, if_false] at RC
              have ST := Lib.hid (fun w' (h : RowI w' w.heap.size (N * 4) (fun j => if j < k0 * 4 + c then S j else O j)) => h.step (r := S) (p := O) (k := k0 * 4 + c) (by omega))
              clear hS HI1
              generalize S (k0 * 4 + c) = sv at *
              generalize O (ka * 4 + c) = v1 at *
              generalize O (kb * 4 + c) = v2 at *
              generalize O (kc * 4 + c) = v3 at *
              generalize O (kd * 4 + c) = v4 at *
              generalize O (k0 * 4 + c) = v0 at *
              have s1 : IntKind.i64.wrap (v1 + v2) = v1 + v2 := IntWalk.i64_in _ (by omega)
              have s2 : IntKind.i64.wrap (v1 + v2 + v3) = v1 + v2 + v3 := IntWalk.i64_in _ (by omega)
              have s3 : IntKind.i64.wrap (v1 + v2 + v3 + v4) = v1 + v2 + v3 + v4 := IntWalk.i64_in _ (by omega)
              have e1 : IntKind.i64.wrap ((k0 : Int) - 1) = (ka : Int) := by rw [show (k0 : Int) - 1 = (ka : Int) by omega]; exact IntWalk.i64_in _ (by omega)
              have e2 : IntKind.i64.wrap ((k0 : Int) + 1) = (kb : Int) := by rw [show (k0 : Int) + 1 = (kb : Int) by omega]; exact IntWalk.i64_in _ (by omega)
              have e3 : IntKind.i64.wrap ((k0 : Int) - (wd : Int)) = (kc : Int) := by rw [show (k0 : Int) - (wd : Int) = (kc : Int) by omega]; exact IntWalk.i64_in _ (by omega)
              have e4 : IntKind.i64.wrap ((k0 : Int) + (wd : Int)) = (kd : Int) := by rw [show (k0 : Int) + (wd : Int) = (kd : Int) by omega]; exact IntWalk.i64_in _ (by omega)
              have i1 : (0 : Int) ≤ (c : Int) := by omega
              have i2 : (c : Int) < 4 := by omega
              have j1 : (0 : Int) ≤ (k0 : Int) := by omega
              have j2 : (k0 : Int) < (N : Int) := by omega
              have a1 : (0 : Int) ≤ (ka : Int) := by omega
              have a2 : (ka : Int) < (N : Int) := by omega
              have a3 : (0 : Int) ≤ (kb : Int) := by omega
              have a4 : (kb : Int) < (N : Int) := by omega
              have a5 : (0 : Int) ≤ (kc : Int) := by omega
              have a6 : (kc : Int) < (N : Int) := by omega
              have a7 : (0 : Int) ≤ (kd : Int) := by omega
              have a8 : (kd : Int) < (N : Int) := by omega
              clear hka hkb hkc hkd
              go_upto_region 13 with (fail)
              refine wp_region_grow 39 (fun w' => Below (World.heap wr).size wr w') (by kernel_rfl) (by kernel_rfl) (Below.refl _ _).drew ?_
              simp only [List.take_succ_cons, List.take_zero, List.drop_succ_cons, List.drop_zero]
              repeat (first | (apply wpG_on; rfl; (intro w' hS K hK; have hc0 := (row.kept hS).lt; have hc1 := (rowO.kept hS).lt; have hr0 := RC.out _ (row.kept hS); have hr1 := R1.out _ (rowO.kept hS); have hr2 := R2.out _ (rowO.kept hS); have hr3 := R3.out _ (rowO.kept hS); have hr4 := R4.out _ (rowO.kept hS); go_simp; (first | exact hK.out _ hS | (go_at_call 16; (with_reducible refine (DV.out _).mono ?_); rintro e w'' ⟨rfl, rfl⟩; exact ⟨_, rfl, hK.out _ hS⟩))); simp only [Act.put, List.setIfInBounds_toArray, List.set_cons_succ, List.set_cons_zero]) | (apply wpG_off; rfl; simp only [Act.put, List.setIfInBounds_toArray, List.set_cons_succ, List.set_cons_zero]))
              apply wpG_nil
              intro W12 hS
              replace row := row.kept hS
              replace rowO := rowO.kept hS
              replace hb := hb.trans (hS.mono hb.size)
              clear hS
              have cr := RC.out _ row
              go_wp2_with fail
              go_roundw
              case rel => exact ⟨c + 1, by omega, by go_num, ST.out _ row, rowO.other (p := ⟨w.heap.size, k0 * 4 + c, none⟩) (by show g ≠ w.heap.size; omega) _, hb.setCell (p := ⟨w.heap.size, k0 * 4 + c, none⟩) (Nat.le_refl _) _⟩
              case measure => simp only [intOf]; omega
            · obtain rfl : c = 4 := by omega
              go_wp2_with fail
              go_roundw
              case rel => exact ⟨x + 1, by omega, by go_num, by omega, (by rw [show (yk + (x + 1)) * 4 = k0 * 4 + 4 by omega]; exact row), rowO, hb⟩
              case measure => simp only [intOf]; omega
        · have d2 : ¬ (x : Int) < (wd : Int) - 1 := by omega
          go_wp2_with fail
          go_roundw
          case rel => exact ⟨y + 1, yk + wd, by omega, (by show _ = _; rw [Nat.add_mul, Nat.one_mul, hyk.out]), by go_num, by omega, row.jump (k' := (yk + wd + 1) * 4) (by omega) (fun j h1 h2 _ => HR.out y x j hx2 hx1 hxl (by rw [← hyk.out]; exact h1) (by rw [← hyk.out]; exact h2)), rowO, hb⟩
          case measure => simp only [intOf]; omega
    · have d1 : ¬ (y : Int) < (ht : Int) - 1 := by omega
      go_wp2_with fail
      go_ret
      exact ⟨w.heap.size, rfl, Nat.le_refl _, row.congr (fun j hj => by
        by_cases h : j < (yk + 1) * 4
        · rw [if_pos h]
        · rw [if_neg h, HE.out y j (by omega) (by rw [← hyk.out]; omega) hj]), hb⟩
end Go.Proofs.YtieacbccadbdbaaDoor

