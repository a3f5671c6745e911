/- The walks of the reference of package pixel, continued: Dist, the digits, Print. -/
import Derived.Test.YtmkieeaikhndcaaPixRef
import Derived.Test.YtmkieeaikhndcaaPixText
namespace Go.Proofs.Ytmkieeaikhndcaa
open Go.RowKit
set_option linter.unusedVariables false
attribute [local go_sem] Oper.gAt gUponK

set_option maxHeartbeats 1000000 in
theorem refDist_any (r g b a r' g' b' a' : Int) (w : World) :
    Calls Try.prog 27 #[pv r g b a, pv r' g' b' a'] w fun e w' => e = .returned (.int .i64 (max (max (max (ap (cl r) (cl r')) (ap (cl g) (cl g'))) (ap (cl b) (cl b'))) (ap (cl a) (cl a')))) ∧ Below w.heap.size w w' := by
  have h0 := ap_bd _ _ (cl_bd r) (cl_bd r')
  have h1 := ap_bd _ _ (cl_bd g) (cl_bd g')
  have h2 := ap_bd _ _ (cl_bd b) (cl_bd b')
  have h3 := ap_bd _ _ (cl_bd a) (cl_bd a')
  go_enter Try.func27, Try.ntmps27
  go_wp2
  refine name2 (fun W k1 k2 hb => ?_)
  refine wp_region_grow 4 (fun w' => Below (World.heap W).size W w') (by kernel_rfl) (by kernel_rfl) (Below.refl _ _).drew ?_
  simp only [List.take_succ_cons, List.take_zero, List.drop_succ_cons, List.drop_zero]
  repeat (first | (apply wpG_on; rfl; (intro w' hS K hK; have hc0 := (k1.kept hS).c4; have hc1 := (k2.kept hS).c4; go_simp; (first | exact hK.out _ hS | (go_at_call 14; (with_reducible refine (refLimit_any _ _ _ _ _).mono ?_); rintro e w'' ⟨rfl, hbb⟩; exact ⟨_, rfl, hK.out _ (hS.trans (hbb.mono hS.size))⟩))); simp only [Act.put, List.setIfInBounds_toArray, List.set_cons_succ, List.set_cons_zero]) | (apply wpG_off; rfl; simp only [Act.put, List.setIfInBounds_toArray, List.set_cons_succ, List.set_cons_zero]))
  apply wpG_nil
  intro W1 hS
  replace k1 := k1.kept hS
  replace k2 := k2.kept hS
  replace hb := hb.trans (hS.mono hb.size)
  clear hS
  have c1 := k1.c4
  have c2 := k2.c4
  go_wp2
  clear c1 c2
  refine mid44 hb k1 k2 (by omega) (by omega) (by omega) (fun W2 k1' k2' kk hb => ?_)
  clear kk k1 k2
  refine wp_region_grow 20 (fun w' => Below (World.heap W2).size W2 w') (by kernel_rfl) (by kernel_rfl) (Below.refl _ _).drew ?_
  simp only [List.take_succ_cons, List.take_zero, List.drop_succ_cons, List.drop_zero]
  repeat (first | (apply wpG_on; rfl; (intro w' hS K hK; have hc0 := (k1'.kept hS).c4; have hc1 := (k2'.kept hS).c4; go_simp; (first | exact hK.out _ hS | (go_at_call 46; (with_reducible refine (refGap_any _ _ _ (cl_bd _) (cl_bd _)).mono ?_); rintro e w'' ⟨rfl, rfl⟩; exact ⟨_, rfl, hK.out _ hS⟩))); simp only [Act.put, List.setIfInBounds_toArray, List.set_cons_succ, List.set_cons_zero]) | (apply wpG_off; rfl; simp only [Act.put, List.setIfInBounds_toArray, List.set_cons_succ, List.set_cons_zero]))
  apply wpG_nil
  intro W3 hS
  replace k1' := k1'.kept hS
  replace k2' := k2'.kept hS
  replace hb := hb.trans (hS.mono hb.size)
  clear hS
  clear k1' k2'
  generalize hx0 : ap (cl r) (cl r') = x0 at *
  generalize hx1 : ap (cl g) (cl g') = x1 at *
  generalize hx2 : ap (cl b) (cl b') = x2 at *
  generalize hx3 : ap (cl a) (cl a') = x3 at *
  have H0 := Lib.hid hx0
  have H1 := Lib.hid hx1
  have H2 := Lib.hid hx2
  have H3 := Lib.hid hx3
  clear hx0 hx1 hx2 hx3
  go_wp2
  refine name1 (fun W4 k4 hS => ?_)
  replace hb := hb.trans (hS.mono hb.size)
  have c4 := k4.c4
  clear hS k4
  generalize (World.heap W3).size = N at *
  go_loop [6, 35] (fun n i => ∃ (k : Nat) (m : Int), k ≤ 4 ∧ i = .int .i64 k ∧ n = .int .i64 m ∧ m = (if k = 0 then 0 else if k = 1 then x0 else if k = 2 then max x0 x1 else if k = 3 then max (max x0 x1) x2 else max (max (max x0 x1) x2) x3)) (fun _ i => 4 - (intOf i).toNat)
  case atStart => exact ⟨0, 0, by omega, rfl, rfl, rfl⟩
  case round =>
    obtain ⟨k, m, hk, rfl, rfl, hm⟩ := hrel
    obtain rfl | rfl | rfl | rfl | rfl : k = 0 ∨ k = 1 ∨ k = 2 ∨ k = 3 ∨ k = 4 := by omega
    · simp at hm
      have HM := Lib.hid hm
      clear hm
      simp only [Int.cast_ofNat_Int]
      go_wp2
      all_goals refine ⟨⟨1, _, by omega, rfl, rfl, ?_⟩, by simp [intOf]⟩
      all_goals have hm := HM.out
      all_goals simp
      all_goals omega
    · simp at hm
      have HM := Lib.hid hm
      clear hm
      simp only [Int.cast_ofNat_Int]
      go_wp2
      all_goals refine ⟨⟨2, _, by omega, rfl, rfl, ?_⟩, by simp [intOf]⟩
      all_goals have hm := HM.out
      all_goals simp
      all_goals omega
    · simp at hm
      have HM := Lib.hid hm
      clear hm
      simp only [Int.cast_ofNat_Int]
      go_wp2
      all_goals refine ⟨⟨3, _, by omega, rfl, rfl, ?_⟩, by simp [intOf]⟩
      all_goals have hm := HM.out
      all_goals simp
      all_goals omega
    · simp at hm
      have HM := Lib.hid hm
      clear hm
      simp only [Int.cast_ofNat_Int]
      go_wp2
      all_goals refine ⟨⟨4, _, by omega, rfl, rfl, ?_⟩, by simp [intOf]⟩
      all_goals have hm := HM.out
      all_goals simp
      all_goals omega
    · simp at hm
      have HM := Lib.hid hm
      clear hm
      simp only [Int.cast_ofNat_Int]
      go_wp2
      go_ret
      exact ⟨ret_int (by rw [HM.out, H0.out, H1.out, H2.out, H3.out]), hb⟩

theorem hexCut (m : Int) (h0 : 0 ≤ m) (h1 : m < 16) : (⟨#[48, 49, 50, 51, 52, 53, 54, 55, 56, 57, 97, 98, 99, 100, 101, 102]⟩ : ByteArray).extract m.toNat (m + 1).toNat = ⟨#[hx m]⟩ := by
  have h : m = 0 ∨ m = 1 ∨ m = 2 ∨ m = 3 ∨ m = 4 ∨ m = 5 ∨ m = 6 ∨ m = 7 ∨ m = 8 ∨ m = 9 ∨ m = 10 ∨ m = 11 ∨ m = 12 ∨ m = 13 ∨ m = 14 ∨ m = 15 := by omega
  rcases h with rfl | rfl | rfl | rfl | rfl | rfl | rfl | rfl | rfl | rfl | rfl | rfl | rfl | rfl | rfl | rfl <;> decide +kernel
theorem ret_str {a b : ByteArray} (h : a = b) : Ending.returned (.string a) = .returned (.string b) := by rw [h]

set_option maxHeartbeats 400000 in
theorem refDigits_any (n : Int) (w : World) (h0 : 0 ≤ n) (h1 : n ≤ 255) :
    Calls Try.prog 51 #[.int .i64 n] w fun e w' => e = .returned (.string ⟨(hx2 n).toArray⟩) ∧ Below w.heap.size w w' := by
  go_enter Try.func51, Try.ntmps51
  go_wp2
  have e1 : IntKind.i64.wrap (n.tdiv 16) = n / 16 := by rw [Int.tdiv_eq_ediv_of_nonneg h0]; exact IntWalk.i64_in _ (by omega)
  have e2 : n.tmod 16 = n % 16 := Int.tmod_eq_emod_of_nonneg h0
  have e3 : IntKind.i64.wrap (n / 16 + 1) = n / 16 + 1 := IntWalk.i64_in _ (by omega)
  have e4 : IntKind.i64.wrap (n % 16 + 1) = n % 16 + 1 := IntWalk.i64_in _ (by omega)
  go_quiet (fail)
  clear e1 e2 e3 e4
  go_wp2
  go_ret
  exact ⟨ret_str (by rw [hexCut _ (by omega) (by omega), hexCut _ (by omega) (by omega)]; rfl), belowN (Below.refl _ _) nq⟩

set_option maxHeartbeats 1000000 in
theorem refPrint_any (r g b a : Int) (w : World) :
    Calls Try.prog 35 #[pv r g b a] w fun e w' => e = .returned (.string ⟨(prt r g b a).toArray⟩) ∧ Below w.heap.size w w' := by
  have h0 := dv_bd8 r
  have h1 := dv_bd8 g
  have h2 := dv_bd8 b
  have h3 := dv_bd8 a
  have D0 := Lib.hid (fun w => refDigits_any (dv (cl r) 257) w h0.1 h0.2)
  have D1 := Lib.hid (fun w => refDigits_any (dv (cl g) 257) w h1.1 h1.2)
  have D2 := Lib.hid (fun w => refDigits_any (dv (cl b) 257) w h2.1 h2.2)
  have D3 := Lib.hid (fun w => refDigits_any (dv (cl a) 257) w h3.1 h3.2)
  clear h0 h1 h2 h3
  go_enter Try.func35, Try.ntmps35
  go_wp2
  refine name1 (fun W k1 hb => ?_)
  refine wp_region_grow 20 (fun w' => Below (World.heap W).size W w') (by kernel_rfl) (by kernel_rfl) (Below.refl _ _).drew ?_
  simp only [List.take_succ_cons, List.take_zero, List.drop_succ_cons, List.drop_zero]
  repeat (first | (apply wpG_on; rfl; (intro w' hS K hK; have hc0 := (k1.kept hS).c4; go_simp; (first | exact hK.out _ hS | (go_at_call 31; (with_reducible refine (refTo8_any _ _).mono ?_); rintro e w'' ⟨rfl, hbb⟩; exact ⟨_, rfl, hK.out _ (hS.trans (hbb.mono hS.size))⟩) | (go_at_call 51; (with_reducible refine (D0.out _).mono ?_); rintro e w'' ⟨rfl, hbb⟩; exact ⟨_, rfl, hK.out _ (hS.trans (hbb.mono hS.size))⟩) | (go_at_call 51; (with_reducible refine (D1.out _).mono ?_); rintro e w'' ⟨rfl, hbb⟩; exact ⟨_, rfl, hK.out _ (hS.trans (hbb.mono hS.size))⟩) | (go_at_call 51; (with_reducible refine (D2.out _).mono ?_); rintro e w'' ⟨rfl, hbb⟩; exact ⟨_, rfl, hK.out _ (hS.trans (hbb.mono hS.size))⟩) | (go_at_call 51; (with_reducible refine (D3.out _).mono ?_); rintro e w'' ⟨rfl, hbb⟩; exact ⟨_, rfl, hK.out _ (hS.trans (hbb.mono hS.size))⟩))); simp only [Act.put, List.setIfInBounds_toArray, List.set_cons_succ, List.set_cons_zero]) | (apply wpG_off; rfl; simp only [Act.put, List.setIfInBounds_toArray, List.set_cons_succ, List.set_cons_zero]))
  apply wpG_nil
  intro W1 hS
  replace k1 := k1.kept hS
  replace hb := hb.trans (hS.mono hb.size)
  clear hS
  clear D0 D1 D2 D3
  go_wp2
  go_ret
  refine ⟨ret_str (ByteArray.ext ?_), hb⟩
  simp [prt, hx2]

set_option maxHeartbeats 400000 in
theorem refDigit_any (c : Int) (w : World) (h0 : 0 ≤ c) (h1 : c ≤ 255) :
    Calls Try.prog 50 #[.int .u8 c] w fun e w' => e = .returned (.int .i64 (dg c)) ∧ w = w' := by
  have H : (48 ≤ c ∧ c ≤ 57 ∧ dg c = c - 48) ∨ (65 ≤ c ∧ c ≤ 70 ∧ dg c = c - 55) ∨ (97 ≤ c ∧ c ≤ 102 ∧ dg c = c - 87) ∨ (c < 48 ∧ dg c = -1) ∨ (57 < c ∧ c < 65 ∧ dg c = -1) ∨ (70 < c ∧ c < 97 ∧ dg c = -1) ∨ (102 < c ∧ dg c = -1) := by
    unfold dg
    repeat' split
    all_goals omega
  rcases H with ⟨a1, a2, e⟩ | ⟨a1, a2, e⟩ | ⟨a1, a2, e⟩ | ⟨a1, e⟩ | ⟨a1, a2, e⟩ | ⟨a1, a2, e⟩ | ⟨a1, e⟩
  · have E := Lib.hid e
    clear e
    go_enter Try.func50, Try.ntmps50
    go_wp2
    go_ret
    exact ⟨ret_int (by rw [E.out]), rfl⟩
  · have E := Lib.hid e
    clear e
    go_enter Try.func50, Try.ntmps50
    go_wp2
    go_ret
    exact ⟨ret_int (by rw [E.out]; omega), rfl⟩
  · have E := Lib.hid e
    clear e
    go_enter Try.func50, Try.ntmps50
    go_wp2
    go_ret
    exact ⟨ret_int (by rw [E.out]; omega), rfl⟩
  · have E := Lib.hid e
    clear e
    go_enter Try.func50, Try.ntmps50
    go_wp2
    go_ret
    exact ⟨ret_int (by rw [E.out]), rfl⟩
  · have E := Lib.hid e
    clear e
    go_enter Try.func50, Try.ntmps50
    go_wp2
    go_ret
    exact ⟨ret_int (by rw [E.out]), rfl⟩
  · have E := Lib.hid e
    clear e
    go_enter Try.func50, Try.ntmps50
    go_wp2
    go_ret
    exact ⟨ret_int (by rw [E.out]), rfl⟩
  · have E := Lib.hid e
    clear e
    go_enter Try.func50, Try.ntmps50
    go_wp2
    go_ret
    exact ⟨ret_int (by rw [E.out]), rfl⟩
end Go.Proofs.Ytmkieeaikhndcaa
