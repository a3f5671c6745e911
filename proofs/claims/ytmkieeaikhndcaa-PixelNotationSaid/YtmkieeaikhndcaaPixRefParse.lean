/- The walk of the reference of pixel.Parse (printed by genparse.py). -/
import Derived.Test.YtmkieeaikhndcaaPixRef2
import Derived.Test.YtmkieeaikhndcaaPixParse
namespace Go.Proofs.Ytmkieeaikhndcaa
open Go.RowKit
set_option linter.unusedVariables false
attribute [local go_sem] Oper.gAt gUponK

set_option maxHeartbeats 1000000 in
theorem refParse_size (s : ByteArray) (w : World) (hn : s.size ≤ 9223372036854775807) (h4 : s.size ≠ 4) (h7 : s.size ≠ 7) (h9 : s.size ≠ 9) :
    Calls Try.prog 33 #[.string s] w fun e w' => e = .returned (.tuple #[pv 0 0 0 0, .int .i64 4]) ∧ Below w.heap.size w w' := by
  go_enter Try.func33, Try.ntmps33
  go_wp2
  refine bodyPost_ret (v := .tuple #[pv 0 0 0 0, .int .i64 4]) (by simp [results, Try.results33, go_sem]) rfl ⟨rfl, ?_⟩
  exact (Below.refl _ _).alloc (Nat.le_refl _) _

set_option maxHeartbeats 400000 in
theorem refParse_head4 (s : ByteArray) (w : World) (hn : s.size = 4) (h0 : s[0].toNat ≠ 35) :
    Calls Try.prog 33 #[.string s] w fun e w' => e = .returned (.tuple #[pv 0 0 0 0, .int .i64 4]) ∧ Below w.heap.size w w' := by
  have z4 : (((s.size : Nat) : Int) != 4) = false := by rw [hn]; decide
  have z0 : (((s[0].toNat : Nat) : Int) != 35) = true := by simp; omega
  go_enter Try.func33, Try.ntmps33
  go_wp2
  refine bodyPost_ret (v := .tuple #[pv 0 0 0 0, .int .i64 4]) (by simp [results, Try.results33, go_sem]) rfl ⟨rfl, ?_⟩
  exact (Below.refl _ _).alloc (Nat.le_refl _) _

set_option maxHeartbeats 400000 in
theorem refParse_head7 (s : ByteArray) (w : World) (hn : s.size = 7) (h0 : s[0].toNat ≠ 35) :
    Calls Try.prog 33 #[.string s] w fun e w' => e = .returned (.tuple #[pv 0 0 0 0, .int .i64 4]) ∧ Below w.heap.size w w' := by
  have z4 : (((s.size : Nat) : Int) != 4) = true := by rw [hn]; decide
  have z7 : (((s.size : Nat) : Int) != 7) = false := by rw [hn]; decide
  have z0 : (((s[0].toNat : Nat) : Int) != 35) = true := by simp; omega
  go_enter Try.func33, Try.ntmps33
  go_wp2
  refine bodyPost_ret (v := .tuple #[pv 0 0 0 0, .int .i64 4]) (by simp [results, Try.results33, go_sem]) rfl ⟨rfl, ?_⟩
  exact (Below.refl _ _).alloc (Nat.le_refl _) _

set_option maxHeartbeats 400000 in
theorem refParse_head9 (s : ByteArray) (w : World) (hn : s.size = 9) (h0 : s[0].toNat ≠ 35) :
    Calls Try.prog 33 #[.string s] w fun e w' => e = .returned (.tuple #[pv 0 0 0 0, .int .i64 4]) ∧ Below w.heap.size w w' := by
  have z4 : (((s.size : Nat) : Int) != 4) = true := by rw [hn]; decide
  have z7 : (((s.size : Nat) : Int) != 7) = true := by rw [hn]; decide
  have z9 : (((s.size : Nat) : Int) != 9) = false := by rw [hn]; decide
  have z0 : (((s[0].toNat : Nat) : Int) != 35) = true := by simp; omega
  go_enter Try.func33, Try.ntmps33
  go_wp2
  refine bodyPost_ret (v := .tuple #[pv 0 0 0 0, .int .i64 4]) (by simp [results, Try.results33, go_sem]) rfl ⟨rfl, ?_⟩
  exact (Below.refl _ _).alloc (Nat.le_refl _) _

set_option maxHeartbeats 2000000 in
theorem refParse_yes4 (s : ByteArray) (w : World) (hn : s.size = 4) (h0 : s[0].toNat = 35) (hd : ∀ j (hj : j + 1 < s.size), 0 ≤ dg s[j + 1].toNat) :
    Calls Try.prog 33 #[.string s] w fun e w' => e = .returned (.tuple #[pD (dgs true ((s.data.toList.drop 1).take 3) ++ [15, 15]), .int .i64 0]) ∧ Below w.heap.size w w' := by
  have z4 : (((s.size : Nat) : Int) != 4) = false := by rw [hn]; decide
  have z0 : (((s[0].toNat : Nat) : Int) != 35) = false := by rw [h0]; decide
  go_enter Try.func33, Try.ntmps33
  go_wp2
  refine name1 (fun W k10 hb0 => ?_)
  have own0 : W.ownsRow (w.heap.size + 1) 3 1 (.slice none 0 0) 0 (iv []) := ⟨rfl, .inl ⟨rfl, rfl⟩⟩
  go_loopw [4, 5] (fun v i wr => ∃ k : Nat, k ≤ 3 ∧ i = .int .i64 ((k : Int) + 1) ∧ wr.ownsRow (w.heap.size + 1) 3 1 v (dgs true ((s.data.toList.drop 1).take k)).length (iv (dgs true ((s.data.toList.drop 1).take k))) ∧ Blk wr w.heap.size (.cells #[.int .i64 0, .int .i64 0, .int .i64 0, .int .i64 0] 23 (0, 0)) ∧ Below w.heap.size w wr) (fun _ i _ => 4 - (intOf i).toNat)
  case atStart => exact ⟨0, by omega, rfl, own0, k10, hb0⟩
  case round =>
    obtain ⟨k, hk, rfl, hown, k1, hb⟩ := hrel
    rename_i wr
    clear own0 k10 hb0
    by_cases hlt : k < 3
    · have hk1 := hd k (by omega)
      clear hd
      have HL := Lib.hid (dgs_step true s k (by omega))
      have hdl := dgs_length true ((s.data.toList.drop 1).take k)
      have hdl2 : ((s.data.toList.drop 1).take k).length ≤ 3 := by simp; omega
      have hlen : (dgs true ((s.data.toList.drop 1).take k)).length ≤ 6 := by rw [hdl]; simp; omega
      clear hdl hdl2
      generalize dgs true ((s.data.toList.drop 1).take k) = L at *
      have hbz := hb.size
      have hdb := (dg_bd s[k + 1].toNat).2
      go_wp2_with fail
      refine (refDigit_any _ _ (by omega) (by have := s[k + 1].toNat_lt; omega)).mono ?_
      rintro e w' ⟨rfl, rfl⟩
      generalize hdd : dg s[k + 1].toNat = d at *
      have HD1 := Lib.hid hdd
      clear hdd
      obtain ⟨i0ca, hica, hz0ca, hz1ca, hz2ca⟩ := info_parts infoInt
      go_wp2_with (at_builtin; refine wpList_append_own _ rfl _ _ 43 rfl (w.heap.size + 1) 3 i0ca (.int .i64 0) 1 8 Try.underlying43 hica hz0ca hz1ca hz2ca rfl (by decide) _ _ _ rfl (hown.alloc _) ⟨World.heap wr |>.size, 0, none⟩ 1 1 [.int .i64 d] rfl rfl ?ca1 ?ca2 ?ca3 ?ca4 ?ca5 ?_)
      case ca1 => exact cell_one_new _ _ _
      case ca2 => simp [Value.oneCell']
      case ca3 => unfold maxLen; omega
      case ca4 => omega
      case ca5 => simp; omega
      intro vca wca ownca growca _
      have kca := (k1.alloc (.cells #[.int .i64 d] 3)).grown growca (fun h => by have := (hown.lt _ h).1; omega)
      have bca := (hb.alloc (by omega) (.cells #[.int .i64 d] 3)).grown growca (by simp; omega) (fun k hk => by have := (hown.lt k hk).1; omega)
      have zca := bca.size
      clear k1 hown growca hb
      obtain ⟨i0cb, hicb, hz0cb, hz1cb, hz2cb⟩ := info_parts infoInt
      go_wp2_with (at_builtin; refine wpList_append_own _ rfl _ _ 43 rfl (w.heap.size + 1) 3 i0cb (.int .i64 0) 1 8 Try.underlying43 hicb hz0cb hz1cb hz2cb rfl (by decide) _ _ _ rfl (ownca.alloc _) ⟨World.heap wca |>.size, 0, none⟩ 1 1 [.int .i64 d] rfl rfl ?cb1 ?cb2 ?cb3 ?cb4 ?cb5 ?_)
      case cb1 => exact cell_one_new _ _ _
      case cb2 => simp [Value.oneCell']
      case cb3 => unfold maxLen; omega
      case cb4 => omega
      case cb5 => simp; omega
      intro vcb wcb owncb growcb _
      have kcb := (kca.alloc (.cells #[.int .i64 d] 3)).grown growcb (fun h => by have := (ownca.lt _ h).1; omega)
      have bcb := (bca.alloc (by omega) (.cells #[.int .i64 d] 3)).grown growcb (by simp; omega) (fun k hk => by have := (ownca.lt k hk).1; omega)
      have zcb := bcb.size
      clear kca ownca growcb bca
      go_wp2
      refine ⟨⟨k + 1, by omega, by go_num, ?_, kcb, bcb⟩, by simp [intOf]; omega⟩
      rw [HL.out]
      simpa [iv] using owncb
    · obtain rfl : k = 3 := by omega
      clear hd
      have hdl := dgs_length true ((s.data.toList.drop 1).take 3)
      have hdl2 : ((s.data.toList.drop 1).take 3).length = 3 := by simp; have : s.size = s.data.size := rfl; omega
      rw [hdl2] at hdl
      have hdl3 : (dgs true ((s.data.toList.drop 1).take 3)).length = 6 := by rw [hdl]; rfl
      clear hdl hdl2
      generalize hLL : dgs true ((s.data.toList.drop 1).take 3) = L at hown hdl3
      rw [hdl3] at hown
      have HL := Lib.hid hLL
      have HD := Lib.hid hdl3
      clear hLL hdl3
      have hbz := hb.size
      obtain ⟨gg, cap, hv, _⟩ := ownsForm (n := 6) hown (by omega)
      subst hv
      obtain ⟨i0da, hida, hz0da, hz1da, hz2da⟩ := info_parts infoInt
      go_wp2_with (at_builtin; refine wpList_append_own _ rfl _ _ 43 rfl (w.heap.size + 1) 3 i0da (.int .i64 0) 1 8 Try.underlying43 hida hz0da hz1da hz2da rfl (by decide) _ _ _ rfl (hown.alloc _) ⟨World.heap wr |>.size, 0, none⟩ 2 2 [.int .i64 15, .int .i64 15] rfl rfl ?da1 ?da2 ?da3 ?da4 ?da5 ?_)
      case da1 => exact World.news_of_block (cs := #[.int .i64 15, .int .i64 15]) (t := 3) (fr := (0, 0)) (heap_alloc_new wr _)
      case da2 => simp [Value.oneCell']
      case da3 => unfold maxLen; omega
      case da4 => omega
      case da5 => simp; omega
      intro vda wda ownda growda _
      have kda := (k1.alloc (.cells #[.int .i64 15, .int .i64 15] 3)).grown growda (fun h => by have := (hown.lt _ h).1; omega)
      have bda := (hb.alloc (by omega) (.cells #[.int .i64 15, .int .i64 15] 3)).grown growda (by simp; omega) (fun k hk => by have := (hown.lt k hk).1; omega)
      have zda := bda.size
      clear k1 hown growda hb
      have own2 : wda.ownsRow (w.heap.size + 1) 3 1 vda 8 (iv (L ++ [15, 15])) := by simpa [iv] using ownda
      clear ownda
      obtain ⟨g2, cap2, hv, hg2, cur, kc, hcur⟩ := ownsInts own2 (by omega) (by simp [HD.out])
      subst hv
      clear own2
      have hb := bda
      clear bda
      generalize hDD : L ++ [15, 15] = D at hcur
      have hD : ∀ j, -1 ≤ D.getD j 0 ∧ D.getD j 0 ≤ 15 := fun j => by rw [← hDD, ← HL.out]; exact pad_bd _ (dgs_bd _ _) j
      have HDD := Lib.hid hDD
      clear hDD
      have hx0 := hD 0
      have hc0 := hcur 0 (by omega)
      generalize hxx0 : D.getD 0 0 = x0 at hx0 hc0
      have HX0 := Lib.hid hxx0
      have HC0 := Lib.hid hc0
      clear hxx0 hc0
      have hx1 := hD 1
      have hc1 := hcur 1 (by omega)
      generalize hxx1 : D.getD 1 0 = x1 at hx1 hc1
      have HX1 := Lib.hid hxx1
      have HC1 := Lib.hid hc1
      clear hxx1 hc1
      have hx2 := hD 2
      have hc2 := hcur 2 (by omega)
      generalize hxx2 : D.getD 2 0 = x2 at hx2 hc2
      have HX2 := Lib.hid hxx2
      have HC2 := Lib.hid hc2
      clear hxx2 hc2
      have hx3 := hD 3
      have hc3 := hcur 3 (by omega)
      generalize hxx3 : D.getD 3 0 = x3 at hx3 hc3
      have HX3 := Lib.hid hxx3
      have HC3 := Lib.hid hc3
      clear hxx3 hc3
      have hx4 := hD 4
      have hc4 := hcur 4 (by omega)
      generalize hxx4 : D.getD 4 0 = x4 at hx4 hc4
      have HX4 := Lib.hid hxx4
      have HC4 := Lib.hid hc4
      clear hxx4 hc4
      have hx5 := hD 5
      have hc5 := hcur 5 (by omega)
      generalize hxx5 : D.getD 5 0 = x5 at hx5 hc5
      have HX5 := Lib.hid hxx5
      have HC5 := Lib.hid hc5
      clear hxx5 hc5
      have hx6 := hD 6
      have hc6 := hcur 6 (by omega)
      generalize hxx6 : D.getD 6 0 = x6 at hx6 hc6
      have HX6 := Lib.hid hxx6
      have HC6 := Lib.hid hc6
      clear hxx6 hc6
      have hx7 := hD 7
      have hc7 := hcur 7 (by omega)
      generalize hxx7 : D.getD 7 0 = x7 at hx7 hc7
      have HX7 := Lib.hid hxx7
      have HC7 := Lib.hid hc7
      clear hxx7 hc7
      clear hcur hD
      go_wp2_with fail
      have e0 : IntKind.i64.wrap (16 * x0) = 16 * x0 := IntWalk.i64_in _ (by omega)
      have f0 : IntKind.i64.wrap (16 * x0 + x1) = 16 * x0 + x1 := IntWalk.i64_in _ (by omega)
      have e1 : IntKind.i64.wrap (16 * x2) = 16 * x2 := IntWalk.i64_in _ (by omega)
      have f1 : IntKind.i64.wrap (16 * x2 + x3) = 16 * x2 + x3 := IntWalk.i64_in _ (by omega)
      have e2 : IntKind.i64.wrap (16 * x4) = 16 * x4 := IntWalk.i64_in _ (by omega)
      have f2 : IntKind.i64.wrap (16 * x4 + x5) = 16 * x4 + x5 := IntWalk.i64_in _ (by omega)
      have e3 : IntKind.i64.wrap (16 * x6) = 16 * x6 := IntWalk.i64_in _ (by omega)
      have f3 : IntKind.i64.wrap (16 * x6 + x7) = 16 * x6 + x7 := IntWalk.i64_in _ (by omega)
      refine wp_region_grow 37 (fun w' => Below (World.heap wda).size wda w') (by kernel_rfl) (by kernel_rfl) (Below.refl _ _).drew ?_
      simp only [List.take_succ_cons, List.take_zero, List.drop_succ_cons, List.drop_zero]
      repeat (first | (apply wpG_on; rfl; (intro w' hS K hK; have hc0 := (kda.kept hS).c4; have hc1 := (kc.kept hS).kept0; have hr0 := cell_blk (kc.kept hS) HC0.out; have hr1 := cell_blk (kc.kept hS) HC1.out; have hr2 := cell_blk (kc.kept hS) HC2.out; have hr3 := cell_blk (kc.kept hS) HC3.out; have hr4 := cell_blk (kc.kept hS) HC4.out; have hr5 := cell_blk (kc.kept hS) HC5.out; have hr6 := cell_blk (kc.kept hS) HC6.out; have hr7 := cell_blk (kc.kept hS) HC7.out; go_simp; (first | exact hK.out _ hS | (go_at_call 29; (with_reducible refine (refFrom8_any _ _).mono ?_); rintro e w'' ⟨rfl, rfl⟩; exact ⟨_, rfl, hK.out _ hS⟩))); simp only [Act.put, List.setIfInBounds_toArray, List.set_cons_succ, List.set_cons_zero]) | (apply wpG_off; rfl; simp only [Act.put, List.setIfInBounds_toArray, List.set_cons_succ, List.set_cons_zero]))
      apply wpG_nil
      intro W3 hS
      replace kda := kda.kept hS
      replace kc := kc.kept hS
      replace hb := hb.trans (hS.mono hb.size)
      clear hS
      clear e0 e1 e2 e3 f0 f1 f2 f3
      have c1 := kda.c4
      go_wp2_with fail
      refine bodyPost_ret (v := .tuple #[pv (257 * min 255 (max (16 * x0 + x1) 0)) (257 * min 255 (max (16 * x2 + x3) 0)) (257 * min 255 (max (16 * x4 + x5) 0)) (257 * min 255 (max (16 * x6 + x7) 0)), .int .i64 0]) (by simp [results, Try.results33, go_sem, c1]) rfl ⟨?_, below4 hb (Nat.le_refl _) _ _ _ _⟩
      rw [HL.out, HDD.out]
      show _ = Ending.returned (.tuple #[pv (257 * min 255 (max (16 * (D.getD 0 0) + D.getD 1 0) 0)) (257 * min 255 (max (16 * (D.getD 2 0) + D.getD 3 0) 0)) (257 * min 255 (max (16 * (D.getD 4 0) + D.getD 5 0) 0)) (257 * min 255 (max (16 * (D.getD 6 0) + D.getD 7 0) 0)), .int .i64 0])
      rw [HX0.out, HX1.out, HX2.out, HX3.out, HX4.out, HX5.out, HX6.out, HX7.out]

set_option maxHeartbeats 2000000 in
theorem refParse_yes7 (s : ByteArray) (w : World) (hn : s.size = 7) (h0 : s[0].toNat = 35) (hd : ∀ j (hj : j + 1 < s.size), 0 ≤ dg s[j + 1].toNat) :
    Calls Try.prog 33 #[.string s] w fun e w' => e = .returned (.tuple #[pD (dgs false ((s.data.toList.drop 1).take 6) ++ [15, 15]), .int .i64 0]) ∧ Below w.heap.size w w' := by
  have z4 : (((s.size : Nat) : Int) != 4) = true := by rw [hn]; decide
  have z7 : (((s.size : Nat) : Int) != 7) = false := by rw [hn]; decide
  have z0 : (((s[0].toNat : Nat) : Int) != 35) = false := by rw [h0]; decide
  go_enter Try.func33, Try.ntmps33
  go_wp2
  refine name1 (fun W k10 hb0 => ?_)
  have own0 : W.ownsRow (w.heap.size + 1) 3 1 (.slice none 0 0) 0 (iv []) := ⟨rfl, .inl ⟨rfl, rfl⟩⟩
  go_loopw [4, 5] (fun v i wr => ∃ k : Nat, k ≤ 6 ∧ i = .int .i64 ((k : Int) + 1) ∧ wr.ownsRow (w.heap.size + 1) 3 1 v (dgs false ((s.data.toList.drop 1).take k)).length (iv (dgs false ((s.data.toList.drop 1).take k))) ∧ Blk wr w.heap.size (.cells #[.int .i64 0, .int .i64 0, .int .i64 0, .int .i64 0] 23 (0, 0)) ∧ Below w.heap.size w wr) (fun _ i _ => 7 - (intOf i).toNat)
  case atStart => exact ⟨0, by omega, rfl, own0, k10, hb0⟩
  case round =>
    obtain ⟨k, hk, rfl, hown, k1, hb⟩ := hrel
    rename_i wr
    clear own0 k10 hb0
    by_cases hlt : k < 6
    · have hk1 := hd k (by omega)
      clear hd
      have HL := Lib.hid (dgs_step false s k (by omega))
      have hdl := dgs_length false ((s.data.toList.drop 1).take k)
      have hdl2 : ((s.data.toList.drop 1).take k).length ≤ 6 := by simp; omega
      have hlen : (dgs false ((s.data.toList.drop 1).take k)).length ≤ 6 := by rw [hdl]; simp; omega
      clear hdl hdl2
      generalize dgs false ((s.data.toList.drop 1).take k) = L at *
      have hbz := hb.size
      have hdb := (dg_bd s[k + 1].toNat).2
      go_wp2_with fail
      refine (refDigit_any _ _ (by omega) (by have := s[k + 1].toNat_lt; omega)).mono ?_
      rintro e w' ⟨rfl, rfl⟩
      generalize hdd : dg s[k + 1].toNat = d at *
      have HD1 := Lib.hid hdd
      clear hdd
      obtain ⟨i0ca, hica, hz0ca, hz1ca, hz2ca⟩ := info_parts infoInt
      go_wp2_with (at_builtin; refine wpList_append_own _ rfl _ _ 43 rfl (w.heap.size + 1) 3 i0ca (.int .i64 0) 1 8 Try.underlying43 hica hz0ca hz1ca hz2ca rfl (by decide) _ _ _ rfl (hown.alloc _) ⟨World.heap wr |>.size, 0, none⟩ 1 1 [.int .i64 d] rfl rfl ?ca1 ?ca2 ?ca3 ?ca4 ?ca5 ?_)
      case ca1 => exact cell_one_new _ _ _
      case ca2 => simp [Value.oneCell']
      case ca3 => unfold maxLen; omega
      case ca4 => omega
      case ca5 => simp; omega
      intro vca wca ownca growca _
      have kca := (k1.alloc (.cells #[.int .i64 d] 3)).grown growca (fun h => by have := (hown.lt _ h).1; omega)
      have bca := (hb.alloc (by omega) (.cells #[.int .i64 d] 3)).grown growca (by simp; omega) (fun k hk => by have := (hown.lt k hk).1; omega)
      have zca := bca.size
      clear k1 hown growca hb
      go_wp2
      refine ⟨⟨k + 1, by omega, by go_num, ?_, kca, bca⟩, by simp [intOf]; omega⟩
      rw [HL.out]
      simpa [iv] using ownca
    · obtain rfl : k = 6 := by omega
      clear hd
      have hdl := dgs_length false ((s.data.toList.drop 1).take 6)
      have hdl2 : ((s.data.toList.drop 1).take 6).length = 6 := by simp; have : s.size = s.data.size := rfl; omega
      rw [hdl2] at hdl
      have hdl3 : (dgs false ((s.data.toList.drop 1).take 6)).length = 6 := by rw [hdl]; rfl
      clear hdl hdl2
      generalize hLL : dgs false ((s.data.toList.drop 1).take 6) = L at hown hdl3
      rw [hdl3] at hown
      have HL := Lib.hid hLL
      have HD := Lib.hid hdl3
      clear hLL hdl3
      have hbz := hb.size
      obtain ⟨gg, cap, hv, _⟩ := ownsForm (n := 6) hown (by omega)
      subst hv
      obtain ⟨i0da, hida, hz0da, hz1da, hz2da⟩ := info_parts infoInt
      go_wp2_with (at_builtin; refine wpList_append_own _ rfl _ _ 43 rfl (w.heap.size + 1) 3 i0da (.int .i64 0) 1 8 Try.underlying43 hida hz0da hz1da hz2da rfl (by decide) _ _ _ rfl (hown.alloc _) ⟨World.heap wr |>.size, 0, none⟩ 2 2 [.int .i64 15, .int .i64 15] rfl rfl ?da1 ?da2 ?da3 ?da4 ?da5 ?_)
      case da1 => exact World.news_of_block (cs := #[.int .i64 15, .int .i64 15]) (t := 3) (fr := (0, 0)) (heap_alloc_new wr _)
      case da2 => simp [Value.oneCell']
      case da3 => unfold maxLen; omega
      case da4 => omega
      case da5 => simp; omega
      intro vda wda ownda growda _
      have kda := (k1.alloc (.cells #[.int .i64 15, .int .i64 15] 3)).grown growda (fun h => by have := (hown.lt _ h).1; omega)
      have bda := (hb.alloc (by omega) (.cells #[.int .i64 15, .int .i64 15] 3)).grown growda (by simp; omega) (fun k hk => by have := (hown.lt k hk).1; omega)
      have zda := bda.size
      clear k1 hown growda hb
      have own2 : wda.ownsRow (w.heap.size + 1) 3 1 vda 8 (iv (L ++ [15, 15])) := by simpa [iv] using ownda
      clear ownda
      obtain ⟨g2, cap2, hv, hg2, cur, kc, hcur⟩ := ownsInts own2 (by omega) (by simp [HD.out])
      subst hv
      clear own2
      have hb := bda
      clear bda
      generalize hDD : L ++ [15, 15] = D at hcur
      have hD : ∀ j, -1 ≤ D.getD j 0 ∧ D.getD j 0 ≤ 15 := fun j => by rw [← hDD, ← HL.out]; exact pad_bd _ (dgs_bd _ _) j
      have HDD := Lib.hid hDD
      clear hDD
      have hx0 := hD 0
      have hc0 := hcur 0 (by omega)
      generalize hxx0 : D.getD 0 0 = x0 at hx0 hc0
      have HX0 := Lib.hid hxx0
      have HC0 := Lib.hid hc0
      clear hxx0 hc0
      have hx1 := hD 1
      have hc1 := hcur 1 (by omega)
      generalize hxx1 : D.getD 1 0 = x1 at hx1 hc1
      have HX1 := Lib.hid hxx1
      have HC1 := Lib.hid hc1
      clear hxx1 hc1
      have hx2 := hD 2
      have hc2 := hcur 2 (by omega)
      generalize hxx2 : D.getD 2 0 = x2 at hx2 hc2
      have HX2 := Lib.hid hxx2
      have HC2 := Lib.hid hc2
      clear hxx2 hc2
      have hx3 := hD 3
      have hc3 := hcur 3 (by omega)
      generalize hxx3 : D.getD 3 0 = x3 at hx3 hc3
      have HX3 := Lib.hid hxx3
      have HC3 := Lib.hid hc3
      clear hxx3 hc3
      have hx4 := hD 4
      have hc4 := hcur 4 (by omega)
      generalize hxx4 : D.getD 4 0 = x4 at hx4 hc4
      have HX4 := Lib.hid hxx4
      have HC4 := Lib.hid hc4
      clear hxx4 hc4
      have hx5 := hD 5
      have hc5 := hcur 5 (by omega)
      generalize hxx5 : D.getD 5 0 = x5 at hx5 hc5
      have HX5 := Lib.hid hxx5
      have HC5 := Lib.hid hc5
      clear hxx5 hc5
      have hx6 := hD 6
      have hc6 := hcur 6 (by omega)
      generalize hxx6 : D.getD 6 0 = x6 at hx6 hc6
      have HX6 := Lib.hid hxx6
      have HC6 := Lib.hid hc6
      clear hxx6 hc6
      have hx7 := hD 7
      have hc7 := hcur 7 (by omega)
      generalize hxx7 : D.getD 7 0 = x7 at hx7 hc7
      have HX7 := Lib.hid hxx7
      have HC7 := Lib.hid hc7
      clear hxx7 hc7
      clear hcur hD
      go_wp2_with fail
      have e0 : IntKind.i64.wrap (16 * x0) = 16 * x0 := IntWalk.i64_in _ (by omega)
      have f0 : IntKind.i64.wrap (16 * x0 + x1) = 16 * x0 + x1 := IntWalk.i64_in _ (by omega)
      have e1 : IntKind.i64.wrap (16 * x2) = 16 * x2 := IntWalk.i64_in _ (by omega)
      have f1 : IntKind.i64.wrap (16 * x2 + x3) = 16 * x2 + x3 := IntWalk.i64_in _ (by omega)
      have e2 : IntKind.i64.wrap (16 * x4) = 16 * x4 := IntWalk.i64_in _ (by omega)
      have f2 : IntKind.i64.wrap (16 * x4 + x5) = 16 * x4 + x5 := IntWalk.i64_in _ (by omega)
      have e3 : IntKind.i64.wrap (16 * x6) = 16 * x6 := IntWalk.i64_in _ (by omega)
      have f3 : IntKind.i64.wrap (16 * x6 + x7) = 16 * x6 + x7 := IntWalk.i64_in _ (by omega)
      refine wp_region_grow 37 (fun w' => Below (World.heap wda).size wda w') (by kernel_rfl) (by kernel_rfl) (Below.refl _ _).drew ?_
      simp only [List.take_succ_cons, List.take_zero, List.drop_succ_cons, List.drop_zero]
      repeat (first | (apply wpG_on; rfl; (intro w' hS K hK; have hc0 := (kda.kept hS).c4; have hc1 := (kc.kept hS).kept0; have hr0 := cell_blk (kc.kept hS) HC0.out; have hr1 := cell_blk (kc.kept hS) HC1.out; have hr2 := cell_blk (kc.kept hS) HC2.out; have hr3 := cell_blk (kc.kept hS) HC3.out; have hr4 := cell_blk (kc.kept hS) HC4.out; have hr5 := cell_blk (kc.kept hS) HC5.out; have hr6 := cell_blk (kc.kept hS) HC6.out; have hr7 := cell_blk (kc.kept hS) HC7.out; go_simp; (first | exact hK.out _ hS | (go_at_call 29; (with_reducible refine (refFrom8_any _ _).mono ?_); rintro e w'' ⟨rfl, rfl⟩; exact ⟨_, rfl, hK.out _ hS⟩))); simp only [Act.put, List.setIfInBounds_toArray, List.set_cons_succ, List.set_cons_zero]) | (apply wpG_off; rfl; simp only [Act.put, List.setIfInBounds_toArray, List.set_cons_succ, List.set_cons_zero]))
      apply wpG_nil
      intro W3 hS
      replace kda := kda.kept hS
      replace kc := kc.kept hS
      replace hb := hb.trans (hS.mono hb.size)
      clear hS
      clear e0 e1 e2 e3 f0 f1 f2 f3
      have c1 := kda.c4
      go_wp2_with fail
      refine bodyPost_ret (v := .tuple #[pv (257 * min 255 (max (16 * x0 + x1) 0)) (257 * min 255 (max (16 * x2 + x3) 0)) (257 * min 255 (max (16 * x4 + x5) 0)) (257 * min 255 (max (16 * x6 + x7) 0)), .int .i64 0]) (by simp [results, Try.results33, go_sem, c1]) rfl ⟨?_, below4 hb (Nat.le_refl _) _ _ _ _⟩
      rw [HL.out, HDD.out]
      show _ = Ending.returned (.tuple #[pv (257 * min 255 (max (16 * (D.getD 0 0) + D.getD 1 0) 0)) (257 * min 255 (max (16 * (D.getD 2 0) + D.getD 3 0) 0)) (257 * min 255 (max (16 * (D.getD 4 0) + D.getD 5 0) 0)) (257 * min 255 (max (16 * (D.getD 6 0) + D.getD 7 0) 0)), .int .i64 0])
      rw [HX0.out, HX1.out, HX2.out, HX3.out, HX4.out, HX5.out, HX6.out, HX7.out]

set_option maxHeartbeats 2000000 in
theorem refParse_yes9 (s : ByteArray) (w : World) (hn : s.size = 9) (h0 : s[0].toNat = 35) (hd : ∀ j (hj : j + 1 < s.size), 0 ≤ dg s[j + 1].toNat) :
    Calls Try.prog 33 #[.string s] w fun e w' => e = .returned (.tuple #[pD (dgs false ((s.data.toList.drop 1).take 8)), .int .i64 0]) ∧ Below w.heap.size w w' := by
  have z4 : (((s.size : Nat) : Int) != 4) = true := by rw [hn]; decide
  have z7 : (((s.size : Nat) : Int) != 7) = true := by rw [hn]; decide
  have z9 : (((s.size : Nat) : Int) != 9) = false := by rw [hn]; decide
  have z0 : (((s[0].toNat : Nat) : Int) != 35) = false := by rw [h0]; decide
  go_enter Try.func33, Try.ntmps33
  go_wp2
  refine name1 (fun W k10 hb0 => ?_)
  have own0 : W.ownsRow (w.heap.size + 1) 3 1 (.slice none 0 0) 0 (iv []) := ⟨rfl, .inl ⟨rfl, rfl⟩⟩
  go_loopw [4, 5] (fun v i wr => ∃ k : Nat, k ≤ 8 ∧ i = .int .i64 ((k : Int) + 1) ∧ wr.ownsRow (w.heap.size + 1) 3 1 v (dgs false ((s.data.toList.drop 1).take k)).length (iv (dgs false ((s.data.toList.drop 1).take k))) ∧ Blk wr w.heap.size (.cells #[.int .i64 0, .int .i64 0, .int .i64 0, .int .i64 0] 23 (0, 0)) ∧ Below w.heap.size w wr) (fun _ i _ => 9 - (intOf i).toNat)
  case atStart => exact ⟨0, by omega, rfl, own0, k10, hb0⟩
  case round =>
    obtain ⟨k, hk, rfl, hown, k1, hb⟩ := hrel
    rename_i wr
    clear own0 k10 hb0
    by_cases hlt : k < 8
    · have hk1 := hd k (by omega)
      clear hd
      have HL := Lib.hid (dgs_step false s k (by omega))
      have hdl := dgs_length false ((s.data.toList.drop 1).take k)
      have hdl2 : ((s.data.toList.drop 1).take k).length ≤ 8 := by simp; omega
      have hlen : (dgs false ((s.data.toList.drop 1).take k)).length ≤ 8 := by rw [hdl]; simp; omega
      clear hdl hdl2
      generalize dgs false ((s.data.toList.drop 1).take k) = L at *
      have hbz := hb.size
      have hdb := (dg_bd s[k + 1].toNat).2
      go_wp2_with fail
      refine (refDigit_any _ _ (by omega) (by have := s[k + 1].toNat_lt; omega)).mono ?_
      rintro e w' ⟨rfl, rfl⟩
      generalize hdd : dg s[k + 1].toNat = d at *
      have HD1 := Lib.hid hdd
      clear hdd
      obtain ⟨i0ca, hica, hz0ca, hz1ca, hz2ca⟩ := info_parts infoInt
      go_wp2_with (at_builtin; refine wpList_append_own _ rfl _ _ 43 rfl (w.heap.size + 1) 3 i0ca (.int .i64 0) 1 8 Try.underlying43 hica hz0ca hz1ca hz2ca rfl (by decide) _ _ _ rfl (hown.alloc _) ⟨World.heap wr |>.size, 0, none⟩ 1 1 [.int .i64 d] rfl rfl ?ca1 ?ca2 ?ca3 ?ca4 ?ca5 ?_)
      case ca1 => exact cell_one_new _ _ _
      case ca2 => simp [Value.oneCell']
      case ca3 => unfold maxLen; omega
      case ca4 => omega
      case ca5 => simp; omega
      intro vca wca ownca growca _
      have kca := (k1.alloc (.cells #[.int .i64 d] 3)).grown growca (fun h => by have := (hown.lt _ h).1; omega)
      have bca := (hb.alloc (by omega) (.cells #[.int .i64 d] 3)).grown growca (by simp; omega) (fun k hk => by have := (hown.lt k hk).1; omega)
      have zca := bca.size
      clear k1 hown growca hb
      go_wp2
      refine ⟨⟨k + 1, by omega, by go_num, ?_, kca, bca⟩, by simp [intOf]; omega⟩
      rw [HL.out]
      simpa [iv] using ownca
    · obtain rfl : k = 8 := by omega
      clear hd
      have hdl := dgs_length false ((s.data.toList.drop 1).take 8)
      have hdl2 : ((s.data.toList.drop 1).take 8).length = 8 := by simp; have : s.size = s.data.size := rfl; omega
      rw [hdl2] at hdl
      have hdl3 : (dgs false ((s.data.toList.drop 1).take 8)).length = 8 := by rw [hdl]; rfl
      clear hdl hdl2
      generalize hLL : dgs false ((s.data.toList.drop 1).take 8) = L at hown hdl3
      rw [hdl3] at hown
      have HL := Lib.hid hLL
      have HD := Lib.hid hdl3
      clear hLL hdl3
      have hbz := hb.size
      have own2 : wr.ownsRow (w.heap.size + 1) 3 1 _ 8 (iv L) := hown
      clear hown
      obtain ⟨g2, cap2, hv, hg2, cur, kc, hcur⟩ := ownsInts own2 (by omega) HD.out
      subst hv
      clear own2
      have hD : ∀ j, -1 ≤ L.getD j 0 ∧ L.getD j 0 ≤ 15 := fun j => by rw [← HL.out]; exact nopad_bd _ (dgs_bd _ _) j
      generalize hDD : L = D at hcur hD
      have HDD := Lib.hid hDD
      clear hDD
      have hx0 := hD 0
      have hc0 := hcur 0 (by omega)
      generalize hxx0 : D.getD 0 0 = x0 at hx0 hc0
      have HX0 := Lib.hid hxx0
      have HC0 := Lib.hid hc0
      clear hxx0 hc0
      have hx1 := hD 1
      have hc1 := hcur 1 (by omega)
      generalize hxx1 : D.getD 1 0 = x1 at hx1 hc1
      have HX1 := Lib.hid hxx1
      have HC1 := Lib.hid hc1
      clear hxx1 hc1
      have hx2 := hD 2
      have hc2 := hcur 2 (by omega)
      generalize hxx2 : D.getD 2 0 = x2 at hx2 hc2
      have HX2 := Lib.hid hxx2
      have HC2 := Lib.hid hc2
      clear hxx2 hc2
      have hx3 := hD 3
      have hc3 := hcur 3 (by omega)
      generalize hxx3 : D.getD 3 0 = x3 at hx3 hc3
      have HX3 := Lib.hid hxx3
      have HC3 := Lib.hid hc3
      clear hxx3 hc3
      have hx4 := hD 4
      have hc4 := hcur 4 (by omega)
      generalize hxx4 : D.getD 4 0 = x4 at hx4 hc4
      have HX4 := Lib.hid hxx4
      have HC4 := Lib.hid hc4
      clear hxx4 hc4
      have hx5 := hD 5
      have hc5 := hcur 5 (by omega)
      generalize hxx5 : D.getD 5 0 = x5 at hx5 hc5
      have HX5 := Lib.hid hxx5
      have HC5 := Lib.hid hc5
      clear hxx5 hc5
      have hx6 := hD 6
      have hc6 := hcur 6 (by omega)
      generalize hxx6 : D.getD 6 0 = x6 at hx6 hc6
      have HX6 := Lib.hid hxx6
      have HC6 := Lib.hid hc6
      clear hxx6 hc6
      have hx7 := hD 7
      have hc7 := hcur 7 (by omega)
      generalize hxx7 : D.getD 7 0 = x7 at hx7 hc7
      have HX7 := Lib.hid hxx7
      have HC7 := Lib.hid hc7
      clear hxx7 hc7
      clear hcur hD
      go_wp2_with fail
      have e0 : IntKind.i64.wrap (16 * x0) = 16 * x0 := IntWalk.i64_in _ (by omega)
      have f0 : IntKind.i64.wrap (16 * x0 + x1) = 16 * x0 + x1 := IntWalk.i64_in _ (by omega)
      have e1 : IntKind.i64.wrap (16 * x2) = 16 * x2 := IntWalk.i64_in _ (by omega)
      have f1 : IntKind.i64.wrap (16 * x2 + x3) = 16 * x2 + x3 := IntWalk.i64_in _ (by omega)
      have e2 : IntKind.i64.wrap (16 * x4) = 16 * x4 := IntWalk.i64_in _ (by omega)
      have f2 : IntKind.i64.wrap (16 * x4 + x5) = 16 * x4 + x5 := IntWalk.i64_in _ (by omega)
      have e3 : IntKind.i64.wrap (16 * x6) = 16 * x6 := IntWalk.i64_in _ (by omega)
      have f3 : IntKind.i64.wrap (16 * x6 + x7) = 16 * x6 + x7 := IntWalk.i64_in _ (by omega)
      refine wp_region_grow 37 (fun w' => Below (World.heap wr).size wr w') (by kernel_rfl) (by kernel_rfl) (Below.refl _ _).drew ?_
      simp only [List.take_succ_cons, List.take_zero, List.drop_succ_cons, List.drop_zero]
      repeat (first | (apply wpG_on; rfl; (intro w' hS K hK; have hc0 := (k1.kept hS).c4; have hc1 := (kc.kept hS).kept0; have hr0 := cell_blk (kc.kept hS) HC0.out; have hr1 := cell_blk (kc.kept hS) HC1.out; have hr2 := cell_blk (kc.kept hS) HC2.out; have hr3 := cell_blk (kc.kept hS) HC3.out; have hr4 := cell_blk (kc.kept hS) HC4.out; have hr5 := cell_blk (kc.kept hS) HC5.out; have hr6 := cell_blk (kc.kept hS) HC6.out; have hr7 := cell_blk (kc.kept hS) HC7.out; go_simp; (first | exact hK.out _ hS | (go_at_call 29; (with_reducible refine (refFrom8_any _ _).mono ?_); rintro e w'' ⟨rfl, rfl⟩; exact ⟨_, rfl, hK.out _ hS⟩))); simp only [Act.put, List.setIfInBounds_toArray, List.set_cons_succ, List.set_cons_zero]) | (apply wpG_off; rfl; simp only [Act.put, List.setIfInBounds_toArray, List.set_cons_succ, List.set_cons_zero]))
      apply wpG_nil
      intro W3 hS
      replace k1 := k1.kept hS
      replace kc := kc.kept hS
      replace hb := hb.trans (hS.mono hb.size)
      clear hS
      clear e0 e1 e2 e3 f0 f1 f2 f3
      have c1 := k1.c4
      go_wp2_with fail
      refine bodyPost_ret (v := .tuple #[pv (257 * min 255 (max (16 * x0 + x1) 0)) (257 * min 255 (max (16 * x2 + x3) 0)) (257 * min 255 (max (16 * x4 + x5) 0)) (257 * min 255 (max (16 * x6 + x7) 0)), .int .i64 0]) (by simp [results, Try.results33, go_sem, c1]) rfl ⟨?_, below4 hb (Nat.le_refl _) _ _ _ _⟩
      rw [HL.out, HDD.out]
      show _ = Ending.returned (.tuple #[pv (257 * min 255 (max (16 * (D.getD 0 0) + D.getD 1 0) 0)) (257 * min 255 (max (16 * (D.getD 2 0) + D.getD 3 0) 0)) (257 * min 255 (max (16 * (D.getD 4 0) + D.getD 5 0) 0)) (257 * min 255 (max (16 * (D.getD 6 0) + D.getD 7 0) 0)), .int .i64 0])
      rw [HX0.out, HX1.out, HX2.out, HX3.out, HX4.out, HX5.out, HX6.out, HX7.out]

set_option maxHeartbeats 2000000 in
theorem refParse_no4 (s : ByteArray) (w : World) (hn : s.size = 4) (h0 : s[0].toNat = 35) (hd : ∃ j, ∃ hj : j + 1 < s.size, dg s[j + 1].toNat < 0) :
    Calls Try.prog 33 #[.string s] w fun e w' => e = .returned (.tuple #[pv 0 0 0 0, .int .i64 4]) ∧ Below w.heap.size w w' := by
  have HDD := Lib.hid hd
  clear hd
  have z4 : (((s.size : Nat) : Int) != 4) = false := by rw [hn]; decide
  have z0 : (((s[0].toNat : Nat) : Int) != 35) = false := by rw [h0]; decide
  go_enter Try.func33, Try.ntmps33
  go_wp2
  refine name1 (fun W k10 hb0 => ?_)
  have own0 : W.ownsRow (w.heap.size + 1) 3 1 (.slice none 0 0) 0 (iv []) := ⟨rfl, .inl ⟨rfl, rfl⟩⟩
  go_loopw [4, 5] (fun v i wr => ∃ k : Nat, k ≤ 3 ∧ i = .int .i64 ((k : Int) + 1) ∧ wr.ownsRow (w.heap.size + 1) 3 1 v (dgs true ((s.data.toList.drop 1).take k)).length (iv (dgs true ((s.data.toList.drop 1).take k))) ∧ Blk wr w.heap.size (.cells #[.int .i64 0, .int .i64 0, .int .i64 0, .int .i64 0] 23 (0, 0)) ∧ Below w.heap.size w wr ∧ (∀ j, j < k → ∀ hj : j + 1 < s.size, 0 ≤ dg s[j + 1].toNat)) (fun _ i _ => 4 - (intOf i).toNat)
  case atStart => exact ⟨0, by omega, rfl, own0, k10, hb0, fun j hj => absurd hj (by omega)⟩
  case round =>
    obtain ⟨k, hk, rfl, hown, k1, hb, hok⟩ := hrel
    rename_i wr
    clear own0 k10 hb0
    have HOK := Lib.hid hok
    clear hok
    by_cases hlt : k < 3
    · by_cases hk1 : 0 ≤ dg s[k + 1].toNat
      · skip
        have HL := Lib.hid (dgs_step true s k (by omega))
        have hdl := dgs_length true ((s.data.toList.drop 1).take k)
        have hdl2 : ((s.data.toList.drop 1).take k).length ≤ 3 := by simp; omega
        have hlen : (dgs true ((s.data.toList.drop 1).take k)).length ≤ 6 := by rw [hdl]; simp; omega
        clear hdl hdl2
        generalize dgs true ((s.data.toList.drop 1).take k) = L at *
        have hbz := hb.size
        have hdb := (dg_bd s[k + 1].toNat).2
        go_wp2_with fail
        refine (refDigit_any _ _ (by omega) (by have := s[k + 1].toNat_lt; omega)).mono ?_
        rintro e w' ⟨rfl, rfl⟩
        generalize hdd : dg s[k + 1].toNat = d at *
        have HD1 := Lib.hid hdd
        clear hdd
        obtain ⟨i0ca, hica, hz0ca, hz1ca, hz2ca⟩ := info_parts infoInt
        go_wp2_with (at_builtin; refine wpList_append_own _ rfl _ _ 43 rfl (w.heap.size + 1) 3 i0ca (.int .i64 0) 1 8 Try.underlying43 hica hz0ca hz1ca hz2ca rfl (by decide) _ _ _ rfl (hown.alloc _) ⟨World.heap wr |>.size, 0, none⟩ 1 1 [.int .i64 d] rfl rfl ?ca1 ?ca2 ?ca3 ?ca4 ?ca5 ?_)
        case ca1 => exact cell_one_new _ _ _
        case ca2 => simp [Value.oneCell']
        case ca3 => unfold maxLen; omega
        case ca4 => omega
        case ca5 => simp; omega
        intro vca wca ownca growca _
        have kca := (k1.alloc (.cells #[.int .i64 d] 3)).grown growca (fun h => by have := (hown.lt _ h).1; omega)
        have bca := (hb.alloc (by omega) (.cells #[.int .i64 d] 3)).grown growca (by simp; omega) (fun k hk => by have := (hown.lt k hk).1; omega)
        have zca := bca.size
        clear k1 hown growca hb
        obtain ⟨i0cb, hicb, hz0cb, hz1cb, hz2cb⟩ := info_parts infoInt
        go_wp2_with (at_builtin; refine wpList_append_own _ rfl _ _ 43 rfl (w.heap.size + 1) 3 i0cb (.int .i64 0) 1 8 Try.underlying43 hicb hz0cb hz1cb hz2cb rfl (by decide) _ _ _ rfl (ownca.alloc _) ⟨World.heap wca |>.size, 0, none⟩ 1 1 [.int .i64 d] rfl rfl ?cb1 ?cb2 ?cb3 ?cb4 ?cb5 ?_)
        case cb1 => exact cell_one_new _ _ _
        case cb2 => simp [Value.oneCell']
        case cb3 => unfold maxLen; omega
        case cb4 => omega
        case cb5 => simp; omega
        intro vcb wcb owncb growcb _
        have kcb := (kca.alloc (.cells #[.int .i64 d] 3)).grown growcb (fun h => by have := (ownca.lt _ h).1; omega)
        have bcb := (bca.alloc (by omega) (.cells #[.int .i64 d] 3)).grown growcb (by simp; omega) (fun k hk => by have := (ownca.lt k hk).1; omega)
        have zcb := bcb.size
        clear kca ownca growcb bca
        go_wp2
        refine ⟨⟨k + 1, by omega, by go_num, ?_, kcb, bcb, ?_⟩, by simp [intOf]; omega⟩
        rotate_left
        · intro j hj hj2
          rcases Nat.lt_or_ge j k with h | h
          · exact HOK.out j h hj2
          · obtain rfl : j = k := by omega
            rw [HD1.out]; exact hk1
        rw [HL.out]
        simpa [iv] using owncb
      · go_wp2_with fail
        refine (refDigit_any _ _ (by omega) (by have := s[k + 1].toNat_lt; omega)).mono ?_
        rintro e w' ⟨rfl, rfl⟩
        have c1 := k1.c4
        go_wp2_with fail
        refine bodyPost_ret (v := .tuple #[pv 0 0 0 0, .int .i64 4]) (by simp [results, Try.results33, go_sem, c1]) rfl ⟨rfl, below4 hb (Nat.le_refl _) _ _ _ _⟩
    · exfalso
      obtain ⟨j, hj, hbad⟩ := HDD.out
      have := HOK.out j (by omega) hj
      omega

set_option maxHeartbeats 2000000 in
theorem refParse_no7 (s : ByteArray) (w : World) (hn : s.size = 7) (h0 : s[0].toNat = 35) (hd : ∃ j, ∃ hj : j + 1 < s.size, dg s[j + 1].toNat < 0) :
    Calls Try.prog 33 #[.string s] w fun e w' => e = .returned (.tuple #[pv 0 0 0 0, .int .i64 4]) ∧ Below w.heap.size w w' := by
  have HDD := Lib.hid hd
  clear hd
  have z4 : (((s.size : Nat) : Int) != 4) = true := by rw [hn]; decide
  have z7 : (((s.size : Nat) : Int) != 7) = false := by rw [hn]; decide
  have z0 : (((s[0].toNat : Nat) : Int) != 35) = false := by rw [h0]; decide
  go_enter Try.func33, Try.ntmps33
  go_wp2
  refine name1 (fun W k10 hb0 => ?_)
  have own0 : W.ownsRow (w.heap.size + 1) 3 1 (.slice none 0 0) 0 (iv []) := ⟨rfl, .inl ⟨rfl, rfl⟩⟩
  go_loopw [4, 5] (fun v i wr => ∃ k : Nat, k ≤ 6 ∧ i = .int .i64 ((k : Int) + 1) ∧ wr.ownsRow (w.heap.size + 1) 3 1 v (dgs false ((s.data.toList.drop 1).take k)).length (iv (dgs false ((s.data.toList.drop 1).take k))) ∧ Blk wr w.heap.size (.cells #[.int .i64 0, .int .i64 0, .int .i64 0, .int .i64 0] 23 (0, 0)) ∧ Below w.heap.size w wr ∧ (∀ j, j < k → ∀ hj : j + 1 < s.size, 0 ≤ dg s[j + 1].toNat)) (fun _ i _ => 7 - (intOf i).toNat)
  case atStart => exact ⟨0, by omega, rfl, own0, k10, hb0, fun j hj => absurd hj (by omega)⟩
  case round =>
    obtain ⟨k, hk, rfl, hown, k1, hb, hok⟩ := hrel
    rename_i wr
    clear own0 k10 hb0
    have HOK := Lib.hid hok
    clear hok
    by_cases hlt : k < 6
    · by_cases hk1 : 0 ≤ dg s[k + 1].toNat
      · skip
        have HL := Lib.hid (dgs_step false s k (by omega))
        have hdl := dgs_length false ((s.data.toList.drop 1).take k)
        have hdl2 : ((s.data.toList.drop 1).take k).length ≤ 6 := by simp; omega
        have hlen : (dgs false ((s.data.toList.drop 1).take k)).length ≤ 6 := by rw [hdl]; simp; omega
        clear hdl hdl2
        generalize dgs false ((s.data.toList.drop 1).take k) = L at *
        have hbz := hb.size
        have hdb := (dg_bd s[k + 1].toNat).2
        go_wp2_with fail
        refine (refDigit_any _ _ (by omega) (by have := s[k + 1].toNat_lt; omega)).mono ?_
        rintro e w' ⟨rfl, rfl⟩
        generalize hdd : dg s[k + 1].toNat = d at *
        have HD1 := Lib.hid hdd
        clear hdd
        obtain ⟨i0ca, hica, hz0ca, hz1ca, hz2ca⟩ := info_parts infoInt
        go_wp2_with (at_builtin; refine wpList_append_own _ rfl _ _ 43 rfl (w.heap.size + 1) 3 i0ca (.int .i64 0) 1 8 Try.underlying43 hica hz0ca hz1ca hz2ca rfl (by decide) _ _ _ rfl (hown.alloc _) ⟨World.heap wr |>.size, 0, none⟩ 1 1 [.int .i64 d] rfl rfl ?ca1 ?ca2 ?ca3 ?ca4 ?ca5 ?_)
        case ca1 => exact cell_one_new _ _ _
        case ca2 => simp [Value.oneCell']
        case ca3 => unfold maxLen; omega
        case ca4 => omega
        case ca5 => simp; omega
        intro vca wca ownca growca _
        have kca := (k1.alloc (.cells #[.int .i64 d] 3)).grown growca (fun h => by have := (hown.lt _ h).1; omega)
        have bca := (hb.alloc (by omega) (.cells #[.int .i64 d] 3)).grown growca (by simp; omega) (fun k hk => by have := (hown.lt k hk).1; omega)
        have zca := bca.size
        clear k1 hown growca hb
        go_wp2
        refine ⟨⟨k + 1, by omega, by go_num, ?_, kca, bca, ?_⟩, by simp [intOf]; omega⟩
        rotate_left
        · intro j hj hj2
          rcases Nat.lt_or_ge j k with h | h
          · exact HOK.out j h hj2
          · obtain rfl : j = k := by omega
            rw [HD1.out]; exact hk1
        rw [HL.out]
        simpa [iv] using ownca
      · go_wp2_with fail
        refine (refDigit_any _ _ (by omega) (by have := s[k + 1].toNat_lt; omega)).mono ?_
        rintro e w' ⟨rfl, rfl⟩
        have c1 := k1.c4
        go_wp2_with fail
        refine bodyPost_ret (v := .tuple #[pv 0 0 0 0, .int .i64 4]) (by simp [results, Try.results33, go_sem, c1]) rfl ⟨rfl, below4 hb (Nat.le_refl _) _ _ _ _⟩
    · exfalso
      obtain ⟨j, hj, hbad⟩ := HDD.out
      have := HOK.out j (by omega) hj
      omega

set_option maxHeartbeats 2000000 in
theorem refParse_no9 (s : ByteArray) (w : World) (hn : s.size = 9) (h0 : s[0].toNat = 35) (hd : ∃ j, ∃ hj : j + 1 < s.size, dg s[j + 1].toNat < 0) :
    Calls Try.prog 33 #[.string s] w fun e w' => e = .returned (.tuple #[pv 0 0 0 0, .int .i64 4]) ∧ Below w.heap.size w w' := by
  have HDD := Lib.hid hd
  clear hd
  have z4 : (((s.size : Nat) : Int) != 4) = true := by rw [hn]; decide
  have z7 : (((s.size : Nat) : Int) != 7) = true := by rw [hn]; decide
  have z9 : (((s.size : Nat) : Int) != 9) = false := by rw [hn]; decide
  have z0 : (((s[0].toNat : Nat) : Int) != 35) = false := by rw [h0]; decide
  go_enter Try.func33, Try.ntmps33
  go_wp2
  refine name1 (fun W k10 hb0 => ?_)
  have own0 : W.ownsRow (w.heap.size + 1) 3 1 (.slice none 0 0) 0 (iv []) := ⟨rfl, .inl ⟨rfl, rfl⟩⟩
  go_loopw [4, 5] (fun v i wr => ∃ k : Nat, k ≤ 8 ∧ i = .int .i64 ((k : Int) + 1) ∧ wr.ownsRow (w.heap.size + 1) 3 1 v (dgs false ((s.data.toList.drop 1).take k)).length (iv (dgs false ((s.data.toList.drop 1).take k))) ∧ Blk wr w.heap.size (.cells #[.int .i64 0, .int .i64 0, .int .i64 0, .int .i64 0] 23 (0, 0)) ∧ Below w.heap.size w wr ∧ (∀ j, j < k → ∀ hj : j + 1 < s.size, 0 ≤ dg s[j + 1].toNat)) (fun _ i _ => 9 - (intOf i).toNat)
  case atStart => exact ⟨0, by omega, rfl, own0, k10, hb0, fun j hj => absurd hj (by omega)⟩
  case round =>
    obtain ⟨k, hk, rfl, hown, k1, hb, hok⟩ := hrel
    rename_i wr
    clear own0 k10 hb0
    have HOK := Lib.hid hok
    clear hok
    by_cases hlt : k < 8
    · by_cases hk1 : 0 ≤ dg s[k + 1].toNat
      · skip
        have HL := Lib.hid (dgs_step false s k (by omega))
        have hdl := dgs_length false ((s.data.toList.drop 1).take k)
        have hdl2 : ((s.data.toList.drop 1).take k).length ≤ 8 := by simp; omega
        have hlen : (dgs false ((s.data.toList.drop 1).take k)).length ≤ 8 := by rw [hdl]; simp; omega
        clear hdl hdl2
        generalize dgs false ((s.data.toList.drop 1).take k) = L at *
        have hbz := hb.size
        have hdb := (dg_bd s[k + 1].toNat).2
        go_wp2_with fail
        refine (refDigit_any _ _ (by omega) (by have := s[k + 1].toNat_lt; omega)).mono ?_
        rintro e w' ⟨rfl, rfl⟩
        generalize hdd : dg s[k + 1].toNat = d at *
        have HD1 := Lib.hid hdd
        clear hdd
        obtain ⟨i0ca, hica, hz0ca, hz1ca, hz2ca⟩ := info_parts infoInt
        go_wp2_with (at_builtin; refine wpList_append_own _ rfl _ _ 43 rfl (w.heap.size + 1) 3 i0ca (.int .i64 0) 1 8 Try.underlying43 hica hz0ca hz1ca hz2ca rfl (by decide) _ _ _ rfl (hown.alloc _) ⟨World.heap wr |>.size, 0, none⟩ 1 1 [.int .i64 d] rfl rfl ?ca1 ?ca2 ?ca3 ?ca4 ?ca5 ?_)
        case ca1 => exact cell_one_new _ _ _
        case ca2 => simp [Value.oneCell']
        case ca3 => unfold maxLen; omega
        case ca4 => omega
        case ca5 => simp; omega
        intro vca wca ownca growca _
        have kca := (k1.alloc (.cells #[.int .i64 d] 3)).grown growca (fun h => by have := (hown.lt _ h).1; omega)
        have bca := (hb.alloc (by omega) (.cells #[.int .i64 d] 3)).grown growca (by simp; omega) (fun k hk => by have := (hown.lt k hk).1; omega)
        have zca := bca.size
        clear k1 hown growca hb
        go_wp2
        refine ⟨⟨k + 1, by omega, by go_num, ?_, kca, bca, ?_⟩, by simp [intOf]; omega⟩
        rotate_left
        · intro j hj hj2
          rcases Nat.lt_or_ge j k with h | h
          · exact HOK.out j h hj2
          · obtain rfl : j = k := by omega
            rw [HD1.out]; exact hk1
        rw [HL.out]
        simpa [iv] using ownca
      · go_wp2_with fail
        refine (refDigit_any _ _ (by omega) (by have := s[k + 1].toNat_lt; omega)).mono ?_
        rintro e w' ⟨rfl, rfl⟩
        have c1 := k1.c4
        go_wp2_with fail
        refine bodyPost_ret (v := .tuple #[pv 0 0 0 0, .int .i64 4]) (by simp [results, Try.results33, go_sem, c1]) rfl ⟨rfl, below4 hb (Nat.le_refl _) _ _ _ _⟩
    · exfalso
      obtain ⟨j, hj, hbad⟩ := HDD.out
      have := HOK.out j (by omega) hj
      omega
end Go.Proofs.Ytmkieeaikhndcaa
