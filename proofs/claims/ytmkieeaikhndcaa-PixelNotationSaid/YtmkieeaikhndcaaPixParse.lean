/- The walk of pixel.Parse. -/
import Derived.Test.YtmkieeaikhndcaaPixText
namespace Go.Proofs.Ytmkieeaikhndcaa
open Go.RowKit
set_option linter.unusedVariables false
attribute [local go_sem] Oper.gAt gUponK

theorem infoInt : (Try.prog.info? 3).map (fun i => (i.zero, i.size, i.bytes)) = some (some (.int .i64 0), 1, 8) := by kernel_rfl
def iv (l : List Int) : List Value := l.map (Value.int .i64)

theorem dgs_step (four : Bool) (s : ByteArray) (k : Nat) (h : k + 1 < s.size) : dgs four ((s.data.toList.drop 1).take (k + 1)) = dgs four ((s.data.toList.drop 1).take k) ++ (if four then [dg s[k + 1].toNat, dg s[k + 1].toNat] else [dg s[k + 1].toNat]) := by
  have e : (s.data.toList.drop 1).take (k + 1) = (s.data.toList.drop 1).take k ++ [s[k + 1]] := by
    rw [List.take_succ_eq_append_getElem (by simp; have : s.size = s.data.size := rfl; omega)]
    simp
    rfl
  rw [e, dgs_append]
  simp [dgs]

theorem ownsForm {w : World} {base : Nat} {e : TypeId} {v : Value} {n : Nat} {xs : List Value} (h : w.ownsRow base e 1 v n xs) (hn : 0 < n) : ∃ g cap, v = .slice (some ⟨g, 0, none⟩) n cap ∧ base ≤ g := by
  obtain ⟨h1, h2⟩ := h
  rcases h2 with ⟨_, h2⟩ | ⟨g, cap, cur, hv, hg, _⟩
  · omega
  · exact ⟨g, cap, hv, hg⟩
theorem ownsInts {w : World} {base : Nat} {e : TypeId} {v : Value} {n : Nat} {D : List Int} (h : w.ownsRow base e 1 v n (iv D)) (hn : 0 < n) (hl : D.length = n) :
    ∃ g cap, v = .slice (some ⟨g, 0, none⟩) n cap ∧ base ≤ g ∧ ∃ cur, Blk w g (.cells cur e (0, 0)) ∧ ∀ j, j < n → cur[j]? = some (.int .i64 (D.getD j 0)) := by
  obtain ⟨h1, h2⟩ := h
  rcases h2 with ⟨_, h2⟩ | ⟨g, cap, cur, hv, hg, hh, _, _, _, ht⟩
  · omega
  · refine ⟨g, cap, hv, hg, cur, hh, fun j hj => ?_⟩
    have e1 : (cur.toList.take (n * 1))[j]? = (iv D)[j]? := by rw [ht]
    rw [List.getElem?_take_of_lt (by omega)] at e1
    simp [iv, List.getElem?_eq_getElem (show j < D.length by omega)] at e1
    simp [e1, List.getElem?_eq_getElem (show j < D.length by omega)]

theorem dgs_bd (four : Bool) (l : List UInt8) : ∀ d ∈ dgs four l, -1 ≤ d ∧ d ≤ 15 := by
  induction l with
  | nil => simp [dgs]
  | cons c r ih =>
    intro d hd
    have hc := dg_bd c.toNat
    cases four <;> simp [dgs] at hd <;> rcases hd with rfl | hd
    all_goals first | exact hc | exact ih d hd
theorem pad_bd (l : List Int) (h : ∀ d ∈ l, -1 ≤ d ∧ d ≤ 15) (j : Nat) : -1 ≤ (l ++ [15, 15]).getD j 0 ∧ (l ++ [15, 15]).getD j 0 ≤ 15 := by
  rcases Nat.lt_or_ge j (l ++ [15, 15]).length with hj | hj
  · have hm : (l ++ [15, 15])[j] ∈ l ++ [15, 15] := List.getElem_mem hj
    simp only [List.getD_eq_getElem?_getD, List.getElem?_eq_getElem hj, Option.getD_some]
    rcases List.mem_append.1 hm with h1 | h1
    · exact h _ h1
    · simp at h1; omega
  · simp only [List.getD_eq_getElem?_getD, List.getElem?_eq_none hj, Option.getD_none]; omega
theorem nopad_bd (l : List Int) (h : ∀ d ∈ l, -1 ≤ d ∧ d ≤ 15) (j : Nat) : -1 ≤ l.getD j 0 ∧ l.getD j 0 ≤ 15 := by
  rcases Nat.lt_or_ge j l.length with hj | hj
  · simp only [List.getD_eq_getElem?_getD, List.getElem?_eq_getElem hj, Option.getD_some]
    exact h _ (List.getElem_mem hj)
  · simp only [List.getD_eq_getElem?_getD, List.getElem?_eq_none hj, Option.getD_none]; omega
/-- The pixel of eight digits. -/
def pD (D : List Int) : Value := pv (ch8 D 0) (ch8 D 1) (ch8 D 2) (ch8 D 3)
/-- The array of the four values, after k rounds. -/
def vObj (D : List Int) (k : Nat) : Obj := .cells #[.int .i64 (if 0 < k then ch8 D 0 else 0), .int .i64 (if 1 < k then ch8 D 1 else 0), .int .i64 (if 2 < k then ch8 D 2 else 0), .int .i64 (if 3 < k then ch8 D 3 else 0)] 47 (0, 0)

set_option maxHeartbeats 1000000 in
theorem parse_size (s : ByteArray) (w : World) (hn : s.size ≤ 9223372036854775807) (h4 : s.size ≠ 4) (h7 : s.size ≠ 7) (h9 : s.size ≠ 9) :
    Calls Try.prog 32 #[.string s] w fun e w' => e = .returned (.tuple #[pv 0 0 0 0, .int .i64 4]) ∧ Below w.heap.size w w' := by
  go_enter Try.func32, Try.ntmps32
  go_wp2
  refine bodyPost_ret (v := .tuple #[pv 0 0 0 0, .int .i64 4]) (by simp [results, Try.results32, go_sem]) rfl ⟨rfl, ?_⟩
  exact (Below.refl _ _).alloc (Nat.le_refl _) _
-- BY PROGRAM (genparse.py)
set_option maxHeartbeats 400000 in
theorem parse_head4 (s : ByteArray) (w : World) (hn : s.size = 4) (h0 : s[0].toNat ≠ 35) :
    Calls Try.prog 32 #[.string s] w fun e w' => e = .returned (.tuple #[pv 0 0 0 0, .int .i64 4]) ∧ Below w.heap.size w w' := by
  have z4 : (((s.size : Nat) : Int) != 4) = false := by rw [hn]; decide
  have z0 : (((s[0].toNat : Nat) : Int) != 35) = true := by simp; omega
  go_enter Try.func32, Try.ntmps32
  go_wp2
  refine bodyPost_ret (v := .tuple #[pv 0 0 0 0, .int .i64 4]) (by simp [results, Try.results32, go_sem]) rfl ⟨rfl, ?_⟩
  exact (Below.refl _ _).alloc (Nat.le_refl _) _

set_option maxHeartbeats 400000 in
theorem parse_head7 (s : ByteArray) (w : World) (hn : s.size = 7) (h0 : s[0].toNat ≠ 35) :
    Calls Try.prog 32 #[.string s] w fun e w' => e = .returned (.tuple #[pv 0 0 0 0, .int .i64 4]) ∧ Below w.heap.size w w' := by
  have z4 : (((s.size : Nat) : Int) != 4) = true := by rw [hn]; decide
  have z7 : (((s.size : Nat) : Int) != 7) = false := by rw [hn]; decide
  have z0 : (((s[0].toNat : Nat) : Int) != 35) = true := by simp; omega
  go_enter Try.func32, Try.ntmps32
  go_wp2
  refine bodyPost_ret (v := .tuple #[pv 0 0 0 0, .int .i64 4]) (by simp [results, Try.results32, go_sem]) rfl ⟨rfl, ?_⟩
  exact (Below.refl _ _).alloc (Nat.le_refl _) _

set_option maxHeartbeats 400000 in
theorem parse_head9 (s : ByteArray) (w : World) (hn : s.size = 9) (h0 : s[0].toNat ≠ 35) :
    Calls Try.prog 32 #[.string s] w fun e w' => e = .returned (.tuple #[pv 0 0 0 0, .int .i64 4]) ∧ Below w.heap.size w w' := by
  have z4 : (((s.size : Nat) : Int) != 4) = true := by rw [hn]; decide
  have z7 : (((s.size : Nat) : Int) != 7) = true := by rw [hn]; decide
  have z9 : (((s.size : Nat) : Int) != 9) = false := by rw [hn]; decide
  have z0 : (((s[0].toNat : Nat) : Int) != 35) = true := by simp; omega
  go_enter Try.func32, Try.ntmps32
  go_wp2
  refine bodyPost_ret (v := .tuple #[pv 0 0 0 0, .int .i64 4]) (by simp [results, Try.results32, go_sem]) rfl ⟨rfl, ?_⟩
  exact (Below.refl _ _).alloc (Nat.le_refl _) _

set_option maxHeartbeats 2000000 in
theorem parse_yes4 (s : ByteArray) (w : World) (hn : s.size = 4) (h0 : s[0].toNat = 35) (hd : ∀ j (hj : j + 1 < s.size), 0 ≤ dg s[j + 1].toNat) :
    Calls Try.prog 32 #[.string s] w fun e w' => e = .returned (.tuple #[pD (dgs true ((s.data.toList.drop 1).take 3) ++ [15, 15]), .int .i64 0]) ∧ Below w.heap.size w w' := by
  have z4 : (((s.size : Nat) : Int) != 4) = false := by rw [hn]; decide
  have z0 : (((s[0].toNat : Nat) : Int) != 35) = false := by rw [h0]; decide
  go_enter Try.func32, Try.ntmps32
  go_wp2
  refine name1 (fun W k10 hb0 => ?_)
  have own0 : W.ownsRow (w.heap.size + 1) 3 1 (.slice none 0 0) 0 (iv []) := ⟨rfl, .inl ⟨rfl, rfl⟩⟩
  go_loopw [4, 32] (fun v i wr => ∃ k : Nat, k ≤ 3 ∧ i = .int .i64 k ∧ wr.ownsRow (w.heap.size + 1) 3 1 v (dgs true ((s.data.toList.drop 1).take k)).length (iv (dgs true ((s.data.toList.drop 1).take k))) ∧ Blk wr w.heap.size (.cells #[.int .i64 0, .int .i64 0, .int .i64 0, .int .i64 0] 23 (0, 0)) ∧ Below w.heap.size w wr) (fun _ i _ => 3 - (intOf i).toNat)
  case atStart => exact ⟨0, by omega, rfl, own0, k10, hb0⟩
  case round =>
    obtain ⟨k, hk, rfl, hown, k1, hb⟩ := hrel
    rename_i wr
    clear own0 k10 hb0
    by_cases hlt : k < 3
    · have hk1 := hd k (by omega)
      clear hd
      have HL := Lib.hid (dgs_step true s k (by omega))
      have hdl := dgs_length true ((s.data.toList.drop 1).take k)
      have hdl2 : ((s.data.toList.drop 1).take k).length ≤ 3 := by simp; omega
      have hlen : (dgs true ((s.data.toList.drop 1).take k)).length ≤ 6 := by rw [hdl]; simp; omega
      clear hdl hdl2
      generalize dgs true ((s.data.toList.drop 1).take k) = L at *
      have hbz := hb.size
      go_wp2_with fail
      refine (digit_yes _ _ (by omega) (by have := s[k + 1].toNat_lt; omega) hk1).mono ?_
      rintro e w' ⟨rfl, rfl⟩
      generalize hdd : dg s[k + 1].toNat = d at *
      have HD1 := Lib.hid hdd
      clear hdd
      obtain ⟨i0ca, hica, hz0ca, hz1ca, hz2ca⟩ := info_parts infoInt
      go_wp2_with (at_builtin; refine wpList_append_own _ rfl _ _ 43 rfl (w.heap.size + 1) 3 i0ca (.int .i64 0) 1 8 Try.underlying43 hica hz0ca hz1ca hz2ca rfl (by decide) _ _ _ rfl (hown.alloc _) ⟨World.heap wr |>.size, 0, none⟩ 1 1 [.int .i64 d] rfl rfl ?ca1 ?ca2 ?ca3 ?ca4 ?ca5 ?_)
      case ca1 => exact cell_one_new _ _ _
      case ca2 => simp [Value.oneCell']
      case ca3 => unfold maxLen; omega
      case ca4 => omega
      case ca5 => simp; omega
      intro vca wca ownca growca _
      have kca := (k1.alloc (.cells #[.int .i64 d] 3)).grown growca (fun h => by have := (hown.lt _ h).1; omega)
      have bca := (hb.alloc (by omega) (.cells #[.int .i64 d] 3)).grown growca (by simp; omega) (fun k hk => by have := (hown.lt k hk).1; omega)
      have zca := bca.size
      clear k1 hown growca hb
      obtain ⟨i0cb, hicb, hz0cb, hz1cb, hz2cb⟩ := info_parts infoInt
      go_wp2_with (at_builtin; refine wpList_append_own _ rfl _ _ 43 rfl (w.heap.size + 1) 3 i0cb (.int .i64 0) 1 8 Try.underlying43 hicb hz0cb hz1cb hz2cb rfl (by decide) _ _ _ rfl (ownca.alloc _) ⟨World.heap wca |>.size, 0, none⟩ 1 1 [.int .i64 d] rfl rfl ?cb1 ?cb2 ?cb3 ?cb4 ?cb5 ?_)
      case cb1 => exact cell_one_new _ _ _
      case cb2 => simp [Value.oneCell']
      case cb3 => unfold maxLen; omega
      case cb4 => omega
      case cb5 => simp; omega
      intro vcb wcb owncb growcb _
      have kcb := (kca.alloc (.cells #[.int .i64 d] 3)).grown growcb (fun h => by have := (ownca.lt _ h).1; omega)
      have bcb := (bca.alloc (by omega) (.cells #[.int .i64 d] 3)).grown growcb (by simp; omega) (fun k hk => by have := (ownca.lt k hk).1; omega)
      have zcb := bcb.size
      clear kca ownca growcb bca
      go_wp2
      refine ⟨⟨k + 1, by omega, by go_num, ?_, kcb, bcb⟩, by simp [intOf]; omega⟩
      rw [HL.out]
      simpa [iv] using owncb
    · obtain rfl : k = 3 := by omega
      clear hd
      have hdl := dgs_length true ((s.data.toList.drop 1).take 3)
      have hdl2 : ((s.data.toList.drop 1).take 3).length = 3 := by simp; have : s.size = s.data.size := rfl; omega
      rw [hdl2] at hdl
      have hdl3 : (dgs true ((s.data.toList.drop 1).take 3)).length = 6 := by rw [hdl]; rfl
      clear hdl hdl2
      generalize hLL : dgs true ((s.data.toList.drop 1).take 3) = L at hown hdl3
      rw [hdl3] at hown
      have HL := Lib.hid hLL
      have HD := Lib.hid hdl3
      clear hLL hdl3
      have hbz := hb.size
      obtain ⟨gg, cap, hv, _⟩ := ownsForm (n := 6) hown (by omega)
      subst hv
      obtain ⟨i0da, hida, hz0da, hz1da, hz2da⟩ := info_parts infoInt
      go_wp2_with (at_builtin; refine wpList_append_own _ rfl _ _ 43 rfl (w.heap.size + 1) 3 i0da (.int .i64 0) 1 8 Try.underlying43 hida hz0da hz1da hz2da rfl (by decide) _ _ _ rfl (hown.alloc _) ⟨World.heap wr |>.size, 0, none⟩ 2 2 [.int .i64 15, .int .i64 15] rfl rfl ?da1 ?da2 ?da3 ?da4 ?da5 ?_)
      case da1 => exact World.news_of_block (cs := #[.int .i64 15, .int .i64 15]) (t := 3) (fr := (0, 0)) (heap_alloc_new wr _)
      case da2 => simp [Value.oneCell']
      case da3 => unfold maxLen; omega
      case da4 => omega
      case da5 => simp; omega
      intro vda wda ownda growda _
      have kda := (k1.alloc (.cells #[.int .i64 15, .int .i64 15] 3)).grown growda (fun h => by have := (hown.lt _ h).1; omega)
      have bda := (hb.alloc (by omega) (.cells #[.int .i64 15, .int .i64 15] 3)).grown growda (by simp; omega) (fun k hk => by have := (hown.lt k hk).1; omega)
      have zda := bda.size
      clear k1 hown growda hb
      have own2 : wda.ownsRow (w.heap.size + 1) 3 1 vda 8 (iv (L ++ [15, 15])) := by simpa [iv] using ownda
      clear ownda
      obtain ⟨g2, cap2, hv, hg2, cur, kc, hcur⟩ := ownsInts own2 (by omega) (by simp [HD.out])
      subst hv
      clear own2
      have k2a := kda
      have b2a := bda
      clear kda bda
      generalize hDD : L ++ [15, 15] = D at hcur
      have hD : ∀ j, -1 ≤ D.getD j 0 ∧ D.getD j 0 ≤ 15 := fun j => by rw [← hDD, ← HL.out]; exact pad_bd _ (dgs_bd _ _) j
      have HDD := Lib.hid hDD
      clear hDD
      go_wp2_with fail
      refine name1 (fun W2 k30 hS2 => ?_)
      have k20 := k2a.kept hS2
      have kc0 := kc.kept hS2
      have hb0 := b2a.trans (hS2.mono b2a.size)
      have l1 := k2a.lt
      have l2 := kc.lt
      have l3 := b2a.size
      clear k2a kc b2a hS2
      generalize (World.heap wda).size = V at *
      go_loopw [64] (fun i wr => ∃ k : Nat, k ≤ 4 ∧ i = .int .i64 k ∧ Blk wr V (vObj D k) ∧ Blk wr w.heap.size (.cells #[.int .i64 0, .int .i64 0, .int .i64 0, .int .i64 0] 23 (0, 0)) ∧ Blk wr g2 (.cells cur 3 (0, 0)) ∧ Below w.heap.size w wr) (fun i _ => 4 - (intOf i).toNat)
      case atStart => exact ⟨0, by omega, rfl, k30, k20, kc0, hb0⟩
      case round =>
        obtain ⟨k, hk, rfl, k3, k2, kc, hb⟩ := hrel
        clear k30 k20 kc0 hb0
        obtain rfl | rfl | rfl | rfl | rfl : k = 0 ∨ k = 1 ∨ k = 2 ∨ k = 3 ∨ k = 4 := by omega
        · have hx := hD 0
          have hy := hD 1
          have hcx := hcur 0 (by omega)
          have hcy := hcur 1 (by omega)
          generalize hxx : D.getD 0 0 = x at hx hcx
          generalize hyy : D.getD 1 0 = y at hy hcy
          have HX := Lib.hid hxx
          have HY := Lib.hid hyy
          have HCX := Lib.hid hcx
          have HCY := Lib.hid hcy
          clear hxx hyy hcx hcy
          simp only [Int.cast_ofNat_Int]
          go_wp2_with fail
          have e1 : IntKind.i64.wrap (16 * x) = 16 * x := IntWalk.i64_in _ (by omega)
          have e2 : IntKind.i64.wrap (16 * x + y) = 16 * x + y := IntWalk.i64_in _ (by omega)
          have e3 : IntKind.i64.wrap 0 = 0 := IntWalk.i64_in _ (by omega)
          have e4 : IntKind.i64.wrap 1 = 1 := IntWalk.i64_in _ (by omega)
          have k3' : Blk wr V (.cells #[.int .i64 0, .int .i64 0, .int .i64 0, .int .i64 0] 47 (0, 0)) := k3
          refine wp_region_grow 16 (fun w' => Below (World.heap wr).size wr w') (by kernel_rfl) (by kernel_rfl) (Below.refl _ _).drew ?_
          simp only [List.take_succ_cons, List.take_zero, List.drop_succ_cons, List.drop_zero]
          repeat (first | (apply wpG_on; rfl; (intro w' hS K hK; have hc0 := (k3'.kept hS).c4; have hc1 := (k2.kept hS).c4; have hc2 := (kc.kept hS).kept0; have hr0 := cell_blk (kc.kept hS) HCX.out; have hr1 := cell_blk (kc.kept hS) HCY.out; go_simp; (first | exact hK.out _ hS | (go_at_call 28; (with_reducible refine (from8_any _ _).mono ?_); rintro e w'' ⟨rfl, rfl⟩; exact ⟨_, rfl, hK.out _ hS⟩))); simp only [Act.put, List.setIfInBounds_toArray, List.set_cons_succ, List.set_cons_zero]) | (apply wpG_off; rfl; simp only [Act.put, List.setIfInBounds_toArray, List.set_cons_succ, List.set_cons_zero]))
          apply wpG_nil
          intro W3 hS
          replace k3' := k3'.kept hS
          replace k2 := k2.kept hS
          replace kc := kc.kept hS
          replace hb := hb.trans (hS.mono hb.size)
          clear hS
          clear e1 e2 e3 e4
          have c3 := k3'.c4
          go_wp2
          have ch := chg_set k3' (.int .i64 (257 * min 255 (max (16 * x + y) 0))) (i := 0) (by simp)
          have hv : 257 * min 255 (max (16 * x + y) 0) = ch8 D 0 := by
            show _ = 257 * min 255 (max (16 * (D.getD 0 0) + D.getD 1 0) 0)
            rw [HX.out, HY.out]
          refine ⟨⟨1, by omega, rfl, ?_, ch.keeps _ _ (by omega) k2, ch.keeps _ _ (by omega) kc, hb.setCell (by simp; omega) _⟩, by simp [intOf]⟩
          rw [hv] at ch ⊢
          exact ch.blk
        · have hx := hD 2
          have hy := hD 3
          have hcx := hcur 2 (by omega)
          have hcy := hcur 3 (by omega)
          generalize hxx : D.getD 2 0 = x at hx hcx
          generalize hyy : D.getD 3 0 = y at hy hcy
          have HX := Lib.hid hxx
          have HY := Lib.hid hyy
          have HCX := Lib.hid hcx
          have HCY := Lib.hid hcy
          clear hxx hyy hcx hcy
          simp only [Int.cast_ofNat_Int]
          go_wp2_with fail
          have e1 : IntKind.i64.wrap (16 * x) = 16 * x := IntWalk.i64_in _ (by omega)
          have e2 : IntKind.i64.wrap (16 * x + y) = 16 * x + y := IntWalk.i64_in _ (by omega)
          have e3 : IntKind.i64.wrap 2 = 2 := IntWalk.i64_in _ (by omega)
          have e4 : IntKind.i64.wrap 3 = 3 := IntWalk.i64_in _ (by omega)
          have k3' : Blk wr V (.cells #[.int .i64 (ch8 D 0), .int .i64 0, .int .i64 0, .int .i64 0] 47 (0, 0)) := k3
          refine wp_region_grow 16 (fun w' => Below (World.heap wr).size wr w') (by kernel_rfl) (by kernel_rfl) (Below.refl _ _).drew ?_
          simp only [List.take_succ_cons, List.take_zero, List.drop_succ_cons, List.drop_zero]
          repeat (first | (apply wpG_on; rfl; (intro w' hS K hK; have hc0 := (k3'.kept hS).c4; have hc1 := (k2.kept hS).c4; have hc2 := (kc.kept hS).kept0; have hr0 := cell_blk (kc.kept hS) HCX.out; have hr1 := cell_blk (kc.kept hS) HCY.out; go_simp; (first | exact hK.out _ hS | (go_at_call 28; (with_reducible refine (from8_any _ _).mono ?_); rintro e w'' ⟨rfl, rfl⟩; exact ⟨_, rfl, hK.out _ hS⟩))); simp only [Act.put, List.setIfInBounds_toArray, List.set_cons_succ, List.set_cons_zero]) | (apply wpG_off; rfl; simp only [Act.put, List.setIfInBounds_toArray, List.set_cons_succ, List.set_cons_zero]))
          apply wpG_nil
          intro W3 hS
          replace k3' := k3'.kept hS
          replace k2 := k2.kept hS
          replace kc := kc.kept hS
          replace hb := hb.trans (hS.mono hb.size)
          clear hS
          clear e1 e2 e3 e4
          have c3 := k3'.c4
          go_wp2
          have ch := chg_set k3' (.int .i64 (257 * min 255 (max (16 * x + y) 0))) (i := 1) (by simp)
          have hv : 257 * min 255 (max (16 * x + y) 0) = ch8 D 1 := by
            show _ = 257 * min 255 (max (16 * (D.getD 2 0) + D.getD 3 0) 0)
            rw [HX.out, HY.out]
          refine ⟨⟨2, by omega, rfl, ?_, ch.keeps _ _ (by omega) k2, ch.keeps _ _ (by omega) kc, hb.setCell (by simp; omega) _⟩, by simp [intOf]⟩
          rw [hv] at ch ⊢
          exact ch.blk
        · have hx := hD 4
          have hy := hD 5
          have hcx := hcur 4 (by omega)
          have hcy := hcur 5 (by omega)
          generalize hxx : D.getD 4 0 = x at hx hcx
          generalize hyy : D.getD 5 0 = y at hy hcy
          have HX := Lib.hid hxx
          have HY := Lib.hid hyy
          have HCX := Lib.hid hcx
          have HCY := Lib.hid hcy
          clear hxx hyy hcx hcy
          simp only [Int.cast_ofNat_Int]
          go_wp2_with fail
          have e1 : IntKind.i64.wrap (16 * x) = 16 * x := IntWalk.i64_in _ (by omega)
          have e2 : IntKind.i64.wrap (16 * x + y) = 16 * x + y := IntWalk.i64_in _ (by omega)
          have e3 : IntKind.i64.wrap 4 = 4 := IntWalk.i64_in _ (by omega)
          have e4 : IntKind.i64.wrap 5 = 5 := IntWalk.i64_in _ (by omega)
          have k3' : Blk wr V (.cells #[.int .i64 (ch8 D 0), .int .i64 (ch8 D 1), .int .i64 0, .int .i64 0] 47 (0, 0)) := k3
          refine wp_region_grow 16 (fun w' => Below (World.heap wr).size wr w') (by kernel_rfl) (by kernel_rfl) (Below.refl _ _).drew ?_
          simp only [List.take_succ_cons, List.take_zero, List.drop_succ_cons, List.drop_zero]
          repeat (first | (apply wpG_on; rfl; (intro w' hS K hK; have hc0 := (k3'.kept hS).c4; have hc1 := (k2.kept hS).c4; have hc2 := (kc.kept hS).kept0; have hr0 := cell_blk (kc.kept hS) HCX.out; have hr1 := cell_blk (kc.kept hS) HCY.out; go_simp; (first | exact hK.out _ hS | (go_at_call 28; (with_reducible refine (from8_any _ _).mono ?_); rintro e w'' ⟨rfl, rfl⟩; exact ⟨_, rfl, hK.out _ hS⟩))); simp only [Act.put, List.setIfInBounds_toArray, List.set_cons_succ, List.set_cons_zero]) | (apply wpG_off; rfl; simp only [Act.put, List.setIfInBounds_toArray, List.set_cons_succ, List.set_cons_zero]))
          apply wpG_nil
          intro W3 hS
          replace k3' := k3'.kept hS
          replace k2 := k2.kept hS
          replace kc := kc.kept hS
          replace hb := hb.trans (hS.mono hb.size)
          clear hS
          clear e1 e2 e3 e4
          have c3 := k3'.c4
          go_wp2
          have ch := chg_set k3' (.int .i64 (257 * min 255 (max (16 * x + y) 0))) (i := 2) (by simp)
          have hv : 257 * min 255 (max (16 * x + y) 0) = ch8 D 2 := by
            show _ = 257 * min 255 (max (16 * (D.getD 4 0) + D.getD 5 0) 0)
            rw [HX.out, HY.out]
          refine ⟨⟨3, by omega, rfl, ?_, ch.keeps _ _ (by omega) k2, ch.keeps _ _ (by omega) kc, hb.setCell (by simp; omega) _⟩, by simp [intOf]⟩
          rw [hv] at ch ⊢
          exact ch.blk
        · have hx := hD 6
          have hy := hD 7
          have hcx := hcur 6 (by omega)
          have hcy := hcur 7 (by omega)
          generalize hxx : D.getD 6 0 = x at hx hcx
          generalize hyy : D.getD 7 0 = y at hy hcy
          have HX := Lib.hid hxx
          have HY := Lib.hid hyy
          have HCX := Lib.hid hcx
          have HCY := Lib.hid hcy
          clear hxx hyy hcx hcy
          simp only [Int.cast_ofNat_Int]
          go_wp2_with fail
          have e1 : IntKind.i64.wrap (16 * x) = 16 * x := IntWalk.i64_in _ (by omega)
          have e2 : IntKind.i64.wrap (16 * x + y) = 16 * x + y := IntWalk.i64_in _ (by omega)
          have e3 : IntKind.i64.wrap 6 = 6 := IntWalk.i64_in _ (by omega)
          have e4 : IntKind.i64.wrap 7 = 7 := IntWalk.i64_in _ (by omega)
          have k3' : Blk wr V (.cells #[.int .i64 (ch8 D 0), .int .i64 (ch8 D 1), .int .i64 (ch8 D 2), .int .i64 0] 47 (0, 0)) := k3
          refine wp_region_grow 16 (fun w' => Below (World.heap wr).size wr w') (by kernel_rfl) (by kernel_rfl) (Below.refl _ _).drew ?_
          simp only [List.take_succ_cons, List.take_zero, List.drop_succ_cons, List.drop_zero]
          repeat (first | (apply wpG_on; rfl; (intro w' hS K hK; have hc0 := (k3'.kept hS).c4; have hc1 := (k2.kept hS).c4; have hc2 := (kc.kept hS).kept0; have hr0 := cell_blk (kc.kept hS) HCX.out; have hr1 := cell_blk (kc.kept hS) HCY.out; go_simp; (first | exact hK.out _ hS | (go_at_call 28; (with_reducible refine (from8_any _ _).mono ?_); rintro e w'' ⟨rfl, rfl⟩; exact ⟨_, rfl, hK.out _ hS⟩))); simp only [Act.put, List.setIfInBounds_toArray, List.set_cons_succ, List.set_cons_zero]) | (apply wpG_off; rfl; simp only [Act.put, List.setIfInBounds_toArray, List.set_cons_succ, List.set_cons_zero]))
          apply wpG_nil
          intro W3 hS
          replace k3' := k3'.kept hS
          replace k2 := k2.kept hS
          replace kc := kc.kept hS
          replace hb := hb.trans (hS.mono hb.size)
          clear hS
          clear e1 e2 e3 e4
          have c3 := k3'.c4
          go_wp2
          have ch := chg_set k3' (.int .i64 (257 * min 255 (max (16 * x + y) 0))) (i := 3) (by simp)
          have hv : 257 * min 255 (max (16 * x + y) 0) = ch8 D 3 := by
            show _ = 257 * min 255 (max (16 * (D.getD 6 0) + D.getD 7 0) 0)
            rw [HX.out, HY.out]
          refine ⟨⟨4, by omega, rfl, ?_, ch.keeps _ _ (by omega) k2, ch.keeps _ _ (by omega) kc, hb.setCell (by simp; omega) _⟩, by simp [intOf]⟩
          rw [hv] at ch ⊢
          exact ch.blk
        · have k3' : Blk wr V (.cells #[.int .i64 (ch8 D 0), .int .i64 (ch8 D 1), .int .i64 (ch8 D 2), .int .i64 (ch8 D 3)] 47 (0, 0)) := k3
          have c3 := k3'.c4
          have c2 := k2.c4
          go_wp2_with fail
          refine bodyPost_ret (v := .tuple #[pv (ch8 D 0) (ch8 D 1) (ch8 D 2) (ch8 D 3), .int .i64 0]) (by simp [results, Try.results32, go_sem, c2]) rfl ⟨?_, below4 hb (Nat.le_refl _) _ _ _ _⟩
          rw [HL.out, HDD.out]
          rfl

set_option maxHeartbeats 2000000 in
theorem parse_yes7 (s : ByteArray) (w : World) (hn : s.size = 7) (h0 : s[0].toNat = 35) (hd : ∀ j (hj : j + 1 < s.size), 0 ≤ dg s[j + 1].toNat) :
    Calls Try.prog 32 #[.string s] w fun e w' => e = .returned (.tuple #[pD (dgs false ((s.data.toList.drop 1).take 6) ++ [15, 15]), .int .i64 0]) ∧ Below w.heap.size w w' := by
  have z4 : (((s.size : Nat) : Int) != 4) = true := by rw [hn]; decide
  have z7 : (((s.size : Nat) : Int) != 7) = false := by rw [hn]; decide
  have z0 : (((s[0].toNat : Nat) : Int) != 35) = false := by rw [h0]; decide
  go_enter Try.func32, Try.ntmps32
  go_wp2
  refine name1 (fun W k10 hb0 => ?_)
  have own0 : W.ownsRow (w.heap.size + 1) 3 1 (.slice none 0 0) 0 (iv []) := ⟨rfl, .inl ⟨rfl, rfl⟩⟩
  go_loopw [4, 32] (fun v i wr => ∃ k : Nat, k ≤ 6 ∧ i = .int .i64 k ∧ wr.ownsRow (w.heap.size + 1) 3 1 v (dgs false ((s.data.toList.drop 1).take k)).length (iv (dgs false ((s.data.toList.drop 1).take k))) ∧ Blk wr w.heap.size (.cells #[.int .i64 0, .int .i64 0, .int .i64 0, .int .i64 0] 23 (0, 0)) ∧ Below w.heap.size w wr) (fun _ i _ => 6 - (intOf i).toNat)
  case atStart => exact ⟨0, by omega, rfl, own0, k10, hb0⟩
  case round =>
    obtain ⟨k, hk, rfl, hown, k1, hb⟩ := hrel
    rename_i wr
    clear own0 k10 hb0
    by_cases hlt : k < 6
    · have hk1 := hd k (by omega)
      clear hd
      have HL := Lib.hid (dgs_step false s k (by omega))
      have hdl := dgs_length false ((s.data.toList.drop 1).take k)
      have hdl2 : ((s.data.toList.drop 1).take k).length ≤ 6 := by simp; omega
      have hlen : (dgs false ((s.data.toList.drop 1).take k)).length ≤ 6 := by rw [hdl]; simp; omega
      clear hdl hdl2
      generalize dgs false ((s.data.toList.drop 1).take k) = L at *
      have hbz := hb.size
      go_wp2_with fail
      refine (digit_yes _ _ (by omega) (by have := s[k + 1].toNat_lt; omega) hk1).mono ?_
      rintro e w' ⟨rfl, rfl⟩
      generalize hdd : dg s[k + 1].toNat = d at *
      have HD1 := Lib.hid hdd
      clear hdd
      obtain ⟨i0ca, hica, hz0ca, hz1ca, hz2ca⟩ := info_parts infoInt
      go_wp2_with (at_builtin; refine wpList_append_own _ rfl _ _ 43 rfl (w.heap.size + 1) 3 i0ca (.int .i64 0) 1 8 Try.underlying43 hica hz0ca hz1ca hz2ca rfl (by decide) _ _ _ rfl (hown.alloc _) ⟨World.heap wr |>.size, 0, none⟩ 1 1 [.int .i64 d] rfl rfl ?ca1 ?ca2 ?ca3 ?ca4 ?ca5 ?_)
      case ca1 => exact cell_one_new _ _ _
      case ca2 => simp [Value.oneCell']
      case ca3 => unfold maxLen; omega
      case ca4 => omega
      case ca5 => simp; omega
      intro vca wca ownca growca _
      have kca := (k1.alloc (.cells #[.int .i64 d] 3)).grown growca (fun h => by have := (hown.lt _ h).1; omega)
      have bca := (hb.alloc (by omega) (.cells #[.int .i64 d] 3)).grown growca (by simp; omega) (fun k hk => by have := (hown.lt k hk).1; omega)
      have zca := bca.size
      clear k1 hown growca hb
      go_wp2
      refine ⟨⟨k + 1, by omega, by go_num, ?_, kca, bca⟩, by simp [intOf]; omega⟩
      rw [HL.out]
      simpa [iv] using ownca
    · obtain rfl : k = 6 := by omega
      clear hd
      have hdl := dgs_length false ((s.data.toList.drop 1).take 6)
      have hdl2 : ((s.data.toList.drop 1).take 6).length = 6 := by simp; have : s.size = s.data.size := rfl; omega
      rw [hdl2] at hdl
      have hdl3 : (dgs false ((s.data.toList.drop 1).take 6)).length = 6 := by rw [hdl]; rfl
      clear hdl hdl2
      generalize hLL : dgs false ((s.data.toList.drop 1).take 6) = L at hown hdl3
      rw [hdl3] at hown
      have HL := Lib.hid hLL
      have HD := Lib.hid hdl3
      clear hLL hdl3
      have hbz := hb.size
      obtain ⟨gg, cap, hv, _⟩ := ownsForm (n := 6) hown (by omega)
      subst hv
      obtain ⟨i0da, hida, hz0da, hz1da, hz2da⟩ := info_parts infoInt
      go_wp2_with (at_builtin; refine wpList_append_own _ rfl _ _ 43 rfl (w.heap.size + 1) 3 i0da (.int .i64 0) 1 8 Try.underlying43 hida hz0da hz1da hz2da rfl (by decide) _ _ _ rfl (hown.alloc _) ⟨World.heap wr |>.size, 0, none⟩ 2 2 [.int .i64 15, .int .i64 15] rfl rfl ?da1 ?da2 ?da3 ?da4 ?da5 ?_)
      case da1 => exact World.news_of_block (cs := #[.int .i64 15, .int .i64 15]) (t := 3) (fr := (0, 0)) (heap_alloc_new wr _)
      case da2 => simp [Value.oneCell']
      case da3 => unfold maxLen; omega
      case da4 => omega
      case da5 => simp; omega
      intro vda wda ownda growda _
      have kda := (k1.alloc (.cells #[.int .i64 15, .int .i64 15] 3)).grown growda (fun h => by have := (hown.lt _ h).1; omega)
      have bda := (hb.alloc (by omega) (.cells #[.int .i64 15, .int .i64 15] 3)).grown growda (by simp; omega) (fun k hk => by have := (hown.lt k hk).1; omega)
      have zda := bda.size
      clear k1 hown growda hb
      have own2 : wda.ownsRow (w.heap.size + 1) 3 1 vda 8 (iv (L ++ [15, 15])) := by simpa [iv] using ownda
      clear ownda
      obtain ⟨g2, cap2, hv, hg2, cur, kc, hcur⟩ := ownsInts own2 (by omega) (by simp [HD.out])
      subst hv
      clear own2
      have k2a := kda
      have b2a := bda
      clear kda bda
      generalize hDD : L ++ [15, 15] = D at hcur
      have hD : ∀ j, -1 ≤ D.getD j 0 ∧ D.getD j 0 ≤ 15 := fun j => by rw [← hDD, ← HL.out]; exact pad_bd _ (dgs_bd _ _) j
      have HDD := Lib.hid hDD
      clear hDD
      go_wp2_with fail
      refine name1 (fun W2 k30 hS2 => ?_)
      have k20 := k2a.kept hS2
      have kc0 := kc.kept hS2
      have hb0 := b2a.trans (hS2.mono b2a.size)
      have l1 := k2a.lt
      have l2 := kc.lt
      have l3 := b2a.size
      clear k2a kc b2a hS2
      generalize (World.heap wda).size = V at *
      go_loopw [64] (fun i wr => ∃ k : Nat, k ≤ 4 ∧ i = .int .i64 k ∧ Blk wr V (vObj D k) ∧ Blk wr w.heap.size (.cells #[.int .i64 0, .int .i64 0, .int .i64 0, .int .i64 0] 23 (0, 0)) ∧ Blk wr g2 (.cells cur 3 (0, 0)) ∧ Below w.heap.size w wr) (fun i _ => 4 - (intOf i).toNat)
      case atStart => exact ⟨0, by omega, rfl, k30, k20, kc0, hb0⟩
      case round =>
        obtain ⟨k, hk, rfl, k3, k2, kc, hb⟩ := hrel
        clear k30 k20 kc0 hb0
        obtain rfl | rfl | rfl | rfl | rfl : k = 0 ∨ k = 1 ∨ k = 2 ∨ k = 3 ∨ k = 4 := by omega
        · have hx := hD 0
          have hy := hD 1
          have hcx := hcur 0 (by omega)
          have hcy := hcur 1 (by omega)
          generalize hxx : D.getD 0 0 = x at hx hcx
          generalize hyy : D.getD 1 0 = y at hy hcy
          have HX := Lib.hid hxx
          have HY := Lib.hid hyy
          have HCX := Lib.hid hcx
          have HCY := Lib.hid hcy
          clear hxx hyy hcx hcy
          simp only [Int.cast_ofNat_Int]
          go_wp2_with fail
          have e1 : IntKind.i64.wrap (16 * x) = 16 * x := IntWalk.i64_in _ (by omega)
          have e2 : IntKind.i64.wrap (16 * x + y) = 16 * x + y := IntWalk.i64_in _ (by omega)
          have e3 : IntKind.i64.wrap 0 = 0 := IntWalk.i64_in _ (by omega)
          have e4 : IntKind.i64.wrap 1 = 1 := IntWalk.i64_in _ (by omega)
          have k3' : Blk wr V (.cells #[.int .i64 0, .int .i64 0, .int .i64 0, .int .i64 0] 47 (0, 0)) := k3
          refine wp_region_grow 16 (fun w' => Below (World.heap wr).size wr w') (by kernel_rfl) (by kernel_rfl) (Below.refl _ _).drew ?_
          simp only [List.take_succ_cons, List.take_zero, List.drop_succ_cons, List.drop_zero]
          repeat (first | (apply wpG_on; rfl; (intro w' hS K hK; have hc0 := (k3'.kept hS).c4; have hc1 := (k2.kept hS).c4; have hc2 := (kc.kept hS).kept0; have hr0 := cell_blk (kc.kept hS) HCX.out; have hr1 := cell_blk (kc.kept hS) HCY.out; go_simp; (first | exact hK.out _ hS | (go_at_call 28; (with_reducible refine (from8_any _ _).mono ?_); rintro e w'' ⟨rfl, rfl⟩; exact ⟨_, rfl, hK.out _ hS⟩))); simp only [Act.put, List.setIfInBounds_toArray, List.set_cons_succ, List.set_cons_zero]) | (apply wpG_off; rfl; simp only [Act.put, List.setIfInBounds_toArray, List.set_cons_succ, List.set_cons_zero]))
          apply wpG_nil
          intro W3 hS
          replace k3' := k3'.kept hS
          replace k2 := k2.kept hS
          replace kc := kc.kept hS
          replace hb := hb.trans (hS.mono hb.size)
          clear hS
          clear e1 e2 e3 e4
          have c3 := k3'.c4
          go_wp2
          have ch := chg_set k3' (.int .i64 (257 * min 255 (max (16 * x + y) 0))) (i := 0) (by simp)
          have hv : 257 * min 255 (max (16 * x + y) 0) = ch8 D 0 := by
            show _ = 257 * min 255 (max (16 * (D.getD 0 0) + D.getD 1 0) 0)
            rw [HX.out, HY.out]
          refine ⟨⟨1, by omega, rfl, ?_, ch.keeps _ _ (by omega) k2, ch.keeps _ _ (by omega) kc, hb.setCell (by simp; omega) _⟩, by simp [intOf]⟩
          rw [hv] at ch ⊢
          exact ch.blk
        · have hx := hD 2
          have hy := hD 3
          have hcx := hcur 2 (by omega)
          have hcy := hcur 3 (by omega)
          generalize hxx : D.getD 2 0 = x at hx hcx
          generalize hyy : D.getD 3 0 = y at hy hcy
          have HX := Lib.hid hxx
          have HY := Lib.hid hyy
          have HCX := Lib.hid hcx
          have HCY := Lib.hid hcy
          clear hxx hyy hcx hcy
          simp only [Int.cast_ofNat_Int]
          go_wp2_with fail
          have e1 : IntKind.i64.wrap (16 * x) = 16 * x := IntWalk.i64_in _ (by omega)
          have e2 : IntKind.i64.wrap (16 * x + y) = 16 * x + y := IntWalk.i64_in _ (by omega)
          have e3 : IntKind.i64.wrap 2 = 2 := IntWalk.i64_in _ (by omega)
          have e4 : IntKind.i64.wrap 3 = 3 := IntWalk.i64_in _ (by omega)
          have k3' : Blk wr V (.cells #[.int .i64 (ch8 D 0), .int .i64 0, .int .i64 0, .int .i64 0] 47 (0, 0)) := k3
          refine wp_region_grow 16 (fun w' => Below (World.heap wr).size wr w') (by kernel_rfl) (by kernel_rfl) (Below.refl _ _).drew ?_
          simp only [List.take_succ_cons, List.take_zero, List.drop_succ_cons, List.drop_zero]
          repeat (first | (apply wpG_on; rfl; (intro w' hS K hK; have hc0 := (k3'.kept hS).c4; have hc1 := (k2.kept hS).c4; have hc2 := (kc.kept hS).kept0; have hr0 := cell_blk (kc.kept hS) HCX.out; have hr1 := cell_blk (kc.kept hS) HCY.out; go_simp; (first | exact hK.out _ hS | (go_at_call 28; (with_reducible refine (from8_any _ _).mono ?_); rintro e w'' ⟨rfl, rfl⟩; exact ⟨_, rfl, hK.out _ hS⟩))); simp only [Act.put, List.setIfInBounds_toArray, List.set_cons_succ, List.set_cons_zero]) | (apply wpG_off; rfl; simp only [Act.put, List.setIfInBounds_toArray, List.set_cons_succ, List.set_cons_zero]))
          apply wpG_nil
          intro W3 hS
          replace k3' := k3'.kept hS
          replace k2 := k2.kept hS
          replace kc := kc.kept hS
          replace hb := hb.trans (hS.mono hb.size)
          clear hS
          clear e1 e2 e3 e4
          have c3 := k3'.c4
          go_wp2
          have ch := chg_set k3' (.int .i64 (257 * min 255 (max (16 * x + y) 0))) (i := 1) (by simp)
          have hv : 257 * min 255 (max (16 * x + y) 0) = ch8 D 1 := by
            show _ = 257 * min 255 (max (16 * (D.getD 2 0) + D.getD 3 0) 0)
            rw [HX.out, HY.out]
          refine ⟨⟨2, by omega, rfl, ?_, ch.keeps _ _ (by omega) k2, ch.keeps _ _ (by omega) kc, hb.setCell (by simp; omega) _⟩, by simp [intOf]⟩
          rw [hv] at ch ⊢
          exact ch.blk
        · have hx := hD 4
          have hy := hD 5
          have hcx := hcur 4 (by omega)
          have hcy := hcur 5 (by omega)
          generalize hxx : D.getD 4 0 = x at hx hcx
          generalize hyy : D.getD 5 0 = y at hy hcy
          have HX := Lib.hid hxx
          have HY := Lib.hid hyy
          have HCX := Lib.hid hcx
          have HCY := Lib.hid hcy
          clear hxx hyy hcx hcy
          simp only [Int.cast_ofNat_Int]
          go_wp2_with fail
          have e1 : IntKind.i64.wrap (16 * x) = 16 * x := IntWalk.i64_in _ (by omega)
          have e2 : IntKind.i64.wrap (16 * x + y) = 16 * x + y := IntWalk.i64_in _ (by omega)
          have e3 : IntKind.i64.wrap 4 = 4 := IntWalk.i64_in _ (by omega)
          have e4 : IntKind.i64.wrap 5 = 5 := IntWalk.i64_in _ (by omega)
          have k3' : Blk wr V (.cells #[.int .i64 (ch8 D 0), .int .i64 (ch8 D 1), .int .i64 0, .int .i64 0] 47 (0, 0)) := k3
          refine wp_region_grow 16 (fun w' => Below (World.heap wr).size wr w') (by kernel_rfl) (by kernel_rfl) (Below.refl _ _).drew ?_
          simp only [List.take_succ_cons, List.take_zero, List.drop_succ_cons, List.drop_zero]
          repeat (first | (apply wpG_on; rfl; (intro w' hS K hK; have hc0 := (k3'.kept hS).c4; have hc1 := (k2.kept hS).c4; have hc2 := (kc.kept hS).kept0; have hr0 := cell_blk (kc.kept hS) HCX.out; have hr1 := cell_blk (kc.kept hS) HCY.out; go_simp; (first | exact hK.out _ hS | (go_at_call 28; (with_reducible refine (from8_any _ _).mono ?_); rintro e w'' ⟨rfl, rfl⟩; exact ⟨_, rfl, hK.out _ hS⟩))); simp only [Act.put, List.setIfInBounds_toArray, List.set_cons_succ, List.set_cons_zero]) | (apply wpG_off; rfl; simp only [Act.put, List.setIfInBounds_toArray, List.set_cons_succ, List.set_cons_zero]))
          apply wpG_nil
          intro W3 hS
          replace k3' := k3'.kept hS
          replace k2 := k2.kept hS
          replace kc := kc.kept hS
          replace hb := hb.trans (hS.mono hb.size)
          clear hS
          clear e1 e2 e3 e4
          have c3 := k3'.c4
          go_wp2
          have ch := chg_set k3' (.int .i64 (257 * min 255 (max (16 * x + y) 0))) (i := 2) (by simp)
          have hv : 257 * min 255 (max (16 * x + y) 0) = ch8 D 2 := by
            show _ = 257 * min 255 (max (16 * (D.getD 4 0) + D.getD 5 0) 0)
            rw [HX.out, HY.out]
          refine ⟨⟨3, by omega, rfl, ?_, ch.keeps _ _ (by omega) k2, ch.keeps _ _ (by omega) kc, hb.setCell (by simp; omega) _⟩, by simp [intOf]⟩
          rw [hv] at ch ⊢
          exact ch.blk
        · have hx := hD 6
          have hy := hD 7
          have hcx := hcur 6 (by omega)
          have hcy := hcur 7 (by omega)
          generalize hxx : D.getD 6 0 = x at hx hcx
          generalize hyy : D.getD 7 0 = y at hy hcy
          have HX := Lib.hid hxx
          have HY := Lib.hid hyy
          have HCX := Lib.hid hcx
          have HCY := Lib.hid hcy
          clear hxx hyy hcx hcy
          simp only [Int.cast_ofNat_Int]
          go_wp2_with fail
          have e1 : IntKind.i64.wrap (16 * x) = 16 * x := IntWalk.i64_in _ (by omega)
          have e2 : IntKind.i64.wrap (16 * x + y) = 16 * x + y := IntWalk.i64_in _ (by omega)
          have e3 : IntKind.i64.wrap 6 = 6 := IntWalk.i64_in _ (by omega)
          have e4 : IntKind.i64.wrap 7 = 7 := IntWalk.i64_in _ (by omega)
          have k3' : Blk wr V (.cells #[.int .i64 (ch8 D 0), .int .i64 (ch8 D 1), .int .i64 (ch8 D 2), .int .i64 0] 47 (0, 0)) := k3
          refine wp_region_grow 16 (fun w' => Below (World.heap wr).size wr w') (by kernel_rfl) (by kernel_rfl) (Below.refl _ _).drew ?_
          simp only [List.take_succ_cons, List.take_zero, List.drop_succ_cons, List.drop_zero]
          repeat (first | (apply wpG_on; rfl; (intro w' hS K hK; have hc0 := (k3'.kept hS).c4; have hc1 := (k2.kept hS).c4; have hc2 := (kc.kept hS).kept0; have hr0 := cell_blk (kc.kept hS) HCX.out; have hr1 := cell_blk (kc.kept hS) HCY.out; go_simp; (first | exact hK.out _ hS | (go_at_call 28; (with_reducible refine (from8_any _ _).mono ?_); rintro e w'' ⟨rfl, rfl⟩; exact ⟨_, rfl, hK.out _ hS⟩))); simp only [Act.put, List.setIfInBounds_toArray, List.set_cons_succ, List.set_cons_zero]) | (apply wpG_off; rfl; simp only [Act.put, List.setIfInBounds_toArray, List.set_cons_succ, List.set_cons_zero]))
          apply wpG_nil
          intro W3 hS
          replace k3' := k3'.kept hS
          replace k2 := k2.kept hS
          replace kc := kc.kept hS
          replace hb := hb.trans (hS.mono hb.size)
          clear hS
          clear e1 e2 e3 e4
          have c3 := k3'.c4
          go_wp2
          have ch := chg_set k3' (.int .i64 (257 * min 255 (max (16 * x + y) 0))) (i := 3) (by simp)
          have hv : 257 * min 255 (max (16 * x + y) 0) = ch8 D 3 := by
            show _ = 257 * min 255 (max (16 * (D.getD 6 0) + D.getD 7 0) 0)
            rw [HX.out, HY.out]
          refine ⟨⟨4, by omega, rfl, ?_, ch.keeps _ _ (by omega) k2, ch.keeps _ _ (by omega) kc, hb.setCell (by simp; omega) _⟩, by simp [intOf]⟩
          rw [hv] at ch ⊢
          exact ch.blk
        · have k3' : Blk wr V (.cells #[.int .i64 (ch8 D 0), .int .i64 (ch8 D 1), .int .i64 (ch8 D 2), .int .i64 (ch8 D 3)] 47 (0, 0)) := k3
          have c3 := k3'.c4
          have c2 := k2.c4
          go_wp2_with fail
          refine bodyPost_ret (v := .tuple #[pv (ch8 D 0) (ch8 D 1) (ch8 D 2) (ch8 D 3), .int .i64 0]) (by simp [results, Try.results32, go_sem, c2]) rfl ⟨?_, below4 hb (Nat.le_refl _) _ _ _ _⟩
          rw [HL.out, HDD.out]
          rfl

set_option maxHeartbeats 2000000 in
theorem parse_yes9 (s : ByteArray) (w : World) (hn : s.size = 9) (h0 : s[0].toNat = 35) (hd : ∀ j (hj : j + 1 < s.size), 0 ≤ dg s[j + 1].toNat) :
    Calls Try.prog 32 #[.string s] w fun e w' => e = .returned (.tuple #[pD (dgs false ((s.data.toList.drop 1).take 8)), .int .i64 0]) ∧ Below w.heap.size w w' := by
  have z4 : (((s.size : Nat) : Int) != 4) = true := by rw [hn]; decide
  have z7 : (((s.size : Nat) : Int) != 7) = true := by rw [hn]; decide
  have z9 : (((s.size : Nat) : Int) != 9) = false := by rw [hn]; decide
  have z0 : (((s[0].toNat : Nat) : Int) != 35) = false := by rw [h0]; decide
  go_enter Try.func32, Try.ntmps32
  go_wp2
  refine name1 (fun W k10 hb0 => ?_)
  have own0 : W.ownsRow (w.heap.size + 1) 3 1 (.slice none 0 0) 0 (iv []) := ⟨rfl, .inl ⟨rfl, rfl⟩⟩
  go_loopw [4, 32] (fun v i wr => ∃ k : Nat, k ≤ 8 ∧ i = .int .i64 k ∧ wr.ownsRow (w.heap.size + 1) 3 1 v (dgs false ((s.data.toList.drop 1).take k)).length (iv (dgs false ((s.data.toList.drop 1).take k))) ∧ Blk wr w.heap.size (.cells #[.int .i64 0, .int .i64 0, .int .i64 0, .int .i64 0] 23 (0, 0)) ∧ Below w.heap.size w wr) (fun _ i _ => 8 - (intOf i).toNat)
  case atStart => exact ⟨0, by omega, rfl, own0, k10, hb0⟩
  case round =>
    obtain ⟨k, hk, rfl, hown, k1, hb⟩ := hrel
    rename_i wr
    clear own0 k10 hb0
    by_cases hlt : k < 8
    · have hk1 := hd k (by omega)
      clear hd
      have HL := Lib.hid (dgs_step false s k (by omega))
      have hdl := dgs_length false ((s.data.toList.drop 1).take k)
      have hdl2 : ((s.data.toList.drop 1).take k).length ≤ 8 := by simp; omega
      have hlen : (dgs false ((s.data.toList.drop 1).take k)).length ≤ 8 := by rw [hdl]; simp; omega
      clear hdl hdl2
      generalize dgs false ((s.data.toList.drop 1).take k) = L at *
      have hbz := hb.size
      go_wp2_with fail
      refine (digit_yes _ _ (by omega) (by have := s[k + 1].toNat_lt; omega) hk1).mono ?_
      rintro e w' ⟨rfl, rfl⟩
      generalize hdd : dg s[k + 1].toNat = d at *
      have HD1 := Lib.hid hdd
      clear hdd
      obtain ⟨i0ca, hica, hz0ca, hz1ca, hz2ca⟩ := info_parts infoInt
      go_wp2_with (at_builtin; refine wpList_append_own _ rfl _ _ 43 rfl (w.heap.size + 1) 3 i0ca (.int .i64 0) 1 8 Try.underlying43 hica hz0ca hz1ca hz2ca rfl (by decide) _ _ _ rfl (hown.alloc _) ⟨World.heap wr |>.size, 0, none⟩ 1 1 [.int .i64 d] rfl rfl ?ca1 ?ca2 ?ca3 ?ca4 ?ca5 ?_)
      case ca1 => exact cell_one_new _ _ _
      case ca2 => simp [Value.oneCell']
      case ca3 => unfold maxLen; omega
      case ca4 => omega
      case ca5 => simp; omega
      intro vca wca ownca growca _
      have kca := (k1.alloc (.cells #[.int .i64 d] 3)).grown growca (fun h => by have := (hown.lt _ h).1; omega)
      have bca := (hb.alloc (by omega) (.cells #[.int .i64 d] 3)).grown growca (by simp; omega) (fun k hk => by have := (hown.lt k hk).1; omega)
      have zca := bca.size
      clear k1 hown growca hb
      go_wp2
      refine ⟨⟨k + 1, by omega, by go_num, ?_, kca, bca⟩, by simp [intOf]; omega⟩
      rw [HL.out]
      simpa [iv] using ownca
    · obtain rfl : k = 8 := by omega
      clear hd
      have hdl := dgs_length false ((s.data.toList.drop 1).take 8)
      have hdl2 : ((s.data.toList.drop 1).take 8).length = 8 := by simp; have : s.size = s.data.size := rfl; omega
      rw [hdl2] at hdl
      have hdl3 : (dgs false ((s.data.toList.drop 1).take 8)).length = 8 := by rw [hdl]; rfl
      clear hdl hdl2
      generalize hLL : dgs false ((s.data.toList.drop 1).take 8) = L at hown hdl3
      rw [hdl3] at hown
      have HL := Lib.hid hLL
      have HD := Lib.hid hdl3
      clear hLL hdl3
      have hbz := hb.size
      have own2 : wr.ownsRow (w.heap.size + 1) 3 1 _ 8 (iv L) := hown
      clear hown
      obtain ⟨g2, cap2, hv, hg2, cur, kc, hcur⟩ := ownsInts own2 (by omega) HD.out
      subst hv
      clear own2
      have k2a := k1
      have b2a := hb
      clear k1 hb
      have hD : ∀ j, -1 ≤ L.getD j 0 ∧ L.getD j 0 ≤ 15 := fun j => by rw [← HL.out]; exact nopad_bd _ (dgs_bd _ _) j
      generalize hDD : L = D at hcur hD
      have HDD := Lib.hid hDD
      clear hDD
      go_wp2_with fail
      refine name1 (fun W2 k30 hS2 => ?_)
      have k20 := k2a.kept hS2
      have kc0 := kc.kept hS2
      have hb0 := b2a.trans (hS2.mono b2a.size)
      have l1 := k2a.lt
      have l2 := kc.lt
      have l3 := b2a.size
      clear k2a kc b2a hS2
      generalize (World.heap wr).size = V at *
      go_loopw [64] (fun i wr => ∃ k : Nat, k ≤ 4 ∧ i = .int .i64 k ∧ Blk wr V (vObj D k) ∧ Blk wr w.heap.size (.cells #[.int .i64 0, .int .i64 0, .int .i64 0, .int .i64 0] 23 (0, 0)) ∧ Blk wr g2 (.cells cur 3 (0, 0)) ∧ Below w.heap.size w wr) (fun i _ => 4 - (intOf i).toNat)
      case atStart => exact ⟨0, by omega, rfl, k30, k20, kc0, hb0⟩
      case round =>
        obtain ⟨k, hk, rfl, k3, k2, kc, hb⟩ := hrel
        clear k30 k20 kc0 hb0
        obtain rfl | rfl | rfl | rfl | rfl : k = 0 ∨ k = 1 ∨ k = 2 ∨ k = 3 ∨ k = 4 := by omega
        · have hx := hD 0
          have hy := hD 1
          have hcx := hcur 0 (by omega)
          have hcy := hcur 1 (by omega)
          generalize hxx : D.getD 0 0 = x at hx hcx
          generalize hyy : D.getD 1 0 = y at hy hcy
          have HX := Lib.hid hxx
          have HY := Lib.hid hyy
          have HCX := Lib.hid hcx
          have HCY := Lib.hid hcy
          clear hxx hyy hcx hcy
          simp only [Int.cast_ofNat_Int]
          go_wp2_with fail
          have e1 : IntKind.i64.wrap (16 * x) = 16 * x := IntWalk.i64_in _ (by omega)
          have e2 : IntKind.i64.wrap (16 * x + y) = 16 * x + y := IntWalk.i64_in _ (by omega)
          have e3 : IntKind.i64.wrap 0 = 0 := IntWalk.i64_in _ (by omega)
          have e4 : IntKind.i64.wrap 1 = 1 := IntWalk.i64_in _ (by omega)
          have k3' : Blk wr V (.cells #[.int .i64 0, .int .i64 0, .int .i64 0, .int .i64 0] 47 (0, 0)) := k3
          refine wp_region_grow 16 (fun w' => Below (World.heap wr).size wr w') (by kernel_rfl) (by kernel_rfl) (Below.refl _ _).drew ?_
          simp only [List.take_succ_cons, List.take_zero, List.drop_succ_cons, List.drop_zero]
          repeat (first | (apply wpG_on; rfl; (intro w' hS K hK; have hc0 := (k3'.kept hS).c4; have hc1 := (k2.kept hS).c4; have hc2 := (kc.kept hS).kept0; have hr0 := cell_blk (kc.kept hS) HCX.out; have hr1 := cell_blk (kc.kept hS) HCY.out; go_simp; (first | exact hK.out _ hS | (go_at_call 28; (with_reducible refine (from8_any _ _).mono ?_); rintro e w'' ⟨rfl, rfl⟩; exact ⟨_, rfl, hK.out _ hS⟩))); simp only [Act.put, List.setIfInBounds_toArray, List.set_cons_succ, List.set_cons_zero]) | (apply wpG_off; rfl; simp only [Act.put, List.setIfInBounds_toArray, List.set_cons_succ, List.set_cons_zero]))
          apply wpG_nil
          intro W3 hS
          replace k3' := k3'.kept hS
          replace k2 := k2.kept hS
          replace kc := kc.kept hS
          replace hb := hb.trans (hS.mono hb.size)
          clear hS
          clear e1 e2 e3 e4
          have c3 := k3'.c4
          go_wp2
          have ch := chg_set k3' (.int .i64 (257 * min 255 (max (16 * x + y) 0))) (i := 0) (by simp)
          have hv : 257 * min 255 (max (16 * x + y) 0) = ch8 D 0 := by
            show _ = 257 * min 255 (max (16 * (D.getD 0 0) + D.getD 1 0) 0)
            rw [HX.out, HY.out]
          refine ⟨⟨1, by omega, rfl, ?_, ch.keeps _ _ (by omega) k2, ch.keeps _ _ (by omega) kc, hb.setCell (by simp; omega) _⟩, by simp [intOf]⟩
          rw [hv] at ch ⊢
          exact ch.blk
        · have hx := hD 2
          have hy := hD 3
          have hcx := hcur 2 (by omega)
          have hcy := hcur 3 (by omega)
          generalize hxx : D.getD 2 0 = x at hx hcx
          generalize hyy : D.getD 3 0 = y at hy hcy
          have HX := Lib.hid hxx
          have HY := Lib.hid hyy
          have HCX := Lib.hid hcx
          have HCY := Lib.hid hcy
          clear hxx hyy hcx hcy
          simp only [Int.cast_ofNat_Int]
          go_wp2_with fail
          have e1 : IntKind.i64.wrap (16 * x) = 16 * x := IntWalk.i64_in _ (by omega)
          have e2 : IntKind.i64.wrap (16 * x + y) = 16 * x + y := IntWalk.i64_in _ (by omega)
          have e3 : IntKind.i64.wrap 2 = 2 := IntWalk.i64_in _ (by omega)
          have e4 : IntKind.i64.wrap 3 = 3 := IntWalk.i64_in _ (by omega)
          have k3' : Blk wr V (.cells #[.int .i64 (ch8 D 0), .int .i64 0, .int .i64 0, .int .i64 0] 47 (0, 0)) := k3
          refine wp_region_grow 16 (fun w' => Below (World.heap wr).size wr w') (by kernel_rfl) (by kernel_rfl) (Below.refl _ _).drew ?_
          simp only [List.take_succ_cons, List.take_zero, List.drop_succ_cons, List.drop_zero]
          repeat (first | (apply wpG_on; rfl; (intro w' hS K hK; have hc0 := (k3'.kept hS).c4; have hc1 := (k2.kept hS).c4; have hc2 := (kc.kept hS).kept0; have hr0 := cell_blk (kc.kept hS) HCX.out; have hr1 := cell_blk (kc.kept hS) HCY.out; go_simp; (first | exact hK.out _ hS | (go_at_call 28; (with_reducible refine (from8_any _ _).mono ?_); rintro e w'' ⟨rfl, rfl⟩; exact ⟨_, rfl, hK.out _ hS⟩))); simp only [Act.put, List.setIfInBounds_toArray, List.set_cons_succ, List.set_cons_zero]) | (apply wpG_off; rfl; simp only [Act.put, List.setIfInBounds_toArray, List.set_cons_succ, List.set_cons_zero]))
          apply wpG_nil
          intro W3 hS
          replace k3' := k3'.kept hS
          replace k2 := k2.kept hS
          replace kc := kc.kept hS
          replace hb := hb.trans (hS.mono hb.size)
          clear hS
          clear e1 e2 e3 e4
          have c3 := k3'.c4
          go_wp2
          have ch := chg_set k3' (.int .i64 (257 * min 255 (max (16 * x + y) 0))) (i := 1) (by simp)
          have hv : 257 * min 255 (max (16 * x + y) 0) = ch8 D 1 := by
            show _ = 257 * min 255 (max (16 * (D.getD 2 0) + D.getD 3 0) 0)
            rw [HX.out, HY.out]
          refine ⟨⟨2, by omega, rfl, ?_, ch.keeps _ _ (by omega) k2, ch.keeps _ _ (by omega) kc, hb.setCell (by simp; omega) _⟩, by simp [intOf]⟩
          rw [hv] at ch ⊢
          exact ch.blk
        · have hx := hD 4
          have hy := hD 5
          have hcx := hcur 4 (by omega)
          have hcy := hcur 5 (by omega)
          generalize hxx : D.getD 4 0 = x at hx hcx
          generalize hyy : D.getD 5 0 = y at hy hcy
          have HX := Lib.hid hxx
          have HY := Lib.hid hyy
          have HCX := Lib.hid hcx
          have HCY := Lib.hid hcy
          clear hxx hyy hcx hcy
          simp only [Int.cast_ofNat_Int]
          go_wp2_with fail
          have e1 : IntKind.i64.wrap (16 * x) = 16 * x := IntWalk.i64_in _ (by omega)
          have e2 : IntKind.i64.wrap (16 * x + y) = 16 * x + y := IntWalk.i64_in _ (by omega)
          have e3 : IntKind.i64.wrap 4 = 4 := IntWalk.i64_in _ (by omega)
          have e4 : IntKind.i64.wrap 5 = 5 := IntWalk.i64_in _ (by omega)
          have k3' : Blk wr V (.cells #[.int .i64 (ch8 D 0), .int .i64 (ch8 D 1), .int .i64 0, .int .i64 0] 47 (0, 0)) := k3
          refine wp_region_grow 16 (fun w' => Below (World.heap wr).size wr w') (by kernel_rfl) (by kernel_rfl) (Below.refl _ _).drew ?_
          simp only [List.take_succ_cons, List.take_zero, List.drop_succ_cons, List.drop_zero]
          repeat (first | (apply wpG_on; rfl; (intro w' hS K hK; have hc0 := (k3'.kept hS).c4; have hc1 := (k2.kept hS).c4; have hc2 := (kc.kept hS).kept0; have hr0 := cell_blk (kc.kept hS) HCX.out; have hr1 := cell_blk (kc.kept hS) HCY.out; go_simp; (first | exact hK.out _ hS | (go_at_call 28; (with_reducible refine (from8_any _ _).mono ?_); rintro e w'' ⟨rfl, rfl⟩; exact ⟨_, rfl, hK.out _ hS⟩))); simp only [Act.put, List.setIfInBounds_toArray, List.set_cons_succ, List.set_cons_zero]) | (apply wpG_off; rfl; simp only [Act.put, List.setIfInBounds_toArray, List.set_cons_succ, List.set_cons_zero]))
          apply wpG_nil
          intro W3 hS
          replace k3' := k3'.kept hS
          replace k2 := k2.kept hS
          replace kc := kc.kept hS
          replace hb := hb.trans (hS.mono hb.size)
          clear hS
          clear e1 e2 e3 e4
          have c3 := k3'.c4
          go_wp2
          have ch := chg_set k3' (.int .i64 (257 * min 255 (max (16 * x + y) 0))) (i := 2) (by simp)
          have hv : 257 * min 255 (max (16 * x + y) 0) = ch8 D 2 := by
            show _ = 257 * min 255 (max (16 * (D.getD 4 0) + D.getD 5 0) 0)
            rw [HX.out, HY.out]
          refine ⟨⟨3, by omega, rfl, ?_, ch.keeps _ _ (by omega) k2, ch.keeps _ _ (by omega) kc, hb.setCell (by simp; omega) _⟩, by simp [intOf]⟩
          rw [hv] at ch ⊢
          exact ch.blk
        · have hx := hD 6
          have hy := hD 7
          have hcx := hcur 6 (by omega)
          have hcy := hcur 7 (by omega)
          generalize hxx : D.getD 6 0 = x at hx hcx
          generalize hyy : D.getD 7 0 = y at hy hcy
          have HX := Lib.hid hxx
          have HY := Lib.hid hyy
          have HCX := Lib.hid hcx
          have HCY := Lib.hid hcy
          clear hxx hyy hcx hcy
          simp only [Int.cast_ofNat_Int]
          go_wp2_with fail
          have e1 : IntKind.i64.wrap (16 * x) = 16 * x := IntWalk.i64_in _ (by omega)
          have e2 : IntKind.i64.wrap (16 * x + y) = 16 * x + y := IntWalk.i64_in _ (by omega)
          have e3 : IntKind.i64.wrap 6 = 6 := IntWalk.i64_in _ (by omega)
          have e4 : IntKind.i64.wrap 7 = 7 := IntWalk.i64_in _ (by omega)
          have k3' : Blk wr V (.cells #[.int .i64 (ch8 D 0), .int .i64 (ch8 D 1), .int .i64 (ch8 D 2), .int .i64 0] 47 (0, 0)) := k3
          refine wp_region_grow 16 (fun w' => Below (World.heap wr).size wr w') (by kernel_rfl) (by kernel_rfl) (Below.refl _ _).drew ?_
          simp only [List.take_succ_cons, List.take_zero, List.drop_succ_cons, List.drop_zero]
          repeat (first | (apply wpG_on; rfl; (intro w' hS K hK; have hc0 := (k3'.kept hS).c4; have hc1 := (k2.kept hS).c4; have hc2 := (kc.kept hS).kept0; have hr0 := cell_blk (kc.kept hS) HCX.out; have hr1 := cell_blk (kc.kept hS) HCY.out; go_simp; (first | exact hK.out _ hS | (go_at_call 28; (with_reducible refine (from8_any _ _).mono ?_); rintro e w'' ⟨rfl, rfl⟩; exact ⟨_, rfl, hK.out _ hS⟩))); simp only [Act.put, List.setIfInBounds_toArray, List.set_cons_succ, List.set_cons_zero]) | (apply wpG_off; rfl; simp only [Act.put, List.setIfInBounds_toArray, List.set_cons_succ, List.set_cons_zero]))
          apply wpG_nil
          intro W3 hS
          replace k3' := k3'.kept hS
          replace k2 := k2.kept hS
          replace kc := kc.kept hS
          replace hb := hb.trans (hS.mono hb.size)
          clear hS
          clear e1 e2 e3 e4
          have c3 := k3'.c4
          go_wp2
          have ch := chg_set k3' (.int .i64 (257 * min 255 (max (16 * x + y) 0))) (i := 3) (by simp)
          have hv : 257 * min 255 (max (16 * x + y) 0) = ch8 D 3 := by
            show _ = 257 * min 255 (max (16 * (D.getD 6 0) + D.getD 7 0) 0)
            rw [HX.out, HY.out]
          refine ⟨⟨4, by omega, rfl, ?_, ch.keeps _ _ (by omega) k2, ch.keeps _ _ (by omega) kc, hb.setCell (by simp; omega) _⟩, by simp [intOf]⟩
          rw [hv] at ch ⊢
          exact ch.blk
        · have k3' : Blk wr V (.cells #[.int .i64 (ch8 D 0), .int .i64 (ch8 D 1), .int .i64 (ch8 D 2), .int .i64 (ch8 D 3)] 47 (0, 0)) := k3
          have c3 := k3'.c4
          have c2 := k2.c4
          go_wp2_with fail
          refine bodyPost_ret (v := .tuple #[pv (ch8 D 0) (ch8 D 1) (ch8 D 2) (ch8 D 3), .int .i64 0]) (by simp [results, Try.results32, go_sem, c2]) rfl ⟨?_, below4 hb (Nat.le_refl _) _ _ _ _⟩
          rw [HL.out, HDD.out]
          rfl

set_option maxHeartbeats 2000000 in
theorem parse_no4 (s : ByteArray) (w : World) (hn : s.size = 4) (h0 : s[0].toNat = 35) (hd : ∃ j, ∃ hj : j + 1 < s.size, dg s[j + 1].toNat < 0) :
    Calls Try.prog 32 #[.string s] w fun e w' => e = .returned (.tuple #[pv 0 0 0 0, .int .i64 4]) ∧ Below w.heap.size w w' := by
  have HDD := Lib.hid hd
  clear hd
  have z4 : (((s.size : Nat) : Int) != 4) = false := by rw [hn]; decide
  have z0 : (((s[0].toNat : Nat) : Int) != 35) = false := by rw [h0]; decide
  go_enter Try.func32, Try.ntmps32
  go_wp2
  refine name1 (fun W k10 hb0 => ?_)
  have own0 : W.ownsRow (w.heap.size + 1) 3 1 (.slice none 0 0) 0 (iv []) := ⟨rfl, .inl ⟨rfl, rfl⟩⟩
  go_loopw [4, 32] (fun v i wr => ∃ k : Nat, k ≤ 3 ∧ i = .int .i64 k ∧ wr.ownsRow (w.heap.size + 1) 3 1 v (dgs true ((s.data.toList.drop 1).take k)).length (iv (dgs true ((s.data.toList.drop 1).take k))) ∧ Blk wr w.heap.size (.cells #[.int .i64 0, .int .i64 0, .int .i64 0, .int .i64 0] 23 (0, 0)) ∧ Below w.heap.size w wr ∧ (∀ j, j < k → ∀ hj : j + 1 < s.size, 0 ≤ dg s[j + 1].toNat)) (fun _ i _ => 3 - (intOf i).toNat)
  case atStart => exact ⟨0, by omega, rfl, own0, k10, hb0, fun j hj => absurd hj (by omega)⟩
  case round =>
    obtain ⟨k, hk, rfl, hown, k1, hb, hok⟩ := hrel
    rename_i wr
    clear own0 k10 hb0
    have HOK := Lib.hid hok
    clear hok
    by_cases hlt : k < 3
    · by_cases hk1 : 0 ≤ dg s[k + 1].toNat
      · skip
        have HL := Lib.hid (dgs_step true s k (by omega))
        have hdl := dgs_length true ((s.data.toList.drop 1).take k)
        have hdl2 : ((s.data.toList.drop 1).take k).length ≤ 3 := by simp; omega
        have hlen : (dgs true ((s.data.toList.drop 1).take k)).length ≤ 6 := by rw [hdl]; simp; omega
        clear hdl hdl2
        generalize dgs true ((s.data.toList.drop 1).take k) = L at *
        have hbz := hb.size
        go_wp2_with fail
        refine (digit_yes _ _ (by omega) (by have := s[k + 1].toNat_lt; omega) hk1).mono ?_
        rintro e w' ⟨rfl, rfl⟩
        have HK1 : Hid (0 ≤ dg s[k + 1].toNat) := hk1
        clear hk1
        generalize hdd : dg s[k + 1].toNat = d at *
        have HD1 := Lib.hid hdd
        clear hdd
        obtain ⟨i0ca, hica, hz0ca, hz1ca, hz2ca⟩ := info_parts infoInt
        go_wp2_with (at_builtin; refine wpList_append_own _ rfl _ _ 43 rfl (w.heap.size + 1) 3 i0ca (.int .i64 0) 1 8 Try.underlying43 hica hz0ca hz1ca hz2ca rfl (by decide) _ _ _ rfl (hown.alloc _) ⟨World.heap wr |>.size, 0, none⟩ 1 1 [.int .i64 d] rfl rfl ?ca1 ?ca2 ?ca3 ?ca4 ?ca5 ?_)
        case ca1 => exact cell_one_new _ _ _
        case ca2 => simp [Value.oneCell']
        case ca3 => unfold maxLen; omega
        case ca4 => omega
        case ca5 => simp; omega
        intro vca wca ownca growca _
        have kca := (k1.alloc (.cells #[.int .i64 d] 3)).grown growca (fun h => by have := (hown.lt _ h).1; omega)
        have bca := (hb.alloc (by omega) (.cells #[.int .i64 d] 3)).grown growca (by simp; omega) (fun k hk => by have := (hown.lt k hk).1; omega)
        have zca := bca.size
        clear k1 hown growca hb
        obtain ⟨i0cb, hicb, hz0cb, hz1cb, hz2cb⟩ := info_parts infoInt
        go_wp2_with (at_builtin; refine wpList_append_own _ rfl _ _ 43 rfl (w.heap.size + 1) 3 i0cb (.int .i64 0) 1 8 Try.underlying43 hicb hz0cb hz1cb hz2cb rfl (by decide) _ _ _ rfl (ownca.alloc _) ⟨World.heap wca |>.size, 0, none⟩ 1 1 [.int .i64 d] rfl rfl ?cb1 ?cb2 ?cb3 ?cb4 ?cb5 ?_)
        case cb1 => exact cell_one_new _ _ _
        case cb2 => simp [Value.oneCell']
        case cb3 => unfold maxLen; omega
        case cb4 => omega
        case cb5 => simp; omega
        intro vcb wcb owncb growcb _
        have kcb := (kca.alloc (.cells #[.int .i64 d] 3)).grown growcb (fun h => by have := (ownca.lt _ h).1; omega)
        have bcb := (bca.alloc (by omega) (.cells #[.int .i64 d] 3)).grown growcb (by simp; omega) (fun k hk => by have := (ownca.lt k hk).1; omega)
        have zcb := bcb.size
        clear kca ownca growcb bca
        go_wp2
        refine ⟨⟨k + 1, by omega, by go_num, ?_, kcb, bcb, ?_⟩, by simp [intOf]; omega⟩
        rotate_left
        · intro j hj hj2
          rcases Nat.lt_or_ge j k with h | h
          · exact HOK.out j h hj2
          · obtain rfl : j = k := by omega
            rw [HD1.out]; exact HK1.out
        rw [HL.out]
        simpa [iv] using owncb
      · go_wp2_with fail
        refine (digit_no _ _ (by omega) (by have := s[k + 1].toNat_lt; omega) (by omega)).mono ?_
        rintro e w' ⟨rfl, rfl⟩
        have c1 := k1.c4
        go_wp2_with fail
        refine bodyPost_ret (v := .tuple #[pv 0 0 0 0, .int .i64 4]) (by simp [results, Try.results32, go_sem, c1]) rfl ⟨rfl, below4 hb (Nat.le_refl _) _ _ _ _⟩
    · exfalso
      obtain ⟨j, hj, hbad⟩ := HDD.out
      have := HOK.out j (by omega) hj
      omega

set_option maxHeartbeats 2000000 in
theorem parse_no7 (s : ByteArray) (w : World) (hn : s.size = 7) (h0 : s[0].toNat = 35) (hd : ∃ j, ∃ hj : j + 1 < s.size, dg s[j + 1].toNat < 0) :
    Calls Try.prog 32 #[.string s] w fun e w' => e = .returned (.tuple #[pv 0 0 0 0, .int .i64 4]) ∧ Below w.heap.size w w' := by
  have HDD := Lib.hid hd
  clear hd
  have z4 : (((s.size : Nat) : Int) != 4) = true := by rw [hn]; decide
  have z7 : (((s.size : Nat) : Int) != 7) = false := by rw [hn]; decide
  have z0 : (((s[0].toNat : Nat) : Int) != 35) = false := by rw [h0]; decide
  go_enter Try.func32, Try.ntmps32
  go_wp2
  refine name1 (fun W k10 hb0 => ?_)
  have own0 : W.ownsRow (w.heap.size + 1) 3 1 (.slice none 0 0) 0 (iv []) := ⟨rfl, .inl ⟨rfl, rfl⟩⟩
  go_loopw [4, 32] (fun v i wr => ∃ k : Nat, k ≤ 6 ∧ i = .int .i64 k ∧ wr.ownsRow (w.heap.size + 1) 3 1 v (dgs false ((s.data.toList.drop 1).take k)).length (iv (dgs false ((s.data.toList.drop 1).take k))) ∧ Blk wr w.heap.size (.cells #[.int .i64 0, .int .i64 0, .int .i64 0, .int .i64 0] 23 (0, 0)) ∧ Below w.heap.size w wr ∧ (∀ j, j < k → ∀ hj : j + 1 < s.size, 0 ≤ dg s[j + 1].toNat)) (fun _ i _ => 6 - (intOf i).toNat)
  case atStart => exact ⟨0, by omega, rfl, own0, k10, hb0, fun j hj => absurd hj (by omega)⟩
  case round =>
    obtain ⟨k, hk, rfl, hown, k1, hb, hok⟩ := hrel
    rename_i wr
    clear own0 k10 hb0
    have HOK := Lib.hid hok
    clear hok
    by_cases hlt : k < 6
    · by_cases hk1 : 0 ≤ dg s[k + 1].toNat
      · skip
        have HL := Lib.hid (dgs_step false s k (by omega))
        have hdl := dgs_length false ((s.data.toList.drop 1).take k)
        have hdl2 : ((s.data.toList.drop 1).take k).length ≤ 6 := by simp; omega
        have hlen : (dgs false ((s.data.toList.drop 1).take k)).length ≤ 6 := by rw [hdl]; simp; omega
        clear hdl hdl2
        generalize dgs false ((s.data.toList.drop 1).take k) = L at *
        have hbz := hb.size
        go_wp2_with fail
        refine (digit_yes _ _ (by omega) (by have := s[k + 1].toNat_lt; omega) hk1).mono ?_
        rintro e w' ⟨rfl, rfl⟩
        have HK1 : Hid (0 ≤ dg s[k + 1].toNat) := hk1
        clear hk1
        generalize hdd : dg s[k + 1].toNat = d at *
        have HD1 := Lib.hid hdd
        clear hdd
        obtain ⟨i0ca, hica, hz0ca, hz1ca, hz2ca⟩ := info_parts infoInt
        go_wp2_with (at_builtin; refine wpList_append_own _ rfl _ _ 43 rfl (w.heap.size + 1) 3 i0ca (.int .i64 0) 1 8 Try.underlying43 hica hz0ca hz1ca hz2ca rfl (by decide) _ _ _ rfl (hown.alloc _) ⟨World.heap wr |>.size, 0, none⟩ 1 1 [.int .i64 d] rfl rfl ?ca1 ?ca2 ?ca3 ?ca4 ?ca5 ?_)
        case ca1 => exact cell_one_new _ _ _
        case ca2 => simp [Value.oneCell']
        case ca3 => unfold maxLen; omega
        case ca4 => omega
        case ca5 => simp; omega
        intro vca wca ownca growca _
        have kca := (k1.alloc (.cells #[.int .i64 d] 3)).grown growca (fun h => by have := (hown.lt _ h).1; omega)
        have bca := (hb.alloc (by omega) (.cells #[.int .i64 d] 3)).grown growca (by simp; omega) (fun k hk => by have := (hown.lt k hk).1; omega)
        have zca := bca.size
        clear k1 hown growca hb
        go_wp2
        refine ⟨⟨k + 1, by omega, by go_num, ?_, kca, bca, ?_⟩, by simp [intOf]; omega⟩
        rotate_left
        · intro j hj hj2
          rcases Nat.lt_or_ge j k with h | h
          · exact HOK.out j h hj2
          · obtain rfl : j = k := by omega
            rw [HD1.out]; exact HK1.out
        rw [HL.out]
        simpa [iv] using ownca
      · go_wp2_with fail
        refine (digit_no _ _ (by omega) (by have := s[k + 1].toNat_lt; omega) (by omega)).mono ?_
        rintro e w' ⟨rfl, rfl⟩
        have c1 := k1.c4
        go_wp2_with fail
        refine bodyPost_ret (v := .tuple #[pv 0 0 0 0, .int .i64 4]) (by simp [results, Try.results32, go_sem, c1]) rfl ⟨rfl, below4 hb (Nat.le_refl _) _ _ _ _⟩
    · exfalso
      obtain ⟨j, hj, hbad⟩ := HDD.out
      have := HOK.out j (by omega) hj
      omega

set_option maxHeartbeats 2000000 in
theorem parse_no9 (s : ByteArray) (w : World) (hn : s.size = 9) (h0 : s[0].toNat = 35) (hd : ∃ j, ∃ hj : j + 1 < s.size, dg s[j + 1].toNat < 0) :
    Calls Try.prog 32 #[.string s] w fun e w' => e = .returned (.tuple #[pv 0 0 0 0, .int .i64 4]) ∧ Below w.heap.size w w' := by
  have HDD := Lib.hid hd
  clear hd
  have z4 : (((s.size : Nat) : Int) != 4) = true := by rw [hn]; decide
  have z7 : (((s.size : Nat) : Int) != 7) = true := by rw [hn]; decide
  have z9 : (((s.size : Nat) : Int) != 9) = false := by rw [hn]; decide
  have z0 : (((s[0].toNat : Nat) : Int) != 35) = false := by rw [h0]; decide
  go_enter Try.func32, Try.ntmps32
  go_wp2
  refine name1 (fun W k10 hb0 => ?_)
  have own0 : W.ownsRow (w.heap.size + 1) 3 1 (.slice none 0 0) 0 (iv []) := ⟨rfl, .inl ⟨rfl, rfl⟩⟩
  go_loopw [4, 32] (fun v i wr => ∃ k : Nat, k ≤ 8 ∧ i = .int .i64 k ∧ wr.ownsRow (w.heap.size + 1) 3 1 v (dgs false ((s.data.toList.drop 1).take k)).length (iv (dgs false ((s.data.toList.drop 1).take k))) ∧ Blk wr w.heap.size (.cells #[.int .i64 0, .int .i64 0, .int .i64 0, .int .i64 0] 23 (0, 0)) ∧ Below w.heap.size w wr ∧ (∀ j, j < k → ∀ hj : j + 1 < s.size, 0 ≤ dg s[j + 1].toNat)) (fun _ i _ => 8 - (intOf i).toNat)
  case atStart => exact ⟨0, by omega, rfl, own0, k10, hb0, fun j hj => absurd hj (by omega)⟩
  case round =>
    obtain ⟨k, hk, rfl, hown, k1, hb, hok⟩ := hrel
    rename_i wr
    clear own0 k10 hb0
    have HOK := Lib.hid hok
    clear hok
    by_cases hlt : k < 8
    · by_cases hk1 : 0 ≤ dg s[k + 1].toNat
      · skip
        have HL := Lib.hid (dgs_step false s k (by omega))
        have hdl := dgs_length false ((s.data.toList.drop 1).take k)
        have hdl2 : ((s.data.toList.drop 1).take k).length ≤ 8 := by simp; omega
        have hlen : (dgs false ((s.data.toList.drop 1).take k)).length ≤ 8 := by rw [hdl]; simp; omega
        clear hdl hdl2
        generalize dgs false ((s.data.toList.drop 1).take k) = L at *
        have hbz := hb.size
        go_wp2_with fail
        refine (digit_yes _ _ (by omega) (by have := s[k + 1].toNat_lt; omega) hk1).mono ?_
        rintro e w' ⟨rfl, rfl⟩
        have HK1 : Hid (0 ≤ dg s[k + 1].toNat) := hk1
        clear hk1
        generalize hdd : dg s[k + 1].toNat = d at *
        have HD1 := Lib.hid hdd
        clear hdd
        obtain ⟨i0ca, hica, hz0ca, hz1ca, hz2ca⟩ := info_parts infoInt
        go_wp2_with (at_builtin; refine wpList_append_own _ rfl _ _ 43 rfl (w.heap.size + 1) 3 i0ca (.int .i64 0) 1 8 Try.underlying43 hica hz0ca hz1ca hz2ca rfl (by decide) _ _ _ rfl (hown.alloc _) ⟨World.heap wr |>.size, 0, none⟩ 1 1 [.int .i64 d] rfl rfl ?ca1 ?ca2 ?ca3 ?ca4 ?ca5 ?_)
        case ca1 => exact cell_one_new _ _ _
        case ca2 => simp [Value.oneCell']
        case ca3 => unfold maxLen; omega
        case ca4 => omega
        case ca5 => simp; omega
        intro vca wca ownca growca _
        have kca := (k1.alloc (.cells #[.int .i64 d] 3)).grown growca (fun h => by have := (hown.lt _ h).1; omega)
        have bca := (hb.alloc (by omega) (.cells #[.int .i64 d] 3)).grown growca (by simp; omega) (fun k hk => by have := (hown.lt k hk).1; omega)
        have zca := bca.size
        clear k1 hown growca hb
        go_wp2
        refine ⟨⟨k + 1, by omega, by go_num, ?_, kca, bca, ?_⟩, by simp [intOf]; omega⟩
        rotate_left
        · intro j hj hj2
          rcases Nat.lt_or_ge j k with h | h
          · exact HOK.out j h hj2
          · obtain rfl : j = k := by omega
            rw [HD1.out]; exact HK1.out
        rw [HL.out]
        simpa [iv] using ownca
      · go_wp2_with fail
        refine (digit_no _ _ (by omega) (by have := s[k + 1].toNat_lt; omega) (by omega)).mono ?_
        rintro e w' ⟨rfl, rfl⟩
        have c1 := k1.c4
        go_wp2_with fail
        refine bodyPost_ret (v := .tuple #[pv 0 0 0 0, .int .i64 4]) (by simp [results, Try.results32, go_sem, c1]) rfl ⟨rfl, below4 hb (Nat.le_refl _) _ _ _ _⟩
    · exfalso
      obtain ⟨j, hj, hbad⟩ := HDD.out
      have := HOK.out j (by omega) hj
      omega
end Go.Proofs.Ytmkieeaikhndcaa
