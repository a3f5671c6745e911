/- imageeditorref29.membrane. -/
import Derived.Test.YtieacbccadbdbaaGreatDoorRetHR1
import Derived.Test.YtieacbccadbdbaaGreatDoorLRetP
import Derived.Test.YtieacbccadbdbaaGreatDoorLNum
import Derived.Test.YtieacbccadbdbaaGreatDoorLRow
import Derived.Test.YtieacbccadbdbaaGreatDoorLKit
import Derived.Deep.Cut
namespace Go.Proofs.YtieacbccadbdbaaGreatDoor
open Go.RowKit
set_option linter.unusedVariables false
attribute [local go_sem] Oper.gAt gUponK Oper.sAt stilK

theorem nnAllB {w : World} {a : Option Addr} {n cap : Nat} {zs : List Int} (h : Nn w (.slice a n cap) zs) (h0 : 0 < n) : ∃ b off, a = some ⟨b, off, none⟩ ∧ ∀ i, i < n → ∀ w' : World, Below w.heap.size w w' → w'.cell? ⟨b, off + i, none⟩ = some (.int .i64 (zs.getD i 0)) := by
  obtain ⟨b, off, rfl, _⟩ := nnAtB h 0 h0
  refine ⟨b, off, rfl, fun i hi => ?_⟩
  obtain ⟨b', off', ha, hc⟩ := nnAtB h i hi
  simp only [Option.some.injEq, Addr.mk.injEq, and_true] at ha
  obtain ⟨rfl, rfl⟩ := ha
  exact hc
theorem fresh_own {w : World} {base n B : Nat} {e : TypeId} {v : Value} {xs : List Value} (h : w.ownsRow base e 1 v n xs) (hB : B ≤ base) : Fresh B v := fun b o x n c hv => by
  have := (h.lt b (by rw [hv]; rfl)).1
  omega
/-- The membrane of a rectangle as a list. -/
def memL (W w h X Y SX SY : Nat) (ps : List Px) (r c : Nat) : List Int := (List.range (w * h)).map (mem W w h X Y SX SY ps r c)
theorem memL_len (W w h X Y SX SY : Nat) (ps : List Px) (r c : Nat) : (memL W w h X Y SX SY ps r c).length = w * h := by simp [memL]
theorem memL_at (W w h X Y SX SY : Nat) (ps : List Px) (r c k : Nat) (hk : k < w * h) : (memL W w h X Y SX SY ps r c).getD k 0 = mem W w h X Y SX SY ps r c k := by simp [memL, List.getD, hk]
theorem atP_nIdx (W H X Y wd ht x y : Nat) (ps : List Px) (hx : x < wd) (hy : y < ht) (hX : X + wd ≤ W) (hY : Y + ht ≤ H) : atP W H ps ((X : Int) + x) ((Y : Int) + y) = pxAt ps (nIdx X Y wd W (y * wd + x)) := by
  rw [atP_in (by omega) (by omega) (by omega) (by omega)]
  congr 1
  have e4 : (y * wd + x) % wd = x := by
    rw [show y * wd + x = x + wd * y by rw [Nat.mul_comm]; omega, Nat.add_mul_mod_self_left]
    exact Nat.mod_eq_of_lt hx
  have e5 : (y * wd + x) / wd = y := by
    rw [show y * wd + x = x + wd * y by rw [Nat.mul_comm]; omega, Nat.add_mul_div_left _ _ (by omega), Nat.div_eq_of_lt hx]
    omega
  unfold nIdx
  rw [e4, e5, show ((Y : Int) + y) = ((Y + y : Nat) : Int) by omega, ← Int.natCast_mul]
  omega
theorem nIdx_lt2 (W H X Y wd ht x y : Nat) (hx : x < wd) (hy : y < ht) (hX : X + wd ≤ W) (hY : Y + ht ≤ H) : nIdx X Y wd W (y * wd + x) < W * H := by
  refine nIdx_lt X Y wd ht W H _ (by omega) hX hY ?_
  have := Nat.mul_le_mul_right wd (show y + 1 ≤ ht by omega)
  rw [Nat.add_mul, Nat.mul_comm ht] at this
  omega
theorem brd_nb {w h k : Nat} (hw : 0 < w) (hk : k < w * h) (hb : onBorder w h k = false) : w ≤ k ∧ k + w < w * h ∧ 1 ≤ k ∧ k + 1 < w * h := by
  unfold onBorder at hb
  have hb := of_decide_eq_false hb
  have e := Nat.div_add_mod k w
  have m := Nat.mod_lt k hw
  have d : k / w < h := Nat.div_lt_of_lt_mul hk
  generalize k / w = qd at *
  generalize k % w = rm at *
  have d1 : w * 1 ≤ w * qd := Nat.mul_le_mul_left w (by omega)
  have d2 : w * (qd + 2) ≤ w * h := Nat.mul_le_mul_left w (by omega)
  rw [Nat.mul_add] at d2
  omega
theorem idx4_0 (a b c d : Int) (w : World) : (Instr.index 78 (.agg #[.int .i64 a, .int .i64 b, .int .i64 c, .int .i64 d]) (.int .i64 0)).run Tryz.prog w = .ok (.int .i64 a) w := by kernel_rfl
theorem idx4_1 (a b c d : Int) (w : World) : (Instr.index 78 (.agg #[.int .i64 a, .int .i64 b, .int .i64 c, .int .i64 d]) (.int .i64 1)).run Tryz.prog w = .ok (.int .i64 b) w := by kernel_rfl
theorem idx4_2 (a b c d : Int) (w : World) : (Instr.index 78 (.agg #[.int .i64 a, .int .i64 b, .int .i64 c, .int .i64 d]) (.int .i64 2)).run Tryz.prog w = .ok (.int .i64 c) w := by kernel_rfl
theorem idx4_3 (a b c d : Int) (w : World) : (Instr.index 78 (.agg #[.int .i64 a, .int .i64 b, .int .i64 c, .int .i64 d]) (.int .i64 3)).run Tryz.prog w = .ok (.int .i64 d) w := by kernel_rfl
theorem idxP (p : Px) (c : Nat) (hc : c < 4) (w : World) : (Instr.index 78 (pvx p) (.int .i64 (c : Int))).run Tryz.prog w = .ok (.int .i64 (cmp c p)) w := by
  have h : c = 0 ∨ c = 1 ∨ c = 2 ∨ c = 3 := by omega
  rcases h with rfl | rfl | rfl | rfl
  · exact idx4_0 _ _ _ _ w
  · exact idx4_1 _ _ _ _ w
  · exact idx4_2 _ _ _ _ w
  · exact idx4_3 _ _ _ _ w

set_option maxRecDepth 100000 in
set_option maxHeartbeats 32000000 in
theorem membrane_go (W H wd ht N X Y SX SY c : Nat) (ai : Option Addr) (ni ci : Nat) (ps : List Px) (ox oy : Int) (rr : Nat → Nat → Int) (L : Nat → List Int) (f g : Nat → Px) (w : World)
    (PI : Hid (∀ x y : Nat, x < wd → y < ht → ∀ w', Below w.heap.size w w' → Calls Tryz.prog 26 #[.agg #[.int .i64 W, .int .i64 H, .slice ai ni ci], .int .i64 ((X : Int) + x), .int .i64 ((Y : Int) + y)] w' fun e w'' => e = .returned (pvx (f (y * wd + x))) ∧ Below w'.heap.size w' w''))
    (PS : Hid (∀ x y : Nat, x < wd → y < ht → ∀ w', Below w.heap.size w w' → Calls Tryz.prog 26 #[.agg #[.int .i64 W, .int .i64 H, .slice ai ni ci], .int .i64 ((SX : Int) + x), .int .i64 ((SY : Int) + y)] w' fun e w'' => e = .returned (pvx (g (y * wd + x))) ∧ Below w'.heap.size w' w''))
    (FA : Hid (∀ k, k < N → cl (f k).2.2.2 = (f k).2.2.2)) (GA : Hid (∀ k, k < N → cl (g k).2.2.2 = (g k).2.2.2))
    (R0 : Hid (∀ k, rr 0 k = if onBorder wd ht k = true then cmp c (prP (f k)) - cmp c (prP (g k)) else 0))
    (RS : Hid (∀ r k, rr (r + 1) k = if onBorder wd ht k = true then rr r k else dv (rr r (k - 1) + rr r (k + 1) + rr r (k - wd) + rr r (k + wd)) 4))
    (RB : Hid (∀ r k, -65535 ≤ rr r k ∧ rr r k ≤ 65535)) (LL : Hid (∀ r, (L r).length = N)) (LA : Hid (∀ r i, i < N → (L r).getD i 0 = rr r i))
    (hW : W ≤ 256) (hH : H ≤ 256) (hX : X + wd ≤ W) (hY : Y + ht ≤ H) (hSX : SX + wd ≤ W) (hSY : SY + ht ≤ H) (HOX : Hid ((X : Int) + ox = SX)) (HOY : Hid ((Y : Int) + oy = SY)) (hw : 1 ≤ wd ∧ wd ≤ 32) (hh : 1 ≤ ht ∧ ht ≤ 32) (HN : Hid (wd * ht = N)) (hN : N ≤ 1024) (hc : c < 4) :
    Calls Tryz.prog 54 #[.agg #[.int .i64 W, .int .i64 H, .slice ai ni ci], .agg #[.int .i64 X, .int .i64 Y, .int .i64 wd, .int .i64 ht], .agg #[.int .i64 ox, .int .i64 oy], .int .i64 c] w fun e w' => ∃ a cp, e = .returned (.slice a N cp) ∧ Nn w' (.slice a N cp) (L 64) ∧ Fresh w.heap.size (.slice a N cp) ∧ Below w.heap.size w w' := by
  go_enter Tryz.func54, Tryz.ntmps54
  go_upto_region 1 with (fail)
  refine name3 (fun W1 k1 k2 k3 hb => ?_)
  obtain ⟨base, hbase⟩ : ∃ base, base = W1.heap.size := ⟨_, rfl⟩
  have own := own_nilI W1 base 3 (rr 0)
  have hbs : base ≤ W1.heap.size := by omega
  have hb3 := k3.lt
  rw [← hbase] at hb3
  clear hbase
  have c2 := k2.c4
  go_wp2_with fail
  clear c2
  go_loopw [9, 10] (fun m i wr => ∃ (y : Nat) (q : Value), y ≤ ht ∧ i = .int .i64 y ∧ m = q ∧ wr.ownsRow base 3 1 q (y * wd) (icF (rr 0) (y * wd)) ∧ base ≤ wr.heap.size ∧ Blk wr w.heap.size (.cells #[.int .i64 W, .int .i64 H, .slice ai ni ci] 24 (0, 0)) ∧ Blk wr (w.heap.size + 1) (.cells #[.int .i64 X, .int .i64 Y, .int .i64 wd, .int .i64 ht] 45 (0, 0)) ∧ Blk wr (w.heap.size + 1 + 1) (.cells #[.int .i64 ox, .int .i64 oy] 32 (0, 0)) ∧ Below w.heap.size w wr) (fun _ i _ => ht - (intOf i).toNat)
  case atStart => exact ⟨0, _, Nat.zero_le _, rfl, rfl, by rw [Nat.zero_mul]; exact own, hbs, k1, k2, k3, hb⟩
  case round =>
    clear own hbs k1 k2 k3 hb
    obtain ⟨y, q, hy, rfl, rfl, own, hbs, k1, k2, k3, hb⟩ := hrel
    have c2 := k2.c4
    by_cases hlt : y < ht
    · have HOW := Lib.hid own
      clear own
      have hkW : y * wd + wd ≤ N := by
        have := Nat.mul_le_mul_right wd (show y + 1 ≤ ht by omega)
        rw [Nat.add_mul, Nat.one_mul, Nat.mul_comm ht wd, HN.out] at this
        exact this
      go_wp2_with fail
      clear c2
      go_loopw [9, 11] (fun m i wr => ∃ (x : Nat) (q : Value), x ≤ wd ∧ i = .int .i64 x ∧ m = q ∧ Hid (wr.ownsRow base 3 1 q (y * wd + x) (icF (rr 0) (y * wd + x))) ∧ base ≤ wr.heap.size ∧ Blk wr w.heap.size (.cells #[.int .i64 W, .int .i64 H, .slice ai ni ci] 24 (0, 0)) ∧ Blk wr (w.heap.size + 1) (.cells #[.int .i64 X, .int .i64 Y, .int .i64 wd, .int .i64 ht] 45 (0, 0)) ∧ Blk wr (w.heap.size + 1 + 1) (.cells #[.int .i64 ox, .int .i64 oy] 32 (0, 0)) ∧ Below w.heap.size w wr) (fun _ i _ => wd - (intOf i).toNat)
      case atStart => exact ⟨0, _, Nat.zero_le _, rfl, rfl, HOW, hbs, k1, k2, k3, hb⟩
      case round =>
        clear HOW hbs k1 k2 k3 hb
        obtain ⟨x, q, hx, rfl, rfl, HO, hbs, k1, k2, k3, hb⟩ := hrel
        by_cases hjl : x < wd
        · have BDx := Lib.hid (fun w => refBorder_any (x : Int) (y : Int) (wd : Int) (ht : Int) w (by omega) (by omega))
          rw [brdB_xy wd ht x y hjl (by omega)] at BDx
          have PI1 := Lib.hid (PI.out x y hjl hlt)
          have PS1 := Lib.hid (PS.out x y hjl hlt)
          obtain ⟨idx, hie⟩ : ∃ idx, y * wd + x = idx := ⟨_, rfl⟩
          rw [hie] at HO BDx PI1 PS1
          have hidx : idx < N := by omega
          have HIE := Lib.hid hie
          have PC := Lib.hid (icF_succ (rr 0) idx)
          rw [R0.out idx] at PC
          have f4 := FA.out idx hidx
          have g4 := GA.out idx hidx
          clear hie hkW
          obtain ⟨aq0, cq0, rfl⟩ := own_sliceI HO.out
          have c2 := k2.c4
          go_wp2_with fail
          clear c2
          refine (BDx.out _).mono ?_
          rintro e w' ⟨rfl, rfl⟩
          clear BDx
          generalize onBorder wd ht idx = B at *
          cases B
          · replace PC : Hid (icF (rr 0) (idx + 1) = icF (rr 0) idx ++ [.int .i64 0]) := PC
            obtain ⟨i0, hi, hz0, hz1, hz2⟩ := info_parts infoInt
            have own := HO.out
            have hbs2 : base ≤ (World.alloc wr (.cells #[.int .i64 0] 3 (0, 0))).heap.size := by simp; omega
            go_wp2_with (at_builtin; refine wpList_append_own _ rfl _ _ 33 rfl base 3 i0 (.int .i64 0) 1 8 Tryz.underlying33 hi hz0 hz1 hz2 rfl (by decide) _ _ _ rfl (own.alloc _) ⟨World.heap wr |>.size, 0, none⟩ 1 1 [.int .i64 0] rfl rfl ?ca1 ?ca2 ?ca3 ?ca4 ?ca5 ?_)
            case ca1 => exact World.news_of_block (cs := #[.int .i64 0]) (t := 3) (fr := (0, 0)) (heap_alloc_new wr _)
            case ca2 => simp [Value.oneCell']
            case ca3 => unfold maxLen; omega
            case ca4 => omega
            case ca5 => exact hbs2
            intro v' w7 own' grow' _
            have hno : ∀ b, b < base → (Value.slice aq0 idx cq0).ownBlock ≠ some b := fun b hb' h => by have := (own.lt _ h).1; omega
            have hW7 := hb.size
            replace k1 := (k1.alloc _).grown grow' (hno _ (by omega))
            replace k2 := (k2.alloc _).grown grow' (hno _ (by omega))
            replace k3 := (k3.alloc _).grown grow' (hno _ (by omega))
            replace hb : Below w.heap.size w w7 := (hb.alloc hb.size _).grown grow' (by simp; omega) (fun b hb' => by have := (own.lt _ hb').1; omega)
            have hb7 : base ≤ w7.heap.size := Nat.le_trans hbs2 grow'.size
            obtain ⟨av', cv', rfl⟩ := own_sliceI own'
            rw [← PC.out] at own'
            have HO' := Lib.hid own'
            clear own own' grow' hno HO
            go_wp2_with fail
            go_roundw
            case rel => exact ⟨x + 1, _, by omega, by go_num, rfl, (by rw [← Nat.add_assoc, HIE.out]; exact HO'), hb7, k1, k2, k3, hb⟩
            case measure => simp only [intOf]; omega
          · have VI := Lib.hid (fun w => refValues_any (f idx) w f4)
            have VS := Lib.hid (fun w => refValues_any (g idx) w g4)
            have IX := idxP (prP (f idx)) c hc
            have IY := idxP (prP (g idx)) c hc
            have hb1 := cmp_prP c (f idx)
            have hb2 := cmp_prP c (g idx)
            replace PC : Hid (icF (rr 0) (idx + 1) = icF (rr 0) idx ++ [.int .i64 (cmp c (prP (f idx)) - cmp c (prP (g idx)))]) := PC
            clear f4 g4
            generalize cmp c (prP (f idx)) = va at *
            generalize cmp c (prP (g idx)) = vb at *
            generalize prP (f idx) = u at *
            generalize prP (g idx) = v at *
            generalize f idx = p at *
            generalize g idx = p' at *
            obtain ⟨p0, p1, p2, p3⟩ := p
            obtain ⟨q0, q1, q2, q3⟩ := p'
            obtain ⟨u0, u1, u2, u3⟩ := u
            obtain ⟨v0, v1, v2, v3⟩ := v
            have e1 : IntKind.i64.wrap ((X : Int) + (x : Int)) = (X : Int) + (x : Int) := IntWalk.i64_in _ (by omega)
            have e2 : IntKind.i64.wrap ((Y : Int) + (y : Int)) = (Y : Int) + (y : Int) := IntWalk.i64_in _ (by omega)
            have e3 : IntKind.i64.wrap ((X : Int) + (x : Int) + ox) = (SX : Int) + (x : Int) := by
              have := HOX.out
              rw [show (X : Int) + (x : Int) + ox = (SX : Int) + (x : Int) by omega]
              exact IntWalk.i64_in _ (by omega)
            have e4 : IntKind.i64.wrap ((Y : Int) + (y : Int) + oy) = (SY : Int) + (y : Int) := by
              have := HOY.out
              rw [show (Y : Int) + (y : Int) + oy = (SY : Int) + (y : Int) by omega]
              exact IntWalk.i64_in _ (by omega)
            have e5 : IntKind.i64.wrap (va - vb) = va - vb := IntWalk.i64_in _ (by omega)
            go_upto_region 10 with (fail)
            have G := Lib.hid hb
            refine wp_region_grow 34 (fun w' => Below (World.heap wr).size wr w') (by kernel_rfl) (by kernel_rfl) (Below.refl _ _).drew ?_
            simp only [List.take_succ_cons, List.take_zero, List.drop_succ_cons, List.drop_zero]
            repeat (first | (apply wpG_on; rfl; (intro w' hS K hK; have hc0 := (k1.kept hS).c3; have hc1 := (k2.kept hS).c4; have hc2 := (k3.kept hS).c2; go_simp; (first | exact hK.out _ hS | (go_at_call 26; (with_reducible refine (PI1.out _ (G.out.trans (hS.mono G.out.size))).mono ?_); rintro e w'' ⟨rfl, hbb⟩; exact ⟨_, rfl, hK.out _ (hS.trans (hbb.mono hS.size))⟩) | (go_at_call 26; (with_reducible refine (PS1.out _ (G.out.trans (hS.mono G.out.size))).mono ?_); rintro e w'' ⟨rfl, hbb⟩; exact ⟨_, rfl, hK.out _ (hS.trans (hbb.mono hS.size))⟩) | (go_at_call 56; (with_reducible refine (VI.out _).mono ?_); rintro e w'' ⟨rfl, hbb⟩; exact ⟨_, rfl, hK.out _ (hS.trans (hbb.mono hS.size))⟩) | (go_at_call 56; (with_reducible refine (VS.out _).mono ?_); rintro e w'' ⟨rfl, hbb⟩; exact ⟨_, rfl, hK.out _ (hS.trans (hbb.mono hS.size))⟩))); simp only [Act.put, List.setIfInBounds_toArray, List.set_cons_succ, List.set_cons_zero]) | (apply wpG_off; rfl; simp only [Act.put, List.setIfInBounds_toArray, List.set_cons_succ, List.set_cons_zero]))
            apply wpG_nil
            intro W7 hS
            replace k1 := k1.kept hS
            replace k2 := k2.kept hS
            replace k3 := k3.kept hS
            replace hb := hb.trans (hS.mono hb.size)
            clear e1 e2 e3 e4 e5 IX IY
            have own := ownsKept HO.out hS
            replace hbs : base ≤ W7.heap.size := Nat.le_trans hbs hS.size
            clear hS HO
            generalize va - vb = T at *
            obtain ⟨i0, hi, hz0, hz1, hz2⟩ := info_parts infoInt
            have hbs2 : base ≤ (World.alloc W7 (.cells #[.int .i64 T] 3 (0, 0))).heap.size := by simp; omega
            go_wp2_with (at_builtin; refine wpList_append_own _ rfl _ _ 33 rfl base 3 i0 (.int .i64 0) 1 8 Tryz.underlying33 hi hz0 hz1 hz2 rfl (by decide) _ _ _ rfl (own.alloc _) ⟨World.heap W7 |>.size, 0, none⟩ 1 1 [.int .i64 T] rfl rfl ?cb1 ?cb2 ?cb3 ?cb4 ?cb5 ?_)
            case cb1 => exact World.news_of_block (cs := #[.int .i64 T]) (t := 3) (fr := (0, 0)) (heap_alloc_new W7 _)
            case cb2 => simp [Value.oneCell']
            case cb3 => unfold maxLen; omega
            case cb4 => omega
            case cb5 => exact hbs2
            intro v' w7 own' grow' _
            have hno : ∀ b, b < base → (Value.slice aq0 idx cq0).ownBlock ≠ some b := fun b hb' h => by have := (own.lt _ h).1; omega
            have hW7 := hb.size
            replace k1 := (k1.alloc _).grown grow' (hno _ (by omega))
            replace k2 := (k2.alloc _).grown grow' (hno _ (by omega))
            replace k3 := (k3.alloc _).grown grow' (hno _ (by omega))
            replace hb : Below w.heap.size w w7 := (hb.alloc hb.size _).grown grow' (by simp; omega) (fun b hb' => by have := (own.lt _ hb').1; omega)
            have hb7 : base ≤ w7.heap.size := Nat.le_trans hbs2 grow'.size
            obtain ⟨av', cv', rfl⟩ := own_sliceI own'
            rw [← PC.out] at own'
            have HO' := Lib.hid own'
            clear own own' grow' hno
            go_wp2_with fail
            go_roundw
            case rel => exact ⟨x + 1, _, by omega, by go_num, rfl, (by rw [← Nat.add_assoc, HIE.out]; exact HO'), hb7, k1, k2, k3, hb⟩
            case measure => simp only [intOf]; omega
        · obtain rfl : x = wd := by omega
          have c2 := k2.c4
          go_wp2_with fail
          go_roundw
          case rel => exact ⟨y + 1, _, by omega, by go_num, rfl, by rw [Nat.add_mul, Nat.one_mul]; exact HO.out, hbs, k1, k2, k3, hb⟩
          case measure => simp only [intOf]; omega
    · obtain rfl : y = ht := by omega
      obtain ⟨av, cv, rfl⟩ := own_sliceI own
      have ekw : y * wd = N := by rw [Nat.mul_comm]; exact HN.out
      rw [ekw] at own ⊢
      have HM := Lib.hid (nn_of_own own (LL.out 0) (by omega) (fun i hi => LA.out 0 i hi))
      have hN0 : 0 < N := by
        have := HN.out
        have := Nat.mul_le_mul hw.1 hh.1
        omega
      have hfr : Fresh w.heap.size (.slice av N cv) := fresh_own own (by omega)
      clear own ekw
      go_wp2_with fail
      clear c2
      go_loopw [9, 13] (fun m i wr => ∃ (r : Nat) (a : Option Addr) (cp : Nat), r ≤ 64 ∧ i = .int .i64 r ∧ m = .slice a N cp ∧ Hid (Nn wr (.slice a N cp) (L r)) ∧ Fresh w.heap.size (.slice a N cp) ∧ Blk wr (w.heap.size + 1) (.cells #[.int .i64 X, .int .i64 Y, .int .i64 wd, .int .i64 y] 45 (0, 0)) ∧ Below w.heap.size w wr) (fun _ i _ => 64 - (intOf i).toNat)
      case atStart => exact ⟨0, _, _, Nat.zero_le _, rfl, rfl, HM, hfr, k2, hb⟩
      case round =>
        clear HM k1 k2 k3 hb hbs hb3
        obtain ⟨r, a, cp, hr, rfl, rfl, HM, hfr, k2, hb⟩ := hrel
        by_cases hrl : r < 64
        · obtain ⟨bm, om, rfl, hall⟩ := nnAllB HM.out hN0
          have HALL := Lib.hid (fun i (hi : i < N) w' h => hall i hi w' h)
          clear hall
          have RSr := Lib.hid (RS.out r)
          have RBr := Lib.hid (RB.out r)
          have LAr := Lib.hid (LA.out r)
          have NNr : Hid (∀ b2 w v, World.ownsRow w b2 3 1 v N (icF (rr (r + 1)) N) → Nn w v (L (r + 1))) := fun b2 w v h => nn_of_own h (LL.out (r + 1)) (by omega) (fun i hi => LA.out (r + 1) i hi)
          obtain ⟨wo, rfl⟩ : ∃ wo : World, wo = wr := ⟨_, rfl⟩
          have K2 := Lib.hid k2
          obtain ⟨b2, hb2⟩ : ∃ b2, b2 = wo.heap.size := ⟨_, rfl⟩
          have hb21 : wo.heap.size ≤ b2 := by omega
          have hb22 : b2 ≤ wo.heap.size := by omega
          have hb23 : w.heap.size ≤ b2 := by have := hb.size; omega
          clear hb2
          have own := own_nilI wo b2 3 (rr (r + 1))
          have HB := Lib.hid hb
          clear k2 hb HM hfr
          generalize rr (r + 1) = rn at *
          generalize rr r = rv at *
          have HO := Lib.hid own
          clear own
          have hb := Below.refl wo.heap.size wo
          have d64 : (r : Int) < 64 := by omega
          have hbs := hb22
          go_wp2_with fail
          go_loopw [14, 15] (fun nx i wr => ∃ (k : Nat) (q : Value), k ≤ N ∧ i = .int .i64 k ∧ nx = q ∧ Hid (wr.ownsRow b2 3 1 q k (icF rn k)) ∧ b2 ≤ wr.heap.size ∧ Below wo.heap.size wo wr) (fun _ i _ => N - (intOf i).toNat)
          case atStart => exact ⟨0, _, Nat.zero_le _, rfl, rfl, HO, hbs, hb⟩
          case round =>
            clear HO hb hbs
            obtain ⟨k, q, hk, rfl, rfl, HO, hbs, hb⟩ := hrel
            by_cases hkl : k < N
            · obtain ⟨aq0, cq0, rfl⟩ := own_sliceI HO.out
              have hm := HALL.out k hkl wr hb
              rw [LAr.out k hkl] at hm
              have PC := Lib.hid (icF_succ rn k)
              rw [RSr.out k] at PC
              have HOB : Hid (∀ w, Calls Tryz.prog 55 #[.int .i64 ((k % wd : Nat) : Int), .int .i64 ((k / wd : Nat) : Int), .int .i64 (wd : Int), .int .i64 (y : Int)] w fun e w' => e = .returned (.bool (onBorder wd y k)) ∧ w = w') := fun w => by
                rw [← brdB_on wd y k hw.1 hh.1]
                exact refBorder_any _ _ _ _ w (by omega) (by omega)
              have HNB := Lib.hid (fun (h : onBorder wd y k = false) => brd_nb (h := y) (by omega) (by rw [HN.out]; exact hkl) h)
              rw [HN.out] at HNB
              have t1 : ((k : Nat) : Int).tmod (wd : Int) = ((k % wd : Nat) : Int) := Int.tmod_eq_emod_of_nonneg (by omega)
              have t2 : ((k : Nat) : Int).tdiv (wd : Int) = ((k / wd : Nat) : Int) := Int.tdiv_eq_ediv_of_nonneg (by omega)
              have r1 : k % wd ≤ k := Nat.mod_le _ _
              have r2 : k / wd ≤ k := Nat.div_le_self _ _
              generalize k % wd = rm at *
              generalize k / wd = qd at *
              have wz : ((wd : Int) == 0) = false := by simp; omega
              have wn : ¬ wd = 0 := by omega
              have e5 : IntKind.i64.wrap (qd : Int) = (qd : Int) := IntWalk.i64_in _ (by omega)
              have e6 : IntKind.i64.wrap (rm : Int) = (rm : Int) := IntWalk.i64_in _ (by omega)
              have i1 : (0 : Int) ≤ (k : Int) := by omega
              have i2 : (k : Int) < (N : Int) := by omega
              have bk := RBr.out k
              have k2 := K2.out.kept hb
              generalize hBB : onBorder wd y k = B at *
              clear hBB
              go_upto_region 20 with (fail)
              clear hm
              refine wp_region_grow 14 (fun w' => Below (World.heap wr).size wr w') (by kernel_rfl) (by kernel_rfl) (Below.refl _ _).drew ?_
              simp only [List.take_succ_cons, List.take_zero, List.drop_succ_cons, List.drop_zero]
              repeat (first | (apply wpG_on; rfl; (intro w' hS K hK; have hc0 := (k2.kept hS).c4; go_simp; (first | exact hK.out _ hS | (go_at_call 55; (with_reducible refine (HOB.out _).mono ?_); rintro e w'' ⟨rfl, rfl⟩; exact ⟨_, rfl, hK.out _ hS⟩))); simp only [Act.put, List.setIfInBounds_toArray, List.set_cons_succ, List.set_cons_zero]) | (apply wpG_off; rfl; simp only [Act.put, List.setIfInBounds_toArray, List.set_cons_succ, List.set_cons_zero]))
              apply wpG_nil
              intro W7 hS
              replace k2 := k2.kept hS
              replace hb := hb.trans (hS.mono hb.size)
              clear t1 t2 wz wn e5 e6
              have own := ownsKept HO.out hS
              replace hbs : b2 ≤ W7.heap.size := Nat.le_trans hbs hS.size
              clear hS HO
              cases B
              · obtain ⟨n1, n2, n3, n4⟩ := HNB.out rfl
                replace PC : Hid (icF rn (k + 1) = icF rn k ++ [.int .i64 (dv (rv (k - 1) + rv (k + 1) + rv (k - wd) + rv (k + wd)) 4)]) := PC
                have HA1 := Lib.hid (fun w' h => HALL.out (k - 1) (by omega) w' h)
                have HA2 := Lib.hid (fun w' h => HALL.out (k + 1) (by omega) w' h)
                have HA3 := Lib.hid (fun w' h => HALL.out (k - wd) (by omega) w' h)
                have HA4 := Lib.hid (fun w' h => HALL.out (k + wd) (by omega) w' h)
                rw [LAr.out _ (show k - 1 < N by omega)] at HA1
                rw [LAr.out _ (show k + 1 < N by omega)] at HA2
                rw [LAr.out _ (show k - wd < N by omega)] at HA3
                rw [LAr.out _ (show k + wd < N by omega)] at HA4
                have vb1 := RBr.out (k - 1)
                have vb2 := RBr.out (k + 1)
                have vb3 := RBr.out (k - wd)
                have vb4 := RBr.out (k + wd)
                have DV := Lib.hid (fun w => refDiv_new (rv (k - 1) + rv (k + 1) + rv (k - wd) + rv (k + wd)) 4 w (by omega) (by omega) (by omega) (by omega))
                generalize dv (rv (k - 1) + rv (k + 1) + rv (k - wd) + rv (k + wd)) 4 = T at *
                generalize rv (k - 1) = v1 at *
                generalize rv (k + 1) = v2 at *
                generalize rv (k - wd) = v3 at *
                generalize rv (k + wd) = v4 at *
                obtain ⟨ka, hka⟩ : ∃ ka, k - 1 = ka := ⟨_, rfl⟩
                obtain ⟨kb, hkb⟩ : ∃ kb, k + 1 = kb := ⟨_, rfl⟩
                obtain ⟨kc, hkc⟩ : ∃ kc, k - wd = kc := ⟨_, rfl⟩
                obtain ⟨kd, hkd⟩ : ∃ kd, k + wd = kd := ⟨_, rfl⟩
                rw [hka] at HA1
                rw [hkb] at HA2
                rw [hkc] at HA3
                rw [hkd] at HA4
                have s1 : IntKind.i64.wrap (v1 + v2) = v1 + v2 := IntWalk.i64_in _ (by omega)
                have s2 : IntKind.i64.wrap (v1 + v2 + v3) = v1 + v2 + v3 := IntWalk.i64_in _ (by omega)
                have s3 : IntKind.i64.wrap (v1 + v2 + v3 + v4) = v1 + v2 + v3 + v4 := IntWalk.i64_in _ (by omega)
                have e1 : IntKind.i64.wrap ((k : Int) - 1) = (ka : Int) := by rw [show (k : Int) - 1 = (ka : Int) by omega]; exact IntWalk.i64_in _ (by omega)
                have e2 : IntKind.i64.wrap ((k : Int) + 1) = (kb : Int) := by rw [show (k : Int) + 1 = (kb : Int) by omega]; exact IntWalk.i64_in _ (by omega)
                have e3 : IntKind.i64.wrap ((k : Int) - (wd : Int)) = (kc : Int) := by rw [show (k : Int) - (wd : Int) = (kc : Int) by omega]; exact IntWalk.i64_in _ (by omega)
                have e4 : IntKind.i64.wrap ((k : Int) + (wd : Int)) = (kd : Int) := by rw [show (k : Int) + (wd : Int) = (kd : Int) by omega]; exact IntWalk.i64_in _ (by omega)
                have a1 : (0 : Int) ≤ (ka : Int) := by omega
                have a2 : (ka : Int) < (N : Int) := by omega
                have a3 : (0 : Int) ≤ (kb : Int) := by omega
                have a4 : (kb : Int) < (N : Int) := by omega
                have a5 : (0 : Int) ≤ (kc : Int) := by omega
                have a6 : (kc : Int) < (N : Int) := by omega
                have a7 : (0 : Int) ≤ (kd : Int) := by omega
                have a8 : (kd : Int) < (N : Int) := by omega
                clear hka hkb hkc hkd
                go_upto_region 21 with (fail)
                have G := Lib.hid hb
                refine wp_region_grow 29 (fun w' => Below (World.heap W7).size W7 w') (by kernel_rfl) (by kernel_rfl) (Below.refl _ _).drew ?_
                simp only [List.take_succ_cons, List.take_zero, List.drop_succ_cons, List.drop_zero]
                repeat (first | (apply wpG_on; rfl; (intro w' hS K hK; have hc0 := (k2.kept hS).c4; have hr0 := HA1.out _ (G.out.trans (hS.mono G.out.size)); have hr1 := HA2.out _ (G.out.trans (hS.mono G.out.size)); have hr2 := HA3.out _ (G.out.trans (hS.mono G.out.size)); have hr3 := HA4.out _ (G.out.trans (hS.mono G.out.size)); go_simp; (first | exact hK.out _ hS | (go_at_call 67; (with_reducible refine (DV.out _).mono ?_); rintro e w'' ⟨rfl, hbb⟩; exact ⟨_, rfl, hK.out _ (hS.trans (hbb.mono hS.size))⟩))); simp only [Act.put, List.setIfInBounds_toArray, List.set_cons_succ, List.set_cons_zero]) | (apply wpG_off; rfl; simp only [Act.put, List.setIfInBounds_toArray, List.set_cons_succ, List.set_cons_zero]))
                apply wpG_nil
                intro W8 hS
                replace k2 := k2.kept hS
                replace hb := hb.trans (hS.mono hb.size)
                replace own := ownsKept own hS
                replace hbs : b2 ≤ W8.heap.size := Nat.le_trans hbs hS.size
                clear hS G s1 s2 s3 e1 e2 e3 e4 HA1 HA2 HA3 HA4
                go_upto_region 22 with (fail)
                obtain ⟨i0, hi, hz0, hz1, hz2⟩ := info_parts infoInt
                have hbs2 : b2 ≤ (World.alloc W8 (.cells #[.int .i64 T] 3 (0, 0))).heap.size := by simp; omega
                go_wp2_with (at_builtin; refine wpList_append_own _ rfl _ _ 33 rfl b2 3 i0 (.int .i64 0) 1 8 Tryz.underlying33 hi hz0 hz1 hz2 rfl (by decide) _ _ _ rfl (own.alloc _) ⟨World.heap W8 |>.size, 0, none⟩ 1 1 [.int .i64 T] rfl rfl ?cc1 ?cc2 ?cc3 ?cc4 ?cc5 ?_)
                first | (case cc1 => exact World.news_of_block (cs := #[.int .i64 T]) (t := 3) (fr := (0, 0)) (heap_alloc_new W8 _)) | skip
                case cc2 => simp [Value.oneCell']
                case cc3 => unfold maxLen; omega
                case cc4 => omega
                case cc5 => first | exact hbs2 | omega
                intro v' w7 own' grow' _
                have hb7 : b2 ≤ w7.heap.size := Nat.le_trans hbs2 grow'.size
                replace hb : Below wo.heap.size wo w7 := (hb.alloc hb.size _).grown grow' (by simp; omega) (fun b hb' => by have := (own.lt _ hb').1; omega)
                obtain ⟨av', cv', rfl⟩ := own_sliceI own'
                rw [← PC.out] at own'
                have HO' := Lib.hid own'
                clear own own' grow'
                go_wp2_with fail
                go_roundw
                case rel => exact ⟨k + 1, _, by omega, by go_num, rfl, HO', hb7, hb⟩
                case measure => first | (simp only [intOf]; omega) | (simp [intOf]; omega)
              · replace PC : Hid (icF rn (k + 1) = icF rn k ++ [.int .i64 (rv k)]) := PC
                go_upto_region 22 with (fail)
                obtain ⟨i0, hi, hz0, hz1, hz2⟩ := info_parts infoInt
                have hbs2 : b2 ≤ (World.alloc W7 (.cells #[.int .i64 (rv k)] 3 (0, 0))).heap.size := by simp; omega
                go_wp2_with (at_builtin; refine wpList_append_own _ rfl _ _ 33 rfl b2 3 i0 (.int .i64 0) 1 8 Tryz.underlying33 hi hz0 hz1 hz2 rfl (by decide) _ _ _ rfl (own.alloc _) ⟨World.heap W7 |>.size, 0, none⟩ 1 1 [.int .i64 (rv k)] rfl rfl ?cd1 ?cd2 ?cd3 ?cd4 ?cd5 ?_)
                first | (case cd1 => exact World.news_of_block (cs := #[.int .i64 (rv k)]) (t := 3) (fr := (0, 0)) (heap_alloc_new W7 _)) | skip
                case cd2 => simp [Value.oneCell']
                case cd3 => unfold maxLen; omega
                case cd4 => omega
                case cd5 => first | exact hbs2 | omega
                intro v' w7 own' grow' _
                have hb7 : b2 ≤ w7.heap.size := Nat.le_trans hbs2 grow'.size
                replace hb : Below wo.heap.size wo w7 := (hb.alloc hb.size _).grown grow' (by simp; omega) (fun b hb' => by have := (own.lt _ hb').1; omega)
                obtain ⟨av', cv', rfl⟩ := own_sliceI own'
                rw [← PC.out] at own'
                have HO' := Lib.hid own'
                clear own own' grow'
                go_wp2_with fail
                go_roundw
                case rel => exact ⟨k + 1, _, by omega, by go_num, rfl, HO', hb7, hb⟩
                case measure => first | (simp only [intOf]; omega) | (simp [intOf]; omega)
            · obtain rfl : k = N := by omega
              obtain ⟨av, cv, rfl⟩ := own_sliceI HO.out
              go_wp2_with fail
              go_roundw
              case rel => exact ⟨r + 1, av, cv, by omega, by go_num, rfl, Lib.hid (NNr.out _ _ _ HO.out), fresh_own HO.out hb23, K2.out.kept hb, HB.out.trans (hb.mono HB.out.size)⟩
              case measure => simp only [intOf]; omega
        · obtain rfl : r = 64 := by omega
          go_wp2_with fail
          go_ret
          exact ⟨_, _, rfl, HM.out, hfr, hb⟩

/-- What membrane gives. -/
theorem membrane_any (W H wd ht X Y SX SY : Nat) (iv : Value) (ps : List Px) (ox oy : Int) (c : Nat) (w : World) (hI : Pn w iv ps) (hl : ps.length = W * H) (hW : W ≤ 256) (hH : H ≤ 256) (hpk : ∀ k, k < ps.length → pOk (pxAt ps k) = true) (hX : X + wd ≤ W) (hY : Y + ht ≤ H) (hSX : SX + wd ≤ W) (hSY : SY + ht ≤ H) (hox : (X : Int) + ox = SX) (hoy : (Y : Int) + oy = SY) (hw : 1 ≤ wd ∧ wd ≤ 32) (hh : 1 ≤ ht ∧ ht ≤ 32) (hc : c < 4) :
    Calls Tryz.prog 54 #[.agg #[.int .i64 W, .int .i64 H, iv], .agg #[.int .i64 X, .int .i64 Y, .int .i64 wd, .int .i64 ht], .agg #[.int .i64 ox, .int .i64 oy], .int .i64 c] w fun e w' => ∃ a cp, e = .returned (.slice a (wd * ht) cp) ∧ Nn w' (.slice a (wd * ht) cp) (memL W wd ht X Y SX SY ps 64 c) ∧ Fresh w.heap.size (.slice a (wd * ht) cp) ∧ Below w.heap.size w w' := by
  obtain ⟨ai, ci, rfl⟩ := hI.slice
  have hN : wd * ht ≤ 32 * 32 := Nat.mul_le_mul hw.2 hh.2
  have ha : ∀ (X Y : Nat), X + wd ≤ W → Y + ht ≤ H → ∀ k, k < wd * ht → cl (pxAt ps (nIdx X Y wd W k)).2.2.2 = (pxAt ps (nIdx X Y wd W k)).2.2.2 := fun X Y h1 h2 k hk => by
    have hlt := nIdx_lt X Y wd ht W H k (by omega) h1 h2 hk
    have := hpk _ (show nIdx X Y wd W k < ps.length by omega)
    unfold pOk at this
    exact (of_decide_eq_true this).2.2.2.symm
  exact membrane_go W H wd ht (wd * ht) X Y SX SY c ai ps.length ci ps ox oy (fun r k => mem W wd ht X Y SX SY ps r c k) (fun r => memL W wd ht X Y SX SY ps r c) (fun k => pxAt ps (nIdx X Y wd W k)) (fun k => pxAt ps (nIdx SX SY wd W k)) w
    (fun x y hx hy w' hb => by rw [← atP_nIdx W H X Y wd ht x y ps hx hy hX hY]; exact pick_any W H _ ps _ _ w' (hI.kept hb) hl hW hH)
    (fun x y hx hy w' hb => by rw [← atP_nIdx W H SX SY wd ht x y ps hx hy hSX hSY]; exact pick_any W H _ ps _ _ w' (hI.kept hb) hl hW hH)
    (ha X Y hX hY) (ha SX SY hSX hSY) (fun _ => rfl) (fun _ _ => rfl) (fun r k => mem_bd W wd ht X Y SX SY ps r c k) (fun r => memL_len W wd ht X Y SX SY ps r c) (fun r i hi => memL_at W wd ht X Y SX SY ps r c i hi) hW hH hX hY hSX hSY hox hoy hw hh rfl (by omega) hc
end Go.Proofs.YtieacbccadbdbaaGreatDoor

