/- Several texts in one: RetH1, RetH2, RetH3. -/
import Derived.Test.YtieacbccadbdbaaGreatDoorLRetB
import Derived.Test.YtieacbccadbdbaaGreatDoorLNum
import Derived.Deep.Cut
import Derived.Deep.DeepCutAuto

/- retouch.values, retouch.healed. -/
namespace Go.Proofs.YtieacbccadbdbaaGreatDoor
open Go.RowKit
set_option linter.unusedVariables false
attribute [local go_sem] Oper.gAt gUponK Oper.sAt stilK

set_option maxHeartbeats 2000000 in
theorem values_any (p : Px) (w : World) :
    Calls Tryz.prog 47 #[pvx p] w fun e w' => e = .returned (pvx (prP p)) ∧ Below w.heap.size w w' := by
  have PP := Lib.hid (fun w => prex_any p w)
  generalize prP p = q at *
  obtain ⟨p0, p1, p2, p3⟩ := p
  obtain ⟨q0, q1, q2, q3⟩ := q
  replace PP : Hid (∀ w, Calls Tryz.prog 90 #[pv p0 p1 p2 p3] w fun e w' => e = .returned (pv q0 q1 q2 q3) ∧ Below w.heap.size w w') := PP
  show Calls _ _ #[pv p0 p1 p2 p3] w fun e w' => e = .returned (pv q0 q1 q2 q3) ∧ _
  go_enter Tryz.func47, Tryz.ntmps47
  go_upto_region 1 with (fail)
  refine name2 (fun W k1 k2 hb => ?_)
  have c1 := k1.c4
  go_wp2_with fail
  clear c1
  refine (PP.out _).mono ?_
  rintro e W1 ⟨rfl, hS⟩
  replace k1 := k1.kept hS
  replace k2 := k2.kept hS
  replace hb := hb.trans (hS.mono hb.size)
  clear hS
  have c1 := k1.c4
  go_upto_region 2 with (fail)
  clear c1
  refine mid4 hb k1 (by omega) (fun W2 k1' kk hb => ?_)
  replace k2 := kk _ _ (by omega) k2
  have c1 := k1'.c4
  have c2 := k2.c4
  go_wp2_with fail
  exact end4 hb k2 (by omega) (fun w3 c3 => by simp [results, Tryz.results47, go_sem, c3]) rfl (fun w3 hb3 => ⟨rfl, hb3⟩)

set_option maxHeartbeats 8000000 in
theorem healed_go (fs fm r : Nat → Int) (w : World) (hs : ∀ c, 0 ≤ fs c ∧ fs c ≤ 65535) (hm : ∀ c, -65535 ≤ fm c ∧ fm c ≤ 65535) (hr : ∀ c, r c = min 65535 (max (fs c + fm c) 0)) :
    Calls Tryz.prog 48 #[pv (fs 0) (fs 1) (fs 2) (fs 3), pv (fm 0) (fm 1) (fm 2) (fm 3)] w fun e w' => e = .returned (pvx (stP (r 0, r 1, r 2, r 3))) ∧ Below w.heap.size w w' := by
  have ST := Lib.hid (fun w => straightx_any (r 0, r 1, r 2, r 3) w)
  generalize stP (r 0, r 1, r 2, r 3) = q at *
  obtain ⟨q0, q1, q2, q3⟩ := q
  have HR := Lib.hid hr
  have S1 := Lib.hid hs
  have M1 := Lib.hid hm
  clear hs hm hr
  replace ST : Hid (∀ w, Calls Tryz.prog 92 #[pv (r 0) (r 1) (r 2) (r 3)] w fun e w' => e = .returned (pv q0 q1 q2 q3) ∧ Below w.heap.size w w') := ST
  show Calls _ _ #[pv (fs 0) (fs 1) (fs 2) (fs 3), pv (fm 0) (fm 1) (fm 2) (fm 3)] w fun e w' => e = .returned (pv q0 q1 q2 q3) ∧ _
  go_enter Tryz.func48, Tryz.ntmps48
  go_upto_region 1 with (fail)
  refine name3 (fun W1 k1 k2 k3 hb => ?_)
  have row := (rowI_blk4 k1).congr (f' := fun i => if i < 0 then r i else fs i) (fun i _ => by rw [if_neg (by omega)])
  have rom := rowI_blk4 k2
  clear k1 k2
  go_wp2_with fail
  go_loopw [6] (fun i wr => ∃ j : Nat, j ≤ 4 ∧ i = .int .i64 j ∧ RowI wr w.heap.size 4 (fun i => if i < j then r i else fs i) ∧ RowI wr (w.heap.size + 1) 4 fm ∧ Blk wr (w.heap.size + 1 + 1) (.cells #[.int .i64 0, .int .i64 0, .int .i64 0, .int .i64 0] 26 (0, 0)) ∧ Below w.heap.size w wr) (fun i _ => 4 - (intOf i).toNat)
  case atStart => exact ⟨0, Nat.zero_le _, rfl, row, rom, k3, hb⟩
  case round =>
    clear row rom k3 hb
    obtain ⟨j, hj, rfl, row, rom, k3, hb⟩ := hrel
    by_cases hlt : j < 4
    · have CL := Lib.hid (fun w => clamp_any (fs j + fm j) 0 65535 w)
      rw [← HR.out j] at CL
      have b1 := S1.out j
      have b2 := M1.out j
      have RC := Lib.hid (fun w' (h : RowI w' w.heap.size 4 (fun i => if i < j then r i else fs i)) => h.c j hlt)
      simp only [Nat.lt_irrefl, if_false] at RC
      have RS := Lib.hid (fun w' (h : RowI w' w.heap.size 4 (fun i => if i < j then r i else fs i)) => h.step hlt)
      have RM := Lib.hid (fun w' (h : RowI w' (w.heap.size + 1) 4 fm) => h.c j hlt)
      generalize r j = rj at *
      generalize fs j = fj at *
      generalize fm j = mj at *
      have e1 : IntKind.i64.wrap (fj + mj) = fj + mj := IntWalk.i64_in _ (by omega)
      have i1 : (0 : Int) ≤ (j : Int) := by omega
      have i2 : (j : Int) < 4 := by omega
      go_upto_region 4 with (fail)
      refine wp_region_grow 10 (fun w' => Below (World.heap wr).size wr w') (by kernel_rfl) (by kernel_rfl) (Below.refl _ _).drew ?_
      simp only [List.take_succ_cons, List.take_zero, List.drop_succ_cons, List.drop_zero]
      repeat (first | (apply wpG_on; rfl; (intro w' hS K hK; have hc0 := (row.kept hS).lt; have hc1 := (rom.kept hS).lt; have hc2 := (k3.kept hS).lt; have hr0 := RC.out _ (row.kept hS); have hr1 := RM.out _ (rom.kept hS); go_simp; (first | exact hK.out _ hS | (go_at_call 91; (with_reducible refine (CL.out _).mono ?_); rintro e w'' ⟨rfl, rfl⟩; exact ⟨_, rfl, hK.out _ hS⟩))); simp only [Act.put, List.setIfInBounds_toArray, List.set_cons_succ, List.set_cons_zero]) | (apply wpG_off; rfl; simp only [Act.put, List.setIfInBounds_toArray, List.set_cons_succ, List.set_cons_zero]))
      apply wpG_nil
      intro W2 hS
      replace row := row.kept hS
      replace rom := rom.kept hS
      replace k3 := k3.kept hS
      replace hb := hb.trans (hS.mono hb.size)
      clear hS
      have cr := RC.out _ row
      go_wp2_with fail
      go_roundw
      case rel => exact ⟨j + 1, by omega, by go_num, RS.out _ row, rom.other (p := ⟨w.heap.size, j, none⟩) (by show _ ≠ w.heap.size; omega) _, k3.other (p := ⟨w.heap.size, j, none⟩) (by show _ ≠ w.heap.size; omega) _, hb.setCell (p := ⟨w.heap.size, j, none⟩) (Nat.le_refl _) _⟩
      case measure => simp only [intOf]; omega
    · obtain rfl : j = 4 := by omega
      have r4 := row.congr (f' := r) (fun i hi => if_pos hi)
      have d0 := r4.c 0 (by omega)
      have d1 := r4.c 1 (by omega)
      have d2 := r4.c 2 (by omega)
      have d3 := r4.c 3 (by omega)
      clear row r4
      go_wp2_with fail
      clear d0 d1 d2 d3
      refine (ST.out _).mono ?_
      rintro e W3 ⟨rfl, hS⟩
      replace k3 := k3.kept hS
      replace hb := hb.trans (hS.mono hb.size)
      have c3 := k3.c4
      go_wp2_with fail
      exact end4 hb k3 (by omega) (fun w3 c3 => by simp [results, Tryz.results48, go_sem, c3]) rfl (fun w3 hb3 => ⟨rfl, hb3⟩)
theorem healed_any (s m : Px) (w : World) (hs : ∀ c, 0 ≤ cmp c s ∧ cmp c s ≤ 65535) (hm : ∀ c, -65535 ≤ cmp c m ∧ cmp c m ≤ 65535) :
    Calls Tryz.prog 48 #[pvx s, pvx m] w fun e w' => e = .returned (pvx (heP s m)) ∧ Below w.heap.size w w' :=
  healed_go (fun c => cmp c s) (fun c => cmp c m) (fun c => cl (cmp c s + cmp c m)) w hs hm (fun c => (cl_min _).symm)
end Go.Proofs.YtieacbccadbdbaaGreatDoor


/- retouch.differences. -/
namespace Go.Proofs.YtieacbccadbdbaaGreatDoor
open Go.RowKit
set_option linter.unusedVariables false
attribute [local go_sem] Oper.gAt gUponK Oper.sAt stilK

theorem idx_lt {W H X Y x y : Nat} (hX : X + x < W) (hY : Y + y < H) : (Y + y) * W + X + x < W * H := by
  have := Nat.mul_le_mul_right W (show Y + y + 1 ≤ H by omega)
  rw [Nat.add_mul (Y + y), Nat.one_mul, Nat.mul_comm H] at this
  omega
theorem memC_xy {W w h X Y SX SY : Nat} {ps : List Px} {x y c : Nat} (hx : x < w) (hc : c < 4) (hb : onBorder w h (y * w + x) = true) :
    memC W w h X Y SX SY ps 0 ((y * w + x) * 4 + c) = cmp c (prP (pxAt ps ((Y + y) * W + X + x))) - cmp c (prP (pxAt ps ((SY + y) * W + SX + x))) := by
  have e4 : (y * w + x) % w = x := by
    rw [show y * w + x = x + w * y by rw [Nat.mul_comm]; omega, Nat.add_mul_mod_self_left]
    exact Nat.mod_eq_of_lt hx
  have e5 : (y * w + x) / w = y := by
    rw [show y * w + x = x + w * y by rw [Nat.mul_comm]; omega, Nat.add_mul_div_left _ _ (by omega), Nat.div_eq_of_lt hx]
    omega
  unfold memC
  rw [show ((y * w + x) * 4 + c) % 4 = c by omega, show ((y * w + x) * 4 + c) / 4 = y * w + x by omega, mem_zero, mem0_on hb]
  unfold nIdx
  rw [e4, e5]
theorem memC_in {W w h X Y SX SY : Nat} {ps : List Px} {k j : Nat} (hb : onBorder w h k = false) (h1 : k * 4 ≤ j) (h2 : j < (k + 1) * 4) : memC W w h X Y SX SY ps 0 j = 0 := by
  unfold memC
  rw [show j / 4 = k by omega, mem_zero, mem0_in hb]
/-- The numbers of a pixel of the rectangle and of its source. -/
theorem dif_px {W H X Y w h SX SY : Nat} {ox oy : Int} {x y : Nat} (hX : X + w ≤ W) (hY : Y + h ≤ H) (hSX : SX + w ≤ W) (hSY : SY + h ≤ H) (hW : W ≤ 256) (hox : (X : Int) + ox = SX) (hoy : (Y : Int) + oy = SY) (hx : x < w) (hy : y < h) :
    ∃ (yq yw yx n1 n2 : Nat) (ow : Int), Y + y = yq ∧ yq * W = yw ∧ yw + X = yx ∧ yx + x = n1 ∧ n1 = (Y + y) * W + X + x ∧ n2 = (SY + y) * W + SX + x ∧ n1 < W * H ∧ n2 < W * H ∧ oy * (W : Int) = ow ∧ (n1 : Int) + ow + ox = n2 := by
  refine ⟨_, _, _, _, _, _, rfl, rfl, rfl, rfl, rfl, rfl, idx_lt (by omega) (by omega), idx_lt (by omega) (by omega), rfl, ?_⟩
  rw [show oy = (SY : Int) - (Y : Int) by omega, Int.sub_mul, Nat.add_mul Y y W, Nat.add_mul SY y W]
  have a := Int.natCast_mul Y W
  have b := Int.natCast_mul SY W
  generalize (Y : Int) * (W : Int) = p at *
  generalize (SY : Int) * (W : Int) = q at *
  generalize y * W = r at *
  omega
theorem RowI.via2 {w w2 : World} {g n b b' : Nat} {f : Nat → Int} (h : RowI w g n f) (kk : ∀ i o, i ≠ b → i ≠ b' → Blk w i o → Blk w2 i o) (hne : g ≠ b) (hne' : g ≠ b') : RowI w2 g n f := by
  obtain ⟨cs, t, hh, r⟩ := h
  exact ⟨cs, t, kk _ _ hne hne' hh, r⟩

set_option maxRecDepth 100000 in
set_option maxHeartbeats 16000000 in
theorem differences_any (W H X Y wd ht SX SY : Nat) (ox oy : Int) (iv : Value) (ps : List Px) (w : World) (hI : Pn w iv ps) (hl : ps.length = W * H) (hW : W ≤ 256) (hH : H ≤ 256) (hw : 1 ≤ wd ∧ wd ≤ 32) (hh : 1 ≤ ht ∧ ht ≤ 32) (hX : X + wd ≤ W) (hY : Y + ht ≤ H) (hSX : SX + wd ≤ W) (hSY : SY + ht ≤ H) (hox : (X : Int) + ox = SX) (hoy : (Y : Int) + oy = SY) :
    Calls Tryz.prog 45 #[.agg #[.int .i64 W, .int .i64 H, iv], .agg #[.int .i64 X, .int .i64 Y, .int .i64 wd, .int .i64 ht], .agg #[.int .i64 ox, .int .i64 oy]] w fun e w' => ∃ g, e = .returned (.slice (some ⟨g, 0, none⟩) (wd * ht) (wd * ht)) ∧ w.heap.size ≤ g ∧ RowI w' g (wd * ht * 4) (memC W wd ht X Y SX SY ps 0) ∧ Below w.heap.size w w' := by
  obtain ⟨ai, ci, rfl⟩ := hI.slice
  have HI := Lib.hid hI
  have hN : wd * ht ≤ 32 * 32 := Nat.mul_le_mul hw.2 hh.2
  have hWH : W * H ≤ 256 * 256 := Nat.mul_le_mul hW hH
  have PX : Hid (∀ x y, x < wd → y < ht → onBorder wd ht (y * wd + x) = true → ∃ (yq yw yx n1 n2 : Nat) (ow : Int) (fa fb : Nat → Int), Y + y = yq ∧ yq * W = yw ∧ yw + X = yx ∧ yx + x = n1 ∧ n1 < ps.length ∧ n2 < ps.length ∧ oy * (W : Int) = ow ∧ (n1 : Int) + ow + ox = n2 ∧ (∀ w, Calls Tryz.prog 47 #[pvx (pxAt ps n1)] w fun e w' => e = .returned (pv (fa 0) (fa 1) (fa 2) (fa 3)) ∧ Below w.heap.size w w') ∧ (∀ w, Calls Tryz.prog 47 #[pvx (pxAt ps n2)] w fun e w' => e = .returned (pv (fb 0) (fb 1) (fb 2) (fb 3)) ∧ Below w.heap.size w w') ∧ (∀ c, 0 ≤ fa c ∧ fa c ≤ 65535) ∧ (∀ c, 0 ≤ fb c ∧ fb c ≤ 65535) ∧ ∀ c, c < 4 → memC W wd ht X Y SX SY ps 0 ((y * wd + x) * 4 + c) = fa c - fb c) := fun x y hx hy hb => by
    obtain ⟨yq, yw, yx, n1, n2, ow, h1, h2, h3, h4, h5, h6, h7, h8, h9, h10⟩ := dif_px (ox := ox) (oy := oy) hX hY hSX hSY hW hox hoy hx hy
    refine ⟨yq, yw, yx, n1, n2, ow, fun c => cmp c (prP (pxAt ps n1)), fun c => cmp c (prP (pxAt ps n2)), h1, h2, h3, h4, by omega, by omega, h9, h10, fun w => values_any _ w, fun w => values_any _ w, fun c => cmp_prP c _, fun c => cmp_prP c _, fun c hc => ?_⟩
    rw [memC_xy hx hc hb, h5, h6]
  have DZ : Hid (∀ k, onBorder wd ht k = false → ∀ j, k * 4 ≤ j → j < (k + 1) * 4 → memC W wd ht X Y SX SY ps 0 j = 0) := fun k hb j h1 h2 => memC_in hb h1 h2
  have BX : Hid (∀ x y, x < wd → onBorder wd ht (y * wd + x) = decide (x = 0 ∨ y = 0 ∨ x = wd - 1 ∨ y = ht - 1)) := fun x y hx => brd_xy hx
  have hyN : Hid (∀ y x, y < ht → x < wd → y * wd + x < wd * ht) := fun y x hy hx => by
    have := Nat.mul_le_mul_right wd (show y + 1 ≤ ht by omega)
    rw [Nat.add_mul, Nat.one_mul, Nat.mul_comm ht] at this
    omega
  have hend : Hid (ht * wd = wd * ht) := Nat.mul_comm _ _
  obtain ⟨N, hNN⟩ : ∃ N, wd * ht = N := ⟨_, rfl⟩
  have hN2 : N ≤ 1024 := by omega
  have eN : IntKind.i64.wrap ((wd : Int) * (ht : Int)) = (N : Int) := by rw [← Int.natCast_mul, hNN]; exact IntWalk.i64_in _ (by omega)
  rw [hNN] at hyN hend ⊢
  have mk := fun w => makeQ N (by omega) w
  have ew : IntKind.i64.wrap ((wd : Int) - 1) = (wd : Int) - 1 := IntWalk.i64_in _ (by omega)
  have eh : IntKind.i64.wrap ((ht : Int) - 1) = (ht : Int) - 1 := IntWalk.i64_in _ (by omega)
  have hn : ps.length ≤ 65536 := by omega
  have hb1 : -256 ≤ ox ∧ ox ≤ 256 := by omega
  clear hI hl hWH hNN hox hoy
  generalize memC W wd ht X Y SX SY ps 0 = D at *
  generalize hnn : ps.length = n at *
  clear hnn
  go_enter Tryz.func45, Tryz.ntmps45
  go_upto_region 1 with (fail)
  refine name3 (fun W1 k1 k2 k3 hb => ?_)
  have c2 := k2.c4
  have l3 := k3.lt
  go_upto_region 2 with (fail)
  clear c2
  refine name1 (fun W2 kr hS => ?_)
  have row := (rowQ_zero kr).congr (f' := fun j => if j < 0 * 4 then D j else 0) (fun j _ => by rw [if_neg (by omega)])
  replace k1 := k1.kept hS
  replace k2 := k2.kept hS
  replace k3 := k3.kept hS
  have hg : w.heap.size ≤ W1.heap.size := hb.size
  have hg3 : w.heap.size + 1 + 1 < W1.heap.size := l3
  replace hb := hb.trans (hS.mono hb.size)
  clear hS kr eN mk
  generalize W1.heap.size = g at *
  have c2 := k2.c4
  go_wp2_with fail
  clear c2
  go_loopw [22] (fun i wr => ∃ y yk : Nat, y ≤ ht ∧ Hid (yk = y * wd) ∧ i = .int .i64 y ∧ RowI wr g (N * 4) (fun j => if j < yk * 4 then D j else 0) ∧ Blk wr w.heap.size (.cells #[.int .i64 W, .int .i64 H, .slice ai n ci] 24 (0, 0)) ∧ Blk wr (w.heap.size + 1) (.cells #[.int .i64 X, .int .i64 Y, .int .i64 wd, .int .i64 ht] 45 (0, 0)) ∧ Blk wr (w.heap.size + 1 + 1) (.cells #[.int .i64 ox, .int .i64 oy] 32 (0, 0)) ∧ Below w.heap.size w wr) (fun i _ => ht - (intOf i).toNat)
  case atStart => exact ⟨0, 0, Nat.zero_le _, (Nat.zero_mul _).symm, rfl, row, k1, k2, k3, hb⟩
  case round =>
    clear row k1 k2 k3 hb
    obtain ⟨y, yk, hy, hyk, rfl, row, k1, k2, k3, hb⟩ := hrel
    by_cases hlt : y < ht
    · have c2 := k2.c4
      have row : RowI wr g (N * 4) (fun j => if j < (yk + 0) * 4 then D j else 0) := row
      go_wp2_with fail
      clear c2
      go_loopw [27] (fun i wr => ∃ x : Nat, x ≤ wd ∧ i = .int .i64 x ∧ RowI wr g (N * 4) (fun j => if j < (yk + x) * 4 then D j else 0) ∧ Blk wr w.heap.size (.cells #[.int .i64 W, .int .i64 H, .slice ai n ci] 24 (0, 0)) ∧ Blk wr (w.heap.size + 1) (.cells #[.int .i64 X, .int .i64 Y, .int .i64 wd, .int .i64 ht] 45 (0, 0)) ∧ Blk wr (w.heap.size + 1 + 1) (.cells #[.int .i64 ox, .int .i64 oy] 32 (0, 0)) ∧ Below w.heap.size w wr) (fun i _ => wd - (intOf i).toNat)
      case atStart => exact ⟨0, Nat.zero_le _, rfl, row, k1, k2, k3, hb⟩
      case round =>
        clear row k1 k2 k3 hb
        obtain ⟨x, hx, rfl, row, k1, k2, k3, hb⟩ := hrel
        by_cases hxl : x < wd
        · have hbx := BX.out x y hxl
          have hkN := hyN.out y x hlt hxl
          have PX1 := Lib.hid (PX.out x y hxl hlt)
          have DZ1 := Lib.hid (DZ.out (y * wd + x))
          rw [← hyk.out] at hbx hkN PX1 DZ1
          have c2 := k2.c4
          by_cases hbd : x = 0 ∨ y = 0 ∨ x = wd - 1 ∨ y = ht - 1
          · rw [decide_eq_true hbd] at hbx
            have c : ((¬ (0 : Int) < x) ∧ ¬ 0 < x) ∨ (((0 : Int) < x ∧ 0 < x) ∧ ¬ (x : Int) < wd - 1) ∨ (((0 : Int) < x ∧ 0 < x) ∧ (x : Int) < wd - 1 ∧ (¬ (0 : Int) < y) ∧ ¬ 0 < y) ∨ (((0 : Int) < x ∧ 0 < x) ∧ (x : Int) < wd - 1 ∧ ((0 : Int) < y ∧ 0 < y) ∧ ¬ (y : Int) < ht - 1) := by omega
            clear hbd
            go_upto_region 8 with (fail)
            go_cut [49] (fun s49 wx => s49 = .bool false ∧ wx = wr)
            case first =>
              rcases c with ⟨d1, d1'⟩ | ⟨⟨d1, d1'⟩, d2⟩ | ⟨⟨d1, d1'⟩, d2, d3, d3'⟩ | ⟨⟨d1, d1'⟩, d2, ⟨d3, d3'⟩, d4⟩
              all_goals
                go_wp2_with fail
                go_meet
                exact ⟨rfl, rfl⟩
            case rest =>
              obtain ⟨rfl, rfl⟩ := hcut
              obtain ⟨yq, yw, yx, n1, n2, ow, fa, fb, g1, g2, g3, g4, hn1, hn2, g5, g6, hva, hvb, hfa, hfb, hD⟩ := PX1.out hbx
              have FA := Lib.hid hfa
              have FB := Lib.hid hfb
              have HD := Lib.hid hD
              clear PX1 DZ1 hfa hfb hD hbx c
              obtain ⟨b1, o1, rfl, hbl1, hc1⟩ := HI.out.at n1 hn1
              obtain ⟨b2, o2, he2, hbl2, hc2⟩ := HI.out.at n2 hn2
              simp only [Option.some.injEq, Addr.mk.injEq, and_true] at he2
              obtain ⟨rfl, rfl⟩ := he2
              generalize pxAt ps n1 = p at *
              generalize pxAt ps n2 = p' at *
              obtain ⟨p0, p1, p2, p3⟩ := p
              obtain ⟨r0, r1, r2, r3⟩ := p'
              simp only at hc1 hc2
              have HC1 := Lib.hid hc1
              have HC2 := Lib.hid hc2
              have VA : Hid (∀ w, Calls Tryz.prog 47 #[pv p0 p1 p2 p3] w fun e w' => e = .returned (pv (fa 0) (fa 1) (fa 2) (fa 3)) ∧ Below w.heap.size w w') := hva
              have VB : Hid (∀ w, Calls Tryz.prog 47 #[pv r0 r1 r2 r3] w fun e w' => e = .returned (pv (fb 0) (fb 1) (fb 2) (fb 3)) ∧ Below w.heap.size w w') := hvb
              clear hva hvb hc1 hc2
              have e1 : IntKind.i64.wrap ((Y : Int) + (y : Int)) = (yq : Int) := by rw [← g1, ← Int.natCast_add]; exact IntWalk.i64_in _ (by omega)
              have e2 : IntKind.i64.wrap ((yq : Int) * (W : Int)) = (yw : Int) := by rw [← g2, ← Int.natCast_mul]; exact IntWalk.i64_in _ (by omega)
              have e3 : IntKind.i64.wrap ((yw : Int) + (X : Int)) = (yx : Int) := by rw [← g3, ← Int.natCast_add]; exact IntWalk.i64_in _ (by omega)
              have e4 : IntKind.i64.wrap ((yx : Int) + (x : Int)) = (n1 : Int) := by rw [← g4, ← Int.natCast_add]; exact IntWalk.i64_in _ (by omega)
              have e5 : IntKind.i64.wrap (oy * (W : Int)) = ow := by rw [g5]; exact IntWalk.i64_in _ (by omega)
              have e6 : IntKind.i64.wrap ((n1 : Int) + ow) = (n1 : Int) + ow := IntWalk.i64_in _ (by omega)
              have e7 : IntKind.i64.wrap ((n1 : Int) + ow + ox) = (n2 : Int) := by rw [g6]; exact IntWalk.i64_in _ (by omega)
              clear g1 g2 g3 g4 g5 g6
              have i1 : (0 : Int) ≤ (n1 : Int) := by omega
              have i2 : (n1 : Int) < (n : Int) := by omega
              have j1 : (0 : Int) ≤ (n2 : Int) := by omega
              have j2 : (n2 : Int) < (n : Int) := by omega
              have q1 := k1.c3
              go_upto_region 10 with (fail)
              clear q1 c2
              have lg := row.lt
              have l1 := k3.lt
              have hbs := hb.size
              refine wp_region_make 23 (by kernel_rfl) (by kernel_rfl) ?_
              simp only [makeOrder, numbered, mkB, List.take_succ_cons, List.take_zero, List.drop_succ_cons, List.drop_zero, List.filter_cons, List.filter_nil, Bool.not_true, Bool.not_false, Bool.false_eq_true, List.cons_append, List.nil_append, ↓reduceIte]
              repeat (first | (apply wpN_on; rfl; rfl; (intro w' hS K hK; have hc0 := (k1.kept hS).c3; have hc1 := (k2.kept hS).lt; have hc2 := (k3.kept hS).c2; have hc3 := (row.kept hS).lt; have hr0 := HC1.out _ (hb.trans (hS.mono hb.size)); have hr1 := HC2.out _ (hb.trans (hS.mono hb.size)); go_simp; (first | exact hK.out _ (Below.refl _ _) | (go_at_call 47; (with_reducible refine (VA.out _).mono ?_); rintro e w'' ⟨rfl, hbb⟩; exact ⟨_, rfl, hK.out _ hbb⟩) | (go_at_call 47; (with_reducible refine (VB.out _).mono ?_); rintro e w'' ⟨rfl, hbb⟩; exact ⟨_, rfl, hK.out _ hbb⟩))); simp only [Act.put, List.setIfInBounds_toArray, List.set_cons_succ, List.set_cons_zero]) | (apply wpN_off; rfl; rfl; simp only [Act.put, List.setIfInBounds_toArray, List.set_cons_succ, List.set_cons_zero]))
              apply wpN_new
              rfl
              rfl
              · intro w' hS K hK; have hc0 := (k1.kept hS).c3; have hc1 := (k2.kept hS).lt; have hc2 := (k3.kept hS).c2; have hc3 := (row.kept hS).lt; have hr0 := HC1.out _ (hb.trans (hS.mono hb.size)); have hr1 := HC2.out _ (hb.trans (hS.mono hb.size)); go_simp; exact hK.out
              intro xt hxt nxt
              simp only [Act.put, mkOf, List.setIfInBounds_toArray, List.set_cons_succ, List.set_cons_zero]
              apply wpN_new
              rfl
              rfl
              · intro w' hS K hK; have hc0 := (k1.kept hS).c3; have hc1 := (k2.kept hS).lt; have hc2 := (k3.kept hS).c2; have hc3 := (row.kept hS).lt; have hr0 := HC1.out _ (hb.trans (hS.mono hb.size)); have hr1 := HC2.out _ (hb.trans (hS.mono hb.size)); go_simp; exact hK.out
              intro xs hxs nxs
              simp only [Act.put, mkOf, List.setIfInBounds_toArray, List.set_cons_succ, List.set_cons_zero]
              apply wpN_nil
              rintro W10 hS ⟨⟨-, kxt⟩, kxs⟩
              replace k1 := k1.kept hS
              replace k2 := k2.kept hS
              replace k3 := k3.kept hS
              replace row := row.kept hS
              replace hb := hb.trans (hS.mono hb.size)
              have ct := kxt.c4
              have cs := kxs.c4
              have hne : xs ≠ xt := by simpa using nxs
              have hne2 : xt ≠ xs := fun h => hne h.symm
              go_upto_region 11 with (fail)
              clear ct cs hS e1 e2 e3 e4 e5 e6 e7 nxt nxs i1 i2 j1 j2
              refine mid44 hb kxt kxs hne (by omega) (by omega) (fun W11 kt ks kk hb => ?_)
              replace k1 := kk _ _ (by omega) (by omega) k1
              replace k2 := kk _ _ (by omega) (by omega) k2
              replace k3 := kk _ _ (by omega) (by omega) k3
              replace row := row.via2 kk (by omega) (by omega)
              have rt := rowI_blk4 kt
              have rs := rowI_blk4 ks
              have htg : xt ≠ g := by omega
              have hsg : xs ≠ g := by omega
              clear kk kxt kxs kt ks lg l1 hbs hxt hxs
              go_wp2_with fail
              go_loopw [83] (fun i wr => ∃ c : Nat, c ≤ 4 ∧ i = .int .i64 c ∧ RowI wr g (N * 4) (fun j => if j < (yk + x) * 4 + c then D j else 0) ∧ RowI wr xt 4 fa ∧ RowI wr xs 4 fb ∧ Blk wr w.heap.size (.cells #[.int .i64 W, .int .i64 H, .slice (some ⟨b1, o1, none⟩) n ci] 24 (0, 0)) ∧ Blk wr (w.heap.size + 1) (.cells #[.int .i64 X, .int .i64 Y, .int .i64 wd, .int .i64 ht] 45 (0, 0)) ∧ Blk wr (w.heap.size + 1 + 1) (.cells #[.int .i64 ox, .int .i64 oy] 32 (0, 0)) ∧ Below w.heap.size w wr) (fun i _ => 4 - (intOf i).toNat)
              case atStart => exact ⟨0, Nat.zero_le _, rfl, row, rt, rs, k1, k2, k3, hb⟩
              case round =>
                clear row rt rs k1 k2 k3 hb
                obtain ⟨c, hc, rfl, row, rt, rs, k1, k2, k3, hb⟩ := hrel
                by_cases hcl : c < 4
                · have hDc := HD.out c hcl
                  have ba := FA.out c
                  have bb := FB.out c
                  have e8 : IntKind.i64.wrap ((y : Int) * (wd : Int)) = (yk : Int) := by rw [← Int.natCast_mul, ← hyk.out]; exact IntWalk.i64_in _ (by omega)
                  obtain ⟨k0, hk0⟩ : ∃ k0, yk + x = k0 := ⟨_, rfl⟩
                  have e9 : IntKind.i64.wrap ((yk : Int) + (x : Int)) = (k0 : Int) := by rw [← Int.natCast_add, hk0]; exact IntWalk.i64_in _ (by omega)
                  rw [hk0] at hDc row hkN
                  have RC := Lib.hid (fun w (h : RowI w g (N * 4) (fun j => if j < k0 * 4 + c then D j else 0)) => h.c (k0 * 4 + c) (by omega))
                  simp only [Nat.lt_irrefl, if_false] at RC
                  have ST := Lib.hid (fun w (h : RowI w g (N * 4) (fun j => if j < k0 * 4 + c then D j else 0)) => h.step (r := D) (p := fun _ => 0) (k := k0 * 4 + c) (by omega))
                  rw [hDc] at ST
                  have RT := Lib.hid (fun w (h : RowI w xt 4 fa) => h.c c hcl)
                  have RB := Lib.hid (fun w (h : RowI w xs 4 fb) => h.c c hcl)
                  clear hDc
                  generalize fa c = av at *
                  generalize fb c = bv at *
                  have e10 : IntKind.i64.wrap (av - bv) = av - bv := IntWalk.i64_in _ (by omega)
                  have i1 : (0 : Int) ≤ (c : Int) := by omega
                  have i2 : (c : Int) < 4 := by omega
                  have j1 : (0 : Int) ≤ (k0 : Int) := by omega
                  have j2 : (k0 : Int) < (N : Int) := by omega
                  go_upto_region 14 with (fail)
                  refine wp_region_grow 17 (fun w' => Below (World.heap wr).size wr w') (by kernel_rfl) (by kernel_rfl) (Below.refl _ _).drew ?_
                  simp only [List.take_succ_cons, List.take_zero, List.drop_succ_cons, List.drop_zero]
                  repeat (first | (apply wpG_on; rfl; (intro w' hS K hK; have hc0 := (k2.kept hS).c4; have hc1 := (row.kept hS).lt; have hc2 := (rt.kept hS).lt; have hc3 := (rs.kept hS).lt; have hc4 := (k1.kept hS).lt; have hc5 := (k3.kept hS).lt; have hr0 := RC.out _ (row.kept hS); have hr1 := RT.out _ (rt.kept hS); have hr2 := RB.out _ (rs.kept hS); go_simp; (first | exact hK.out _ hS)); simp only [Act.put, List.setIfInBounds_toArray, List.set_cons_succ, List.set_cons_zero]) | (apply wpG_off; rfl; simp only [Act.put, List.setIfInBounds_toArray, List.set_cons_succ, List.set_cons_zero]))
                  apply wpG_nil
                  intro W12 hS
                  replace k2 := k2.kept hS
                  replace row := row.kept hS
                  replace rt := rt.kept hS
                  replace rs := rs.kept hS
                  replace k1 := k1.kept hS
                  replace k3 := k3.kept hS
                  replace hb := hb.trans (hS.mono hb.size)
                  clear hS
                  have cr := RC.out _ row
                  go_wp2_with fail
                  go_roundw
                  case rel => exact ⟨c + 1, by omega, by go_num, (by rw [hk0]; exact ST.out _ row), rt.other (p := ⟨g, k0 * 4 + c, none⟩) htg _, rs.other (p := ⟨g, k0 * 4 + c, none⟩) hsg _, k1.other (p := ⟨g, k0 * 4 + c, none⟩) (by show _ ≠ g; omega) _, k2.other (p := ⟨g, k0 * 4 + c, none⟩) (by show _ ≠ g; omega) _, k3.other (p := ⟨g, k0 * 4 + c, none⟩) (by show _ ≠ g; omega) _, hb.setCell (p := ⟨g, k0 * 4 + c, none⟩) hg _⟩
                  case measure => simp only [intOf]; omega
                · obtain rfl : c = 4 := by omega
                  go_wp2_with fail
                  go_roundw
                  case rel => exact ⟨x + 1, by omega, by go_num, (by rw [show (yk + (x + 1)) * 4 = (yk + x) * 4 + 4 by omega]; exact row), k1, k2, k3, hb⟩
                  case measure => simp only [intOf]; omega
          · rw [decide_eq_false hbd] at hbx
            have d1 : (0 : Int) < x := by omega
            have d2 : (x : Int) < (wd : Int) - 1 := by omega
            have d3 : (0 : Int) < y := by omega
            have d4 : (y : Int) < (ht : Int) - 1 := by omega
            go_wp2_with fail
            go_roundw
            case rel => exact ⟨x + 1, by omega, by go_num, row.jump (k' := (yk + (x + 1)) * 4) (by omega) (fun j h1 h2 _ => DZ1.out hbx j h1 (by omega)), k1, k2, k3, hb⟩
            case measure => simp only [intOf]; omega
        · obtain rfl : x = wd := by omega
          go_wp2_with fail
          go_roundw
          case rel => exact ⟨y + 1, yk + x, by omega, (by show _ = _; rw [Nat.add_mul, Nat.one_mul, hyk.out]), by go_num, row, k1, k2, k3, hb⟩
          case measure => simp only [intOf]; omega
    · obtain rfl : y = ht := by omega
      go_wp2_with fail
      go_ret
      exact ⟨g, rfl, hg, row.congr (fun j hj => if_pos (by rw [hyk.out, hend.out]; exact hj)), hb⟩
end Go.Proofs.YtieacbccadbdbaaGreatDoor


/- retouch.smoothed. -/
namespace Go.Proofs.YtieacbccadbdbaaGreatDoor
open Go.RowKit
set_option linter.unusedVariables false
attribute [local go_sem] Oper.gAt gUponK Oper.sAt stilK

set_option maxRecDepth 100000 in
set_option maxHeartbeats 16000000 in
theorem smoothed_any (wd ht g : Nat) (O S : Nat → Int) (w : World) (row : RowI w g (wd * ht * 4) O) (hw : 1 ≤ wd ∧ wd ≤ 32) (hh : 1 ≤ ht ∧ ht ≤ 32) (hO : ∀ j, -65535 ≤ O j ∧ O j ≤ 65535)
    (hSb : ∀ j, onBorder wd ht (j / 4) = true → S j = O j) (hSi : ∀ k c, c < 4 → onBorder wd ht k = false → S (k * 4 + c) = dv (O ((k - 1) * 4 + c) + O ((k + 1) * 4 + c) + O ((k - wd) * 4 + c) + O ((k + wd) * 4 + c)) 4) :
    Calls Tryz.prog 46 #[.slice (some ⟨g, 0, none⟩) (wd * ht) (wd * ht), .int .i64 wd, .int .i64 ht] w fun e w' => ∃ g', e = .returned (.slice (some ⟨g', 0, none⟩) (wd * ht) (wd * ht)) ∧ w.heap.size ≤ g' ∧ RowI w' g' (wd * ht * 4) S ∧ Below w.heap.size w w' := by
  have hN : wd * ht ≤ 32 * 32 := Nat.mul_le_mul hw.2 hh.2
  have hkk : Hid (∀ y x, 1 ≤ y → y + 1 < ht → x + 1 < wd → y * wd + x + wd < wd * ht ∧ wd ≤ y * wd) := fun y x hy hy2 hx => by
    have a := Nat.mul_le_mul_right wd (show y + 1 + 1 ≤ ht by omega)
    rw [Nat.add_mul, Nat.add_mul, Nat.one_mul, Nat.mul_comm ht] at a
    have b := Nat.mul_le_mul_right wd hy
    omega
  have H1 : Hid (∀ j, j < (wd + 1) * 4 → S j = O j) := fun j hj => hSb j (brd_first (by omega) (by omega))
  have HR : Hid (∀ y x j, ((x + 1 ≤ wd) ∨ x = 1) → 1 ≤ x → ¬ x + 1 < wd → (y * wd + x) * 4 ≤ j → j < (y * wd + wd + 1) * 4 → S j = O j) := fun y x j h1 h2 h3 h4 h5 => hSb j (brd_row (y := y) (by omega) (by omega) (by rw [Nat.add_mul, Nat.one_mul]; omega))
  have HE : Hid (∀ y j, ht ≤ y + 1 → (y * wd + 1) * 4 ≤ j → j < wd * ht * 4 → S j = O j) := fun y j h1 h2 h3 => hSb j (brd_last (y := y) (by omega) (by omega) (by omega) (by omega))
  have HI : Hid (∀ y x c, c < 4 → 1 ≤ x → x + 1 < wd → 1 ≤ y → y + 1 < ht → S ((y * wd + x) * 4 + c) = dv (O ((y * wd + x - 1) * 4 + c) + O ((y * wd + x + 1) * 4 + c) + O ((y * wd + x - wd) * 4 + c) + O ((y * wd + x + wd) * 4 + c)) 4) := fun y x c hc hx hx2 hy hy2 => hSi _ c hc (brd_in hx hx2 hy hy2)
  have HO := Lib.hid hO
  clear hSb hSi hO
  generalize wd * ht = N at *
  have mk := fun w => makeQ N (by omega) w
  have ew : IntKind.i64.wrap ((wd : Int) - 1) = (wd : Int) - 1 := IntWalk.i64_in _ (by omega)
  have eh : IntKind.i64.wrap ((ht : Int) - 1) = (ht : Int) - 1 := IntWalk.i64_in _ (by omega)
  have lg := row.lt
  go_enter Tryz.func46, Tryz.ntmps46
  go_upto_region 2 with (fail)
  refine name1 (fun W1 kr hb => ?_)
  have HK := Lib.hid kr
  have HW := Lib.hid (row.kept hb)
  clear kr mk row
  go_wp2_with (refine wpList_copy_all (o := ⟨some 17, _, _, _, _, _⟩) rfl _ _ 75 75 rfl 78 4 Tryz.underlying75 infoQ4 w.heap.size N N N (some ⟨g, 0, none⟩) rfl rfl _ _ HK.out (icF O (N * 4)) (icF_len _ _) ?cs ?src (icF_one _ _) w.heap.size w hb (by omega) ?_)
  case cs => rw [size_madeCells, icF_len]
  case src => exact fun _ => ⟨_, rfl, HW.out.src⟩
  intro W3 hr hother hb3
  have row := rowI_of_cells hr.out
  have rowO := HW.out.same (hother g (by omega))
  clear hr hother hb HW HK
  have hb := hb3
  clear hb3
  replace row := row.congr (f' := fun j => if j < (wd + 1) * 4 then S j else O j) (fun j _ => by
    by_cases h : j < (wd + 1) * 4
    · rw [if_pos h, H1.out j h]
    · rw [if_neg h])
  have hgne : w.heap.size ≠ g := by omega
  go_wp2_with fail
  go_loopw [8] (fun i wr => ∃ y yk : Nat, 1 ≤ y ∧ Hid (yk = y * wd) ∧ i = .int .i64 y ∧ (y + 1 ≤ ht ∨ y = 1) ∧ RowI wr w.heap.size (N * 4) (fun j => if j < (yk + 1) * 4 then S j else O j) ∧ RowI wr g (N * 4) O ∧ Below w.heap.size w wr) (fun i _ => ht - (intOf i).toNat)
  case atStart => exact ⟨1, wd, Nat.le_refl _, (Nat.one_mul _).symm, rfl, .inr rfl, row, rowO, hb⟩
  case round =>
    clear row rowO hb
    obtain ⟨y, yk, hy1, hyk, rfl, hy2, row, rowO, hb⟩ := hrel
    by_cases hlt : y + 1 < ht
    · have d1 : (y : Int) < (ht : Int) - 1 := by omega
      have hrow := row
      go_wp2_with fail
      go_loopw [9] (fun i wr => ∃ x : Nat, 1 ≤ x ∧ i = .int .i64 x ∧ (x + 1 ≤ wd ∨ x = 1) ∧ RowI wr w.heap.size (N * 4) (fun j => if j < (yk + x) * 4 then S j else O j) ∧ RowI wr g (N * 4) O ∧ Below w.heap.size w wr) (fun i _ => wd - (intOf i).toNat)
      case atStart => exact ⟨1, Nat.le_refl _, rfl, .inr rfl, row, rowO, hb⟩
      case round =>
        clear row hrow rowO hb
        obtain ⟨x, hx1, rfl, hx2, row, rowO, hb⟩ := hrel
        by_cases hxl : x + 1 < wd
        · have d2 : (x : Int) < (wd : Int) - 1 := by omega
          obtain ⟨hk1, hk2⟩ := hkk.out y x hy1 hlt hxl
          have HI1 := Lib.hid (fun c hc => HI.out y x c hc hx1 hxl hy1 hlt)
          rw [← hyk.out] at hk1 hk2 HI1
          have e8 : IntKind.i64.wrap ((y : Int) * (wd : Int)) = (yk : Int) := by rw [← Int.natCast_mul, ← hyk.out]; exact IntWalk.i64_in _ (by omega)
          obtain ⟨k0, hk0⟩ : ∃ k0, yk + x = k0 := ⟨_, rfl⟩
          have e9 : IntKind.i64.wrap ((yk : Int) + (x : Int)) = (k0 : Int) := by rw [← Int.natCast_add, hk0]; exact IntWalk.i64_in _ (by omega)
          rw [hk0] at hk1 HI1
          have hk3 : wd ≤ k0 ∧ 1 ≤ k0 := by omega
          replace row : RowI wr w.heap.size (N * 4) (fun j => if j < k0 * 4 + 0 then S j else O j) := by rw [hk0] at row; exact row
          go_wp2_with fail
          clear e8 e9
          go_loopw [35] (fun i wr => ∃ c : Nat, c ≤ 4 ∧ i = .int .i64 c ∧ RowI wr w.heap.size (N * 4) (fun j => if j < k0 * 4 + c then S j else O j) ∧ RowI wr g (N * 4) O ∧ Below w.heap.size w wr) (fun i _ => 4 - (intOf i).toNat)
          case atStart => exact ⟨0, Nat.zero_le _, rfl, row, rowO, hb⟩
          case round =>
            clear row rowO hb
            obtain ⟨c, hc, rfl, row, rowO, hb⟩ := hrel
            by_cases hcl : c < 4
            · have hS := HI1.out c hcl
              obtain ⟨ka, hka⟩ : ∃ ka, k0 - 1 = ka := ⟨_, rfl⟩
              obtain ⟨kb, hkb⟩ : ∃ kb, k0 + 1 = kb := ⟨_, rfl⟩
              obtain ⟨kc, hkc⟩ : ∃ kc, k0 - wd = kc := ⟨_, rfl⟩
              obtain ⟨kd, hkd⟩ : ∃ kd, k0 + wd = kd := ⟨_, rfl⟩
              rw [hka, hkb, hkc, hkd] at hS
              have R1 := Lib.hid (fun w (h : RowI w g (N * 4) O) => h.c (ka * 4 + c) (by omega))
              have R2 := Lib.hid (fun w (h : RowI w g (N * 4) O) => h.c (kb * 4 + c) (by omega))
              have R3 := Lib.hid (fun w (h : RowI w g (N * 4) O) => h.c (kc * 4 + c) (by omega))
              have R4 := Lib.hid (fun w (h : RowI w g (N * 4) O) => h.c (kd * 4 + c) (by omega))
              have b1 := HO.out (ka * 4 + c)
              have b2 := HO.out (kb * 4 + c)
              have b3 := HO.out (kc * 4 + c)
              have b4 := HO.out (kd * 4 + c)
              have DV := Lib.hid (fun w => div_any (O (ka * 4 + c) + O (kb * 4 + c) + O (kc * 4 + c) + O (kd * 4 + c)) 4 w (by omega) (by omega) (by omega) (by omega))
              rw [← hS] at DV
              have RC := Lib.hid (fun w' (h : RowI w' w.heap.size (N * 4) (fun j => if j < k0 * 4 + c then S j else O j)) => h.c (k0 * 4 + c) (by omega))
              simp only [Nat.lt_irrefl, if_false] at RC
              have ST := Lib.hid (fun w' (h : RowI w' w.heap.size (N * 4) (fun j => if j < k0 * 4 + c then S j else O j)) => h.step (r := S) (p := O) (k := k0 * 4 + c) (by omega))
              clear hS HI1
              generalize S (k0 * 4 + c) = sv at *
              generalize O (ka * 4 + c) = v1 at *
              generalize O (kb * 4 + c) = v2 at *
              generalize O (kc * 4 + c) = v3 at *
              generalize O (kd * 4 + c) = v4 at *
              generalize O (k0 * 4 + c) = v0 at *
              have s1 : IntKind.i64.wrap (v1 + v2) = v1 + v2 := IntWalk.i64_in _ (by omega)
              have s2 : IntKind.i64.wrap (v1 + v2 + v3) = v1 + v2 + v3 := IntWalk.i64_in _ (by omega)
              have s3 : IntKind.i64.wrap (v1 + v2 + v3 + v4) = v1 + v2 + v3 + v4 := IntWalk.i64_in _ (by omega)
              have e1 : IntKind.i64.wrap ((k0 : Int) - 1) = (ka : Int) := by rw [show (k0 : Int) - 1 = (ka : Int) by omega]; exact IntWalk.i64_in _ (by omega)
              have e2 : IntKind.i64.wrap ((k0 : Int) + 1) = (kb : Int) := by rw [show (k0 : Int) + 1 = (kb : Int) by omega]; exact IntWalk.i64_in _ (by omega)
              have e3 : IntKind.i64.wrap ((k0 : Int) - (wd : Int)) = (kc : Int) := by rw [show (k0 : Int) - (wd : Int) = (kc : Int) by omega]; exact IntWalk.i64_in _ (by omega)
              have e4 : IntKind.i64.wrap ((k0 : Int) + (wd : Int)) = (kd : Int) := by rw [show (k0 : Int) + (wd : Int) = (kd : Int) by omega]; exact IntWalk.i64_in _ (by omega)
              have i1 : (0 : Int) ≤ (c : Int) := by omega
              have i2 : (c : Int) < 4 := by omega
              have j1 : (0 : Int) ≤ (k0 : Int) := by omega
              have j2 : (k0 : Int) < (N : Int) := by omega
              have a1 : (0 : Int) ≤ (ka : Int) := by omega
              have a2 : (ka : Int) < (N : Int) := by omega
              have a3 : (0 : Int) ≤ (kb : Int) := by omega
              have a4 : (kb : Int) < (N : Int) := by omega
              have a5 : (0 : Int) ≤ (kc : Int) := by omega
              have a6 : (kc : Int) < (N : Int) := by omega
              have a7 : (0 : Int) ≤ (kd : Int) := by omega
              have a8 : (kd : Int) < (N : Int) := by omega
              clear hka hkb hkc hkd
              go_upto_region 13 with (fail)
              refine wp_region_grow 39 (fun w' => Below (World.heap wr).size wr w') (by kernel_rfl) (by kernel_rfl) (Below.refl _ _).drew ?_
              simp only [List.take_succ_cons, List.take_zero, List.drop_succ_cons, List.drop_zero]
              repeat (first | (apply wpG_on; rfl; (intro w' hS K hK; have hc0 := (row.kept hS).lt; have hc1 := (rowO.kept hS).lt; have hr0 := RC.out _ (row.kept hS); have hr1 := R1.out _ (rowO.kept hS); have hr2 := R2.out _ (rowO.kept hS); have hr3 := R3.out _ (rowO.kept hS); have hr4 := R4.out _ (rowO.kept hS); go_simp; (first | exact hK.out _ hS | (go_at_call 61; (with_reducible refine (DV.out _).mono ?_); rintro e w'' ⟨rfl, rfl⟩; exact ⟨_, rfl, hK.out _ hS⟩))); simp only [Act.put, List.setIfInBounds_toArray, List.set_cons_succ, List.set_cons_zero]) | (apply wpG_off; rfl; simp only [Act.put, List.setIfInBounds_toArray, List.set_cons_succ, List.set_cons_zero]))
              apply wpG_nil
              intro W12 hS
              replace row := row.kept hS
              replace rowO := rowO.kept hS
              replace hb := hb.trans (hS.mono hb.size)
              clear hS
              have cr := RC.out _ row
              go_wp2_with fail
              go_roundw
              case rel => exact ⟨c + 1, by omega, by go_num, ST.out _ row, rowO.other (p := ⟨w.heap.size, k0 * 4 + c, none⟩) (by show g ≠ w.heap.size; omega) _, hb.setCell (p := ⟨w.heap.size, k0 * 4 + c, none⟩) (Nat.le_refl _) _⟩
              case measure => simp only [intOf]; omega
            · obtain rfl : c = 4 := by omega
              go_wp2_with fail
              go_roundw
              case rel => exact ⟨x + 1, by omega, by go_num, by omega, (by rw [show (yk + (x + 1)) * 4 = k0 * 4 + 4 by omega]; exact row), rowO, hb⟩
              case measure => simp only [intOf]; omega
        · have d2 : ¬ (x : Int) < (wd : Int) - 1 := by omega
          go_wp2_with fail
          go_roundw
          case rel => exact ⟨y + 1, yk + wd, by omega, (by show _ = _; rw [Nat.add_mul, Nat.one_mul, hyk.out]), by go_num, by omega, row.jump (k' := (yk + wd + 1) * 4) (by omega) (fun j h1 h2 _ => HR.out y x j hx2 hx1 hxl (by rw [← hyk.out]; exact h1) (by rw [← hyk.out]; exact h2)), rowO, hb⟩
          case measure => simp only [intOf]; omega
    · have d1 : ¬ (y : Int) < (ht : Int) - 1 := by omega
      go_wp2_with fail
      go_ret
      exact ⟨w.heap.size, rfl, Nat.le_refl _, row.congr (fun j hj => by
        by_cases h : j < (yk + 1) * 4
        · rw [if_pos h]
        · rw [if_neg h, HE.out y j (by omega) (by rw [← hyk.out]; omega) hj]), hb⟩
end Go.Proofs.YtieacbccadbdbaaGreatDoor

