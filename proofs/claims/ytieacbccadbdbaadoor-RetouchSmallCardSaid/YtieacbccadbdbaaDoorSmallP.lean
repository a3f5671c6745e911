/- Healing 3 by 3 pixels of an opaque image, plainly; the pixel at a place, by package raster. -/
import Derived.Test.YtieacbccadbdbaaDoorSameP
import Derived.Test.YtieacbccadbdbaaDoorRetB
import Derived.Test.YtieacbccadbdbaaDoorRetW
import Derived.Test.YtieacbccadbdbaaDoorLMask
import Derived.Deep.Cut
namespace Go.Proofs.YtieacbccadbdbaaDoor
open Go.RowKit
set_option linter.unusedVariables false
attribute [local go_sem] Oper.gAt gUponK Oper.sAt stilK

theorem smooths_brd (w h : Nat) (m : Nat → Int) (k : Nat) (hb : onBorder w h k = true) : ∀ n, smooths w h n m k = m k
  | 0 => rfl
  | n + 1 => by
    rw [smooths_succ]
    unfold smooth
    rw [if_pos hb]
    exact smooths_brd w h m k hb n
theorem smooths_mid (m : Nat → Int) (n : Nat) : smooths 3 3 (n + 1) m 4 = dv (m 3 + m 5 + m 1 + m 7) 4 := by
  rw [smooths_succ]
  unfold smooth
  rw [if_neg (by decide), smooths_brd 3 3 m (4 - 1) (by decide), smooths_brd 3 3 m (4 + 1) (by decide), smooths_brd 3 3 m (4 - 3) (by decide), smooths_brd 3 3 m (4 + 3) (by decide)]
/-- One value of the healed middle. -/
def smV (c : Nat) (a3 a5 a1 a7 b3 b5 b1 b7 s : Px) : Int := cl (cmp c s + dv ((cmp c a3 - cmp c b3) + (cmp c a5 - cmp c b5) + (cmp c a1 - cmp c b1) + (cmp c a7 - cmp c b7)) 4)
theorem mxP_one (p q : Px) (hp : pOk p = true) (hq : (0 ≤ q.1 ∧ q.1 ≤ 65535) ∧ (0 ≤ q.2.1 ∧ q.2.1 ≤ 65535) ∧ (0 ≤ q.2.2.1 ∧ q.2.2.1 ≤ 65535)) (hA : q.2.2.2 = 65535) : mxP p q 65535 = q := by
  obtain ⟨r, g, b, a⟩ := p
  obtain ⟨r', g', b', a'⟩ := q
  obtain ⟨h1, h2, h3, h4⟩ := pOk_bd hp
  simp only at h1 h2 h3 h4 hq hA
  subst hA
  have l := fun x x' (h : 0 ≤ x ∧ x ≤ 65535) => mx_lim x x' a 65535 65535
  rw [cl_id a h4.1 h4.2, cl_id 65535 (by omega) (by omega)] at l
  have eA : mxA a 65535 65535 = 65535 := (l r r h1).2.trans (mA_one _ _)
  have eC : ∀ x x', 0 ≤ x ∧ x ≤ 65535 → 0 ≤ x' ∧ x' ≤ 65535 → mxC x x' a 65535 65535 = x' := fun x x' h h' => by
    have := (l x x' h).1
    rw [cl_id x h.1 h.2, cl_id x' h'.1 h'.2] at this
    exact this.trans (mC_one _ _ _ _ (by omega))
  unfold mxP
  simp only
  rw [eA, if_neg (by omega), eC r r' h1 hq.1, eC g g' h2 hq.2.1, eC b b' h3 hq.2.2]
theorem nIdx3 (X Y W k : Nat) : nIdx X Y 3 W k = (Y + k / 3) * W + X + k % 3 := rfl
/-- The healed middle of an opaque image. -/
theorem heal_mid (W H X Y SX SY : Nat) (ps : List Px) (hW : X + 3 ≤ W) (hY : Y + 3 ≤ H) (hSW : SX + 3 ≤ W) (hSY : SY + 3 ≤ H) (hl : ps.length = W * H) (hp : ∀ k, k < ps.length → pOk (pxAt ps k) = true) (ha : ∀ k, k < ps.length → (pxAt ps k).2.2.2 = 65535) :
    healAt W 3 3 X Y SX SY 0 [] ps ((Y + 1) * W + X + 1) = (smV 0 (pxAt ps (nIdx X Y 3 W 3)) (pxAt ps (nIdx X Y 3 W 5)) (pxAt ps (nIdx X Y 3 W 1)) (pxAt ps (nIdx X Y 3 W 7)) (pxAt ps (nIdx SX SY 3 W 3)) (pxAt ps (nIdx SX SY 3 W 5)) (pxAt ps (nIdx SX SY 3 W 1)) (pxAt ps (nIdx SX SY 3 W 7)) (pxAt ps ((SY + 1) * W + SX + 1)),
      smV 1 (pxAt ps (nIdx X Y 3 W 3)) (pxAt ps (nIdx X Y 3 W 5)) (pxAt ps (nIdx X Y 3 W 1)) (pxAt ps (nIdx X Y 3 W 7)) (pxAt ps (nIdx SX SY 3 W 3)) (pxAt ps (nIdx SX SY 3 W 5)) (pxAt ps (nIdx SX SY 3 W 1)) (pxAt ps (nIdx SX SY 3 W 7)) (pxAt ps ((SY + 1) * W + SX + 1)),
      smV 2 (pxAt ps (nIdx X Y 3 W 3)) (pxAt ps (nIdx X Y 3 W 5)) (pxAt ps (nIdx X Y 3 W 1)) (pxAt ps (nIdx X Y 3 W 7)) (pxAt ps (nIdx SX SY 3 W 3)) (pxAt ps (nIdx SX SY 3 W 5)) (pxAt ps (nIdx SX SY 3 W 1)) (pxAt ps (nIdx SX SY 3 W 7)) (pxAt ps ((SY + 1) * W + SX + 1)), 65535) := by
  have il : ∀ (A B k : Nat), A + 3 ≤ W → B + 3 ≤ H → k < 9 → nIdx A B 3 W k < ps.length := fun A B k h1 h2 h3 => by
    rw [hl]
    exact nIdx_lt A B 3 3 W H k (by omega) h1 h2 (by omega)
  have hpr : ∀ k, k < ps.length → prP (pxAt ps k) = pxAt ps k := fun k hk => prP_opq _ (hp k hk) (ha k hk)
  have i4 : ∀ A B, nIdx A B 3 W 4 = (B + 1) * W + A + 1 := fun A B => rfl
  have hs : selK 0 [] ((Y + 1) * W + X + 1) = 65535 := if_pos rfl
  have e := heal_xy W 3 3 X Y SX SY 0 [] ps 1 1 hW (by omega) (by omega) (by omega) (by omega) (by rw [hs]; omega)
  rw [e, hs]
  have hm : ∀ c, mem W 3 3 X Y SX SY ps 64 c (1 * 3 + 1) = dv ((cmp c (pxAt ps (nIdx X Y 3 W 3)) - cmp c (pxAt ps (nIdx SX SY 3 W 3))) + (cmp c (pxAt ps (nIdx X Y 3 W 5)) - cmp c (pxAt ps (nIdx SX SY 3 W 5))) + (cmp c (pxAt ps (nIdx X Y 3 W 1)) - cmp c (pxAt ps (nIdx SX SY 3 W 1))) + (cmp c (pxAt ps (nIdx X Y 3 W 7)) - cmp c (pxAt ps (nIdx SX SY 3 W 7)))) 4 := fun c => by
    show smooths 3 3 (63 + 1) (mem0 W 3 3 X Y SX SY ps c) 4 = _
    rw [smooths_mid, mem0_on (by decide), mem0_on (by decide), mem0_on (by decide), mem0_on (by decide), hpr _ (il X Y 3 hW hY (by omega)), hpr _ (il X Y 5 hW hY (by omega)), hpr _ (il X Y 1 hW hY (by omega)), hpr _ (il X Y 7 hW hY (by omega)), hpr _ (il SX SY 3 hSW hSY (by omega)), hpr _ (il SX SY 5 hSW hSY (by omega)), hpr _ (il SX SY 1 hSW hSY (by omega)), hpr _ (il SX SY 7 hSW hSY (by omega))]
  have a1 := ha _ (il X Y 3 hW hY (by omega))
  have a2 := ha _ (il X Y 5 hW hY (by omega))
  have a3 := ha _ (il X Y 1 hW hY (by omega))
  have a4 := ha _ (il X Y 7 hW hY (by omega))
  have a5 := ha _ (il SX SY 3 hSW hSY (by omega))
  have a6 := ha _ (il SX SY 5 hSW hSY (by omega))
  have a7 := ha _ (il SX SY 1 hSW hSY (by omega))
  have a8 := ha _ (il SX SY 7 hSW hSY (by omega))
  have s4 := il SX SY 4 hSW hSY (by omega)
  have t4 := il X Y 4 hW hY (by omega)
  rw [i4] at s4 t4
  have a9 := ha _ s4
  have hm3 : mem W 3 3 X Y SX SY ps 64 3 (1 * 3 + 1) = 0 := by
    rw [hm]
    unfold cmp
    simp only [show ¬ (3 = 0) by omega, show ¬ (3 = 1) by omega, show ¬ (3 = 2) by omega, if_false]
    rw [a1, a2, a3, a4, a5, a6, a7, a8]
    rfl
  rw [hpr _ s4]
  have eh : heP (pxAt ps ((SY + 1) * W + SX + 1)) (memP W 3 3 X Y SX SY ps (1 * 3 + 1)) = (smV 0 (pxAt ps (nIdx X Y 3 W 3)) (pxAt ps (nIdx X Y 3 W 5)) (pxAt ps (nIdx X Y 3 W 1)) (pxAt ps (nIdx X Y 3 W 7)) (pxAt ps (nIdx SX SY 3 W 3)) (pxAt ps (nIdx SX SY 3 W 5)) (pxAt ps (nIdx SX SY 3 W 1)) (pxAt ps (nIdx SX SY 3 W 7)) (pxAt ps ((SY + 1) * W + SX + 1)),
      smV 1 (pxAt ps (nIdx X Y 3 W 3)) (pxAt ps (nIdx X Y 3 W 5)) (pxAt ps (nIdx X Y 3 W 1)) (pxAt ps (nIdx X Y 3 W 7)) (pxAt ps (nIdx SX SY 3 W 3)) (pxAt ps (nIdx SX SY 3 W 5)) (pxAt ps (nIdx SX SY 3 W 1)) (pxAt ps (nIdx SX SY 3 W 7)) (pxAt ps ((SY + 1) * W + SX + 1)),
      smV 2 (pxAt ps (nIdx X Y 3 W 3)) (pxAt ps (nIdx X Y 3 W 5)) (pxAt ps (nIdx X Y 3 W 1)) (pxAt ps (nIdx X Y 3 W 7)) (pxAt ps (nIdx SX SY 3 W 3)) (pxAt ps (nIdx SX SY 3 W 5)) (pxAt ps (nIdx SX SY 3 W 1)) (pxAt ps (nIdx SX SY 3 W 7)) (pxAt ps ((SY + 1) * W + SX + 1)), 65535) := by
    unfold heP memP
    simp only
    rw [hm3, hm 0, hm 1, hm 2, a9, Int.add_zero, cl_id 65535 (by omega) (by omega)]
    exact stP_opq _ _ _ (cl_bd _) (cl_bd _) (cl_bd _)
  rw [eh]
  exact mxP_one _ _ (hp _ t4) ⟨cl_bd _, cl_bd _, cl_bd _⟩ rfl

set_option maxHeartbeats 4000000 in
theorem rasAt_any (W H : Nat) (iv : Value) (ps : List Px) (x y : Int) (w : World) (hI : Pn w iv ps) (hl : ps.length = W * H) (hW : W ≤ 256) (hH : H ≤ 256) :
    Calls Tryd.prog 42 #[.agg #[.int .i64 W, .int .i64 H, iv], .int .i64 x, .int .i64 y] w fun e w' => e = .returned (pvx (atP W H ps x y)) ∧ Below w.heap.size w w' := by
  obtain ⟨ai, ci, rfl⟩ := hI.slice
  have c : x < 0 ∨ (¬ x < 0 ∧ (W : Int) ≤ x) ∨ (¬ x < 0 ∧ ¬ (W : Int) ≤ x ∧ y < 0) ∨ (¬ x < 0 ∧ ¬ (W : Int) ≤ x ∧ ¬ y < 0 ∧ (H : Int) ≤ y) ∨ (0 ≤ x ∧ x < W ∧ 0 ≤ y ∧ y < H) := by omega
  rcases c with c1 | ⟨c1, c2⟩ | ⟨c1, c2, c3⟩ | ⟨c1, c2, c3, c4⟩ | ⟨c1, c2, c3, c4⟩
  case inr.inr.inr.inr =>
    rw [atP_in c1 c2 c3 c4]
    obtain ⟨j1, j2⟩ := atP_idx c1 c2 c3 c4
    have hm : (H : Int) * (W : Int) = (ps.length : Int) := by rw [hl, Int.natCast_mul, Int.mul_comm]
    have hWH : W * H ≤ 256 * 256 := Nat.mul_le_mul hW hH
    have hyw : 0 ≤ y * (W : Int) := Int.mul_nonneg c3 (by omega)
    obtain ⟨idx, hidx⟩ : ∃ idx : Nat, y * (W : Int) + x = idx := ⟨(y * (W : Int) + x).toNat, by omega⟩
    rw [hidx, show ((idx : Nat) : Int).toNat = idx from rfl]
    have hlt : idx < ps.length := by omega
    have hn : ps.length ≤ 65536 := by omega
    obtain ⟨b, off, rfl, hbl, hcell⟩ := hI.at idx hlt
    have HC := Lib.hid hcell
    obtain ⟨yw, hyw2⟩ : ∃ yw, y * (W : Int) = yw := ⟨_, rfl⟩
    rw [hyw2] at hidx hyw
    have e1 : IntKind.i64.wrap (y * (W : Int)) = yw := by rw [hyw2]; exact IntWalk.i64_in _ (by omega)
    have e2 : IntKind.i64.wrap (yw + x) = (idx : Int) := by rw [hidx]; exact IntWalk.i64_in _ (by omega)
    clear hI hcell hidx hl hm hWH j1 j2 hyw2
    generalize pxAt ps idx = p at *
    obtain ⟨p0, p1, p2, p3⟩ := p
    replace HC : Hid (∀ w', Below w.heap.size w w' → w'.cell? ⟨b, off + idx * 4, none⟩ = some (.int .i64 p0) ∧ w'.cell? ⟨b, off + idx * 4 + 1, none⟩ = some (.int .i64 p1) ∧ w'.cell? ⟨b, off + idx * 4 + 2, none⟩ = some (.int .i64 p2) ∧ w'.cell? ⟨b, off + idx * 4 + 3, none⟩ = some (.int .i64 p3)) := HC
    generalize ps.length = n at *
    have i1 : (0 : Int) ≤ (idx : Int) := by omega
    have i2 : (idx : Int) < (n : Int) := by omega
    have i3 : ¬ x < 0 := by omega
    have i4 : ¬ (W : Int) ≤ x := by omega
    have i5 : ¬ y < 0 := by omega
    have i6 : ¬ (H : Int) ≤ y := by omega
    go_enter Tryd.func42, Tryd.ntmps42
    go_upto_region 1 with (fail)
    refine name2 (fun W1 k1 k2 hb => ?_)
    have q1 := k1.c3
    have q2 := k2.c4
    have hc := HC.out _ hb
    go_wp2_with fail
    exact end4 hb k2 (by omega) (fun w3 c3 => by simp [results, Tryd.results42, go_sem, c3]) rfl (fun w3 hb3 => ⟨rfl, hb3⟩)
  all_goals
    rw [atP_out (by omega)]
    clear hI hl
    go_enter Tryd.func42, Tryd.ntmps42
    go_upto_region 1 with (fail)
    refine name2 (fun W1 k1 k2 hb => ?_)
    have q1 := k1.c3
    have q2 := k2.c4
    go_wp2_with fail
    exact end4 hb k2 (by omega) (fun w3 c3 => by simp [results, Tryd.results42, go_sem, c3]) rfl (fun w3 hb3 => ⟨rfl, hb3⟩)

set_option maxHeartbeats 4000000 in
theorem rasterAt_any (W H : Nat) (iv : Value) (ps : List Px) (x y : Int) (w : World) (hI : Pn w iv ps) (hc : ichk W H ps = 0) :
    Calls Tryd.prog 14 #[.agg #[.int .i64 W, .int .i64 H, iv], .int .i64 x, .int .i64 y] w fun e w' => e = .returned (pvx (atP W H ps x y)) ∧ Below w.heap.size w w' := by
  obtain ⟨_, _, hW, _, hH, hnl⟩ := ichk_len hc
  have hl : ps.length = W * H := by have := Int.natCast_mul W H; omega
  have IC := Lib.hid (fun w h => rasterCheck_any W H iv ps w h)
  rw [hc] at IC
  have AT := Lib.hid (fun w h => rasAt_any W H iv ps x y w h hl (by omega) (by omega))
  have HI := Lib.hid hI
  obtain ⟨ai, ci, rfl⟩ := hI.slice
  generalize atP W H ps x y = p at *
  obtain ⟨p0, p1, p2, p3⟩ := p
  replace AT : Hid (∀ w, Pn w (.slice ai ps.length ci) ps → Calls Tryd.prog 42 #[.agg #[.int .i64 W, .int .i64 H, .slice ai ps.length ci], .int .i64 x, .int .i64 y] w fun e w' => e = .returned (pv p0 p1 p2 p3) ∧ Below w.heap.size w w') := AT
  clear hI hc hl hnl
  generalize ps.length = n at *
  go_enter Tryd.func14, Tryd.ntmps14
  go_upto_region 1 with (fail)
  refine name2 (fun W1 k1 k2 hb => ?_)
  have c1 := k1.c3
  go_wp2_with fail
  clear c1
  refine (IC.out _ (HI.out.kept hb)).mono ?_
  rintro e W2 ⟨rfl, hS⟩
  replace k1 := k1.kept hS
  replace k2 := k2.kept hS
  replace hb := hb.trans (hS.mono hb.size)
  clear hS
  have c1 := k1.c3
  go_wp2_with fail
  clear c1
  refine (AT.out _ (HI.out.kept hb)).mono ?_
  rintro e W3 ⟨rfl, hS⟩
  replace k2 := k2.kept hS
  replace hb := hb.trans (hS.mono hb.size)
  have c2 := k2.c4
  go_wp2_with fail
  exact end4 hb k2 (by omega) (fun w3 c3 => by simp [results, Tryd.results14, go_sem, c3]) rfl (fun w3 hb3 => ⟨rfl, hb3⟩)
end Go.Proofs.YtieacbccadbdbaaDoor

