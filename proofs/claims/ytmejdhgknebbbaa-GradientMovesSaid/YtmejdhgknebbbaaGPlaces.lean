/- gradient.Place and its reference; Check. -/
import Derived.Test.YtmejdhgknebbbaaGPlace
import Derived.Test.YtmejdhgknebbbaaGPlaceR
import Derived.Test.YtmejdhgknebbbaaStops
namespace Go.Proofs.Ytmejdhgknebbbaa
open Go.RowKit
set_option linter.unusedVariables false
attribute [local go_sem] Oper.gAt gUponK

theorem gHead_zero {kind spread : Int} {n : Nat} (h : gHead kind n spread = 0) : 1 ≤ kind ∧ kind ≤ 4 ∧ 0 ≤ spread ∧ spread ≤ 2 ∧ ((kind = 1 ∧ n = 4) ∨ (kind ≠ 1 ∧ n = 3)) := by
  unfold gHead at h
  split at h
  · cases h
  · split at h
    · cases h
    · omega
theorem gNums_zero {zs : List Int} (h : gNums zs = 0) (i : Nat) (hi : i < zs.length) : -1048576 ≤ zs.getD i 0 ∧ zs.getD i 0 ≤ 1048576 := by
  have h0 := ferr_zero (gbad zs) _ _ h i (by omega) (by omega)
  unfold gbad at h0
  split at h0
  · cases h0
  · omega
theorem gNum_zero {kind : Int} {zs : List Int} (h : gNum kind zs = 0) : gNums zs = 0 ∧ ((kind = 2 ∨ kind = 4) → 0 ≤ zs.getD 2 0) := by
  unfold gNum at h
  split at h
  · rename_i hn
    exact absurd h hn
  · rename_i hn
    split at h
    · cases h
    · rename_i h2
      exact ⟨by omega, fun hk => by
        apply Decidable.byContradiction
        intro hh
        exact h2 ⟨hk, by omega⟩⟩
/-- The parameters are valid. -/
def gOk (kind : Int) (zs : List Int) (spread : Int) : Bool := gHead kind zs.length spread == 0 && gNum kind zs == 0
theorem gPar1 {kind spread : Int} {zs : List Int} : gPar kind zs spread 1 = 0 ↔ gOk kind zs spread = true := by
  unfold gPar gOk
  by_cases h : gHead kind zs.length spread = 0
  · rw [if_neg (by simpa using h), if_neg (by decide), if_neg (by decide)]
    simp [h]
  · rw [if_pos h]
    simp [h]
/-- The position of a pixel in a valid gradient. -/
def gRaw (kind : Int) (zs : List Int) (x y : Int) : Int := plc kind (zs.getD 0 0) (zs.getD 1 0) (zs.getD 2 0) (zs.getD 3 0) (16 * x + 8 - zs.getD 0 0) (16 * y + 8 - zs.getD 1 0)
def gPlace (kind : Int) (zs : List Int) (spread x y : Int) : Int := if gOk kind zs spread = true then fol spread (gRaw kind zs (cc x) (cc y)) else 0
theorem gPlace_bd (kind : Int) (zs : List Int) (spread x y : Int) : 0 ≤ gPlace kind zs spread x y ∧ gPlace kind zs spread x y ≤ 65535 := by
  unfold gPlace
  split
  · exact fol_bd _ _
  · omega
/-- A valid gradient has four parameters, or three. -/
theorem gOk_form {kind spread : Int} {zs : List Int} (h : gOk kind zs spread = true) : (0 ≤ spread ∧ spread ≤ 2) ∧
    ((kind = 1 ∧ ∃ p0 p1 p2 p3, zs = [p0, p1, p2, p3] ∧ (-1048576 ≤ p0 ∧ p0 ≤ 1048576) ∧ (-1048576 ≤ p1 ∧ p1 ≤ 1048576) ∧ (-1048576 ≤ p2 ∧ p2 ≤ 1048576) ∧ (-1048576 ≤ p3 ∧ p3 ≤ 1048576)) ∨
     ((kind = 2 ∨ kind = 3 ∨ kind = 4) ∧ ∃ p0 p1 p2, zs = [p0, p1, p2] ∧ (-1048576 ≤ p0 ∧ p0 ≤ 1048576) ∧ (-1048576 ≤ p1 ∧ p1 ≤ 1048576) ∧ (-1048576 ≤ p2 ∧ p2 ≤ 1048576) ∧ ((kind = 2 ∨ kind = 4) → 0 ≤ p2))) := by
  unfold gOk at h
  simp only [Bool.and_eq_true, beq_iff_eq] at h
  obtain ⟨k1, k2, s1, s2, hl⟩ := gHead_zero h.1
  obtain ⟨h2, h3⟩ := gNum_zero h.2
  have hb := gNums_zero h2
  refine ⟨⟨s1, s2⟩, ?_⟩
  rcases hl with ⟨rfl, hl⟩ | ⟨hk, hl⟩
  · left
    match zs, hl with
    | [p0, p1, p2, p3], _ => exact ⟨rfl, p0, p1, p2, p3, rfl, hb 0 (by simp), hb 1 (by simp), hb 2 (by simp), hb 3 (by simp)⟩
  · right
    match zs, hl with
    | [p0, p1, p2], _ => exact ⟨by omega, p0, p1, p2, rfl, hb 0 (by simp), hb 1 (by simp), hb 2 (by simp), h3⟩

theorem place_any (kind spread x y : Int) (v : Value) (zs : List Int) (w : World) (h : Nn w v zs) (hok : gOk kind zs spread = true) (hx : -1048576 ≤ x ∧ x ≤ 1048576) (hy : -1048576 ≤ y ∧ y ≤ 1048576) :
    Calls Try.prog 32 #[.int .i64 kind, v, .int .i64 spread, .int .i64 x, .int .i64 y] w fun e w' => e = .returned (.int .i64 (fol spread (gRaw kind zs x y))) ∧ Below w.heap.size w w' := by
  obtain ⟨hs, ⟨rfl, p0, p1, p2, p3, rfl, h0, h1, h2, h3⟩ | ⟨hk, p0, p1, p2, rfl, h0, h1, h2, h3⟩⟩ := gOk_form hok
  · exact place1 spread x y p0 p1 p2 p3 v w h hs h0 h1 h2 hx hy h3
  · rcases hk with rfl | rfl | rfl
    · exact place2 spread x y p0 p1 p2 v w h hs h0 h1 h2 hx hy (h3 (.inl rfl))
    · exact place3 spread x y p0 p1 p2 v w h hs h0 h1 h2 hx hy
    · exact place4 spread x y p0 p1 p2 v w h hs h0 h1 h2 hx hy (h3 (.inr rfl))

theorem plain_any (kind spread x y : Int) (v : Value) (zs : List Int) (w : World) (h : Nn w v zs) (hok : gOk kind zs spread = true) (hx : -1048576 ≤ x ∧ x ≤ 1048576) (hy : -1048576 ≤ y ∧ y ≤ 1048576) :
    Calls Try.prog 33 #[.int .i64 kind, v, .int .i64 x, .int .i64 y] w fun e w' => e = .returned (.int .i64 (gRaw kind zs x y)) ∧ Below w.heap.size w w' := by
  obtain ⟨hs, ⟨rfl, p0, p1, p2, p3, rfl, h0, h1, h2, h3⟩ | ⟨hk, p0, p1, p2, rfl, h0, h1, h2, h3⟩⟩ := gOk_form hok
  · exact plain1 x y p0 p1 p2 p3 v w h h0 h1 h2 hx hy h3
  · rcases hk with rfl | rfl | rfl
    · exact plain2 x y p0 p1 p2 v w h h0 h1 h2 hx hy (h3 (.inl rfl))
    · exact plain3 x y p0 p1 p2 v w h h0 h1 h2 hx hy
    · exact plain4 x y p0 p1 p2 v w h h0 h1 h2 hx hy (h3 (.inr rfl))

theorem cc_clamp (x : Int) : min 1048576 (max x (-1048576)) = cc x := rfl
/-- The position before the spread is applied is not too large. -/
theorem gRaw_bd {kind spread x y : Int} {zs : List Int} (hok : gOk kind zs spread = true) (hx : -1048576 ≤ x ∧ x ≤ 1048576) (hy : -1048576 ≤ y ∧ y ≤ 1048576) : -5000000000000000000 ≤ gRaw kind zs x y ∧ gRaw kind zs x y ≤ 5000000000000000000 := by
  obtain ⟨hs, ⟨rfl, p0, p1, p2, p3, rfl, h0, h1, h2, h3⟩ | ⟨hk, p0, p1, p2, rfl, h0, h1, h2, h3⟩⟩ := gOk_form hok
  · show _ ≤ plc 1 p0 p1 p2 p3 (16 * x + 8 - p0) (16 * y + 8 - p1) ∧ plc 1 p0 p1 p2 p3 (16 * x + 8 - p0) (16 * y + 8 - p1) ≤ _
    obtain ⟨dx, hdx⟩ : ∃ dx, 16 * x + 8 - p0 = dx := ⟨_, rfl⟩
    obtain ⟨dy, hdy⟩ : ∃ dy, 16 * y + 8 - p1 = dy := ⟨_, rfl⟩
    rw [hdx, hdy]
    have m1 := mulB dx (p2 - p0) 17825800 2097152 (by omega) (by omega) (by omega) (by omega) (by omega)
    have m2 := mulB dy (p3 - p1) 17825800 2097152 (by omega) (by omega) (by omega) (by omega) (by omega)
    have m5 := mul_self_nonneg' (p2 - p0)
    have m6 := mul_self_nonneg' (p3 - p1)
    exact adv_abs (65535 * (dx * (p2 - p0) + dy * (p3 - p1))) ((p2 - p0) * (p2 - p0) + (p3 - p1) * (p3 - p1)) 5000000000000000000 (by omega) (by omega) (by omega) (by omega)
  · show _ ≤ plc kind p0 p1 p2 0 (16 * x + 8 - p0) (16 * y + 8 - p1) ∧ plc kind p0 p1 p2 0 (16 * x + 8 - p0) (16 * y + 8 - p1) ≤ _
    obtain ⟨dx, hdx⟩ : ∃ dx, 16 * x + 8 - p0 = dx := ⟨_, rfl⟩
    obtain ⟨dy, hdy⟩ : ∃ dy, 16 * y + 8 - p1 = dy := ⟨_, rfl⟩
    rw [hdx, hdy]
    have hh := hypot_ub (16 * dx) (16 * dy) 285212800 (by omega) (by omega) (by omega) (by omega) (by omega)
    have g1 := gabs_bd dx 17825800 (by omega) (by omega)
    have g2 := gabs_bd dy 17825800 (by omega) (by omega)
    unfold plc
    rcases hk with rfl | rfl | rfl
    · rw [if_neg (by decide), if_pos rfl]
      split
      · have := adv_abs (65535 * hypot (16 * dx) (16 * dy)) (16 * p2) 5000000000000000000 (by omega) (by omega) (by omega) (by omega)
        rwa [show adv (65535 * hypot (16 * dx) (16 * dy)) (16 * p2) = dv (65535 * hypot (16 * dx) (16 * dy)) (16 * p2) from if_neg (by omega)] at this
      · omega
    · rw [if_neg (by decide), if_neg (by decide), if_pos rfl]
      omega
    · rw [if_neg (by decide), if_neg (by decide), if_neg (by decide)]
      split
      · have := adv_abs (65535 * (gabs dx + gabs dy)) p2 5000000000000000000 (by omega) (by omega) (by omega) (by omega)
        rwa [show adv (65535 * (gabs dx + gabs dy)) p2 = dv (65535 * (gabs dx + gabs dy)) p2 from if_neg (by omega)] at this
      · omega

set_option maxHeartbeats 1000000 in
theorem Place_any (kind spread x y : Int) (v : Value) (zs : List Int) (w : World) (h : Nn w v zs) :
    Calls Try.prog 16 #[.int .i64 kind, v, .int .i64 spread, .int .i64 x, .int .i64 y] w fun e w' => e = .returned (.int .i64 (gPlace kind zs spread x y)) ∧ Below w.heap.size w w' := by
  by_cases hok : gOk kind zs spread = true
  · have HP := Lib.hid (gPar1.2 hok)
    have HE : Hid (gPlace kind zs spread x y = fol spread (gRaw kind zs (cc x) (cc y))) := if_pos hok
    have C1 := Lib.hid (fun w h => place_any kind spread (cc x) (cc y) v zs w h hok (cc_bd x) (cc_bd y))
    have CP := Lib.hid (fun w h => checkParams_any kind spread 1 v zs w h)
    have HN := Lib.hid h
    obtain ⟨a, cap, rfl, hlen⟩ := h.slice
    clear h hok
    rw [HE.out]
    generalize fol spread (gRaw kind zs (cc x) (cc y)) = T at *
    go_enter Try.func16, Try.ntmps16
    go_wp2_with fail
    refine (CP.out _ HN.out).mono ?_
    rintro e w' ⟨rfl, rfl⟩
    rw [HP.out]
    go_wp2_with fail
    refine (clamp_any _ _ _ _).mono ?_
    rintro e w' ⟨rfl, rfl⟩
    go_wp2_with fail
    refine (clamp_any _ _ _ _).mono ?_
    rintro e w' ⟨rfl, rfl⟩
    rw [cc_clamp, cc_clamp]
    go_wp2_with fail
    refine (C1.out _ HN.out).mono ?_
    rintro e w1 ⟨rfl, hb⟩
    go_wp2_with fail
    go_ret
    exact ⟨rfl, hb⟩
  · have hne : gPar kind zs spread 1 ≠ 0 := fun hh => hok (gPar1.1 hh)
    have hb : (gPar kind zs spread 1 != 0) = true := by simpa using hne
    have HE : Hid (gPlace kind zs spread x y = 0) := if_neg hok
    have CP := Lib.hid (fun w h => checkParams_any kind spread 1 v zs w h)
    have HN := Lib.hid h
    obtain ⟨a, cap, rfl, hlen⟩ := h.slice
    clear h hok hne
    rw [HE.out]
    generalize gPar kind zs spread 1 = E at *
    go_enter Try.func16, Try.ntmps16
    go_wp2_with fail
    refine (CP.out _ HN.out).mono ?_
    rintro e w' ⟨rfl, rfl⟩
    go_wp2_with fail
    go_ret
    exact ⟨rfl, Below.refl _ _⟩
end Go.Proofs.Ytmejdhgknebbbaa
