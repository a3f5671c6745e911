/- Smudging, plainly: a dab smears the carried color over the pixels; the color that is carried on. -/
import Derived.Test.YtieacbccadbdbaaDoorRetP
import Derived.Test.YtieacbccadbdbaaDoorLPix
import Derived.Test.YtieacbccadbdbaaDoorLCovR
namespace Go.Proofs.YtieacbccadbdbaaDoor
set_option linter.unusedVariables false

/-- Two pixels mixed. -/
def mxP (p q : Px) (t : Int) : Px := if mxA p.2.2.2 q.2.2.2 t = 0 then (0, 0, 0, 0) else (mxC p.1 q.1 p.2.2.2 q.2.2.2 t, mxC p.2.1 q.2.1 p.2.2.2 q.2.2.2 t, mxC p.2.2.1 q.2.2.1 p.2.2.2 q.2.2.2 t, mxA p.2.2.2 q.2.2.2 t)
/-- Pixel k, smeared by a dab with the carried color c. -/
def smuV (sw : Int) (zs : List Int) (v : Int) (k : Nat) : Int := dv (cl v * cl (selK sw zs k)) 65535
def smu1 (sw : Int) (zs : List Int) (c p : Px) (v : Int) (k : Nat) : Px := if smuV sw zs v k = 0 then p else mxP p c (smuV sw zs v k)
theorem smuV_bd (sw : Int) (zs : List Int) (v : Int) (k : Nat) : 0 ≤ smuV sw zs v k ∧ smuV sw zs v k ≤ 65535 := mulU_bd' _ _
theorem smu1_zero (sw : Int) (zs : List Int) (c p : Px) (k : Nat) : smu1 sw zs c p 0 k = p := by
  unfold smu1 smuV
  rw [show cl 0 = 0 from rfl, Int.zero_mul, dv_zero _ (by omega), if_pos rfl]
/-- All pixels, smeared by a dab. -/
def smuD (B : Bru) (d : Dab) (W : Nat) (sw : Int) (zs : List Int) (c : Px) (f : Nat → Px) (k : Nat) : Px := smu1 sw zs c (f k) (dcov B d ((k % W : Nat) : Int) ((k / W : Nat) : Int)) k
/-- The pixel under the center of a dab. -/
def undP (W H : Nat) (f : Nat → Px) (d : Dab) : Px := if 0 ≤ d.x / 16 ∧ d.x / 16 < (W : Int) ∧ 0 ≤ d.y / 16 ∧ d.y / 16 < (H : Int) then f ((d.y / 16) * (W : Int) + d.x / 16).toNat else (0, 0, 0, 0)
/-- The pixels and the carried color, dab by dab. -/
def smuS (B : Bru) (W H : Nat) (sw : Int) (zs : List Int) (s : (Nat → Px) × Px) (d : Dab) : (Nat → Px) × Px := (smuD B d W sw zs s.2 s.1, mxP s.2 (undP W H s.1 d) (65535 - B.fl))
def smuF (B : Bru) (W H : Nat) (sw : Int) (zs : List Int) (ds : List Dab) (s : (Nat → Px) × Px) : (Nat → Px) × Px := ds.foldl (smuS B W H sw zs) s
theorem smuF_snoc (B : Bru) (W H : Nat) (sw : Int) (zs : List Int) (ds : List Dab) (d : Dab) (s : (Nat → Px) × Px) : smuF B W H sw zs (ds ++ [d]) s = smuS B W H sw zs (smuF B W H sw zs ds s) d := by
  unfold smuF
  rw [List.foldl_append]
  rfl
/-- One dab's mask walked pixel by pixel, as cov_round: the pixels in between. -/
theorem smu_round (B : Bru) (d : Dab) (W H : Nat) (sw : Int) (zs : List Int) (c : Px) (f : Nat → Px) (h0 : bchk B = 0) (hd : dOk d = true) (hW : W ≤ 256) (hH : H ≤ 256) :
    ∃ (X Y TW TH : Nat) (ts : List Int) (F : Nat → Nat → Px),
      rmeet (dbox d) (0, 0, (W : Int), (H : Int)) = ((X : Int), (Y : Int), (TW : Int), (TH : Int)) ∧
      ((ts = [] ∧ TipBad B d X Y TW TH 0) ∨ (rValid X Y TW TH = true ∧ (0 < TW ∧ TW ≤ 256) ∧ (0 < TH ∧ TH ≤ 256) ∧ ts = tipOut B d X Y TW TH)) ∧
      ts.length ≤ 65536 ∧ (0 < ts.length → 0 < TW ∧ TW ≤ 256 ∧ X ≤ 256 ∧ Y ≤ 256) ∧ (∀ m, m < ts.length → m / TW ≤ 256) ∧
      (∀ i, F 0 i = f i) ∧ (∀ i, i < W * H → F ts.length i = smuD B d W sw zs c f i) ∧
      (∀ m, m < ts.length → nIdx X Y TW W m < W * H ∧ ∀ i, F (m + 1) i = if i = nIdx X Y TW W m then smu1 sw zs c (F m i) (ts.getD m 0) i else F m i) := by
  obtain ⟨hok, hc, _⟩ := rmeet_img (dbox d) W H (by omega) (by omega)
  have hout := fun i hi hn => cov_out B d W H i hW hH hi hn
  generalize hr : rmeet (dbox d) (0, 0, (W : Int), (H : Int)) = r at *
  obtain ⟨a, b, c', e⟩ := r
  simp only at hc hout
  rcases hc with hc | ⟨hx, hy⟩
  · simp only [r0, Prod.mk.injEq] at hc
    obtain ⟨rfl, rfl, rfl, rfl⟩ := hc
    refine ⟨0, 0, 0, 0, [], fun _ i => f i, rfl, .inl ⟨rfl, .inr (.inr (.inr (.inr (.inr ⟨h0, hd, by decide, by decide, by decide, by decide, rfl⟩))))⟩, by simp, fun h => absurd h (by simp), fun m h => absurd h (by simp), fun _ => rfl, fun i hi => ?_, fun m h => absurd h (by simp)⟩
    unfold smuD
    rw [hout i hi (by unfold hasR; omega), smu1_zero]
  · obtain ⟨X, rfl⟩ : ∃ n : Nat, a = n := ⟨a.toNat, by omega⟩
    obtain ⟨Y, rfl⟩ : ∃ n : Nat, b = n := ⟨b.toNat, by omega⟩
    obtain ⟨TW, rfl⟩ : ∃ n : Nat, c' = n := ⟨c'.toNat, by omega⟩
    obtain ⟨TH, rfl⟩ : ∃ n : Nat, e = n := ⟨e.toNat, by omega⟩
    have hW1 : 0 < TW := by omega
    have hX : X + TW ≤ W := by omega
    have hY : Y + TH ≤ H := by omega
    have hl := tipOut_len B d X Y TW TH
    have hWH : TW * TH ≤ 65536 := Nat.mul_le_mul (show TW ≤ 256 by omega) (show TH ≤ 256 by omega)
    refine ⟨X, Y, TW, TH, tipOut B d X Y TW TH, fun m i => if isDone X Y TW TH W m i then smuD B d W sw zs c f i else f i, rfl, .inr ⟨hok, by omega, by omega, rfl⟩, by omega, fun _ => by omega, fun m hm => ?_, fun i => if_neg (isDone_zero _ _ _ _ _ _), fun i hi => ?_, fun m hm => ⟨?_, fun i => ?_⟩⟩
    · rw [hl] at hm
      have : m / TW < TH := Nat.div_lt_of_lt_mul hm
      omega
    · simp only [hl, isDone_all]
      split
      · rfl
      · rename_i hn
        have l1 : i % W < W := Nat.mod_lt _ (by omega)
        have e0 := hout i hi (fun h => hn (by unfold hasR at h; unfold inR; omega))
        unfold smuD
        rw [e0, smu1_zero]
    · rw [hl] at hm
      exact nIdx_lt X Y TW TH W H m hW1 hX hY hm
    · rw [hl] at hm
      simp only [isDone_succ X Y TW TH W m i hW1 hX hm]
      by_cases he : i = nIdx X Y TW W m
      · rw [if_pos he, if_pos (.inr he), he, if_neg (not_isDone X Y TW TH W m hW1 hX), tipOut_at _ _ _ _ _ _ _ hm]
        obtain ⟨p1, p2⟩ := nIdx_parts X Y TW W m hW1 hX
        have q1 : m % TW < TW := Nat.mod_lt _ hW1
        have q2 : m / TW < TH := Nat.div_lt_of_lt_mul hm
        have n1 : (0 : Int) ≤ ((m % TW : Nat) : Int) := Int.natCast_nonneg _
        have n2 : (0 : Int) ≤ ((m / TW : Nat) : Int) := Int.natCast_nonneg _
        unfold smuD
        rw [p1, p2, dcov_cvr h0 hd (by omega) (by omega)]
        unfold tipAt
        rw [Int.natCast_add, Int.natCast_add]
      · rw [if_neg he]
        by_cases h2 : isDone X Y TW TH W m i
        · rw [if_pos (.inl h2), if_pos h2]
        · rw [if_neg (by rintro (h | h); exact h2 h; exact he h), if_neg h2]
end Go.Proofs.YtieacbccadbdbaaDoor

