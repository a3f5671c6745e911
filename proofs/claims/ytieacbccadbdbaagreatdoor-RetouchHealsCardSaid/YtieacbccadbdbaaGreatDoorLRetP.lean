/- Several texts in one: RetP, SmuP, HealP. -/
import Derived.Test.YtieacbccadbdbaaGreatDoorLPaint
import Derived.Test.YtieacbccadbdbaaGreatDoorLPix
import Derived.Test.YtieacbccadbdbaaGreatDoorLCovR

/- Retouching, plainly: the value of a selection, the pixel at a place, the pixels of a clone; the membrane of a healed rectangle. -/
namespace Go.Proofs.YtieacbccadbdbaaGreatDoor
set_option linter.unusedVariables false

/-- The value of a selection at pixel k. -/
def selK (sw : Int) (zs : List Int) (k : Nat) : Int := if sw = 0 then 65535 else zs.getD k 0
/-- A pixel of an image, or the zero pixel if there is none. -/
def atP (W H : Nat) (ps : List Px) (x y : Int) : Px := if 0 ≤ x ∧ x < (W : Int) ∧ 0 ≤ y ∧ y < (H : Int) then pxAt ps (y * (W : Int) + x).toNat else (0, 0, 0, 0)
/-- The coverage of pixel k within the selection. -/
def retK (B : Bru) (ds : List Dab) (W : Nat) (sw : Int) (zs : List Int) (k : Nat) : Int := dv (cl (cout B ds W k) * cl (selK sw zs k)) 65535
theorem retK_bd (B : Bru) (ds : List Dab) (W : Nat) (sw : Int) (zs : List Int) (k : Nat) : 0 ≤ retK B ds W sw zs k ∧ retK B ds W sw zs k ≤ 65535 := mulU_bd' _ _
/-- The pixels of a clone. -/
def cloneAt (B : Bru) (ds : List Dab) (W H : Nat) (sw : Int) (zs : List Int) (ps : List Px) (ox oy : Int) (k : Nat) : Px :=
  if retK B ds W sw zs k = 0 then pxAt ps k else ovP B.md (pxAt ps k) (fdP (atP W H ps (((k % W : Nat) : Int) + ox) (((k / W : Nat) : Int) + oy)) (retK B ds W sw zs k))
def clones (B : Bru) (ds : List Dab) (W H : Nat) (sw : Int) (zs : List Int) (ps : List Px) (ox oy : Int) : List Px := (List.range ps.length).map (cloneAt B ds W H sw zs ps ox oy)
theorem clones_len (B : Bru) (ds : List Dab) (W H : Nat) (sw : Int) (zs : List Int) (ps : List Px) (ox oy : Int) : (clones B ds W H sw zs ps ox oy).length = ps.length := by simp [clones]
theorem clones_at (B : Bru) (ds : List Dab) (W H : Nat) (sw : Int) (zs : List Int) (ps : List Px) (ox oy : Int) (k : Nat) (hk : k < ps.length) : pxAt (clones B ds W H sw zs ps ox oy) k = cloneAt B ds W H sw zs ps ox oy k := by simp [pxAt, clones, List.getD, hk]
/-- What prepare gives: the error. -/
def prepE (iw ih : Int) (ps : List Px) (B : Bru) (ls : List Smp) (mw mh : Int) (zs : List Int) : Int :=
  if ichk iw ih ps = 0 then if mchk mw mh zs = 0 then if (dabs B ls).2 = 0 then if mw ≠ 0 ∧ (mw ≠ iw ∨ mh ≠ ih) then 15 else 0 else (dabs B ls).2 else mchk mw mh zs else ichk iw ih ps
theorem atP_in {W H : Nat} {ps : List Px} {x y : Int} (hx : 0 ≤ x) (hx2 : x < (W : Int)) (hy : 0 ≤ y) (hy2 : y < (H : Int)) : atP W H ps x y = pxAt ps (y * (W : Int) + x).toNat := if_pos ⟨hx, hx2, hy, hy2⟩
theorem atP_out {W H : Nat} {ps : List Px} {x y : Int} (h : ¬ (0 ≤ x ∧ x < (W : Int) ∧ 0 ≤ y ∧ y < (H : Int))) : atP W H ps x y = (0, 0, 0, 0) := if_neg h
theorem atP_idx {W H : Nat} {x y : Int} (hx : 0 ≤ x) (hx2 : x < (W : Int)) (hy : 0 ≤ y) (hy2 : y < (H : Int)) : 0 ≤ y * (W : Int) + x ∧ y * (W : Int) + x < (H : Int) * (W : Int) := by
  have h1 : 0 ≤ y * (W : Int) := Int.mul_nonneg hy (by omega)
  have h2 : (y + 1) * (W : Int) ≤ (H : Int) * (W : Int) := Int.mul_le_mul_of_nonneg_right (by omega) (by omega)
  rw [Int.add_mul] at h2
  omega

/-- One round of the membrane: a value inside becomes the mean of its four neighbors. -/
def onBorder (w h k : Nat) : Bool := decide (k % w = 0 ∨ k / w = 0 ∨ k % w = w - 1 ∨ k / w = h - 1)
def smooth (w h : Nat) (m : Nat → Int) (k : Nat) : Int := if onBorder w h k = true then m k else dv (m (k - 1) + m (k + 1) + m (k - w) + m (k + w)) 4
def smooths (w h : Nat) : Nat → (Nat → Int) → Nat → Int
  | 0, m => m
  | n + 1, m => smooth w h (smooths w h n m)
theorem smooths_succ (w h n : Nat) (m : Nat → Int) (k : Nat) : smooths w h (n + 1) m k = smooth w h (smooths w h n m) k := rfl
end Go.Proofs.YtieacbccadbdbaaGreatDoor


/- Smudging, plainly: a dab smears the carried color over the pixels; the color that is carried on. -/
namespace Go.Proofs.YtieacbccadbdbaaGreatDoor
set_option linter.unusedVariables false

/-- Two pixels mixed. -/
def mxP (p q : Px) (t : Int) : Px := if mxA p.2.2.2 q.2.2.2 t = 0 then (0, 0, 0, 0) else (mxC p.1 q.1 p.2.2.2 q.2.2.2 t, mxC p.2.1 q.2.1 p.2.2.2 q.2.2.2 t, mxC p.2.2.1 q.2.2.1 p.2.2.2 q.2.2.2 t, mxA p.2.2.2 q.2.2.2 t)
/-- Pixel k, smeared by a dab with the carried color c. -/
def smuV (sw : Int) (zs : List Int) (v : Int) (k : Nat) : Int := dv (cl v * cl (selK sw zs k)) 65535
def smu1 (sw : Int) (zs : List Int) (c p : Px) (v : Int) (k : Nat) : Px := if smuV sw zs v k = 0 then p else mxP p c (smuV sw zs v k)
theorem smuV_bd (sw : Int) (zs : List Int) (v : Int) (k : Nat) : 0 ≤ smuV sw zs v k ∧ smuV sw zs v k ≤ 65535 := mulU_bd' _ _
theorem smu1_zero (sw : Int) (zs : List Int) (c p : Px) (k : Nat) : smu1 sw zs c p 0 k = p := by
  unfold smu1 smuV
  rw [show cl 0 = 0 from rfl, Int.zero_mul, dv_zero _ (by omega), if_pos rfl]
/-- All pixels, smeared by a dab. -/
def smuD (B : Bru) (d : Dab) (W : Nat) (sw : Int) (zs : List Int) (c : Px) (f : Nat → Px) (k : Nat) : Px := smu1 sw zs c (f k) (dcov B d ((k % W : Nat) : Int) ((k / W : Nat) : Int)) k
/-- The pixel under the center of a dab. -/
def undP (W H : Nat) (f : Nat → Px) (d : Dab) : Px := if 0 ≤ d.x / 16 ∧ d.x / 16 < (W : Int) ∧ 0 ≤ d.y / 16 ∧ d.y / 16 < (H : Int) then f ((d.y / 16) * (W : Int) + d.x / 16).toNat else (0, 0, 0, 0)
/-- The pixels and the carried color, dab by dab. -/
def smuS (B : Bru) (W H : Nat) (sw : Int) (zs : List Int) (s : (Nat → Px) × Px) (d : Dab) : (Nat → Px) × Px := (smuD B d W sw zs s.2 s.1, mxP s.2 (undP W H s.1 d) (65535 - B.fl))
def smuF (B : Bru) (W H : Nat) (sw : Int) (zs : List Int) (ds : List Dab) (s : (Nat → Px) × Px) : (Nat → Px) × Px := ds.foldl (smuS B W H sw zs) s
theorem smuF_snoc (B : Bru) (W H : Nat) (sw : Int) (zs : List Int) (ds : List Dab) (d : Dab) (s : (Nat → Px) × Px) : smuF B W H sw zs (ds ++ [d]) s = smuS B W H sw zs (smuF B W H sw zs ds s) d := by
  unfold smuF
  rw [List.foldl_append]
  rfl
/-- One dab's mask walked pixel by pixel, as cov_round: the pixels in between. -/
theorem smu_round (B : Bru) (d : Dab) (W H : Nat) (sw : Int) (zs : List Int) (c : Px) (f : Nat → Px) (h0 : bchk B = 0) (hd : dOk d = true) (hW : W ≤ 256) (hH : H ≤ 256) :
    ∃ (X Y TW TH : Nat) (ts : List Int) (F : Nat → Nat → Px),
      rmeet (dbox d) (0, 0, (W : Int), (H : Int)) = ((X : Int), (Y : Int), (TW : Int), (TH : Int)) ∧
      ((ts = [] ∧ TipBad B d X Y TW TH 0) ∨ (rValid X Y TW TH = true ∧ (0 < TW ∧ TW ≤ 256) ∧ (0 < TH ∧ TH ≤ 256) ∧ ts = tipOut B d X Y TW TH)) ∧
      ts.length ≤ 65536 ∧ (0 < ts.length → 0 < TW ∧ TW ≤ 256 ∧ X ≤ 256 ∧ Y ≤ 256) ∧ (∀ m, m < ts.length → m / TW ≤ 256) ∧
      (∀ i, F 0 i = f i) ∧ (∀ i, i < W * H → F ts.length i = smuD B d W sw zs c f i) ∧
      (∀ m, m < ts.length → nIdx X Y TW W m < W * H ∧ ∀ i, F (m + 1) i = if i = nIdx X Y TW W m then smu1 sw zs c (F m i) (ts.getD m 0) i else F m i) := by
  obtain ⟨hok, hc, _⟩ := rmeet_img (dbox d) W H (by omega) (by omega)
  have hout := fun i hi hn => cov_out B d W H i hW hH hi hn
  generalize hr : rmeet (dbox d) (0, 0, (W : Int), (H : Int)) = r at *
  obtain ⟨a, b, c', e⟩ := r
  simp only at hc hout
  rcases hc with hc | ⟨hx, hy⟩
  · simp only [r0, Prod.mk.injEq] at hc
    obtain ⟨rfl, rfl, rfl, rfl⟩ := hc
    refine ⟨0, 0, 0, 0, [], fun _ i => f i, rfl, .inl ⟨rfl, .inr (.inr (.inr (.inr (.inr ⟨h0, hd, by decide, by decide, by decide, by decide, rfl⟩))))⟩, by simp, fun h => absurd h (by simp), fun m h => absurd h (by simp), fun _ => rfl, fun i hi => ?_, fun m h => absurd h (by simp)⟩
    unfold smuD
    rw [hout i hi (by unfold hasR; omega), smu1_zero]
  · obtain ⟨X, rfl⟩ : ∃ n : Nat, a = n := ⟨a.toNat, by omega⟩
    obtain ⟨Y, rfl⟩ : ∃ n : Nat, b = n := ⟨b.toNat, by omega⟩
    obtain ⟨TW, rfl⟩ : ∃ n : Nat, c' = n := ⟨c'.toNat, by omega⟩
    obtain ⟨TH, rfl⟩ : ∃ n : Nat, e = n := ⟨e.toNat, by omega⟩
    have hW1 : 0 < TW := by omega
    have hX : X + TW ≤ W := by omega
    have hY : Y + TH ≤ H := by omega
    have hl := tipOut_len B d X Y TW TH
    have hWH : TW * TH ≤ 65536 := Nat.mul_le_mul (show TW ≤ 256 by omega) (show TH ≤ 256 by omega)
    refine ⟨X, Y, TW, TH, tipOut B d X Y TW TH, fun m i => if isDone X Y TW TH W m i then smuD B d W sw zs c f i else f i, rfl, .inr ⟨hok, by omega, by omega, rfl⟩, by omega, fun _ => by omega, fun m hm => ?_, fun i => if_neg (isDone_zero _ _ _ _ _ _), fun i hi => ?_, fun m hm => ⟨?_, fun i => ?_⟩⟩
    · rw [hl] at hm
      have : m / TW < TH := Nat.div_lt_of_lt_mul hm
      omega
    · simp only [hl, isDone_all]
      split
      · rfl
      · rename_i hn
        have l1 : i % W < W := Nat.mod_lt _ (by omega)
        have e0 := hout i hi (fun h => hn (by unfold hasR at h; unfold inR; omega))
        unfold smuD
        rw [e0, smu1_zero]
    · rw [hl] at hm
      exact nIdx_lt X Y TW TH W H m hW1 hX hY hm
    · rw [hl] at hm
      simp only [isDone_succ X Y TW TH W m i hW1 hX hm]
      by_cases he : i = nIdx X Y TW W m
      · rw [if_pos he, if_pos (.inr he), he, if_neg (not_isDone X Y TW TH W m hW1 hX), tipOut_at _ _ _ _ _ _ _ hm]
        obtain ⟨p1, p2⟩ := nIdx_parts X Y TW W m hW1 hX
        have q1 : m % TW < TW := Nat.mod_lt _ hW1
        have q2 : m / TW < TH := Nat.div_lt_of_lt_mul hm
        have n1 : (0 : Int) ≤ ((m % TW : Nat) : Int) := Int.natCast_nonneg _
        have n2 : (0 : Int) ≤ ((m / TW : Nat) : Int) := Int.natCast_nonneg _
        unfold smuD
        rw [p1, p2, dcov_cvr h0 hd (by omega) (by omega)]
        unfold tipAt
        rw [Int.natCast_add, Int.natCast_add]
      · rw [if_neg he]
        by_cases h2 : isDone X Y TW TH W m i
        · rw [if_pos (.inl h2), if_pos h2]
        · rw [if_neg (by rintro (h | h); exact h2 h; exact he h), if_neg h2]
end Go.Proofs.YtieacbccadbdbaaGreatDoor


/- Healing, plainly: the differences on the border of a rectangle, the membrane between them, the healed pixels, the errors. -/
namespace Go.Proofs.YtieacbccadbdbaaGreatDoor
set_option linter.unusedVariables false

/-- One of the four values of a pixel. -/
def cmp (c : Nat) (p : Px) : Int := if c = 0 then p.1 else if c = 1 then p.2.1 else if c = 2 then p.2.2.1 else p.2.2.2
/-- A pixel premultiplied; made straight. -/
def prP (p : Px) : Px := (dv (cl p.1 * cl p.2.2.2) 65535, dv (cl p.2.1 * cl p.2.2.2) 65535, dv (cl p.2.2.1 * cl p.2.2.2) 65535, cl p.2.2.2)
def stP (p : Px) : Px := if cl p.2.2.2 = 0 then (0, 0, 0, 0) else (stC p.1 p.2.2.2, stC p.2.1 p.2.2.2, stC p.2.2.1 p.2.2.2, cl p.2.2.2)
theorem cmp_prP (c : Nat) (p : Px) : 0 ≤ cmp c (prP p) ∧ cmp c (prP p) ≤ 65535 := by
  unfold cmp prP
  simp only
  split
  · exact mulU_bd' _ _
  · split
    · exact mulU_bd' _ _
    · split
      · exact mulU_bd' _ _
      · exact cl_bd _
/-- The differences of target and source on the border, 0 inside. -/
def mem0 (W w h X Y SX SY : Nat) (ps : List Px) (c k : Nat) : Int := if onBorder w h k = true then cmp c (prP (pxAt ps (nIdx X Y w W k))) - cmp c (prP (pxAt ps (nIdx SX SY w W k))) else 0
theorem mem0_in {W w h X Y SX SY : Nat} {ps : List Px} {c k : Nat} (hb : onBorder w h k = false) : mem0 W w h X Y SX SY ps c k = 0 := if_neg (by rw [hb]; decide)
theorem mem0_on {W w h X Y SX SY : Nat} {ps : List Px} {c k : Nat} (hb : onBorder w h k = true) : mem0 W w h X Y SX SY ps c k = cmp c (prP (pxAt ps (nIdx X Y w W k))) - cmp c (prP (pxAt ps (nIdx SX SY w W k))) := if_pos hb
/-- The membrane after n rounds. -/
def mem (W w h X Y SX SY : Nat) (ps : List Px) (n c k : Nat) : Int := smooths w h n (mem0 W w h X Y SX SY ps c) k
theorem mem0_bd (W w h X Y SX SY : Nat) (ps : List Px) (c k : Nat) : -65535 ≤ mem0 W w h X Y SX SY ps c k ∧ mem0 W w h X Y SX SY ps c k ≤ 65535 := by
  unfold mem0
  have h1 := cmp_prP c (pxAt ps (nIdx X Y w W k))
  have h2 := cmp_prP c (pxAt ps (nIdx SX SY w W k))
  split <;> omega
theorem smooth_bd (w h : Nat) (m : Nat → Int) (hm : ∀ k, -65535 ≤ m k ∧ m k ≤ 65535) (k : Nat) : -65535 ≤ smooth w h m k ∧ smooth w h m k ≤ 65535 := by
  unfold smooth
  split
  · exact hm k
  · have a1 := hm (k - 1)
    have a2 := hm (k + 1)
    have a3 := hm (k - w)
    have a4 := hm (k + w)
    exact ⟨dv_ge _ _ _ (by omega) (by omega), dv_le _ _ _ (by omega) (by omega)⟩
theorem smooths_bd (w h : Nat) (m : Nat → Int) (hm : ∀ k, -65535 ≤ m k ∧ m k ≤ 65535) : ∀ n k, -65535 ≤ smooths w h n m k ∧ smooths w h n m k ≤ 65535
  | 0, k => hm k
  | n + 1, k => smooth_bd w h _ (smooths_bd w h m hm n) k
theorem mem_bd (W w h X Y SX SY : Nat) (ps : List Px) (n c k : Nat) : -65535 ≤ mem W w h X Y SX SY ps n c k ∧ mem W w h X Y SX SY ps n c k ≤ 65535 := smooths_bd w h _ (mem0_bd W w h X Y SX SY ps c) n k
theorem mem_zero (W w h X Y SX SY : Nat) (ps : List Px) (c k : Nat) : mem W w h X Y SX SY ps 0 c k = mem0 W w h X Y SX SY ps c k := rfl
theorem mem_succ (W w h X Y SX SY : Nat) (ps : List Px) (n c k : Nat) : mem W w h X Y SX SY ps (n + 1) c k = smooth w h (mem W w h X Y SX SY ps n c) k := rfl
/-- The membrane as cells: four to a pixel. -/
def memC (W w h X Y SX SY : Nat) (ps : List Px) (n j : Nat) : Int := mem W w h X Y SX SY ps n (j % 4) (j / 4)
/-- The pixel whose premultiplied values are sums, limited. -/
def heP (s m : Px) : Px := stP (cl (s.1 + m.1), cl (s.2.1 + m.2.1), cl (s.2.2.1 + m.2.2.1), cl (s.2.2.2 + m.2.2.2))
def memP (W w h X Y SX SY : Nat) (ps : List Px) (k : Nat) : Px := (mem W w h X Y SX SY ps 64 0 k, mem W w h X Y SX SY ps 64 1 k, mem W w h X Y SX SY ps 64 2 k, mem W w h X Y SX SY ps 64 3 k)
/-- Pixel i lies inside the healed rectangle, not on its border. -/
def inH (W w h X Y i : Nat) : Prop := X + 1 ≤ i % W ∧ i % W + 1 < X + w ∧ Y + 1 ≤ i / W ∧ i / W + 1 < Y + h
instance (W w h X Y i : Nat) : Decidable (inH W w h X Y i) := by unfold inH; infer_instance
def hIdx (W w X Y i : Nat) : Nat := (i / W - Y) * w + (i % W - X)
def healAt (W w h X Y SX SY : Nat) (sw : Int) (zs : List Int) (ps : List Px) (i : Nat) : Px :=
  if inH W w h X Y i ∧ selK sw zs i ≠ 0 then mxP (pxAt ps i) (heP (prP (pxAt ps (nIdx SX SY w W (hIdx W w X Y i)))) (memP W w h X Y SX SY ps (hIdx W w X Y i))) (selK sw zs i) else pxAt ps i
def heals (W w h X Y SX SY : Nat) (sw : Int) (zs : List Int) (ps : List Px) : List Px := (List.range ps.length).map (healAt W w h X Y SX SY sw zs ps)
theorem heals_len (W w h X Y SX SY : Nat) (sw : Int) (zs : List Int) (ps : List Px) : (heals W w h X Y SX SY sw zs ps).length = ps.length := by simp [heals]
theorem heals_at (W w h X Y SX SY : Nat) (sw : Int) (zs : List Int) (ps : List Px) (k : Nat) (hk : k < ps.length) : pxAt (heals W w h X Y SX SY sw zs ps) k = healAt W w h X Y SX SY sw zs ps k := by simp [pxAt, heals, List.getD, hk]
theorem healAt_out {W w h X Y SX SY : Nat} {sw : Int} {zs : List Int} {ps : List Px} {i : Nat} (hn : ¬ inH W w h X Y i) : healAt W w h X Y SX SY sw zs ps i = pxAt ps i := if_neg (fun h => hn h.1)
theorem healAt_sel {W w h X Y SX SY : Nat} {sw : Int} {zs : List Int} {ps : List Px} {i : Nat} (hn : selK sw zs i = 0) : healAt W w h X Y SX SY sw zs ps i = pxAt ps i := if_neg (fun h => h.2 hn)
/-- Pixel (x, y) inside the rectangle: its number there and in the image. -/
theorem heal_xy (W w h X Y SX SY : Nat) (sw : Int) (zs : List Int) (ps : List Px) (x y : Nat) (hW : X + w ≤ W) (hx : 1 ≤ x) (hx2 : x + 1 < w) (hy : 1 ≤ y) (hy2 : y + 1 < h) (hs : selK sw zs ((Y + y) * W + X + x) ≠ 0) :
    healAt W w h X Y SX SY sw zs ps ((Y + y) * W + X + x) = mxP (pxAt ps ((Y + y) * W + X + x)) (heP (prP (pxAt ps ((SY + y) * W + SX + x))) (memP W w h X Y SX SY ps (y * w + x))) (selK sw zs ((Y + y) * W + X + x)) := by
  have e1 : ((Y + y) * W + X + x) % W = X + x := by
    rw [show (Y + y) * W + X + x = (X + x) + W * (Y + y) by rw [Nat.mul_comm]; omega, Nat.add_mul_mod_self_left]
    exact Nat.mod_eq_of_lt (by omega)
  have e2 : ((Y + y) * W + X + x) / W = Y + y := by
    rw [show (Y + y) * W + X + x = (X + x) + W * (Y + y) by rw [Nat.mul_comm]; omega, Nat.add_mul_div_left _ _ (by omega), Nat.div_eq_of_lt (by omega)]
    omega
  have e3 : hIdx W w X Y ((Y + y) * W + X + x) = y * w + x := by
    unfold hIdx
    rw [e1, e2, show Y + y - Y = y by omega, show X + x - X = x by omega]
  have e4 : (y * w + x) % w = x := by
    rw [show y * w + x = x + w * y by rw [Nat.mul_comm]; omega, Nat.add_mul_mod_self_left]
    exact Nat.mod_eq_of_lt (by omega)
  have e5 : (y * w + x) / w = y := by
    rw [show y * w + x = x + w * y by rw [Nat.mul_comm]; omega, Nat.add_mul_div_left _ _ (by omega), Nat.div_eq_of_lt (by omega)]
    omega
  have e6 : nIdx SX SY w W (y * w + x) = (SY + y) * W + SX + x := by unfold nIdx; rw [e4, e5]
  unfold healAt
  rw [if_pos ⟨by unfold inH; rw [e1, e2]; omega, hs⟩, e3, e6]

/-- Pixels at the end of a row and the start of the next are on the border. -/
theorem brd_row {w h y k : Nat} (hw : 0 < w) (h1 : y * w + (max 1 (w - 1)) ≤ k) (h2 : k ≤ (y + 1) * w) : onBorder w h k = true := by
  have e0 : (y + 1) * w = y * w + w := by rw [Nat.add_mul]; omega
  unfold onBorder
  refine decide_eq_true ?_
  by_cases c : k = (y + 1) * w
  · left
    rw [c, Nat.mul_mod_left]
  · right; right; left
    rw [show k = (w - 1) + w * y by rw [Nat.mul_comm]; omega, Nat.add_mul_mod_self_left]
    exact Nat.mod_eq_of_lt (by omega)
theorem brd_last {w h y k : Nat} (hw : 0 < w) (hy : h ≤ y + 1) (h1 : y * w ≤ k) (h2 : k < w * h) : onBorder w h k = true := by
  unfold onBorder
  refine decide_eq_true ?_
  right; right; right
  have a : y ≤ k / w := (Nat.le_div_iff_mul_le hw).2 h1
  have b : k / w < h := Nat.div_lt_of_lt_mul h2
  omega
theorem brd_first {w h k : Nat} (hw : 0 < w) (h2 : k ≤ w) : onBorder w h k = true := by
  unfold onBorder
  refine decide_eq_true ?_
  by_cases c : k = w
  · left
    rw [c, Nat.mod_self]
  · right; left
    exact Nat.div_eq_of_lt (by omega)
theorem brd_in {w h x y : Nat} (hx : 1 ≤ x) (hx2 : x + 1 < w) (hy : 1 ≤ y) (hy2 : y + 1 < h) : onBorder w h (y * w + x) = false := by
  have e4 : (y * w + x) % w = x := by
    rw [show y * w + x = x + w * y by rw [Nat.mul_comm]; omega, Nat.add_mul_mod_self_left]
    exact Nat.mod_eq_of_lt (by omega)
  have e5 : (y * w + x) / w = y := by
    rw [show y * w + x = x + w * y by rw [Nat.mul_comm]; omega, Nat.add_mul_div_left _ _ (by omega), Nat.div_eq_of_lt (by omega)]
    omega
  unfold onBorder
  rw [e4, e5]
  exact decide_eq_false (by omega)
theorem brd_xy {w h x y : Nat} (hx2 : x < w) : onBorder w h (y * w + x) = decide (x = 0 ∨ y = 0 ∨ x = w - 1 ∨ y = h - 1) := by
  have e4 : (y * w + x) % w = x := by
    rw [show y * w + x = x + w * y by rw [Nat.mul_comm]; omega, Nat.add_mul_mod_self_left]
    exact Nat.mod_eq_of_lt hx2
  have e5 : (y * w + x) / w = y := by
    rw [show y * w + x = x + w * y by rw [Nat.mul_comm]; omega, Nat.add_mul_div_left _ _ (by omega), Nat.div_eq_of_lt hx2]
    omega
  unfold onBorder
  rw [e4, e5]
/-- Between two rows of the inside no pixel is inside. -/
theorem inH_row {W w h X Y y i : Nat} (hW : X + w ≤ W) (h1 : (Y + y) * W + X + (max 1 (w - 1)) ≤ i) (h2 : i < (Y + (y + 1)) * W + X + 1) : ¬ inH W w h X Y i := by
  unfold inH
  intro hh
  have e0 : (Y + (y + 1)) * W = (Y + y) * W + W := by rw [← Nat.add_assoc, Nat.add_mul (Y + y) 1 W]; omega
  have e1 := Nat.div_add_mod i W
  rw [Nat.mul_comm] at e1
  have hW0 : 0 < W := by omega
  have hm := Nat.mod_lt i hW0
  have a : Y + y ≤ i / W := (Nat.le_div_iff_mul_le hW0).2 (by omega)
  have b : i / W < Y + (y + 1) + 1 := by
    rw [Nat.div_lt_iff_lt_mul hW0, Nat.add_mul (Y + (y + 1)) 1 W]
    omega
  by_cases c : i / W = Y + y
  · rw [c] at e1
    omega
  · have c2 : i / W = Y + (y + 1) := by omega
    rw [c2] at e1
    omega
theorem inH_first {W w h X Y i : Nat} (hW : X + w ≤ W) (hw : 0 < w) (h2 : i < (Y + 1) * W + X + 1) : ¬ inH W w h X Y i := by
  unfold inH
  intro hh
  have e1 := Nat.div_add_mod i W
  rw [Nat.mul_comm] at e1
  have hW0 : 0 < W := by omega
  have a : (Y + 1) * W ≤ i / W * W := Nat.mul_le_mul_right _ (by omega)
  have b : i / W < Y + 1 + 1 := by
    rw [Nat.div_lt_iff_lt_mul hW0, Nat.add_mul (Y + 1) 1 W]
    omega
  have c2 : i / W = Y + 1 := by omega
  rw [c2] at e1
  omega
theorem inH_last {W w h X Y y i : Nat} (hW : X + w ≤ W) (hw : 0 < w) (hy : h ≤ y + 1) (h1 : (Y + y) * W ≤ i) : ¬ inH W w h X Y i := by
  unfold inH
  intro hh
  have a : Y + y ≤ i / W := (Nat.le_div_iff_mul_le (by omega)).2 h1
  omega

/-- The rectangle lies in the image. -/
def hRect (iw ih rx ry rw rh : Int) : Prop := rValid rx ry rw rh = true ∧ rw ≠ 0 ∧ rh ≠ 0 ∧ 0 ≤ rx ∧ rx + rw ≤ iw ∧ 0 ≤ ry ∧ ry + rh ≤ ih
def hOff (iw ih rx ry rw rh ox oy : Int) : Prop := 0 ≤ rx + ox ∧ rx + ox + rw ≤ iw ∧ 0 ≤ ry + oy ∧ ry + oy + rh ≤ ih
def hSize (iw ih rw rh mw mh : Int) : Prop := rw ≤ 32 ∧ rh ≤ 32 ∧ (mw = 0 ∨ (mw = iw ∧ mh = ih))
/-- What Heal gives. -/
def HealOut (iw ih : Int) (ps : List Px) (rx ry rw rh ox oy : Int) (mw mh : Int) (zs : List Int) (Wm Hm E : Int) (qs : List Px) : Prop :=
  (ichk iw ih ps ≠ 0 ∧ Wm = 0 ∧ Hm = 0 ∧ E = ichk iw ih ps ∧ qs = []) ∨
  (ichk iw ih ps = 0 ∧ mchk mw mh zs ≠ 0 ∧ Wm = 0 ∧ Hm = 0 ∧ E = mchk mw mh zs ∧ qs = []) ∨
  (ichk iw ih ps = 0 ∧ mchk mw mh zs = 0 ∧ ¬ hRect iw ih rx ry rw rh ∧ Wm = 0 ∧ Hm = 0 ∧ E = 2 ∧ qs = []) ∨
  (ichk iw ih ps = 0 ∧ mchk mw mh zs = 0 ∧ hRect iw ih rx ry rw rh ∧ ¬ hOff iw ih rx ry rw rh ox oy ∧ Wm = 0 ∧ Hm = 0 ∧ E = 2 ∧ qs = []) ∨
  (ichk iw ih ps = 0 ∧ mchk mw mh zs = 0 ∧ hRect iw ih rx ry rw rh ∧ hOff iw ih rx ry rw rh ox oy ∧ ¬ hSize iw ih rw rh mw mh ∧ Wm = 0 ∧ Hm = 0 ∧ E = 15 ∧ qs = []) ∨
  (ichk iw ih ps = 0 ∧ mchk mw mh zs = 0 ∧ hRect iw ih rx ry rw rh ∧ hOff iw ih rx ry rw rh ox oy ∧ hSize iw ih rw rh mw mh ∧ Wm = iw ∧ Hm = ih ∧ E = 0 ∧ qs = heals iw.toNat rw.toNat rh.toNat rx.toNat ry.toNat (rx + ox).toNat (ry + oy).toNat mw zs ps)
theorem heal_out (iw ih : Int) (ps : List Px) (rx ry rw rh ox oy : Int) (mw mh : Int) (zs : List Int) : ∃ Wm Hm E qs, HealOut iw ih ps rx ry rw rh ox oy mw mh zs Wm Hm E qs := by
  by_cases h1 : ichk iw ih ps = 0
  · by_cases h2 : mchk mw mh zs = 0
    · by_cases h3 : hRect iw ih rx ry rw rh
      · by_cases h4 : hOff iw ih rx ry rw rh ox oy
        · by_cases h5 : hSize iw ih rw rh mw mh
          · exact ⟨_, _, _, _, .inr (.inr (.inr (.inr (.inr ⟨h1, h2, h3, h4, h5, rfl, rfl, rfl, rfl⟩))))⟩
          · exact ⟨_, _, _, _, .inr (.inr (.inr (.inr (.inl ⟨h1, h2, h3, h4, h5, rfl, rfl, rfl, rfl⟩))))⟩
        · exact ⟨_, _, _, _, .inr (.inr (.inr (.inl ⟨h1, h2, h3, h4, rfl, rfl, rfl, rfl⟩)))⟩
      · exact ⟨_, _, _, _, .inr (.inr (.inl ⟨h1, h2, h3, rfl, rfl, rfl, rfl⟩))⟩
    · exact ⟨_, _, _, _, .inr (.inl ⟨h1, h2, rfl, rfl, rfl, rfl⟩)⟩
  · exact ⟨_, _, _, _, .inl ⟨h1, rfl, rfl, rfl, rfl⟩⟩

/-- What Clone gives. -/
def cOff (ox oy : Int) : Prop := -256 ≤ ox ∧ ox ≤ 256 ∧ -256 ≤ oy ∧ oy ≤ 256
def CloneOut (iw ih : Int) (ps : List Px) (B : Bru) (ls : List Smp) (ox oy mw mh : Int) (zs : List Int) (Wm Hm E : Int) (qs : List Px) : Prop :=
  (prepE iw ih ps B ls mw mh zs ≠ 0 ∧ Wm = 0 ∧ Hm = 0 ∧ E = prepE iw ih ps B ls mw mh zs ∧ qs = []) ∨
  (prepE iw ih ps B ls mw mh zs = 0 ∧ ¬ cOff ox oy ∧ Wm = 0 ∧ Hm = 0 ∧ E = 2 ∧ qs = []) ∨
  (prepE iw ih ps B ls mw mh zs = 0 ∧ cOff ox oy ∧ Wm = iw ∧ Hm = ih ∧ E = 0 ∧ qs = clones B (dabs B ls).1 iw.toNat ih.toNat mw zs ps ox oy)
theorem clone_out (iw ih : Int) (ps : List Px) (B : Bru) (ls : List Smp) (ox oy mw mh : Int) (zs : List Int) : ∃ Wm Hm E qs, CloneOut iw ih ps B ls ox oy mw mh zs Wm Hm E qs := by
  by_cases h1 : prepE iw ih ps B ls mw mh zs = 0
  · by_cases h2 : cOff ox oy
    · exact ⟨_, _, _, _, .inr (.inr ⟨h1, h2, rfl, rfl, rfl, rfl⟩)⟩
    · exact ⟨_, _, _, _, .inr (.inl ⟨h1, h2, rfl, rfl, rfl, rfl⟩)⟩
  · exact ⟨_, _, _, _, .inl ⟨h1, rfl, rfl, rfl, rfl⟩⟩
/-- What Smudge gives. -/
def smuds (B : Bru) (ds : List Dab) (W H : Nat) (sw : Int) (zs : List Int) (ps : List Px) : List Px := (List.range ps.length).map (smuF B W H sw zs ds (pxAt ps, undP W H (pxAt ps) (dbAt ds 0))).1
theorem smuds_len (B : Bru) (ds : List Dab) (W H : Nat) (sw : Int) (zs : List Int) (ps : List Px) : (smuds B ds W H sw zs ps).length = ps.length := by simp [smuds]
theorem smuds_at (B : Bru) (ds : List Dab) (W H : Nat) (sw : Int) (zs : List Int) (ps : List Px) (k : Nat) (hk : k < ps.length) : pxAt (smuds B ds W H sw zs ps) k = (smuF B W H sw zs ds (pxAt ps, undP W H (pxAt ps) (dbAt ds 0))).1 k := by simp [pxAt, smuds, List.getD, hk]
def SmudOut (iw ih : Int) (ps : List Px) (B : Bru) (ls : List Smp) (mw mh : Int) (zs : List Int) (Wm Hm E : Int) (qs : List Px) : Prop :=
  (prepE iw ih ps B ls mw mh zs ≠ 0 ∧ Wm = 0 ∧ Hm = 0 ∧ E = prepE iw ih ps B ls mw mh zs ∧ qs = []) ∨
  (prepE iw ih ps B ls mw mh zs = 0 ∧ Wm = iw ∧ Hm = ih ∧ E = 0 ∧ qs = smuds B (dabs B ls).1 iw.toNat ih.toNat mw zs ps)
theorem smud_out (iw ih : Int) (ps : List Px) (B : Bru) (ls : List Smp) (mw mh : Int) (zs : List Int) : ∃ Wm Hm E qs, SmudOut iw ih ps B ls mw mh zs Wm Hm E qs := by
  by_cases h1 : prepE iw ih ps B ls mw mh zs = 0
  · exact ⟨_, _, _, _, .inr ⟨h1, rfl, rfl, rfl, rfl⟩⟩
  · exact ⟨_, _, _, _, .inl ⟨h1, rfl, rfl, rfl, rfl⟩⟩
/-- What prepare has found when it gives no error. -/
theorem prep_ok {iw ih : Int} {ps : List Px} {B : Bru} {ls : List Smp} {mw mh : Int} {zs : List Int} (h : prepE iw ih ps B ls mw mh zs = 0) : ichk iw ih ps = 0 ∧ mchk mw mh zs = 0 ∧ (dabs B ls).2 = 0 ∧ (mw = 0 ∨ (mw = iw ∧ mh = ih)) := by
  unfold prepE at h
  split at h
  · split at h
    · split at h
      · split at h
        · cases h
        · rename_i h1 h2 h3 h4
          exact ⟨h1, h2, h3, by omega⟩
      · rename_i h3; exact absurd h h3
    · rename_i h3; exact absurd h h3
  · rename_i h3; exact absurd h h3
end Go.Proofs.YtieacbccadbdbaaGreatDoor

