/- Healing, plainly: the differences on the border of a rectangle, the membrane between them, the healed pixels, the errors. -/
import Derived.Test.YtieacbccadbdbaaDoorSmuP
namespace Go.Proofs.YtieacbccadbdbaaDoor
set_option linter.unusedVariables false

/-- One of the four values of a pixel. -/
def cmp (c : Nat) (p : Px) : Int := if c = 0 then p.1 else if c = 1 then p.2.1 else if c = 2 then p.2.2.1 else p.2.2.2
/-- A pixel premultiplied; made straight. -/
def prP (p : Px) : Px := (dv (cl p.1 * cl p.2.2.2) 65535, dv (cl p.2.1 * cl p.2.2.2) 65535, dv (cl p.2.2.1 * cl p.2.2.2) 65535, cl p.2.2.2)
def stP (p : Px) : Px := if cl p.2.2.2 = 0 then (0, 0, 0, 0) else (stC p.1 p.2.2.2, stC p.2.1 p.2.2.2, stC p.2.2.1 p.2.2.2, cl p.2.2.2)
theorem cmp_prP (c : Nat) (p : Px) : 0 ≤ cmp c (prP p) ∧ cmp c (prP p) ≤ 65535 := by
  unfold cmp prP
  simp only
  split
  · exact mulU_bd' _ _
  · split
    · exact mulU_bd' _ _
    · split
      · exact mulU_bd' _ _
      · exact cl_bd _
/-- The differences of target and source on the border, 0 inside. -/
def mem0 (W w h X Y SX SY : Nat) (ps : List Px) (c k : Nat) : Int := if onBorder w h k = true then cmp c (prP (pxAt ps (nIdx X Y w W k))) - cmp c (prP (pxAt ps (nIdx SX SY w W k))) else 0
theorem mem0_in {W w h X Y SX SY : Nat} {ps : List Px} {c k : Nat} (hb : onBorder w h k = false) : mem0 W w h X Y SX SY ps c k = 0 := if_neg (by rw [hb]; decide)
theorem mem0_on {W w h X Y SX SY : Nat} {ps : List Px} {c k : Nat} (hb : onBorder w h k = true) : mem0 W w h X Y SX SY ps c k = cmp c (prP (pxAt ps (nIdx X Y w W k))) - cmp c (prP (pxAt ps (nIdx SX SY w W k))) := if_pos hb
/-- The membrane after n rounds. -/
def mem (W w h X Y SX SY : Nat) (ps : List Px) (n c k : Nat) : Int := smooths w h n (mem0 W w h X Y SX SY ps c) k
theorem mem0_bd (W w h X Y SX SY : Nat) (ps : List Px) (c k : Nat) : -65535 ≤ mem0 W w h X Y SX SY ps c k ∧ mem0 W w h X Y SX SY ps c k ≤ 65535 := by
  unfold mem0
  have h1 := cmp_prP c (pxAt ps (nIdx X Y w W k))
  have h2 := cmp_prP c (pxAt ps (nIdx SX SY w W k))
  split <;> omega
theorem smooth_bd (w h : Nat) (m : Nat → Int) (hm : ∀ k, -65535 ≤ m k ∧ m k ≤ 65535) (k : Nat) : -65535 ≤ smooth w h m k ∧ smooth w h m k ≤ 65535 := by
  unfold smooth
  split
  · exact hm k
  · have a1 := hm (k - 1)
    have a2 := hm (k + 1)
    have a3 := hm (k - w)
    have a4 := hm (k + w)
    exact ⟨dv_ge _ _ _ (by omega) (by omega), dv_le _ _ _ (by omega) (by omega)⟩
theorem smooths_bd (w h : Nat) (m : Nat → Int) (hm : ∀ k, -65535 ≤ m k ∧ m k ≤ 65535) : ∀ n k, -65535 ≤ smooths w h n m k ∧ smooths w h n m k ≤ 65535
  | 0, k => hm k
  | n + 1, k => smooth_bd w h _ (smooths_bd w h m hm n) k
theorem mem_bd (W w h X Y SX SY : Nat) (ps : List Px) (n c k : Nat) : -65535 ≤ mem W w h X Y SX SY ps n c k ∧ mem W w h X Y SX SY ps n c k ≤ 65535 := smooths_bd w h _ (mem0_bd W w h X Y SX SY ps c) n k
theorem mem_zero (W w h X Y SX SY : Nat) (ps : List Px) (c k : Nat) : mem W w h X Y SX SY ps 0 c k = mem0 W w h X Y SX SY ps c k := rfl
theorem mem_succ (W w h X Y SX SY : Nat) (ps : List Px) (n c k : Nat) : mem W w h X Y SX SY ps (n + 1) c k = smooth w h (mem W w h X Y SX SY ps n c) k := rfl
/-- The membrane as cells: four to a pixel. -/
def memC (W w h X Y SX SY : Nat) (ps : List Px) (n j : Nat) : Int := mem W w h X Y SX SY ps n (j % 4) (j / 4)
/-- The pixel whose premultiplied values are sums, limited. -/
def heP (s m : Px) : Px := stP (cl (s.1 + m.1), cl (s.2.1 + m.2.1), cl (s.2.2.1 + m.2.2.1), cl (s.2.2.2 + m.2.2.2))
def memP (W w h X Y SX SY : Nat) (ps : List Px) (k : Nat) : Px := (mem W w h X Y SX SY ps 64 0 k, mem W w h X Y SX SY ps 64 1 k, mem W w h X Y SX SY ps 64 2 k, mem W w h X Y SX SY ps 64 3 k)
/-- Pixel i lies inside the healed rectangle, not on its border. -/
def inH (W w h X Y i : Nat) : Prop := X + 1 ≤ i % W ∧ i % W + 1 < X + w ∧ Y + 1 ≤ i / W ∧ i / W + 1 < Y + h
instance (W w h X Y i : Nat) : Decidable (inH W w h X Y i) := by unfold inH; infer_instance
def hIdx (W w X Y i : Nat) : Nat := (i / W - Y) * w + (i % W - X)
def healAt (W w h X Y SX SY : Nat) (sw : Int) (zs : List Int) (ps : List Px) (i : Nat) : Px :=
  if inH W w h X Y i ∧ selK sw zs i ≠ 0 then mxP (pxAt ps i) (heP (prP (pxAt ps (nIdx SX SY w W (hIdx W w X Y i)))) (memP W w h X Y SX SY ps (hIdx W w X Y i))) (selK sw zs i) else pxAt ps i
def heals (W w h X Y SX SY : Nat) (sw : Int) (zs : List Int) (ps : List Px) : List Px := (List.range ps.length).map (healAt W w h X Y SX SY sw zs ps)
theorem heals_len (W w h X Y SX SY : Nat) (sw : Int) (zs : List Int) (ps : List Px) : (heals W w h X Y SX SY sw zs ps).length = ps.length := by simp [heals]
theorem heals_at (W w h X Y SX SY : Nat) (sw : Int) (zs : List Int) (ps : List Px) (k : Nat) (hk : k < ps.length) : pxAt (heals W w h X Y SX SY sw zs ps) k = healAt W w h X Y SX SY sw zs ps k := by simp [pxAt, heals, List.getD, hk]
theorem healAt_out {W w h X Y SX SY : Nat} {sw : Int} {zs : List Int} {ps : List Px} {i : Nat} (hn : ¬ inH W w h X Y i) : healAt W w h X Y SX SY sw zs ps i = pxAt ps i := if_neg (fun h => hn h.1)
theorem healAt_sel {W w h X Y SX SY : Nat} {sw : Int} {zs : List Int} {ps : List Px} {i : Nat} (hn : selK sw zs i = 0) : healAt W w h X Y SX SY sw zs ps i = pxAt ps i := if_neg (fun h => h.2 hn)
/-- Pixel (x, y) inside the rectangle: its number there and in the image. -/
theorem heal_xy (W w h X Y SX SY : Nat) (sw : Int) (zs : List Int) (ps : List Px) (x y : Nat) (hW : X + w ≤ W) (hx : 1 ≤ x) (hx2 : x + 1 < w) (hy : 1 ≤ y) (hy2 : y + 1 < h) (hs : selK sw zs ((Y + y) * W + X + x) ≠ 0) :
    healAt W w h X Y SX SY sw zs ps ((Y + y) * W + X + x) = mxP (pxAt ps ((Y + y) * W + X + x)) (heP (prP (pxAt ps ((SY + y) * W + SX + x))) (memP W w h X Y SX SY ps (y * w + x))) (selK sw zs ((Y + y) * W + X + x)) := by
  have e1 : ((Y + y) * W + X + x) % W = X + x := by
    rw [show (Y + y) * W + X + x = (X + x) + W * (Y + y) by rw [Nat.mul_comm]; omega, Nat.add_mul_mod_self_left]
    exact Nat.mod_eq_of_lt (by omega)
  have e2 : ((Y + y) * W + X + x) / W = Y + y := by
    rw [show (Y + y) * W + X + x = (X + x) + W * (Y + y) by rw [Nat.mul_comm]; omega, Nat.add_mul_div_left _ _ (by omega), Nat.div_eq_of_lt (by omega)]
    omega
  have e3 : hIdx W w X Y ((Y + y) * W + X + x) = y * w + x := by
    unfold hIdx
    rw [e1, e2, show Y + y - Y = y by omega, show X + x - X = x by omega]
  have e4 : (y * w + x) % w = x := by
    rw [show y * w + x = x + w * y by rw [Nat.mul_comm]; omega, Nat.add_mul_mod_self_left]
    exact Nat.mod_eq_of_lt (by omega)
  have e5 : (y * w + x) / w = y := by
    rw [show y * w + x = x + w * y by rw [Nat.mul_comm]; omega, Nat.add_mul_div_left _ _ (by omega), Nat.div_eq_of_lt (by omega)]
    omega
  have e6 : nIdx SX SY w W (y * w + x) = (SY + y) * W + SX + x := by unfold nIdx; rw [e4, e5]
  unfold healAt
  rw [if_pos ⟨by unfold inH; rw [e1, e2]; omega, hs⟩, e3, e6]

/-- Pixels at the end of a row and the start of the next are on the border. -/
theorem brd_row {w h y k : Nat} (hw : 0 < w) (h1 : y * w + (max 1 (w - 1)) ≤ k) (h2 : k ≤ (y + 1) * w) : onBorder w h k = true := by
  have e0 : (y + 1) * w = y * w + w := by rw [Nat.add_mul]; omega
  unfold onBorder
  refine decide_eq_true ?_
  by_cases c : k = (y + 1) * w
  · left
    rw [c, Nat.mul_mod_left]
  · right; right; left
    rw [show k = (w - 1) + w * y by rw [Nat.mul_comm]; omega, Nat.add_mul_mod_self_left]
    exact Nat.mod_eq_of_lt (by omega)
theorem brd_last {w h y k : Nat} (hw : 0 < w) (hy : h ≤ y + 1) (h1 : y * w ≤ k) (h2 : k < w * h) : onBorder w h k = true := by
  unfold onBorder
  refine decide_eq_true ?_
  right; right; right
  have a : y ≤ k / w := (Nat.le_div_iff_mul_le hw).2 h1
  have b : k / w < h := Nat.div_lt_of_lt_mul h2
  omega
theorem brd_first {w h k : Nat} (hw : 0 < w) (h2 : k ≤ w) : onBorder w h k = true := by
  unfold onBorder
  refine decide_eq_true ?_
  by_cases c : k = w
  · left
    rw [c, Nat.mod_self]
  · right; left
    exact Nat.div_eq_of_lt (by omega)
theorem brd_in {w h x y : Nat} (hx : 1 ≤ x) (hx2 : x + 1 < w) (hy : 1 ≤ y) (hy2 : y + 1 < h) : onBorder w h (y * w + x) = false := by
  have e4 : (y * w + x) % w = x := by
    rw [show y * w + x = x + w * y by rw [Nat.mul_comm]; omega, Nat.add_mul_mod_self_left]
    exact Nat.mod_eq_of_lt (by omega)
  have e5 : (y * w + x) / w = y := by
    rw [show y * w + x = x + w * y by rw [Nat.mul_comm]; omega, Nat.add_mul_div_left _ _ (by omega), Nat.div_eq_of_lt (by omega)]
    omega
  unfold onBorder
  rw [e4, e5]
  exact decide_eq_false (by omega)
theorem brd_xy {w h x y : Nat} (hx2 : x < w) : onBorder w h (y * w + x) = decide (x = 0 ∨ y = 0 ∨ x = w - 1 ∨ y = h - 1) := by
  have e4 : (y * w + x) % w = x := by
    rw [show y * w + x = x + w * y by rw [Nat.mul_comm]; omega, Nat.add_mul_mod_self_left]
    exact Nat.mod_eq_of_lt hx2
  have e5 : (y * w + x) / w = y := by
    rw [show y * w + x = x + w * y by rw [Nat.mul_comm]; omega, Nat.add_mul_div_left _ _ (by omega), Nat.div_eq_of_lt hx2]
    omega
  unfold onBorder
  rw [e4, e5]
/-- Between two rows of the inside no pixel is inside. -/
theorem inH_row {W w h X Y y i : Nat} (hW : X + w ≤ W) (h1 : (Y + y) * W + X + (max 1 (w - 1)) ≤ i) (h2 : i < (Y + (y + 1)) * W + X + 1) : ¬ inH W w h X Y i := by
  unfold inH
  intro hh
  have e0 : (Y + (y + 1)) * W = (Y + y) * W + W := by rw [← Nat.add_assoc, Nat.add_mul (Y + y) 1 W]; omega
  have e1 := Nat.div_add_mod i W
  rw [Nat.mul_comm] at e1
  have hW0 : 0 < W := by omega
  have hm := Nat.mod_lt i hW0
  have a : Y + y ≤ i / W := (Nat.le_div_iff_mul_le hW0).2 (by omega)
  have b : i / W < Y + (y + 1) + 1 := by
    rw [Nat.div_lt_iff_lt_mul hW0, Nat.add_mul (Y + (y + 1)) 1 W]
    omega
  by_cases c : i / W = Y + y
  · rw [c] at e1
    omega
  · have c2 : i / W = Y + (y + 1) := by omega
    rw [c2] at e1
    omega
theorem inH_first {W w h X Y i : Nat} (hW : X + w ≤ W) (hw : 0 < w) (h2 : i < (Y + 1) * W + X + 1) : ¬ inH W w h X Y i := by
  unfold inH
  intro hh
  have e1 := Nat.div_add_mod i W
  rw [Nat.mul_comm] at e1
  have hW0 : 0 < W := by omega
  have a : (Y + 1) * W ≤ i / W * W := Nat.mul_le_mul_right _ (by omega)
  have b : i / W < Y + 1 + 1 := by
    rw [Nat.div_lt_iff_lt_mul hW0, Nat.add_mul (Y + 1) 1 W]
    omega
  have c2 : i / W = Y + 1 := by omega
  rw [c2] at e1
  omega
theorem inH_last {W w h X Y y i : Nat} (hW : X + w ≤ W) (hw : 0 < w) (hy : h ≤ y + 1) (h1 : (Y + y) * W ≤ i) : ¬ inH W w h X Y i := by
  unfold inH
  intro hh
  have a : Y + y ≤ i / W := (Nat.le_div_iff_mul_le (by omega)).2 h1
  omega

/-- The rectangle lies in the image. -/
def hRect (iw ih rx ry rw rh : Int) : Prop := rValid rx ry rw rh = true ∧ rw ≠ 0 ∧ rh ≠ 0 ∧ 0 ≤ rx ∧ rx + rw ≤ iw ∧ 0 ≤ ry ∧ ry + rh ≤ ih
def hOff (iw ih rx ry rw rh ox oy : Int) : Prop := 0 ≤ rx + ox ∧ rx + ox + rw ≤ iw ∧ 0 ≤ ry + oy ∧ ry + oy + rh ≤ ih
def hSize (iw ih rw rh mw mh : Int) : Prop := rw ≤ 32 ∧ rh ≤ 32 ∧ (mw = 0 ∨ (mw = iw ∧ mh = ih))
/-- What Heal gives. -/
def HealOut (iw ih : Int) (ps : List Px) (rx ry rw rh ox oy : Int) (mw mh : Int) (zs : List Int) (Wm Hm E : Int) (qs : List Px) : Prop :=
  (ichk iw ih ps ≠ 0 ∧ Wm = 0 ∧ Hm = 0 ∧ E = ichk iw ih ps ∧ qs = []) ∨
  (ichk iw ih ps = 0 ∧ mchk mw mh zs ≠ 0 ∧ Wm = 0 ∧ Hm = 0 ∧ E = mchk mw mh zs ∧ qs = []) ∨
  (ichk iw ih ps = 0 ∧ mchk mw mh zs = 0 ∧ ¬ hRect iw ih rx ry rw rh ∧ Wm = 0 ∧ Hm = 0 ∧ E = 2 ∧ qs = []) ∨
  (ichk iw ih ps = 0 ∧ mchk mw mh zs = 0 ∧ hRect iw ih rx ry rw rh ∧ ¬ hOff iw ih rx ry rw rh ox oy ∧ Wm = 0 ∧ Hm = 0 ∧ E = 2 ∧ qs = []) ∨
  (ichk iw ih ps = 0 ∧ mchk mw mh zs = 0 ∧ hRect iw ih rx ry rw rh ∧ hOff iw ih rx ry rw rh ox oy ∧ ¬ hSize iw ih rw rh mw mh ∧ Wm = 0 ∧ Hm = 0 ∧ E = 15 ∧ qs = []) ∨
  (ichk iw ih ps = 0 ∧ mchk mw mh zs = 0 ∧ hRect iw ih rx ry rw rh ∧ hOff iw ih rx ry rw rh ox oy ∧ hSize iw ih rw rh mw mh ∧ Wm = iw ∧ Hm = ih ∧ E = 0 ∧ qs = heals iw.toNat rw.toNat rh.toNat rx.toNat ry.toNat (rx + ox).toNat (ry + oy).toNat mw zs ps)
theorem heal_out (iw ih : Int) (ps : List Px) (rx ry rw rh ox oy : Int) (mw mh : Int) (zs : List Int) : ∃ Wm Hm E qs, HealOut iw ih ps rx ry rw rh ox oy mw mh zs Wm Hm E qs := by
  by_cases h1 : ichk iw ih ps = 0
  · by_cases h2 : mchk mw mh zs = 0
    · by_cases h3 : hRect iw ih rx ry rw rh
      · by_cases h4 : hOff iw ih rx ry rw rh ox oy
        · by_cases h5 : hSize iw ih rw rh mw mh
          · exact ⟨_, _, _, _, .inr (.inr (.inr (.inr (.inr ⟨h1, h2, h3, h4, h5, rfl, rfl, rfl, rfl⟩))))⟩
          · exact ⟨_, _, _, _, .inr (.inr (.inr (.inr (.inl ⟨h1, h2, h3, h4, h5, rfl, rfl, rfl, rfl⟩))))⟩
        · exact ⟨_, _, _, _, .inr (.inr (.inr (.inl ⟨h1, h2, h3, h4, rfl, rfl, rfl, rfl⟩)))⟩
      · exact ⟨_, _, _, _, .inr (.inr (.inl ⟨h1, h2, h3, rfl, rfl, rfl, rfl⟩))⟩
    · exact ⟨_, _, _, _, .inr (.inl ⟨h1, h2, rfl, rfl, rfl, rfl⟩)⟩
  · exact ⟨_, _, _, _, .inl ⟨h1, rfl, rfl, rfl, rfl⟩⟩

/-- What Clone gives. -/
def cOff (ox oy : Int) : Prop := -256 ≤ ox ∧ ox ≤ 256 ∧ -256 ≤ oy ∧ oy ≤ 256
def CloneOut (iw ih : Int) (ps : List Px) (B : Bru) (ls : List Smp) (ox oy mw mh : Int) (zs : List Int) (Wm Hm E : Int) (qs : List Px) : Prop :=
  (prepE iw ih ps B ls mw mh zs ≠ 0 ∧ Wm = 0 ∧ Hm = 0 ∧ E = prepE iw ih ps B ls mw mh zs ∧ qs = []) ∨
  (prepE iw ih ps B ls mw mh zs = 0 ∧ ¬ cOff ox oy ∧ Wm = 0 ∧ Hm = 0 ∧ E = 2 ∧ qs = []) ∨
  (prepE iw ih ps B ls mw mh zs = 0 ∧ cOff ox oy ∧ Wm = iw ∧ Hm = ih ∧ E = 0 ∧ qs = clones B (dabs B ls).1 iw.toNat ih.toNat mw zs ps ox oy)
theorem clone_out (iw ih : Int) (ps : List Px) (B : Bru) (ls : List Smp) (ox oy mw mh : Int) (zs : List Int) : ∃ Wm Hm E qs, CloneOut iw ih ps B ls ox oy mw mh zs Wm Hm E qs := by
  by_cases h1 : prepE iw ih ps B ls mw mh zs = 0
  · by_cases h2 : cOff ox oy
    · exact ⟨_, _, _, _, .inr (.inr ⟨h1, h2, rfl, rfl, rfl, rfl⟩)⟩
    · exact ⟨_, _, _, _, .inr (.inl ⟨h1, h2, rfl, rfl, rfl, rfl⟩)⟩
  · exact ⟨_, _, _, _, .inl ⟨h1, rfl, rfl, rfl, rfl⟩⟩
/-- What Smudge gives. -/
def smuds (B : Bru) (ds : List Dab) (W H : Nat) (sw : Int) (zs : List Int) (ps : List Px) : List Px := (List.range ps.length).map (smuF B W H sw zs ds (pxAt ps, undP W H (pxAt ps) (dbAt ds 0))).1
theorem smuds_len (B : Bru) (ds : List Dab) (W H : Nat) (sw : Int) (zs : List Int) (ps : List Px) : (smuds B ds W H sw zs ps).length = ps.length := by simp [smuds]
theorem smuds_at (B : Bru) (ds : List Dab) (W H : Nat) (sw : Int) (zs : List Int) (ps : List Px) (k : Nat) (hk : k < ps.length) : pxAt (smuds B ds W H sw zs ps) k = (smuF B W H sw zs ds (pxAt ps, undP W H (pxAt ps) (dbAt ds 0))).1 k := by simp [pxAt, smuds, List.getD, hk]
def SmudOut (iw ih : Int) (ps : List Px) (B : Bru) (ls : List Smp) (mw mh : Int) (zs : List Int) (Wm Hm E : Int) (qs : List Px) : Prop :=
  (prepE iw ih ps B ls mw mh zs ≠ 0 ∧ Wm = 0 ∧ Hm = 0 ∧ E = prepE iw ih ps B ls mw mh zs ∧ qs = []) ∨
  (prepE iw ih ps B ls mw mh zs = 0 ∧ Wm = iw ∧ Hm = ih ∧ E = 0 ∧ qs = smuds B (dabs B ls).1 iw.toNat ih.toNat mw zs ps)
theorem smud_out (iw ih : Int) (ps : List Px) (B : Bru) (ls : List Smp) (mw mh : Int) (zs : List Int) : ∃ Wm Hm E qs, SmudOut iw ih ps B ls mw mh zs Wm Hm E qs := by
  by_cases h1 : prepE iw ih ps B ls mw mh zs = 0
  · exact ⟨_, _, _, _, .inr ⟨h1, rfl, rfl, rfl, rfl⟩⟩
  · exact ⟨_, _, _, _, .inl ⟨h1, rfl, rfl, rfl, rfl⟩⟩
/-- What prepare has found when it gives no error. -/
theorem prep_ok {iw ih : Int} {ps : List Px} {B : Bru} {ls : List Smp} {mw mh : Int} {zs : List Int} (h : prepE iw ih ps B ls mw mh zs = 0) : ichk iw ih ps = 0 ∧ mchk mw mh zs = 0 ∧ (dabs B ls).2 = 0 ∧ (mw = 0 ∨ (mw = iw ∧ mh = ih)) := by
  unfold prepE at h
  split at h
  · split at h
    · split at h
      · split at h
        · cases h
        · rename_i h1 h2 h3 h4
          exact ⟨h1, h2, h3, by omega⟩
      · rename_i h3; exact absurd h h3
    · rename_i h3; exact absurd h h3
  · rename_i h3; exact absurd h h3
end Go.Proofs.YtieacbccadbdbaaDoor

