/- Several texts in one: RectPlain, CovRow, StrkPlain, RectJ. -/
import Derived.Test.YtieacbccadbdbaaGreatDoorLRect
import Derived.Test.YtieacbccadbdbaaGreatDoorLPlain
import Derived.Test.YtieacbccadbdbaaGreatDoorLBru
import Derived.Test.YtieacbccadbdbaaGreatDoorLDab
import Derived.Lib.MinMax
import Derived.Deep.Cut

/- Rectangles, plainly: intersection, bounding box, growth. -/
namespace Go.Proofs.YtieacbccadbdbaaGreatDoor
set_option linter.unusedVariables false

abbrev R4 := Int × Int × Int × Int
def r0 : R4 := (0, 0, 0, 0)
def rvx (a : R4) : Value := rv a.1 a.2.1 a.2.2.1 a.2.2.2
def rOk (a : R4) : Bool := rValid a.1 a.2.1 a.2.2.1 a.2.2.2
def rEmp (a : R4) : Bool := !rOk a || (a.2.2.1 == 0 || a.2.2.2 == 0)
theorem rOk_iff (a : R4) : rOk a = true ↔ (-1048576 ≤ a.1 ∧ a.1 ≤ 1048576 ∧ 0 ≤ a.2.2.1 ∧ a.2.2.1 ≤ 1048576 - a.1) ∧ (-1048576 ≤ a.2.1 ∧ a.2.1 ≤ 1048576 ∧ 0 ≤ a.2.2.2 ∧ a.2.2.2 ≤ 1048576 - a.2.1) := by
  unfold rOk rValid rSpan
  rw [Bool.and_eq_true, decide_eq_true_eq, decide_eq_true_eq]
theorem rEmp_false {a : R4} (h : rEmp a = false) : (-1048576 ≤ a.1 ∧ a.1 ≤ 1048576 ∧ 0 < a.2.2.1 ∧ a.2.2.1 ≤ 1048576 - a.1) ∧ (-1048576 ≤ a.2.1 ∧ a.2.1 ≤ 1048576 ∧ 0 < a.2.2.2 ∧ a.2.2.2 ≤ 1048576 - a.2.1) := by
  unfold rEmp at h
  simp only [Bool.or_eq_false_iff, Bool.not_eq_false', beq_eq_false_iff_ne] at h
  have := (rOk_iff a).1 h.1
  omega
theorem rEmp_true {a : R4} (h : rEmp a = true) : rOk a = false ∨ a.2.2.1 = 0 ∨ a.2.2.2 = 0 := by
  unfold rEmp at h
  simp only [Bool.or_eq_true, Bool.not_eq_true', beq_iff_eq] at h
  exact h
def rlo (x : Int) : Int := max x (-1048576)
def rhi (x : Int) : Int := min x 1048576
def rbtw (x0 y0 x1 y1 : Int) : R4 := if rhi x1 ≤ rlo x0 ∨ rhi y1 ≤ rlo y0 then r0 else (rlo x0, rlo y0, rhi x1 - rlo x0, rhi y1 - rlo y0)
def rmeet (a b : R4) : R4 := if rEmp a = true then r0 else if rEmp b = true then r0 else rbtw (max a.1 b.1) (max a.2.1 b.2.1) (min (a.1 + a.2.2.1) (b.1 + b.2.2.1)) (min (a.2.1 + a.2.2.2) (b.2.1 + b.2.2.2))
def rjoin (a b : R4) : R4 := if rEmp a = true then if rEmp b = true then r0 else b else if rEmp b = true then a else rbtw (min a.1 b.1) (min a.2.1 b.2.1) (max (a.1 + a.2.2.1) (b.1 + b.2.2.1)) (max (a.2.1 + a.2.2.2) (b.2.1 + b.2.2.2))
theorem rbtw_ok (x0 y0 x1 y1 : Int) : rOk (rbtw x0 y0 x1 y1) = true := by
  rw [rOk_iff]
  unfold rbtw
  split
  · simp [r0]
  · unfold rlo rhi at *
    simp only
    omega
theorem r0_ok : rOk r0 = true := by decide
theorem r0_emp : rEmp r0 = true := by decide
/-- Where two rectangles that are not empty meet or are joined, the limits of the world do not matter. -/
theorem rjoin_in {a b : R4} (ha : rEmp a = false) (hb : rEmp b = false) :
    rjoin a b = (min a.1 b.1, min a.2.1 b.2.1, max (a.1 + a.2.2.1) (b.1 + b.2.2.1) - min a.1 b.1, max (a.2.1 + a.2.2.2) (b.2.1 + b.2.2.2) - min a.2.1 b.2.1) := by
  have h1 := rEmp_false ha
  have h2 := rEmp_false hb
  unfold rjoin
  rw [ha, hb, if_neg (by decide), if_neg (by decide)]
  unfold rbtw rlo rhi
  rw [if_neg (by omega)]
  simp only [Prod.mk.injEq]
  omega
/-- A box, cut to an image. -/
theorem rmeet_img (b : R4) (w h : Int) (hw : 0 ≤ w ∧ w ≤ 256) (hh : 0 ≤ h ∧ h ≤ 256) :
    rOk (rmeet b (0, 0, w, h)) = true ∧ (rmeet b (0, 0, w, h) = r0 ∨ ((0 ≤ (rmeet b (0, 0, w, h)).1 ∧ 0 < (rmeet b (0, 0, w, h)).2.2.1 ∧ (rmeet b (0, 0, w, h)).1 + (rmeet b (0, 0, w, h)).2.2.1 ≤ w) ∧ (0 ≤ (rmeet b (0, 0, w, h)).2.1 ∧ 0 < (rmeet b (0, 0, w, h)).2.2.2 ∧ (rmeet b (0, 0, w, h)).2.1 + (rmeet b (0, 0, w, h)).2.2.2 ≤ h))) ∧
    (∀ x y, 0 ≤ x ∧ x < w → 0 ≤ y ∧ y < h → rOk b = true → hasR b.1 b.2.1 b.2.2.1 b.2.2.2 x y → hasR (rmeet b (0, 0, w, h)).1 (rmeet b (0, 0, w, h)).2.1 (rmeet b (0, 0, w, h)).2.2.1 (rmeet b (0, 0, w, h)).2.2.2 x y) := by
  cases he : rEmp b with
  | true =>
    have e : rmeet b (0, 0, w, h) = r0 := by unfold rmeet; rw [he, if_pos rfl]
    rw [e]
    refine ⟨r0_ok, .inl rfl, fun x y hx hy hv hr => ?_⟩
    unfold hasR at hr
    rcases rEmp_true he with h1 | h1 | h1
    · rw [hv] at h1; cases h1
    · omega
    · omega
  | false =>
    have h1 := rEmp_false he
    cases he2 : rEmp (0, 0, w, h) with
    | true =>
      have e : rmeet b (0, 0, w, h) = r0 := by unfold rmeet; rw [he, if_neg (by decide), he2, if_pos rfl]
      rw [e]
      refine ⟨r0_ok, .inl rfl, fun x y hx hy hv hr => ?_⟩
      rcases rEmp_true he2 with h2 | h2 | h2
      · have : rOk (0, 0, w, h) = true := (rOk_iff _).2 (by simp only; omega)
        rw [this] at h2; cases h2
      · simp only at h2; omega
      · simp only at h2; omega
    | false =>
      have h2 := rEmp_false he2
      simp only at h2
      have e : rmeet b (0, 0, w, h) = rbtw (max b.1 0) (max b.2.1 0) (min (b.1 + b.2.2.1) (0 + w)) (min (b.2.1 + b.2.2.2) (0 + h)) := by
        unfold rmeet
        rw [he, he2, if_neg (by decide), if_neg (by decide)]
      rw [e]
      refine ⟨rbtw_ok _ _ _ _, ?_, ?_⟩
      · unfold rbtw
        split
        · exact .inl rfl
        · right
          unfold rlo rhi at *
          simp only
          omega
      · intro x y hx hy hv hr
        unfold hasR at *
        unfold rbtw
        split
        · unfold rlo rhi at *
          simp only [r0]
          omega
        · unfold rlo rhi at *
          simp only
          omega
/-- The box of dabs. -/
def bfrom (ds : List Dab) : Nat → Nat → R4 → R4
  | 0, _, r => r
  | m + 1, i, r => bfrom ds m (i + 1) (rjoin r (dbox (dbAt ds i)))
def bbox (ds : List Dab) : R4 := bfrom ds (ds.length - 0) 0 r0
theorem bfrom_go (ds : List Dab) (n k : Nat) (r : R4) (h : k < n) : bfrom ds (n - k) k r = bfrom ds (n - (k + 1)) (k + 1) (rjoin r (dbox (dbAt ds k))) := by
  rw [show n - k = (n - (k + 1)) + 1 from by omega]
  rfl
theorem bfrom_end (ds : List Dab) (n : Nat) (r : R4) : bfrom ds (n - n) n r = r := by rw [Nat.sub_self]; rfl
end Go.Proofs.YtieacbccadbdbaaGreatDoor


/- What one dab adds to the coverage, plainly: pixel by pixel of its mask. -/
namespace Go.Proofs.YtieacbccadbdbaaGreatDoor
set_option linter.unusedVariables false

theorem dcov_cvr {B : Bru} {d : Dab} {x y : Int} (h0 : bchk B = 0) (hd : dOk d = true) (hx : -1048576 ≤ x ∧ x ≤ 1048576) (hy : -1048576 ≤ y ∧ y ≤ 1048576) : dcov B d x y = cvr B d x y := by
  unfold dcov
  rw [if_pos h0, dOk_lim hd, show cc x = x by unfold cc; omega, show cc y = y by unfold cc; omega]
/-- The coverage of pixel i by the first k dabs. -/
def ckat (B : Bru) (ds : List Dab) (W k i : Nat) : Int := cfold B (ds.take k) ((i % W : Nat) : Int) ((i / W : Nat) : Int) 0
theorem ckat_zero (B : Bru) (ds : List Dab) (W i : Nat) : ckat B ds W 0 i = 0 := rfl
theorem ckat_succ (B : Bru) (ds : List Dab) (W k i : Nat) (hk : k < ds.length) : ckat B ds W (k + 1) i = cst (ckat B ds W k i) (dcov B (dbAt ds k) ((i % W : Nat) : Int) ((i / W : Nat) : Int)) := by
  have e : ds.take (k + 1) = ds.take k ++ [dbAt ds k] := by
    rw [List.take_add_one, List.getElem?_eq_getElem hk]
    unfold dbAt
    rw [List.getD_eq_getElem?_getD, List.getElem?_eq_getElem hk]
    rfl
  unfold ckat
  rw [e, cfold_snoc]
theorem ckat_all (B : Bru) (ds : List Dab) (W i : Nat) : ckat B ds W ds.length i = cpix B ds W i := by
  unfold ckat cpix
  rw [List.take_length]
theorem ckat_bd (B : Bru) (ds : List Dab) (W k i : Nat) : 0 ≤ ckat B ds W k i ∧ ckat B ds W k i ≤ 65535 := by
  have := cfold_bd B ((i % W : Nat) : Int) ((i / W : Nat) : Int) (ds.take k) 0 (by omega)
  unfold ckat
  omega
/-- Outside of the part of the box that lies in the image nothing is covered. -/
theorem cov_out (B : Bru) (d : Dab) (W H i : Nat) (hW : W ≤ 256) (hH : H ≤ 256) (hi : i < W * H)
    (hn : ¬ hasR (rmeet (dbox d) (0, 0, (W : Int), (H : Int))).1 (rmeet (dbox d) (0, 0, (W : Int), (H : Int))).2.1 (rmeet (dbox d) (0, 0, (W : Int), (H : Int))).2.2.1 (rmeet (dbox d) (0, 0, (W : Int), (H : Int))).2.2.2 ((i % W : Nat) : Int) ((i / W : Nat) : Int)) :
    dcov B d ((i % W : Nat) : Int) ((i / W : Nat) : Int) = 0 := by
  by_cases h : dcov B d ((i % W : Nat) : Int) ((i / W : Nat) : Int) = 0
  · exact h
  · exfalso
    have hW0 : 0 < W := Nat.pos_of_ne_zero (fun h => by rw [h, Nat.zero_mul] at hi; omega)
    have l1 : i % W < W := Nat.mod_lt _ hW0
    have l2 : i / W < H := Nat.div_lt_of_lt_mul hi
    have n1 : (0 : Int) ≤ ((i % W : Nat) : Int) := Int.natCast_nonneg _
    have n2 : (0 : Int) ≤ ((i / W : Nat) : Int) := Int.natCast_nonneg _
    obtain ⟨b1, b2, b3⟩ := in_box B d _ _ (by omega) (by omega) h
    exact hn ((rmeet_img (dbox d) W H (by omega) (by omega)).2.2 _ _ (by omega) (by omega) ((rOk_iff _).2 ⟨b1, b2⟩) b3)

theorem cov_round (B : Bru) (ds : List Dab) (W H k : Nat) (hk : k < ds.length) (h0 : bchk B = 0) (hd : dOk (dbAt ds k) = true) (hW : W ≤ 256) (hH : H ≤ 256) :
    ∃ (X Y TW TH : Nat) (zs : List Int) (F : Nat → Nat → Int),
      rmeet (dbox (dbAt ds k)) (0, 0, (W : Int), (H : Int)) = ((X : Int), (Y : Int), (TW : Int), (TH : Int)) ∧
      ((zs = [] ∧ TipBad B (dbAt ds k) X Y TW TH 0) ∨ (rValid X Y TW TH = true ∧ (0 < TW ∧ TW ≤ 256) ∧ (0 < TH ∧ TH ≤ 256) ∧ zs = tipOut B (dbAt ds k) X Y TW TH)) ∧
      zs.length ≤ 65536 ∧ (0 < zs.length → 0 < TW ∧ TW ≤ 256 ∧ X ≤ 256 ∧ Y ≤ 256) ∧ (∀ m, m < zs.length → m / TW ≤ 256) ∧
      (∀ i, F 0 i = ckat B ds W k i) ∧ (∀ i, i < W * H → F zs.length i = ckat B ds W (k + 1) i) ∧
      (∀ m, m < zs.length → nIdx X Y TW W m < W * H ∧ ∀ i, F (m + 1) i = if i = nIdx X Y TW W m then cst (F m i) (zs.getD m 0) else F m i) ∧ (∀ m i, 0 ≤ F m i ∧ F m i ≤ 65535) := by
  obtain ⟨hok, hc, _⟩ := rmeet_img (dbox (dbAt ds k)) W H (by omega) (by omega)
  have hout := fun i hi hn => cov_out B (dbAt ds k) W H i hW hH hi hn
  generalize hr : rmeet (dbox (dbAt ds k)) (0, 0, (W : Int), (H : Int)) = r at *
  obtain ⟨a, b, c, e⟩ := r
  simp only at hc hout
  rcases hc with hc | ⟨hx, hy⟩
  · simp only [r0, Prod.mk.injEq] at hc
    obtain ⟨rfl, rfl, rfl, rfl⟩ := hc
    refine ⟨0, 0, 0, 0, [], fun _ i => ckat B ds W k i, rfl, .inl ⟨rfl, .inr (.inr (.inr (.inr (.inr ⟨h0, hd, by decide, by decide, by decide, by decide, rfl⟩))))⟩, by simp, fun h => absurd h (by simp), fun m h => absurd h (by simp), fun _ => rfl, fun i hi => ?_, fun m h => absurd h (by simp), fun _ i => ckat_bd _ _ _ _ _⟩
    rw [ckat_succ _ _ _ _ _ hk, hout i hi (by unfold hasR; omega), cst_zero]
  · obtain ⟨X, rfl⟩ : ∃ n : Nat, a = n := ⟨a.toNat, by omega⟩
    obtain ⟨Y, rfl⟩ : ∃ n : Nat, b = n := ⟨b.toNat, by omega⟩
    obtain ⟨TW, rfl⟩ : ∃ n : Nat, c = n := ⟨c.toNat, by omega⟩
    obtain ⟨TH, rfl⟩ : ∃ n : Nat, e = n := ⟨e.toNat, by omega⟩
    have hW1 : 0 < TW := by omega
    have hX : X + TW ≤ W := by omega
    have hY : Y + TH ≤ H := by omega
    have hl := tipOut_len B (dbAt ds k) X Y TW TH
    have hWH : TW * TH ≤ 65536 := Nat.mul_le_mul (show TW ≤ 256 by omega) (show TH ≤ 256 by omega)
    refine ⟨X, Y, TW, TH, tipOut B (dbAt ds k) X Y TW TH, fun m i => if isDone X Y TW TH W m i then ckat B ds W (k + 1) i else ckat B ds W k i, rfl, .inr ⟨hok, by omega, by omega, rfl⟩, by omega, fun _ => by omega, fun m hm => ?_, fun i => if_neg (isDone_zero _ _ _ _ _ _), fun i hi => ?_, fun m hm => ⟨?_, fun i => ?_⟩, fun m i => ?_⟩
    · rw [hl] at hm
      have : m / TW < TH := Nat.div_lt_of_lt_mul hm
      omega
    · simp only [hl, isDone_all]
      split
      · rfl
      · rename_i hn
        have l1 : i % W < W := Nat.mod_lt _ (by omega)
        have e0 := hout i hi (fun h => hn (by unfold hasR at h; unfold inR; omega))
        rw [ckat_succ _ _ _ _ _ hk, e0, cst_zero]
    · rw [hl] at hm
      exact nIdx_lt X Y TW TH W H m hW1 hX hY hm
    · rw [hl] at hm
      simp only [isDone_succ X Y TW TH W m i hW1 hX hm]
      by_cases he : i = nIdx X Y TW W m
      · rw [if_pos he, if_pos (.inr he), he, if_neg (not_isDone X Y TW TH W m hW1 hX), ckat_succ _ _ _ _ _ hk, tipOut_at _ _ _ _ _ _ _ hm]
        obtain ⟨p1, p2⟩ := nIdx_parts X Y TW W m hW1 hX
        have q1 : m % TW < TW := Nat.mod_lt _ hW1
        have q2 : m / TW < TH := Nat.div_lt_of_lt_mul hm
        have n1 : (0 : Int) ≤ ((m % TW : Nat) : Int) := Int.natCast_nonneg _
        have n2 : (0 : Int) ≤ ((m / TW : Nat) : Int) := Int.natCast_nonneg _
        rw [p1, p2, dcov_cvr h0 hd (by omega) (by omega)]
        unfold tipAt
        rw [Int.natCast_add, Int.natCast_add]
      · rw [if_neg he]
        by_cases h2 : isDone X Y TW TH W m i
        · rw [if_pos (.inl h2), if_pos h2]
        · rw [if_neg (by rintro (h | h); exact h2 h; exact he h), if_neg h2]
    · simp only
      split
      · exact ckat_bd _ _ _ _ _
      · exact ckat_bd _ _ _ _ _
end Go.Proofs.YtieacbccadbdbaaGreatDoor


/- The coverage of a stroke, or the error, plainly. -/
namespace Go.Proofs.YtieacbccadbdbaaGreatDoor
set_option linter.unusedVariables false

/-- What Stroke gives: the mask's size, the error, the mask's values. -/
def StrkOut (B : Bru) (ls : List Smp) (W H Wm Hm E : Int) (zs : List Int) : Prop :=
  ((dabs B ls).2 ≠ 0 ∧ Wm = 0 ∧ Hm = 0 ∧ E = (dabs B ls).2 ∧ zs = []) ∨
  ((dabs B ls).2 = 0 ∧ (W < 1 ∨ 256 < W ∨ H < 1 ∨ 256 < H) ∧ Wm = 0 ∧ Hm = 0 ∧ E = 15 ∧ zs = []) ∨
  ((dabs B ls).2 = 0 ∧ (1 ≤ W ∧ W ≤ 256 ∧ 1 ≤ H ∧ H ≤ 256) ∧ Wm = W ∧ Hm = H ∧ E = 0 ∧ zs = couts B (dabs B ls).1 W.toNat H.toNat)
theorem strk_out (B : Bru) (ls : List Smp) (W H : Int) : ∃ Wm Hm E zs, StrkOut B ls W H Wm Hm E zs := by
  by_cases h : (dabs B ls).2 = 0
  · by_cases h2 : W < 1 ∨ 256 < W ∨ H < 1 ∨ 256 < H
    · exact ⟨0, 0, 15, [], .inr (.inl ⟨h, h2, rfl, rfl, rfl, rfl⟩)⟩
    · exact ⟨W, H, 0, _, .inr (.inr ⟨h, by omega, rfl, rfl, rfl, rfl⟩)⟩
  · exact ⟨0, 0, _, [], .inl ⟨h, rfl, rfl, rfl, rfl⟩⟩
theorem cf_succ (B : Bru) (ds : List Dab) (x y : Int) (k : Nat) (hk : k < ds.length) : cfold B (ds.take (k + 1)) x y 0 = cst (cfold B (ds.take k) x y 0) (dcov B (dbAt ds k) x y) := by
  have e : ds.take (k + 1) = ds.take k ++ [dbAt ds k] := by
    rw [List.take_add_one, List.getElem?_eq_getElem hk]
    unfold dbAt
    rw [List.getD_eq_getElem?_getD, List.getElem?_eq_getElem hk]
    rfl
  rw [e, cfold_snoc]
theorem cf_bd (B : Bru) (ds : List Dab) (x y : Int) (k : Nat) : 0 ≤ cfold B (ds.take k) x y 0 ∧ cfold B (ds.take k) x y 0 ≤ 65535 := by
  have := cfold_bd B x y (ds.take k) 0 (by omega)
  omega
theorem cf_end (B : Bru) (ds : List Dab) (x y : Int) : cfold B (ds.take ds.length) x y 0 = cfold B ds x y 0 := by rw [List.take_length]
theorem cout_eq (B : Bru) (ds : List Dab) (W k j : Nat) (hj : j < W) : cout B ds W (k * W + j) = dv (cl (cfold B ds (j : Int) (k : Int) 0) * cl B.op) 65535 := by
  have e1 : (k * W + j) % W = j := by rw [Nat.mul_comm, Nat.mul_add_mod]; exact Nat.mod_eq_of_lt hj
  have e2 : (k * W + j) / W = k := by rw [Nat.mul_comm, Nat.mul_add_div (by omega)]; rw [Nat.div_eq_of_lt hj]; omega
  unfold cout cpix
  rw [e1, e2]
end Go.Proofs.YtieacbccadbdbaaGreatDoor


/- Rectangles: Empty, between, Join, Meet (printed by genrectj.py). -/
namespace Go.Proofs.YtieacbccadbdbaaGreatDoor
open Go.RowKit
set_option linter.unusedVariables false
attribute [local go_sem] Oper.gAt gUponK Oper.sAt stilK

set_option maxHeartbeats 1000000 in
theorem remp_any (x y wd ht : Int) (w : World) : Calls Tryz.prog 42 #[.agg #[.int .i64 x, .int .i64 y, .int .i64 wd, .int .i64 ht]] w fun e w' => e = .returned (.bool (rEmp (x, y, wd, ht))) ∧ Below w.heap.size w w' := by
  cases hv : rValid x y wd ht with
  | true =>
    have e : rEmp (x, y, wd, ht) = (wd == 0 || ht == 0) := by unfold rEmp rOk; simp only; rw [hv]; rfl
    rw [e]
    exact rempty_any x y wd ht w hv
  | false =>
    have e : rEmp (x, y, wd, ht) = true := by unfold rEmp rOk; simp only; rw [hv]; rfl
    rw [e]
    have V1 : Hid (∀ w, Calls Tryz.prog 41 #[.agg #[.int .i64 x, .int .i64 y, .int .i64 wd, .int .i64 ht]] w fun e w' => e = .returned (.bool false) ∧ Below w.heap.size w w') := fun w => by rw [← hv]; exact rvalid_any x y wd ht w
    clear hv e
    go_enter Tryz.func42, Tryz.ntmps42
    go_upto_region 1 with (fail)
    refine name1 (fun W k1 hb => ?_)
    have c1 := k1.c4
    go_wp2_with fail
    refine (V1.out _).mono ?_
    rintro e W1 ⟨rfl, hS⟩
    replace hb := hb.trans (hS.mono hb.size)
    go_wp2_with fail
    go_ret
    exact ⟨rfl, hb⟩

set_option maxHeartbeats 2000000 in
theorem rbetween_any (x0 y0 x1 y1 : Int) (w : World) : Calls Tryz.prog 74 #[.int .i64 x0, .int .i64 y0, .int .i64 x1, .int .i64 y1] w fun e w' => e = .returned (rvx (rbtw x0 y0 x1 y1)) ∧ Below w.heap.size w w' := by
  have HD : Hid (rbtw x0 y0 x1 y1 = if min x1 1048576 ≤ max x0 (-1048576) ∨ min y1 1048576 ≤ max y0 (-1048576) then r0 else (max x0 (-1048576), max y0 (-1048576), min x1 1048576 - max x0 (-1048576), min y1 1048576 - max y0 (-1048576))) := rfl
  generalize rbtw x0 y0 x1 y1 = R at *
  by_cases c1 : min x1 1048576 ≤ max x0 (-1048576)
  · have HE : Hid (R = r0) := by show _ = _; rw [HD.out, if_pos (.inl c1)]
    have g1 : decide (min x1 1048576 ≤ max x0 (-1048576)) = true := decide_eq_true c1
    clear c1 HD
    go_enter Tryz.func74, Tryz.ntmps74
    go_upto_region 1 with (fail)
    refine name1 (fun W k1 hb => ?_)
    have c1 := k1.c4
    go_wp2_with fail
    exact end4 hb k1 (by omega) (fun w3 c3 => by simp [results, Tryz.results74, go_sem, c3]) rfl (fun w3 hb3 => ⟨by rw [HE.out]; rfl, hb3⟩)
  · have g1 : decide (min x1 1048576 ≤ max x0 (-1048576)) = false := decide_eq_false c1
    by_cases c2 : min y1 1048576 ≤ max y0 (-1048576)
    · have HE : Hid (R = r0) := by show _ = _; rw [HD.out, if_pos (.inr c2)]
      have g2 : decide (min y1 1048576 ≤ max y0 (-1048576)) = true := decide_eq_true c2
      clear c1 c2 HD
      go_enter Tryz.func74, Tryz.ntmps74
      go_upto_region 1 with (fail)
      refine name1 (fun W k1 hb => ?_)
      have c1 := k1.c4
      go_wp2_with fail
      exact end4 hb k1 (by omega) (fun w3 c3 => by simp [results, Tryz.results74, go_sem, c3]) rfl (fun w3 hb3 => ⟨by rw [HE.out]; rfl, hb3⟩)
    · have HE : Hid (R = (max x0 (-1048576), max y0 (-1048576), min x1 1048576 - max x0 (-1048576), min y1 1048576 - max y0 (-1048576))) := by show _ = _; rw [HD.out, if_neg (by omega)]
      have g2 : decide (min y1 1048576 ≤ max y0 (-1048576)) = false := decide_eq_false c2
      have m1 : IntKind.i64.wrap (min x1 1048576 - max x0 (-1048576)) = min x1 1048576 - max x0 (-1048576) := IntWalk.i64_in _ (by omega)
      have m2 : IntKind.i64.wrap (min y1 1048576 - max y0 (-1048576)) = min y1 1048576 - max y0 (-1048576) := IntWalk.i64_in _ (by omega)
      clear c1 c2 HD
      go_enter Tryz.func74, Tryz.ntmps74
      go_upto_region 1 with (fail)
      refine name1 (fun W k1 hb => ?_)
      have c1 := k1.c4
      go_wp2_with fail
      exact end4 hb k1 (by omega) (fun w3 c3 => by simp [results, Tryz.results74, go_sem, c3]) rfl (fun w3 hb3 => ⟨by rw [HE.out]; rfl, hb3⟩)



set_option maxRecDepth 20000 in
set_option maxHeartbeats 4000000 in
theorem rmeet_any (ax ay aw ah bx by_ bw bh : Int) (w : World) : Calls Tryz.prog 32 #[.agg #[.int .i64 ax, .int .i64 ay, .int .i64 aw, .int .i64 ah], .agg #[.int .i64 bx, .int .i64 by_, .int .i64 bw, .int .i64 bh]] w fun e w' => e = .returned (rvx (rmeet (ax, ay, aw, ah) (bx, by_, bw, bh))) ∧ Below w.heap.size w w' := by
  have EA := Lib.hid (fun w => remp_any ax ay aw ah w)
  have EB := Lib.hid (fun w => remp_any bx by_ bw bh w)
  have HD : Hid (rmeet (ax, ay, aw, ah) (bx, by_, bw, bh) = if rEmp (ax, ay, aw, ah) = true then r0 else if rEmp (bx, by_, bw, bh) = true then r0 else rbtw (max ax bx) (max ay by_) (min (ax + aw) (bx + bw)) (min (ay + ah) (by_ + bh))) := rfl
  cases ha : rEmp (ax, ay, aw, ah) with
  | true =>
    rw [ha] at EA HD
    cases hb0 : rEmp (bx, by_, bw, bh) with
    | true =>
      rw [hb0] at EB HD
      clear ha hb0
      generalize rmeet (ax, ay, aw, ah) (bx, by_, bw, bh) = R at *
      have HE : Hid (R = r0) := by show _ = _; exact HD.out
      clear HD
      go_enter Tryz.func32, Tryz.ntmps32
      go_upto_region 1 with (fail)
      refine name3 (fun W k1 k2 k3 hb => ?_)
      have c1 := k1.c4
      have c2 := k2.c4
      go_wp2_with fail
      clear c1 c2
      refine (EA.out _).mono ?_
      rintro e W' ⟨rfl, hS⟩
      replace k1 := k1.kept hS
      replace k2 := k2.kept hS
      replace k3 := k3.kept hS
      replace hb := hb.trans (hS.mono hb.size)
      clear hS
      have c1 := k1.c4
      have c2 := k2.c4
      have ce := k3.c4
      go_wp2_with fail
      exact end4 hb k3 (by omega) (fun w3 c3 => by simp [results, Tryz.results32, go_sem, c3]) rfl (fun w3 hb3 => ⟨by rw [HE.out]; rfl, hb3⟩)
    | false =>
      rw [hb0] at EB HD
      clear ha hb0
      generalize rmeet (ax, ay, aw, ah) (bx, by_, bw, bh) = R at *
      have HE : Hid (R = r0) := by show _ = _; exact HD.out
      clear HD
      go_enter Tryz.func32, Tryz.ntmps32
      go_upto_region 1 with (fail)
      refine name3 (fun W k1 k2 k3 hb => ?_)
      have c1 := k1.c4
      have c2 := k2.c4
      go_wp2_with fail
      clear c1 c2
      refine (EA.out _).mono ?_
      rintro e W' ⟨rfl, hS⟩
      replace k1 := k1.kept hS
      replace k2 := k2.kept hS
      replace k3 := k3.kept hS
      replace hb := hb.trans (hS.mono hb.size)
      clear hS
      have c1 := k1.c4
      have c2 := k2.c4
      have ce := k3.c4
      go_wp2_with fail
      exact end4 hb k3 (by omega) (fun w3 c3 => by simp [results, Tryz.results32, go_sem, c3]) rfl (fun w3 hb3 => ⟨by rw [HE.out]; rfl, hb3⟩)
  | false =>
    rw [ha] at EA HD
    have ga := rEmp_false ha
    cases hb0 : rEmp (bx, by_, bw, bh) with
    | true =>
      rw [hb0] at EB HD
      clear ha hb0 ga
      generalize rmeet (ax, ay, aw, ah) (bx, by_, bw, bh) = R at *
      have HE : Hid (R = r0) := by show _ = _; exact HD.out
      clear HD
      go_enter Tryz.func32, Tryz.ntmps32
      go_upto_region 1 with (fail)
      refine name3 (fun W k1 k2 k3 hb => ?_)
      have c1 := k1.c4
      have c2 := k2.c4
      go_wp2_with fail
      clear c1 c2
      refine (EA.out _).mono ?_
      rintro e W' ⟨rfl, hS⟩
      replace k1 := k1.kept hS
      replace k2 := k2.kept hS
      replace k3 := k3.kept hS
      replace hb := hb.trans (hS.mono hb.size)
      clear hS
      have c1 := k1.c4
      have c2 := k2.c4
      go_wp2_with fail
      clear c1 c2
      refine (EB.out _).mono ?_
      rintro e W' ⟨rfl, hS⟩
      replace k1 := k1.kept hS
      replace k2 := k2.kept hS
      replace k3 := k3.kept hS
      replace hb := hb.trans (hS.mono hb.size)
      clear hS
      have c1 := k1.c4
      have c2 := k2.c4
      have ce := k3.c4
      go_wp2_with fail
      exact end4 hb k3 (by omega) (fun w3 c3 => by simp [results, Tryz.results32, go_sem, c3]) rfl (fun w3 hb3 => ⟨by rw [HE.out]; rfl, hb3⟩)
    | false =>
      rw [hb0] at EB HD
      have gb := rEmp_false hb0
      simp only at ga gb
      have BT := Lib.hid (fun w => rbetween_any (max ax bx) (max ay by_) (min (ax + aw) (bx + bw)) (min (ay + ah) (by_ + bh)) w)
      clear ha hb0
      generalize rmeet (ax, ay, aw, ah) (bx, by_, bw, bh) = R at *
      have HE : Hid (R = rbtw (max ax bx) (max ay by_) (min (ax + aw) (bx + bw)) (min (ay + ah) (by_ + bh))) := by show _ = _; exact HD.out
      clear HD
      generalize rbtw (max ax bx) (max ay by_) (min (ax + aw) (bx + bw)) (min (ay + ah) (by_ + bh)) = Q at *
      obtain ⟨q0, q1, q2, q3⟩ := Q
      replace BT : Hid (∀ w, Calls Tryz.prog 74 #[.int .i64 (max ax bx), .int .i64 (max ay by_), .int .i64 (min (ax + aw) (bx + bw)), .int .i64 (min (ay + ah) (by_ + bh))] w fun e w' => e = .returned (.agg #[.int .i64 q0, .int .i64 q1, .int .i64 q2, .int .i64 q3]) ∧ Below w.heap.size w w') := BT
      go_enter Tryz.func32, Tryz.ntmps32
      go_upto_region 1 with (fail)
      refine name3 (fun W k1 k2 k3 hb => ?_)
      have c1 := k1.c4
      have c2 := k2.c4
      go_wp2_with fail
      clear c1 c2
      refine (EA.out _).mono ?_
      rintro e W' ⟨rfl, hS⟩
      replace k1 := k1.kept hS
      replace k2 := k2.kept hS
      replace k3 := k3.kept hS
      replace hb := hb.trans (hS.mono hb.size)
      clear hS
      have c1 := k1.c4
      have c2 := k2.c4
      go_wp2_with fail
      clear c1 c2
      refine (EB.out _).mono ?_
      rintro e W' ⟨rfl, hS⟩
      replace k1 := k1.kept hS
      replace k2 := k2.kept hS
      replace k3 := k3.kept hS
      replace hb := hb.trans (hS.mono hb.size)
      clear hS
      have c1 := k1.c4
      have c2 := k2.c4
      go_wp2_with fail
      clear c1 c2
      refine (BT.out _).mono ?_
      rintro e W' ⟨rfl, hS⟩
      replace k1 := k1.kept hS
      replace k2 := k2.kept hS
      replace k3 := k3.kept hS
      replace hb := hb.trans (hS.mono hb.size)
      clear hS
      have ce := k3.c4
      go_wp2_with fail
      exact end4 hb k3 (by omega) (fun w3 c3 => by simp [results, Tryz.results32, go_sem, c3]) rfl (fun w3 hb3 => ⟨by rw [HE.out]; rfl, hb3⟩)

end Go.Proofs.YtieacbccadbdbaaGreatDoor

