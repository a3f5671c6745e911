/- Several texts in one: ImgPlain, Row, Pcs, GPar, RowI, PcsI. -/
import Derived.Test.YtieacbccadbdbaaGreatDoorLPlain
import Derived.Test.YtieacbccadbdbaaGreatDoorLKit
import Derived.Test.YtieacbccadbdbaaGreatDoorLPix
import Derived.Laws.MakeOwn
import Derived.OwnWalk
import Derived.Laws.AppendOwn
import Derived.Deep.AppendLies

/- Pixels and images as plain data: slices of pixels in memory, the error of an image. -/
namespace Go.Proofs.YtieacbccadbdbaaGreatDoor
open Go.RowKit
set_option linter.unusedVariables false

/-- A pixel: red, green, blue, alpha. -/
abbrev Px := Int × Int × Int × Int
def pvx (p : Px) : Value := pv p.1 p.2.1 p.2.2.1 p.2.2.2
def pxAt (ps : List Px) (i : Nat) : Px := ps.getD i (0, 0, 0, 0)
/-- A slice of pixels, by its elements. -/
def Pn (w : World) (v : Value) (ps : List Px) : Prop :=
  ∃ a cap, v = .slice a ps.length cap ∧ ps.length ≤ 9223372036854775807 ∧ (ps.length = 0 ∨ ∃ b off, a = some ⟨b, off, none⟩ ∧ b < w.heap.size ∧
    ∀ i, i < ps.length → w.cell? ⟨b, off + i * 4, none⟩ = some (.int .i64 (pxAt ps i).1) ∧ w.cell? ⟨b, off + i * 4 + 1, none⟩ = some (.int .i64 (pxAt ps i).2.1) ∧ w.cell? ⟨b, off + i * 4 + 2, none⟩ = some (.int .i64 (pxAt ps i).2.2.1) ∧ w.cell? ⟨b, off + i * 4 + 3, none⟩ = some (.int .i64 (pxAt ps i).2.2.2))
theorem Pn.kept {w w' : World} {v : Value} {ps : List Px} (h : Pn w v ps) (hb : Below w.heap.size w w') : Pn w' v ps := by
  obtain ⟨a, cap, hv, hl, hr⟩ := h
  refine ⟨a, cap, hv, hl, ?_⟩
  rcases hr with h0 | ⟨b, off, ha, hlt, hc⟩
  · exact .inl h0
  · refine .inr ⟨b, off, ha, Nat.lt_of_lt_of_le hlt hb.size, fun i hi => ?_⟩
    rw [hb.cell (p := ⟨b, off + i * 4, none⟩) hlt, hb.cell (p := ⟨b, off + i * 4 + 1, none⟩) hlt, hb.cell (p := ⟨b, off + i * 4 + 2, none⟩) hlt, hb.cell (p := ⟨b, off + i * 4 + 3, none⟩) hlt]
    exact hc i hi
theorem Pn.nil (w : World) : Pn w (.slice none 0 0) [] := ⟨none, 0, rfl, by simp, .inl rfl⟩
/-- The cells of one element, in a later world. -/
theorem Pn.at {w : World} {a : Option Addr} {n cap : Nat} {ps : List Px} (h : Pn w (.slice a n cap) ps) (i : Nat) (hi : i < n) :
    ∃ b off, a = some ⟨b, off, none⟩ ∧ b < w.heap.size ∧ ∀ w', Below w.heap.size w w' → w'.cell? ⟨b, off + i * 4, none⟩ = some (.int .i64 (pxAt ps i).1) ∧ w'.cell? ⟨b, off + i * 4 + 1, none⟩ = some (.int .i64 (pxAt ps i).2.1) ∧ w'.cell? ⟨b, off + i * 4 + 2, none⟩ = some (.int .i64 (pxAt ps i).2.2.1) ∧ w'.cell? ⟨b, off + i * 4 + 3, none⟩ = some (.int .i64 (pxAt ps i).2.2.2) := by
  obtain ⟨a', cap', hv, hl, hr⟩ := h
  simp only [Value.slice.injEq] at hv
  obtain ⟨rfl, rfl, rfl⟩ := hv
  rcases hr with h0 | ⟨b, off, ha, hlt, hc⟩
  · omega
  · refine ⟨b, off, ha, hlt, fun w' hb => ?_⟩
    rw [hb.cell (p := ⟨b, off + i * 4, none⟩) hlt, hb.cell (p := ⟨b, off + i * 4 + 1, none⟩) hlt, hb.cell (p := ⟨b, off + i * 4 + 2, none⟩) hlt, hb.cell (p := ⟨b, off + i * 4 + 3, none⟩) hlt]
    exact hc i hi
theorem Pn.len {w : World} {a : Option Addr} {n cap : Nat} {ps : List Px} (h : Pn w (.slice a n cap) ps) : n = ps.length ∧ n ≤ 9223372036854775807 := by
  obtain ⟨a', cap', hv, hl, hr⟩ := h
  simp only [Value.slice.injEq] at hv
  obtain ⟨rfl, rfl, rfl⟩ := hv
  exact ⟨rfl, hl⟩
theorem Pn.slice {w : World} {v : Value} {ps : List Px} (h : Pn w v ps) : ∃ a cap, v = .slice a ps.length cap := by
  obtain ⟨a, cap, hv, _⟩ := h
  exact ⟨a, cap, hv⟩

def pOk (p : Px) : Bool := decide (p.1 = cl p.1 ∧ p.2.1 = cl p.2.1 ∧ p.2.2.1 = cl p.2.2.1 ∧ p.2.2.2 = cl p.2.2.2)
def pbad (ps : List Px) (i : Nat) : Int := if pOk (pxAt ps i) = true then 0 else 2
/-- The error of an image. -/
def ichk (W H : Int) (ps : List Px) : Int :=
  if W < 0 ∨ 256 < W ∨ H < 0 ∨ 256 < H ∨ (W = 0 ∧ H ≠ 0) ∨ (W ≠ 0 ∧ H = 0) ∨ (ps.length : Int) ≠ W * H then 15 else ferr (pbad ps) (ps.length - 0) 0
theorem ichk_bad {W H : Int} {ps : List Px} (h : W < 0 ∨ 256 < W ∨ H < 0 ∨ 256 < H ∨ (W = 0 ∧ H ≠ 0) ∨ (W ≠ 0 ∧ H = 0) ∨ (ps.length : Int) ≠ W * H) : ichk W H ps = 15 := if_pos h
theorem ichk_good {W H : Int} {ps : List Px} (h1 : 0 ≤ W) (h2 : W ≤ 256) (h3 : 0 ≤ H) (h4 : H ≤ 256) (h5 : W = 0 ↔ H = 0) (h6 : (ps.length : Int) = W * H) : ichk W H ps = ferr (pbad ps) (ps.length - 0) 0 :=
  if_neg (by omega)
theorem area_bd {W H : Int} (h1 : 0 ≤ W) (h2 : W ≤ 256) (h3 : 0 ≤ H) (h4 : H ≤ 256) : 0 ≤ W * H ∧ W * H ≤ 65536 := by
  have a := Int.mul_le_mul h2 h4 h3 (by omega)
  exact ⟨Int.mul_nonneg h1 h3, by omega⟩
theorem ichk_len {W H : Int} {ps : List Px} (h : ichk W H ps = 0) : ps.length ≤ 65536 ∧ 0 ≤ W ∧ W ≤ 256 ∧ 0 ≤ H ∧ H ≤ 256 ∧ (ps.length : Int) = W * H := by
  unfold ichk at h
  split at h
  · cases h
  · rename_i hn
    have := @area_bd W H (by omega) (by omega) (by omega) (by omega)
    omega

/-- A faded pixel. -/
def fdP (p : Px) (k : Int) : Px := if fdA p.2.2.2 k = 0 then (0, 0, 0, 0) else (cl p.1, cl p.2.1, cl p.2.2.1, fdA p.2.2.2 k)
theorem fade_any (p : Px) (k : Int) (w : World) : Calls Tryz.prog 21 #[pvx p, .int .i64 k] w fun e w' => e = .returned (pvx (fdP p k)) ∧ Below w.heap.size w w' := by
  by_cases h : fdA p.2.2.2 k = 0
  · have e : fdP p k = (0, 0, 0, 0) := if_pos h
    rw [e]; exact fade_zero _ _ _ _ _ w h
  · have e : fdP p k = _ := if_neg h
    rw [e]; exact fade_pos _ _ _ _ _ w h

theorem refFade_any (p : Px) (k : Int) (w : World) : Calls Tryz.prog 28 #[pvx p, .int .i64 k] w fun e w' => e = .returned (pvx (fdP p k)) ∧ Below w.heap.size w w' := by
  by_cases h : fdA p.2.2.2 k = 0
  · have e : fdP p k = (0, 0, 0, 0) := if_pos h
    rw [e]; exact refFade_zero _ _ _ _ _ w h
  · have e : fdP p k = _ := if_neg h
    rw [e]; exact refFade_pos _ _ _ _ _ w h
end Go.Proofs.YtieacbccadbdbaaGreatDoor


/- Rows of pixels that the call itself has made: cell by cell, written element by element. -/
namespace Go.Proofs.YtieacbccadbdbaaGreatDoor
open Go.RowKit
set_option linter.unusedVariables false

/-- Block g of the world holds n pixels, the i-th is f i; it may be written. -/
def Row (w : World) (g n : Nat) (f : Nat → Px) : Prop :=
  ∃ cs t, w.heap[g]? = some (.cells cs t (0, 0)) ∧ cs.size = n * 4 ∧ ∀ i, i < n → cs[i * 4]? = some (.int .i64 (f i).1) ∧ cs[i * 4 + 1]? = some (.int .i64 (f i).2.1) ∧ cs[i * 4 + 2]? = some (.int .i64 (f i).2.2.1) ∧ cs[i * 4 + 3]? = some (.int .i64 (f i).2.2.2)
theorem Row.lt {w : World} {g n : Nat} {f : Nat → Px} (h : Row w g n f) : g < w.heap.size := by
  obtain ⟨cs, t, hh, _⟩ := h
  exact lt_of_block hh
theorem Row.same {w w' : World} {g n : Nat} {f : Nat → Px} (h : Row w g n f) (he : w'.heap[g]? = w.heap[g]?) : Row w' g n f := by
  obtain ⟨cs, t, hh, r⟩ := h
  exact ⟨cs, t, he.trans hh, r⟩
theorem Row.kept {w w' : World} {g n : Nat} {f : Nat → Px} (h : Row w g n f) (hb : Below w.heap.size w w') : Row w' g n f := h.same (hb.block _ h.lt)
theorem Row.other {w : World} {g n : Nat} {f : Nat → Px} (h : Row w g n f) {p : Addr} (hne : g ≠ p.block) (u : Value) : Row (w.setCell p u) g n f := h.same (Below.heap_setCell _ _ _ _ hne)
/-- The cells of an element, for a read or a store. -/
theorem Row.c {w : World} {g n : Nat} {f : Nat → Px} (h : Row w g n f) (k : Nat) (hk : k < n) :
    w.cell? ⟨g, k * 4, none⟩ = some (.int .i64 (f k).1) ∧ w.cell? ⟨g, k * 4 + 1, none⟩ = some (.int .i64 (f k).2.1) ∧ w.cell? ⟨g, k * 4 + 2, none⟩ = some (.int .i64 (f k).2.2.1) ∧ w.cell? ⟨g, k * 4 + 3, none⟩ = some (.int .i64 (f k).2.2.2) ∧ ∀ o, w.frozen? ⟨g, o, none⟩ = false := by
  obtain ⟨cs, t, hh, _, hc⟩ := h
  obtain ⟨h0, h1, h2, h3⟩ := hc k hk
  exact ⟨cell_blk hh h0, cell_blk hh h1, cell_blk hh h2, cell_blk hh h3, fun _ => free_blk hh⟩
theorem Row.set {w : World} {g n : Nat} {f : Nat → Px} (h : Row w g n f) (k : Nat) (hk : k < n) (p : Px) :
    Row ((((w.setCell ⟨g, k * 4, none⟩ (.int .i64 p.1)).setCell ⟨g, k * 4 + 1, none⟩ (.int .i64 p.2.1)).setCell ⟨g, k * 4 + 2, none⟩ (.int .i64 p.2.2.1)).setCell ⟨g, k * 4 + 3, none⟩ (.int .i64 p.2.2.2)) g n (fun i => if i = k then p else f i) := by
  obtain ⟨cs, t, hh, hsz, hc⟩ := h
  have s0 := chg_set hh (.int .i64 p.1) (i := k * 4) (by omega)
  have s1 := chg_set s0.at_ (.int .i64 p.2.1) (i := k * 4 + 1) (by simp; omega)
  have s2 := chg_set s1.at_ (.int .i64 p.2.2.1) (i := k * 4 + 2) (by simp; omega)
  have s3 := chg_set s2.at_ (.int .i64 p.2.2.2) (i := k * 4 + 3) (by simp; omega)
  refine ⟨_, t, s3.at_, by simp [hsz], fun i hi => ?_⟩
  obtain ⟨h0, h1, h2, h3⟩ := hc i hi
  by_cases hik : i = k
  · subst hik
    simp only [if_true]
    refine ⟨?_, ?_, ?_, ?_⟩ <;> simp <;> omega
  · simp only [hik, if_false]
    refine ⟨?_, ?_, ?_, ?_⟩ <;> simp only [Array.getElem?_set]
    · rw [if_neg (by omega), if_neg (by omega), if_neg (by omega), if_neg (by omega)]; exact h0
    · rw [if_neg (by omega), if_neg (by omega), if_neg (by omega), if_neg (by omega)]; exact h1
    · rw [if_neg (by omega), if_neg (by omega), if_neg (by omega), if_neg (by omega)]; exact h2
    · rw [if_neg (by omega), if_neg (by omega), if_neg (by omega), if_neg (by omega)]; exact h3
theorem Row.pn {w : World} {g n cap : Nat} {f : Nat → Px} {ps : List Px} (h : Row w g n f) (hl : ps.length = n) (hn : n ≤ 9223372036854775807) (hp : ∀ i, i < n → pxAt ps i = f i) : Pn w (.slice (some ⟨g, 0, none⟩) n cap) ps := by
  subst hl
  refine ⟨_, cap, rfl, hn, .inr ⟨g, 0, rfl, h.lt, fun i hi => ?_⟩⟩
  have := h.c i hi
  rw [hp i hi]
  simpa using ⟨this.1, this.2.1, this.2.2.1, this.2.2.2.1⟩
theorem infoPx : (Tryz.prog.info? 26).map (fun i => (i.zero, i.size, i.bytes)) = some (some (pv 0 0 0 0), 4, 32) := by kernel_rfl
def zPix (n : Nat) : Obj := .cells (madeCells (pv 0 0 0 0).cells (n * 4)) 26
theorem makePix (n : Nat) (hn : n ≤ 65536) (w : World) : (Instr.makeSlice 22 (.int .i64 n) (.int .i64 n)).run Tryz.prog w = .ok (.slice (some ⟨w.heap.size, 0, none⟩) n n) (w.alloc (zPix n)) := by
  obtain ⟨i, hi, hz, hs, hb⟩ := info_parts infoPx
  have := run_makeSlice (P := Tryz.prog) w 22 26 i (pv 0 0 0 0) Tryz.underlying22 hi hz .i64 .i64 n n (by omega) (by omega) (by rw [hs]; simp; omega) (by rw [hb]; omega) (by omega)
  rw [hs] at this
  simpa [zPix] using this
theorem row_zero {w : World} {g n : Nat} (h : Blk w g (zPix n)) : Row w g n (fun _ => (0, 0, 0, 0)) := by
  refine ⟨_, _, h, by rw [size_madeCells], fun i hi => ?_⟩
  have e : ∀ j, j < 4 → (madeCells (pv 0 0 0 0).cells (n * 4))[i * 4 + j]? = some (.int .i64 0) := fun j hj => by
    have hlt : i * 4 + j < n * 4 := by omega
    have h4 : (pv 0 0 0 0).cells = #[.int .i64 0, .int .i64 0, .int .i64 0, .int .i64 0] := rfl
    simp only [madeCells, h4]
    rw [Array.getElem?_map, Array.getElem?_range, if_pos hlt]
    simp only [Option.map_some]
    obtain rfl | rfl | rfl | rfl : j = 0 ∨ j = 1 ∨ j = 2 ∨ j = 3 := by omega
    all_goals simp [Nat.add_mod, Nat.mul_mod_left]
  exact ⟨e 0 (by omega), e 1 (by omega), e 2 (by omega), e 3 (by omega)⟩
theorem Row.congr {w : World} {g n : Nat} {f f' : Nat → Px} (h : Row w g n f) (he : ∀ i, i < n → f i = f' i) : Row w g n f' := by
  obtain ⟨cs, t, hh, hsz, hc⟩ := h
  exact ⟨cs, t, hh, hsz, fun i hi => by rw [← he i hi]; exact hc i hi⟩
theorem Blk.other4 {w : World} {b : Nat} {o : Obj} (k : Blk w b o) {g : Nat} (hne : b ≠ g) (o0 o1 o2 o3 : Nat) (v0 v1 v2 v3 : Value) : Blk ((((w.setCell ⟨g, o0, none⟩ v0).setCell ⟨g, o1, none⟩ v1).setCell ⟨g, o2, none⟩ v2).setCell ⟨g, o3, none⟩ v3) b o :=
  (((k.other hne _).other hne _).other hne _).other hne _
theorem below4g {B : Nat} {w0 w : World} (hb : Below B w0 w) {g : Nat} (hB : B ≤ g) (o0 o1 o2 o3 : Nat) (v0 v1 v2 v3 : Value) : Below B w0 ((((w.setCell ⟨g, o0, none⟩ v0).setCell ⟨g, o1, none⟩ v1).setCell ⟨g, o2, none⟩ v2).setCell ⟨g, o3, none⟩ v3) :=
  (((hb.setCell hB _).setCell hB _).setCell hB _).setCell hB _
/-- The first k elements are written. -/
theorem Row.next {w : World} {g n : Nat} {r : Nat → Px} {k : Nat} (h : Row w g n (fun i => if i < k then r i else (0, 0, 0, 0))) (hk : k < n) :
    Row ((((w.setCell ⟨g, k * 4, none⟩ (.int .i64 (r k).1)).setCell ⟨g, k * 4 + 1, none⟩ (.int .i64 (r k).2.1)).setCell ⟨g, k * 4 + 2, none⟩ (.int .i64 (r k).2.2.1)).setCell ⟨g, k * 4 + 3, none⟩ (.int .i64 (r k).2.2.2)) g n (fun i => if i < k + 1 then r i else (0, 0, 0, 0)) := by
  refine (h.set k hk (r k)).congr fun i hi => ?_
  by_cases e : i = k
  · subst e; simp
  · by_cases e2 : i < k
    · rw [if_neg e, if_pos e2, if_pos (by omega)]
    · rw [if_neg e, if_neg e2, if_neg (by omega)]
theorem row_start {w : World} {g n : Nat} {r : Nat → Px} (h : Blk w g (zPix n)) : Row w g n (fun i => if i < 0 then r i else (0, 0, 0, 0)) := (row_zero h).congr fun i _ => by rw [if_neg (by omega)]
end Go.Proofs.YtieacbccadbdbaaGreatDoor


/- Rows of pixels that grow by append: the cells of the first k of them. -/
namespace Go.Proofs.YtieacbccadbdbaaGreatDoor
open Go.RowKit
set_option linter.unusedVariables false

def px4 (p : Px) : List Value := [.int .i64 p.1, .int .i64 p.2.1, .int .i64 p.2.2.1, .int .i64 p.2.2.2]
/-- The cells of the pixels r 0 .. r (k - 1). -/
def pcF (r : Nat → Px) (k : Nat) : List Value := (List.range k).flatMap fun i => px4 (r i)
theorem pcF_succ (r : Nat → Px) (k : Nat) : pcF r (k + 1) = pcF r k ++ px4 (r k) := by simp [pcF, List.range_succ]
theorem pcF_len (r : Nat → Px) : ∀ k, (pcF r k).length = k * 4
  | 0 => rfl
  | k + 1 => by rw [pcF_succ, List.length_append, pcF_len r k]; simp [px4]; omega
theorem pcF_at (r : Nat → Px) : ∀ k i j, i < k → j < 4 → (pcF r k)[i * 4 + j]? = (px4 (r i))[j]?
  | 0, i, j, hi, _ => by omega
  | k + 1, i, j, hi, hj => by
    rw [pcF_succ]
    by_cases h : i < k
    · rw [List.getElem?_append_left (by rw [pcF_len]; omega)]
      exact pcF_at r k i j h hj
    · obtain rfl : i = k := by omega
      rw [List.getElem?_append_right (by rw [pcF_len]; omega), pcF_len]
      congr 1
      omega
/-- Such a row, read as a slice of pixels. -/
theorem pn_of_own {w : World} {base n : Nat} {e : TypeId} {v : Value} {r : Nat → Px} {ps : List Px} (h : w.ownsRow base e 4 v n (pcF r n)) (hl : ps.length = n) (hn : n ≤ 9223372036854775807) (hp : ∀ i, i < n → pxAt ps i = r i) : Pn w v ps := by
  subst hl
  have hc : ∀ g, v.ownBlock = some g → ∀ j u, (pcF r ps.length)[j]? = some u → w.cell? ((⟨g, 0, none⟩ : Addr).add j) = some u := fun g hg => h.cells hg
  obtain ⟨_, h2⟩ := h
  rcases h2 with ⟨rfl, h0⟩ | ⟨g, cap, cur, rfl, hg, hh, hcap, hm, hsz, ht⟩
  · exact ⟨none, 0, by rw [h0], hn, .inl h0⟩
  · refine ⟨_, cap, rfl, hn, .inr ⟨g, 0, rfl, lt_of_block hh, fun i hi => ?_⟩⟩
    have c : ∀ j, j < 4 → ∀ u, (px4 (r i))[j]? = some u → w.cell? ⟨g, 0 + i * 4 + j, none⟩ = some u := fun j hj u hu => by
      have := hc g rfl (i * 4 + j) u (by rw [pcF_at r _ i j hi hj]; exact hu)
      rw [Go.WideShapes.add_plain] at this
      rw [show 0 + i * 4 + j = 0 + (i * 4 + j) by omega]
      exact this
    rw [hp i hi]
    exact ⟨c 0 (by omega) _ rfl, c 1 (by omega) _ rfl, c 2 (by omega) _ rfl, c 3 (by omega) _ rfl⟩
theorem own_nil (w : World) (base : Nat) (e : TypeId) (r : Nat → Px) : w.ownsRow base e 4 (.slice none 0 0) 0 (pcF r 0) := World.ownsRow_nil w base e 4
theorem own_slice {w : World} {base n : Nat} {e : TypeId} {size : Nat} {v : Value} {xs : List Value} (h : w.ownsRow base e size v n xs) : ∃ a cap, v = .slice a n cap := by
  obtain ⟨_, h2⟩ := h
  rcases h2 with ⟨rfl, h0⟩ | ⟨g, cap, cur, rfl, _⟩
  · exact ⟨none, 0, by rw [h0]⟩
  · exact ⟨_, cap, rfl⟩
end Go.Proofs.YtieacbccadbdbaaGreatDoor


/- The parameters of a gradient: slices of integers, their error, by the program and by the reference. -/
namespace Go.Proofs.YtieacbccadbdbaaGreatDoor
open Go.RowKit
set_option linter.unusedVariables false

/-- A slice of integers, by its elements. -/
def Nn (w : World) (v : Value) (zs : List Int) : Prop :=
  ∃ a cap, v = .slice a zs.length cap ∧ zs.length ≤ 9223372036854775807 ∧ (zs.length = 0 ∨ ∃ b off, a = some ⟨b, off, none⟩ ∧ b < w.heap.size ∧ ∀ i, i < zs.length → w.cell? ⟨b, off + i, none⟩ = some (.int .i64 (zs.getD i 0)))
theorem Nn.kept {w w' : World} {v : Value} {zs : List Int} (h : Nn w v zs) (hb : Below w.heap.size w w') : Nn w' v zs := by
  obtain ⟨a, cap, hv, hl, hr⟩ := h
  refine ⟨a, cap, hv, hl, ?_⟩
  rcases hr with h0 | ⟨b, off, ha, hlt, hc⟩
  · exact .inl h0
  · refine .inr ⟨b, off, ha, Nat.lt_of_lt_of_le hlt hb.size, fun i hi => ?_⟩
    rw [hb.cell (p := ⟨b, off + i, none⟩) hlt]
    exact hc i hi
theorem Nn.slice {w : World} {v : Value} {zs : List Int} (h : Nn w v zs) : ∃ a cap, v = .slice a zs.length cap ∧ zs.length ≤ 9223372036854775807 := by
  obtain ⟨a, cap, hv, hl, _⟩ := h
  exact ⟨a, cap, hv, hl⟩
theorem Nn.at {w : World} {a : Option Addr} {n cap : Nat} {zs : List Int} (h : Nn w (.slice a n cap) zs) (i : Nat) (hi : i < n) : ∃ b off, a = some ⟨b, off, none⟩ ∧ w.cell? ⟨b, off + i, none⟩ = some (.int .i64 (zs.getD i 0)) := by
  obtain ⟨a', cap', hv, hl, hr⟩ := h
  simp only [Value.slice.injEq] at hv
  obtain ⟨rfl, rfl, rfl⟩ := hv
  rcases hr with h0 | ⟨b, off, ha, hlt, hc⟩
  · omega
  · exact ⟨b, off, ha, hc i hi⟩




end Go.Proofs.YtieacbccadbdbaaGreatDoor


/- Rows of integers that the call itself has made: cell by cell, written element by element. -/
namespace Go.Proofs.YtieacbccadbdbaaGreatDoor
open Go.RowKit
set_option linter.unusedVariables false

/-- Block g of the world holds n integers (and perhaps more cells), the i-th is f i; it may be written. -/
def RowI (w : World) (g n : Nat) (f : Nat → Int) : Prop :=
  ∃ cs t, w.heap[g]? = some (.cells cs t (0, 0)) ∧ n ≤ cs.size ∧ ∀ i, i < n → cs[i]? = some (.int .i64 (f i))
theorem RowI.lt {w : World} {g n : Nat} {f : Nat → Int} (h : RowI w g n f) : g < w.heap.size := by
  obtain ⟨cs, t, hh, _⟩ := h
  exact lt_of_block hh
theorem RowI.same {w w' : World} {g n : Nat} {f : Nat → Int} (h : RowI w g n f) (he : w'.heap[g]? = w.heap[g]?) : RowI w' g n f := by
  obtain ⟨cs, t, hh, r⟩ := h
  exact ⟨cs, t, he.trans hh, r⟩
theorem RowI.kept {w w' : World} {g n : Nat} {f : Nat → Int} (h : RowI w g n f) (hb : Below w.heap.size w w') : RowI w' g n f := h.same (hb.block _ h.lt)
theorem RowI.other {w : World} {g n : Nat} {f : Nat → Int} (h : RowI w g n f) {p : Addr} (hne : g ≠ p.block) (u : Value) : RowI (w.setCell p u) g n f := h.same (Below.heap_setCell _ _ _ _ hne)
theorem RowI.c {w : World} {g n : Nat} {f : Nat → Int} (h : RowI w g n f) (k : Nat) (hk : k < n) :
    w.cell? ⟨g, k, none⟩ = some (.int .i64 (f k)) ∧ ∀ o, w.frozen? ⟨g, o, none⟩ = false := by
  obtain ⟨cs, t, hh, _, hc⟩ := h
  exact ⟨cell_blk hh (hc k hk), fun _ => free_blk hh⟩
theorem RowI.set {w : World} {g n : Nat} {f : Nat → Int} (h : RowI w g n f) (k : Nat) (hk : k < n) (x : Int) :
    RowI (w.setCell ⟨g, k, none⟩ (.int .i64 x)) g n (fun i => if i = k then x else f i) := by
  obtain ⟨cs, t, hh, hsz, hc⟩ := h
  have s0 := chg_set hh (.int .i64 x) (i := k) (by omega)
  refine ⟨_, t, s0.at_, by simpa using hsz, fun i hi => ?_⟩
  by_cases hik : i = k
  · subst hik
    simp only [if_true]
    simp
  · simp only [hik, if_false, Array.getElem?_set]
    rw [if_neg (by omega)]
    exact hc i hi
theorem RowI.nn {w : World} {g n cap : Nat} {f : Nat → Int} {zs : List Int} (h : RowI w g n f) (hl : zs.length = n) (hn : n ≤ 9223372036854775807) (hp : ∀ i, i < n → zs.getD i 0 = f i) : Nn w (.slice (some ⟨g, 0, none⟩) n cap) zs := by
  subst hl
  refine ⟨_, cap, rfl, hn, .inr ⟨g, 0, rfl, h.lt, fun i hi => ?_⟩⟩
  have := (h.c i hi).1
  rw [hp i hi]
  simpa using this
theorem RowI.congr {w : World} {g n : Nat} {f f' : Nat → Int} (h : RowI w g n f) (he : ∀ i, i < n → f i = f' i) : RowI w g n f' := by
  obtain ⟨cs, t, hh, hsz, hc⟩ := h
  exact ⟨cs, t, hh, hsz, fun i hi => by rw [← he i hi]; exact hc i hi⟩
/-- A row that append has made. -/
theorem rowI_own {w : World} {base g n cap : Nat} {e : TypeId} {zs : List Int} (h : w.ownsRow base e 1 (.slice (some ⟨g, 0, none⟩) n cap) n (zs.map fun z => .int .i64 z)) (hl : zs.length = n) : RowI w g n (fun i => zs.getD i 0) ∧ base ≤ g := by
  obtain ⟨_, ⟨h1, _⟩ | ⟨g', cap', cur, hv, hb, hg, hn, _, hs, ht⟩⟩ := h
  · cases h1
  · simp only [Value.slice.injEq, Option.some.injEq, Addr.mk.injEq, and_true, true_and] at hv
    obtain ⟨rfl, rfl⟩ := hv
    refine ⟨⟨cur, e, hg, by omega, fun i hi => ?_⟩, hb⟩
    have h2 : (cur.toList.take (n * 1))[i]? = (zs.map fun z => Value.int .i64 z)[i]? := by rw [ht]
    rw [List.getElem?_take, if_pos (by omega), Array.getElem?_toList] at h2
    show cur[i]? = some (Value.int .i64 (zs.getD i 0))
    rw [h2, List.getElem?_map, List.getD_eq_getElem?_getD, List.getElem?_eq_getElem (by omega)]
    rfl
theorem infoInt : (Tryz.prog.info? 3).map (fun i => (i.zero, i.size, i.bytes)) = some (some (.int .i64 0), 1, 8) := by kernel_rfl
def zInt (n : Nat) : Obj := .cells (madeCells (Value.int .i64 0).cells (n * 1)) 3
theorem makeInt (n : Nat) (hn : n ≤ 65536) (w : World) : (Instr.makeSlice 33 (.int .i64 n) (.int .i64 n)).run Tryz.prog w = .ok (.slice (some ⟨w.heap.size, 0, none⟩) n n) (w.alloc (zInt n)) := by
  obtain ⟨i, hi, hz, hs, hb⟩ := info_parts infoInt
  have := run_makeSlice (P := Tryz.prog) w 33 3 i (.int .i64 0) Tryz.underlying33 hi hz .i64 .i64 n n (by omega) (by omega) (by rw [hs]; simp; omega) (by rw [hb]; omega) (by omega)
  rw [hs] at this
  simpa [zInt] using this
theorem rowI_zero {w : World} {g n : Nat} (h : Blk w g (zInt n)) : RowI w g n (fun _ => 0) := by
  refine ⟨_, _, h, by rw [size_madeCells]; omega, fun i hi => ?_⟩
  have h1 : (Value.int .i64 0).cells = #[.int .i64 0] := rfl
  simp only [madeCells, h1]
  rw [Array.getElem?_map, Array.getElem?_range, if_pos (by omega)]
  simp [Nat.mod_one]
/-- The first k elements are written. -/
theorem RowI.next {w : World} {g n : Nat} {r : Nat → Int} {k : Nat} (h : RowI w g n (fun i => if i < k then r i else 0)) (hk : k < n) :
    RowI (w.setCell ⟨g, k, none⟩ (.int .i64 (r k))) g n (fun i => if i < k + 1 then r i else 0) := by
  refine (h.set k hk (r k)).congr fun i hi => ?_
  by_cases e : i = k
  · subst e; simp
  · by_cases e2 : i < k
    · rw [if_neg e, if_pos e2, if_pos (by omega)]
    · rw [if_neg e, if_neg e2, if_neg (by omega)]
theorem rowI_start {w : World} {g n : Nat} {r : Nat → Int} (h : Blk w g (zInt n)) : RowI w g n (fun i => if i < 0 then r i else 0) := (rowI_zero h).congr fun i _ => by rw [if_neg (by omega)]
end Go.Proofs.YtieacbccadbdbaaGreatDoor


/- Rows of integers that grow by append. -/
namespace Go.Proofs.YtieacbccadbdbaaGreatDoor
open Go.RowKit
set_option linter.unusedVariables false

def icF (r : Nat → Int) (k : Nat) : List Value := (List.range k).map fun i => .int .i64 (r i)
theorem icF_succ (r : Nat → Int) (k : Nat) : icF r (k + 1) = icF r k ++ [.int .i64 (r k)] := by simp [icF, List.range_succ]
theorem icF_at (r : Nat → Int) (k i : Nat) (hi : i < k) : (icF r k)[i]? = some (.int .i64 (r i)) := by simp [icF, hi]
theorem nn_of_own {w : World} {base n : Nat} {e : TypeId} {v : Value} {r : Nat → Int} {zs : List Int} (h : w.ownsRow base e 1 v n (icF r n)) (hl : zs.length = n) (hn : n ≤ 9223372036854775807) (hp : ∀ i, i < n → zs.getD i 0 = r i) : Nn w v zs := by
  subst hl
  have hc : ∀ g, v.ownBlock = some g → ∀ j u, (icF r zs.length)[j]? = some u → w.cell? ((⟨g, 0, none⟩ : Addr).add j) = some u := fun g hg => h.cells hg
  obtain ⟨_, h2⟩ := h
  rcases h2 with ⟨rfl, h0⟩ | ⟨g, cap, cur, rfl, hg, hh, hcap, hm, hsz, ht⟩
  · exact ⟨none, 0, by rw [h0], hn, .inl h0⟩
  · refine ⟨_, cap, rfl, hn, .inr ⟨g, 0, rfl, lt_of_block hh, fun i hi => ?_⟩⟩
    have := hc g rfl i _ (icF_at r _ i hi)
    rw [Go.WideShapes.add_plain] at this
    rw [hp i hi]
    exact this
theorem own_nilI (w : World) (base : Nat) (e : TypeId) (r : Nat → Int) : w.ownsRow base e 1 (.slice none 0 0) 0 (icF r 0) := World.ownsRow_nil w base e 1
theorem own_sliceI {w : World} {base n : Nat} {e : TypeId} {size : Nat} {v : Value} {xs : List Value} (h : w.ownsRow base e size v n xs) : ∃ a cap, v = .slice a n cap := by
  obtain ⟨_, h2⟩ := h
  rcases h2 with ⟨rfl, h0⟩ | ⟨g, cap, cur, rfl, _⟩
  · exact ⟨none, 0, by rw [h0]⟩
  · exact ⟨_, cap, rfl⟩
end Go.Proofs.YtieacbccadbdbaaGreatDoor

