/- Several texts in one: BrushPlain, Seq, CovPlain, StrokeP, BrushEx. -/
import Derived.Test.YtieacbccadbdbaaGreatDoorLPlain
import Derived.Test.YtieacbccadbdbaaGreatDoorLKit
import Derived.Laws.AppendOwn
import Derived.Deep.AppendLies

/- Brush strokes, plainly: samples, the dab of a sample, the dabs of a stroke, boxes. -/
namespace Go.Proofs.YtieacbccadbdbaaGreatDoor
set_option linter.unusedVariables false

structure Smp where
  (x y p t m : Int)
def smAt (ls : List Smp) (i : Nat) : Smp := ls.getD i ⟨0, 0, 0, 0, 0⟩
def smOk (s : Smp) : Bool := inB s.x (-16777216) 16777216 && (inB s.y (-16777216) 16777216 && (inB s.p 0 65535 && (inB s.t 0 65535 && inB s.m 0 1073741824)))
theorem smOk_bd {s : Smp} (h : smOk s = true) : (-16777216 ≤ s.x ∧ s.x ≤ 16777216) ∧ (-16777216 ≤ s.y ∧ s.y ≤ 16777216) ∧ (0 ≤ s.p ∧ s.p ≤ 65535) ∧ (0 ≤ s.t ∧ s.t ≤ 65535) ∧ (0 ≤ s.m ∧ s.m ≤ 1073741824) := by
  unfold smOk inB at h
  simp only [Bool.and_eq_true, decide_eq_true_eq] at h
  omega
/-- The error of a sample, of samples. -/
def sbad (ls : List Smp) (i : Nat) : Int := if smOk (smAt ls i) = true then if 0 < i ∧ (smAt ls i).m < (smAt ls (i - 1)).m then 24 else 0 else 2
def schk (ls : List Smp) : Int := if ls.length = 0 then 1 else if 128 < ls.length then 3 else ferr (sbad ls) (ls.length - 0) 0
theorem schk_ok {ls : List Smp} (h : schk ls = 0) : 1 ≤ ls.length ∧ ls.length ≤ 128 ∧ ∀ i, i < ls.length → smOk (smAt ls i) = true ∧ (0 < i → (smAt ls (i - 1)).m ≤ (smAt ls i).m) := by
  unfold schk at h
  split at h
  · cases h
  · split at h
    · cases h
    · refine ⟨by omega, by omega, fun i hi => ?_⟩
      have h1 := ferr_zero _ _ _ h i (by omega) (by omega)
      unfold sbad at h1
      split at h1
      · rename_i h2
        split at h1
        · cases h1
        · exact ⟨h2, fun h0 => by omega⟩
      · cases h1

/-- The dab of a sample. -/
def bval (B : Bru) (s : Smp) (speed index target : Int) : Int := dvalue B.ds target (fun k => src k s.p s.t speed index B.sd)
def bsz (z v : Int) : Int := max 1 (dv (z * v) 65535)
def bsc (z sc v : Int) : Int := dv (dv (z * sc) 100 * v) 65535
def bpos (x sd index k m : Int) : Int := co (x + belowI sd index k (2 * m + 1) - m)
def ban (v : Int) : Int := v * 65536 / 65535 % 65536
def dabOf (B : Bru) (s : Smp) (speed index : Int) : Dab :=
  ⟨bpos s.x B.sd index 2 (bsc (bsz B.sz (bval B s speed index 1)) B.sc (bval B s speed index 4)), bpos s.y B.sd index 3 (bsc (bsz B.sz (bval B s speed index 1)) B.sc (bval B s speed index 4)), bsz B.sz (bval B s speed index 1), bval B s speed index 2, ban (bval B s speed index 3)⟩
theorem dfrom_bd (ds : Dyns) (target : Int) (f : Int → Int) : ∀ (m i : Nat) (v : Int), 0 ≤ v ∧ v ≤ 65535 → 0 ≤ dfrom ds target f m i v ∧ dfrom ds target f m i v ≤ 65535
  | 0, _, _, h => h
  | m + 1, i, v, h => dfrom_bd ds target f m (i + 1) _ (dstep_bd ds target f i v h)
theorem dvalue_bd (ds : Dyns) (target : Int) (f : Int → Int) : 0 ≤ dvalue ds target f ∧ dvalue ds target f ≤ 65535 := by
  unfold dvalue
  split
  · exact dfrom_bd _ _ _ _ _ _ (by omega)
  · omega
theorem bval_bd (B : Bru) (s : Smp) (speed index target : Int) : 0 ≤ bval B s speed index target ∧ bval B s speed index target ≤ 65535 := dvalue_bd _ _ _
theorem mul_in (a b A B : Int) (ha : 0 ≤ a ∧ a ≤ A) (hb : 0 ≤ b ∧ b ≤ B) : 0 ≤ a * b ∧ a * b ≤ A * B := ⟨Int.mul_nonneg ha.1 hb.1, Int.mul_le_mul ha.2 hb.2 hb.1 (by omega)⟩
theorem bsz_in (z v : Int) (hz : 1 ≤ z ∧ z ≤ 1024) (hv : 0 ≤ v ∧ v ≤ 65535) : 0 ≤ z * v ∧ z * v ≤ 67107840 := by
  have := mul_in z v 1024 65535 (by omega) hv; omega
theorem bsz_bd (z v : Int) (hz : 1 ≤ z ∧ z ≤ 1024) (hv : 0 ≤ v ∧ v ≤ 65535) : 1 ≤ bsz z v ∧ bsz z v ≤ 1024 := by
  have h := bsz_in z v hz hv
  have := dv_le (z * v) 65535 1024 (by omega) (by omega)
  unfold bsz; omega
theorem bsc_in (z sc v : Int) (hz : 1 ≤ z ∧ z ≤ 1024) (hs : 0 ≤ sc ∧ sc ≤ 1000) (hv : 0 ≤ v ∧ v ≤ 65535) : (0 ≤ z * sc ∧ z * sc ≤ 1024000) ∧ (0 ≤ dv (z * sc) 100 ∧ dv (z * sc) 100 ≤ 10240) ∧ (0 ≤ dv (z * sc) 100 * v ∧ dv (z * sc) 100 * v ≤ 671078400) := by
  have h1 := mul_in z sc 1024 1000 (by omega) hs
  have h2 := dv_nonneg (z * sc) 100 (by omega) (by omega)
  have h3 := dv_le (z * sc) 100 10240 (by omega) (by omega)
  have h4 := mul_in (dv (z * sc) 100) v 10240 65535 (by omega) hv
  omega
theorem bsc_bd (z sc v : Int) (hz : 1 ≤ z ∧ z ≤ 1024) (hs : 0 ≤ sc ∧ sc ≤ 1000) (hv : 0 ≤ v ∧ v ≤ 65535) : 0 ≤ bsc z sc v ∧ bsc z sc v ≤ 10240 := by
  have h := bsc_in z sc v hz hs hv
  exact ⟨dv_nonneg _ _ (by omega) h.2.2.1, dv_le _ _ _ (by omega) (by omega)⟩
theorem ban_bd (v : Int) : 0 ≤ ban v ∧ ban v < 65536 := by unfold ban; omega

/-- The distance to the next dab; the sample between two samples. -/
def bspc (B : Bru) (z : Int) : Int := 16 * max 1 (dv (z * B.sp) 100)
theorem bspc_in (z sp : Int) (hz : 1 ≤ z ∧ z ≤ 1024) (hs : 1 ≤ sp ∧ sp ≤ 1000) : 0 ≤ z * sp ∧ z * sp ≤ 1024000 := by
  have := mul_in z sp 1024 1000 (by omega) (by omega); omega
theorem bspc_bd (B : Bru) (z : Int) (hz : 1 ≤ z ∧ z ≤ 1024) (hs : 1 ≤ B.sp ∧ B.sp ≤ 1000) : 16 ≤ bspc B z ∧ bspc B z ≤ 163840 := by
  have h := bspc_in z B.sp hz hs
  have := dv_le (z * B.sp) 100 10240 (by omega) (by omega)
  unfold bspc; omega
def btw1 (a b d n : Int) : Int := a + dv ((b - a) * d) n
theorem btw1_in (a b d n M : Int) (hn : 0 < n) (hd : 0 ≤ d ∧ d ≤ n) (hM : -M ≤ b - a ∧ b - a ≤ M) : -(M * n) ≤ (b - a) * d ∧ (b - a) * d ≤ M * n ∧ a - M ≤ btw1 a b d n ∧ btw1 a b d n ≤ a + M := by
  have h := absmul (b - a) d M n hM.1 hM.2 (by omega) hd.2
  have := dv_abs ((b - a) * d) n M hn h.1 h.2
  unfold btw1
  omega
def btw (p q : Smp) (d n : Int) : Smp := ⟨btw1 p.x q.x d n, btw1 p.y q.y d n, btw1 p.p q.p d n, btw1 p.t q.t d n, btw1 p.m q.m d n⟩

/-- The dabs on an edge: of the given length, behind d, the next one at the distance r; the dabs before; what is left of the distance. -/
def edge (B : Bru) (p q : Smp) (speed len : Int) : Nat → Int → Int → List Dab → Option (Int × List Dab)
  | 0, _, _, _ => none
  | f + 1, d, r, out =>
    if r ≤ len - d then
      if out.length = 1024 then none else
        edge B p q speed len f (d + r) (bspc B (dabOf B (btw p q (d + r) len) speed out.length).sz) (out ++ [dabOf B (btw p q (d + r) len) speed out.length])
    else some (r - (len - d), out)
def elen (p q : Smp) : Int := hypot (16 * (q.x - p.x)) (16 * (q.y - p.y))
def espd (p q : Smp) : Int := spd p.x p.y p.m q.x q.y q.m
/-- The dabs of the edges from the one that ends in sample i on; m of them. -/
def edges (B : Bru) (ls : List Smp) : Nat → Nat → Int → List Dab → Option (List Dab)
  | 0, _, _, out => some out
  | m + 1, i, r, out =>
    match edge B (smAt ls (i - 1)) (smAt ls i) (espd (smAt ls (i - 1)) (smAt ls i)) (elen (smAt ls (i - 1)) (smAt ls i)) (1025 - out.length) 0 r out with
    | none => none
    | some (r', out') => edges B ls m (i + 1) r' out'
def dab0 (B : Bru) (ls : List Smp) : Dab := dabOf B (smAt ls 0) 0 0
def stroke (B : Bru) (ls : List Smp) : Option (List Dab) := edges B ls (ls.length - 1) 1 (bspc B (dab0 B ls).sz) [dab0 B ls]
def dabs (B : Bru) (ls : List Smp) : List Dab × Int :=
  if bchk B = 0 then if schk ls = 0 then match stroke B ls with
    | none => ([], 3)
    | some l => (l, 0)
  else ([], schk ls) else ([], bchk B)

/-- What is left of the edges, when the edge that ends in sample i is under way. -/
def rest (B : Bru) (ls : List Smp) (m i : Nat) (d r : Int) (out : List Dab) : Option (List Dab) :=
  match edge B (smAt ls (i - 1)) (smAt ls i) (espd (smAt ls (i - 1)) (smAt ls i)) (elen (smAt ls (i - 1)) (smAt ls i)) (1025 - out.length) d r out with
  | none => none
  | some (r', out') => edges B ls m (i + 1) r' out'
theorem edges_go (B : Bru) (ls : List Smp) (n i : Nat) (r : Int) (out : List Dab) (h : i < n) : edges B ls (n - i) i r out = rest B ls (n - (i + 1)) i 0 r out := by
  rw [show n - i = (n - (i + 1)) + 1 from by omega]
  rfl
theorem edges_end (B : Bru) (ls : List Smp) (n : Nat) (r : Int) (out : List Dab) : edges B ls (n - n) n r out = some out := by rw [Nat.sub_self]; rfl
theorem rest_full (B : Bru) (ls : List Smp) (m i : Nat) (d r : Int) (out : List Dab) (h : r ≤ elen (smAt ls (i - 1)) (smAt ls i) - d) (hl : out.length = 1024) : rest B ls m i d r out = none := by
  unfold rest
  rw [show 1025 - out.length = 0 + 1 by omega]
  unfold edge
  rw [if_pos h, if_pos hl]
theorem rest_next (B : Bru) (ls : List Smp) (m i : Nat) (d r : Int) (out : List Dab) (x : Dab) (h : r ≤ elen (smAt ls (i - 1)) (smAt ls i) - d) (hl : out.length < 1024)
    (hx : x = dabOf B (btw (smAt ls (i - 1)) (smAt ls i) (d + r) (elen (smAt ls (i - 1)) (smAt ls i))) (espd (smAt ls (i - 1)) (smAt ls i)) out.length) :
    rest B ls m i d r out = rest B ls m i (d + r) (bspc B x.sz) (out ++ [x]) := by
  unfold rest
  rw [show 1025 - out.length = (1024 - out.length) + 1 by omega]
  rw [show 1025 - (out ++ [x]).length = 1024 - out.length by simp]
  conv => lhs; unfold edge
  rw [if_pos h, if_neg (by omega), ← hx]
theorem rest_done (B : Bru) (ls : List Smp) (m i : Nat) (d r : Int) (out : List Dab) (h : ¬ r ≤ elen (smAt ls (i - 1)) (smAt ls i) - d) (hl : out.length ≤ 1024) : rest B ls m i d r out = edges B ls m (i + 1) (r - (elen (smAt ls (i - 1)) (smAt ls i) - d)) out := by
  unfold rest
  rw [show 1025 - out.length = (1024 - out.length) + 1 by omega]
  unfold edge
  rw [if_neg h]
/-- What is asked of a brush by its dabs. -/
structure BruOk (B : Bru) : Prop where
  sz : 1 ≤ B.sz ∧ B.sz ≤ 1024
  sp : 1 ≤ B.sp ∧ B.sp ≤ 1000
  sc : 0 ≤ B.sc ∧ B.sc ≤ 1000
theorem bruOk {B : Bru} (h : bchk B = 0) : BruOk B := by
  have := bchk_ok h
  exact ⟨this.1, this.2.2.2.2.2.1, this.2.2.2.2.2.2.2.1⟩
theorem dabOf_ok {B : Bru} (h : BruOk B) (s : Smp) (speed index : Int) : dOk (dabOf B s speed index) = true := by
  have h1 := bsz_bd B.sz (bval B s speed index 1) h.sz (bval_bd _ _ _ _ _)
  have h2 := bval_bd B s speed index 2
  have h3 := ban_bd (bval B s speed index 3)
  have e : ∀ x, co (co x) = co x := fun x => by unfold co; omega
  refine decide_eq_true ⟨?_, ?_, ?_, ?_, ?_⟩
  · unfold dabOf bpos; exact (e _).symm
  · unfold dabOf bpos; exact (e _).symm
  · show bsz _ _ = sz1 (bsz _ _); unfold sz1; omega
  · exact (cl_id _ h2.1 h2.2).symm
  · show ban _ = ban _ % 65536; omega
theorem dabOf_sz {B : Bru} (h : BruOk B) (s : Smp) (speed index : Int) : 1 ≤ (dabOf B s speed index).sz ∧ (dabOf B s speed index).sz ≤ 1024 :=
  bsz_bd B.sz (bval B s speed index 1) h.sz (bval_bd _ _ _ _ _)
end Go.Proofs.YtieacbccadbdbaaGreatDoor


/- Slices of structs of five integers (samples, dabs); such rows that grow by append. -/
namespace Go.Proofs.YtieacbccadbdbaaGreatDoor
open Go.RowKit
set_option linter.unusedVariables false

abbrev V5 := Int × Int × Int × Int × Int
def z5 (q : V5) : List Value := [.int .i64 q.1, .int .i64 q.2.1, .int .i64 q.2.2.1, .int .i64 q.2.2.2.1, .int .i64 q.2.2.2.2]
/-- Five cells from a place on. -/
def At5 (w : World) (b o : Nat) (q : V5) : Prop :=
  w.cell? ⟨b, o, none⟩ = some (.int .i64 q.1) ∧ w.cell? ⟨b, o + 1, none⟩ = some (.int .i64 q.2.1) ∧ w.cell? ⟨b, o + 2, none⟩ = some (.int .i64 q.2.2.1) ∧ w.cell? ⟨b, o + 3, none⟩ = some (.int .i64 q.2.2.2.1) ∧ w.cell? ⟨b, o + 4, none⟩ = some (.int .i64 q.2.2.2.2)
theorem At5.kept {w w' : World} {b o : Nat} {q : V5} (h : At5 w b o q) (hb : Below w.heap.size w w') : At5 w' b o q := by
  have hl := lt_of_cell (a := ⟨b, o, none⟩) h.1
  unfold At5
  rw [hb.cell (p := ⟨b, o, none⟩) hl, hb.cell (p := ⟨b, o + 1, none⟩) hl, hb.cell (p := ⟨b, o + 2, none⟩) hl, hb.cell (p := ⟨b, o + 3, none⟩) hl, hb.cell (p := ⟨b, o + 4, none⟩) hl]
  exact h
/-- A slice of such structs, by its elements. -/
def Qn (w : World) (v : Value) (n : Nat) (f : Nat → V5) : Prop :=
  ∃ a cap, v = .slice a n cap ∧ (n ≤ cap ∧ cap ≤ 9223372036854775807) ∧ (n = 0 ∨ ∃ b off, a = some ⟨b, off, none⟩ ∧ b < w.heap.size ∧ ∀ i, i < n → At5 w b (off + i * 5) (f i))
theorem Qn.kept {w w' : World} {v : Value} {n : Nat} {f : Nat → V5} (h : Qn w v n f) (hb : Below w.heap.size w w') : Qn w' v n f := by
  obtain ⟨a, cap, hv, hl, hr⟩ := h
  refine ⟨a, cap, hv, hl, ?_⟩
  rcases hr with h0 | ⟨b, off, ha, hlt, hc⟩
  · exact .inl h0
  · exact .inr ⟨b, off, ha, Nat.lt_of_lt_of_le hlt hb.size, fun i hi => (hc i hi).kept hb⟩
theorem Qn.slice {w : World} {v : Value} {n : Nat} {f : Nat → V5} (h : Qn w v n f) : ∃ a cap, v = .slice a n cap := by
  obtain ⟨a, cap, hv, _⟩ := h
  exact ⟨a, cap, hv⟩
theorem Qn.len {w : World} {v : Value} {n : Nat} {f : Nat → V5} (h : Qn w v n f) : n ≤ 9223372036854775807 := by
  obtain ⟨a, cap, hv, hl, _⟩ := h
  omega
theorem Qn.caps {w : World} {a : Option Addr} {n m cap : Nat} {f : Nat → V5} (h : Qn w (.slice a m cap) n f) : n ≤ cap ∧ cap ≤ 9223372036854775807 := by
  obtain ⟨a', cap', hv, hl, _⟩ := h
  simp only [Value.slice.injEq] at hv
  obtain ⟨rfl, rfl, rfl⟩ := hv
  exact hl
/-- The cells of one element, in a later world. -/
theorem Qn.at {w : World} {a : Option Addr} {n n' cap : Nat} {f : Nat → V5} (h : Qn w (.slice a n' cap) n f) (i : Nat) (hi : i < n) :
    ∃ b off, a = some ⟨b, off, none⟩ ∧ b < w.heap.size ∧ ∀ w', Below w.heap.size w w' → At5 w' b (off + i * 5) (f i) := by
  obtain ⟨a', cap', hv, hl, hr⟩ := h
  simp only [Value.slice.injEq] at hv
  obtain ⟨rfl, rfl, rfl⟩ := hv
  rcases hr with h0 | ⟨b, off, ha, hlt, hc⟩
  · omega
  · exact ⟨b, off, ha, hlt, fun w' hb => (hc i hi).kept hb⟩
/-- All elements' cells, if there is one. -/
theorem Qn.all {w : World} {a : Option Addr} {n n' cap : Nat} {f : Nat → V5} (h : Qn w (.slice a n' cap) n f) (hn : 0 < n) :
    ∃ b off, a = some ⟨b, off, none⟩ ∧ b < w.heap.size ∧ ∀ i, i < n → ∀ w', Below w.heap.size w w' → At5 w' b (off + i * 5) (f i) := by
  obtain ⟨a', cap', hv, hl, hr⟩ := h
  simp only [Value.slice.injEq] at hv
  obtain ⟨rfl, rfl, rfl⟩ := hv
  rcases hr with h0 | ⟨b, off, ha, hlt, hc⟩
  · omega
  · exact ⟨b, off, ha, hlt, fun i hi w' hb => (hc i hi).kept hb⟩
theorem Qn.take {w : World} {a : Option Addr} {n m cap cap' : Nat} {f : Nat → V5} (h : Qn w (.slice a n cap) n f) (hm : m ≤ n) (hc : m ≤ cap' ∧ cap' ≤ 9223372036854775807) : Qn w (.slice a m cap') m f := by
  obtain ⟨a', cap'', hv, hl, hr⟩ := h
  simp only [Value.slice.injEq, true_and] at hv
  obtain ⟨rfl, rfl⟩ := hv
  refine ⟨a, cap', rfl, hc, ?_⟩
  rcases hr with h0 | ⟨b, off, ha, hlt, hc⟩
  · exact .inl (by omega)
  · exact .inr ⟨b, off, ha, hlt, fun i hi => hc i (by omega)⟩
theorem Qn.congr {w : World} {v : Value} {n : Nat} {f f' : Nat → V5} (h : Qn w v n f) (he : ∀ i, i < n → f i = f' i) : Qn w v n f' := by
  obtain ⟨a, cap, hv, hl, hr⟩ := h
  refine ⟨a, cap, hv, hl, ?_⟩
  rcases hr with h0 | ⟨b, off, ha, hlt, hc⟩
  · exact .inl h0
  · exact .inr ⟨b, off, ha, hlt, fun i hi => he i hi ▸ hc i hi⟩
theorem Qn.nil (w : World) (f : Nat → V5) : Qn w (.slice none 0 0) 0 f := ⟨none, 0, rfl, by omega, .inl rfl⟩

def s5 (s : Smp) : V5 := (s.x, s.y, s.p, s.t, s.m)
def d5 (d : Dab) : V5 := (d.x, d.y, d.sz, d.fl, d.an)
def dbAt (ds : List Dab) (i : Nat) : Dab := ds.getD i ⟨0, 0, 0, 0, 0⟩
def Sm (w : World) (v : Value) (ls : List Smp) : Prop := Qn w v ls.length (fun i => s5 (smAt ls i))
def Bm (w : World) (v : Value) (ds : List Dab) : Prop := Qn w v ds.length (fun i => d5 (dbAt ds i))
theorem Sm.kept {w w' : World} {v : Value} {ls : List Smp} (h : Sm w v ls) (hb : Below w.heap.size w w') : Sm w' v ls := Qn.kept h hb
theorem Bm.kept {w w' : World} {v : Value} {ds : List Dab} (h : Bm w v ds) (hb : Below w.heap.size w w') : Bm w' v ds := Qn.kept h hb
theorem dbAt_snoc (ds : List Dab) (x : Dab) (i : Nat) : dbAt (ds ++ [x]) i = if i = ds.length then x else dbAt ds i := by
  unfold dbAt
  by_cases h : i < ds.length
  · rw [if_neg (by omega), List.getD_eq_getElem?_getD, List.getElem?_append_left h, List.getD_eq_getElem?_getD]
  · by_cases h2 : i = ds.length
    · subst h2; simp [List.getD]
    · rw [if_neg h2, List.getD_eq_getElem?_getD, List.getD_eq_getElem?_getD, List.getElem?_eq_none (by simp; omega), List.getElem?_eq_none (by omega)]

/-- The cells of dabs in a row. -/
def dcs (ds : List Dab) : List Value := ds.flatMap fun d => z5 (d5 d)
theorem dcs_snoc (ds : List Dab) (x : Dab) : dcs (ds ++ [x]) = dcs ds ++ z5 (d5 x) := by simp [dcs]
theorem dcs_len : ∀ ds : List Dab, (dcs ds).length = ds.length * 5
  | [] => rfl
  | d :: ds => by
    have h : dcs (d :: ds) = z5 (d5 d) ++ dcs ds := rfl
    rw [h, List.length_append, dcs_len ds]
    simp [z5]
    omega
theorem dcs_at : ∀ (ds : List Dab) (i j : Nat), i < ds.length → j < 5 → (dcs ds)[i * 5 + j]? = (z5 (d5 (dbAt ds i)))[j]?
  | [], i, j, hi, _ => by simp at hi
  | d :: ds, i, j, hi, hj => by
    have h : dcs (d :: ds) = z5 (d5 d) ++ dcs ds := rfl
    have hz : (z5 (d5 d)).length = 5 := rfl
    rw [h]
    cases i with
    | zero =>
      rw [List.getElem?_append_left (by rw [hz]; omega)]
      simp [dbAt]
    | succ i =>
      rw [List.getElem?_append_right (by rw [hz]; omega), hz, show (i + 1) * 5 + j - 5 = i * 5 + j by omega]
      simp only [List.length_cons] at hi
      rw [dcs_at ds i j (by omega) hj]
      simp [dbAt]
theorem bm_of_own {w : World} {base n : Nat} {e : TypeId} {v : Value} {ds : List Dab} (h : w.ownsRow base e 5 v n (dcs ds)) (hl : ds.length = n) (hn : n ≤ 9223372036854775807) : Bm w v ds := by
  subst hl
  have hc : ∀ g, v.ownBlock = some g → ∀ j u, (dcs ds)[j]? = some u → w.cell? ((⟨g, 0, none⟩ : Addr).add j) = some u := fun g hg => h.cells hg
  obtain ⟨_, h2⟩ := h
  rcases h2 with ⟨rfl, h0⟩ | ⟨g, cap, cur, rfl, hg, hh, hcap, hm, hsz, ht⟩
  · refine ⟨none, 0, by rw [h0], by rw [h0]; omega, .inl h0⟩
  · refine ⟨_, cap, rfl, by unfold maxLen at hm; omega, .inr ⟨g, 0, rfl, lt_of_block hh, fun i hi => ?_⟩⟩
    have c : ∀ j, j < 5 → ∀ u, (z5 (d5 (dbAt ds i)))[j]? = some u → w.cell? ⟨g, 0 + i * 5 + j, none⟩ = some u := fun j hj u hu => by
      have := hc g rfl (i * 5 + j) u (by rw [dcs_at ds i j hi hj]; exact hu)
      rw [Go.WideShapes.add_plain] at this
      rw [show 0 + i * 5 + j = 0 + (i * 5 + j) by omega]
      exact this
    exact ⟨c 0 (by omega) _ rfl, c 1 (by omega) _ rfl, c 2 (by omega) _ rfl, c 3 (by omega) _ rfl, c 4 (by omega) _ rfl⟩
/-- Two blocks whose elements' types differ are two. -/
theorem own_ne {w : World} {base n size : Nat} {e t : TypeId} {v : Value} {xs : List Value} {b : Nat} {cs : Array Value} {fz : Nat × Nat} (own : w.ownsRow base e size v n xs) (k : Blk w b (.cells cs t fz)) (hne : e ≠ t) : v.ownBlock ≠ some b := by
  intro h
  rcases own.2 with ⟨rfl, _⟩ | ⟨g, cap, cur, rfl, hb, hg, _⟩
  · simp [Value.ownBlock] at h
  · simp [Value.ownBlock] at h
    subst h
    have := hg.symm.trans k
    simp at this
    exact hne this.2.1
theorem own_slice5 {w : World} {base n : Nat} {e : TypeId} {size : Nat} {v : Value} {xs : List Value} (h : w.ownsRow base e size v n xs) : ∃ a cap, v = .slice a n cap := by
  obtain ⟨_, h2⟩ := h
  rcases h2 with ⟨rfl, h0⟩ | ⟨g, cap, cur, rfl, _⟩
  · exact ⟨none, 0, by rw [h0]⟩
  · exact ⟨_, cap, rfl⟩
end Go.Proofs.YtieacbccadbdbaaGreatDoor


/- The coverage of dabs, plainly; the pixels of a rectangle, row by row, in the rows of an image. -/
namespace Go.Proofs.YtieacbccadbdbaaGreatDoor
set_option linter.unusedVariables false

/-- One more coverage upon another. -/
def cst (c v : Int) : Int := c + dv (cl (65535 - c) * cl v) 65535
theorem dv_zero (b : Int) (hb : 0 < b) : dv 0 b = 0 := by
  have := dv_mul 0 b hb
  simpa using this
theorem mulU_le (a v : Int) : 0 ≤ dv (cl a * cl v) 65535 ∧ dv (cl a * cl v) 65535 ≤ cl a ∧ dv (cl a * cl v) 65535 ≤ cl v := by
  have ha := cl_bd a
  have hv := cl_bd v
  refine ⟨(mulU_bd' a v).1, dv_le _ _ _ (by omega) (Int.mul_le_mul_of_nonneg_left hv.2 ha.1), dv_le _ _ _ (by omega) ?_⟩
  rw [Int.mul_comm]
  exact Int.mul_le_mul_of_nonneg_left ha.2 hv.1
theorem mulU_one (v : Int) (h : 0 ≤ v ∧ v ≤ 65535) : dv (cl 65535 * cl v) 65535 = v := by
  rw [cl_id 65535 (by omega) (by omega), cl_id v h.1 h.2, Int.mul_comm]
  exact dv_mul _ _ (by omega)
theorem mulU_mono (a b v : Int) (h : a ≤ b) : dv (cl a * cl v) 65535 ≤ dv (cl b * cl v) 65535 := by
  have hv := cl_bd v
  have : cl a ≤ cl b := by rw [← cl_min, ← cl_min]; omega
  exact dv_mono _ _ _ (by omega) (Int.mul_le_mul_of_nonneg_right this hv.1)
theorem cst_zero (c : Int) : cst c 0 = c := by
  unfold cst
  rw [show cl 0 = 0 from rfl, Int.mul_zero, dv_zero _ (by omega)]
  omega
theorem cst_bd (c v : Int) (h : 0 ≤ c ∧ c ≤ 65535) : c ≤ cst c v ∧ cst c v ≤ 65535 := by
  have := mulU_le (65535 - c) v
  rw [cl_id (65535 - c) (by omega) (by omega)] at this
  unfold cst
  rw [cl_id (65535 - c) (by omega) (by omega)]
  omega
theorem cst_first (v : Int) (h : 0 ≤ v ∧ v ≤ 65535) : cst 0 v = v := by
  have := mulU_one v h
  unfold cst
  rw [show (65535 : Int) - 0 = 65535 by omega, this]
  omega
/-- What dabs cover of a place, before the opacity. -/
def cfold (B : Bru) (ds : List Dab) (x y c : Int) : Int := ds.foldl (fun c d => cst c (dcov B d x y)) c
theorem cfold_bd (B : Bru) (x y : Int) : ∀ (ds : List Dab) (c : Int), 0 ≤ c ∧ c ≤ 65535 → c ≤ cfold B ds x y c ∧ cfold B ds x y c ≤ 65535
  | [], c, h => ⟨Int.le_refl _, h.2⟩
  | d :: ds, c, h => by
    have h1 := cst_bd c (dcov B d x y) h
    have h2 := cfold_bd B x y ds (cst c (dcov B d x y)) (by omega)
    have e : cfold B (d :: ds) x y c = cfold B ds x y (cst c (dcov B d x y)) := rfl
    rw [e]
    omega
theorem cfold_snoc (B : Bru) (ds : List Dab) (d : Dab) (x y c : Int) : cfold B (ds ++ [d]) x y c = cst (cfold B ds x y c) (dcov B d x y) := by
  unfold cfold
  rw [List.foldl_append]
  rfl
def cpix (B : Bru) (ds : List Dab) (W : Nat) (i : Nat) : Int := cfold B ds ((i % W : Nat) : Int) ((i / W : Nat) : Int) 0
def cout (B : Bru) (ds : List Dab) (W : Nat) (i : Nat) : Int := dv (cl (cpix B ds W i) * cl B.op) 65535
def couts (B : Bru) (ds : List Dab) (W H : Nat) : List Int := (List.range (W * H)).map (cout B ds W)
theorem couts_len (B : Bru) (ds : List Dab) (W H : Nat) : (couts B ds W H).length = W * H := by simp [couts]
theorem couts_at (B : Bru) (ds : List Dab) (W H i : Nat) (hi : i < W * H) : (couts B ds W H).getD i 0 = cout B ds W i := by simp [couts, List.getD, hi]
theorem cpix_bd (B : Bru) (ds : List Dab) (W i : Nat) : 0 ≤ cpix B ds W i ∧ cpix B ds W i ≤ 65535 := by
  have := cfold_bd B ((i % W : Nat) : Int) ((i / W : Nat) : Int) ds 0 (by omega)
  unfold cpix
  omega
theorem cout_bd (B : Bru) (ds : List Dab) (W i : Nat) : 0 ≤ cout B ds W i ∧ cout B ds W i ≤ 65535 := mulU_bd' _ _
theorem dcov_unit (B : Bru) (d : Dab) (x y : Int) : 0 ≤ dcov B d x y ∧ dcov B d x y ≤ 65535 := by
  unfold dcov
  split
  · rename_i h0
    have hb := bchk_ok h0
    have := cvr_bd B (lim d) (cc x) (cc y) hb.2.1.1 (cl_bd d.fl)
    have e : (lim d).fl = cl d.fl := rfl
    have := cl_bd d.fl
    omega
  · omega

/-- The pixels of a rectangle in an image of the width w. -/
def nIdx (X Y W w k : Nat) : Nat := (Y + k / W) * w + X + k % W
theorem nIdx_parts (X Y W w k : Nat) (hW : 0 < W) (hX : X + W ≤ w) : nIdx X Y W w k / w = Y + k / W ∧ nIdx X Y W w k % w = X + k % W := by
  have h1 : k % W < W := Nat.mod_lt _ hW
  have h2 : X + k % W < w := by omega
  have e : nIdx X Y W w k = (X + k % W) + w * (Y + k / W) := by unfold nIdx; rw [Nat.mul_comm]; omega
  rw [e, Nat.add_mul_div_left _ _ (by omega), Nat.add_mul_mod_self_left, Nat.div_eq_of_lt h2, Nat.mod_eq_of_lt h2]
  omega
theorem nIdx_lt (X Y W H w h k : Nat) (hW : 0 < W) (hX : X + W ≤ w) (hY : Y + H ≤ h) (hk : k < W * H) : nIdx X Y W w k < w * h := by
  have h1 : k / W < H := Nat.div_lt_of_lt_mul hk
  have h2 := (nIdx_parts X Y W w k hW hX).1
  have h3 : nIdx X Y W w k / w < h := by omega
  rw [Nat.mul_comm]
  exact (Nat.div_lt_iff_lt_mul (by omega)).1 h3
theorem nIdx_of (X Y W w k i : Nat) (h1 : i / w = Y + k / W) (h2 : i % w = X + k % W) : i = nIdx X Y W w k := by
  have := Nat.div_add_mod i w
  rw [h1, h2, Nat.mul_comm] at this
  unfold nIdx
  omega
/-- Pixel i of the image is one of the first k of the rectangle. -/
def inR (X Y W H w i : Nat) : Prop := X ≤ i % w ∧ i % w < X + W ∧ Y ≤ i / w ∧ i / w < Y + H
instance (X Y W H w i : Nat) : Decidable (inR X Y W H w i) := by unfold inR; exact inferInstance
def isDone (X Y W H w k i : Nat) : Prop := inR X Y W H w i ∧ (i / w - Y) * W + (i % w - X) < k
instance (X Y W H w k i : Nat) : Decidable (isDone X Y W H w k i) := by unfold isDone; exact inferInstance
theorem isDone_zero (X Y W H w i : Nat) : ¬ isDone X Y W H w 0 i := fun h => absurd h.2 (Nat.not_lt_zero _)
theorem isDone_all (X Y W H w i : Nat) : isDone X Y W H w (W * H) i ↔ inR X Y W H w i := by
  refine ⟨fun h => h.1, fun h => ⟨h, ?_⟩⟩
  obtain ⟨h1, h2, h3, h4⟩ := h
  have a : i / w - Y + 1 ≤ H := by omega
  have b : (i / w - Y + 1) * W ≤ H * W := Nat.mul_le_mul_right _ a
  rw [Nat.add_mul, Nat.one_mul, Nat.mul_comm H W] at b
  omega
theorem nIdx_in (X Y W H w k : Nat) (hW : 0 < W) (hX : X + W ≤ w) (hk : k < W * H) : inR X Y W H w (nIdx X Y W w k) := by
  obtain ⟨h1, h2⟩ := nIdx_parts X Y W w k hW hX
  have h3 : k / W < H := Nat.div_lt_of_lt_mul hk
  have h4 : k % W < W := Nat.mod_lt _ hW
  unfold inR
  rw [h1, h2]
  clear h1 h2
  generalize k / W = q at *
  generalize k % W = r at *
  omega
theorem isDone_succ (X Y W H w k i : Nat) (hW : 0 < W) (hX : X + W ≤ w) (hk : k < W * H) : isDone X Y W H w (k + 1) i ↔ isDone X Y W H w k i ∨ i = nIdx X Y W w k := by
  constructor
  · intro h
    by_cases hl : (i / w - Y) * W + (i % w - X) < k
    · exact .inl ⟨h.1, hl⟩
    · right
      have he : k = (i % w - X) + W * (i / w - Y) := by have := h.2; rw [Nat.mul_comm W]; omega
      obtain ⟨h1, h2, h3, h4⟩ := h.1
      have hlt : i % w - X < W := by omega
      have e1 : k / W = i / w - Y := by rw [he, Nat.add_mul_div_left _ _ hW, Nat.div_eq_of_lt hlt]; omega
      have e2 : k % W = i % w - X := by rw [he, Nat.add_mul_mod_self_left, Nat.mod_eq_of_lt hlt]
      clear he h
      exact nIdx_of X Y W w k i (by rw [e1]; omega) (by rw [e2]; omega)
  · rintro (h | rfl)
    · exact ⟨h.1, by have := h.2; omega⟩
    · refine ⟨nIdx_in X Y W H w k hW hX hk, ?_⟩
      obtain ⟨h1, h2⟩ := nIdx_parts X Y W w k hW hX
      rw [h1, h2]
      have := Nat.div_add_mod k W
      rw [Nat.add_sub_cancel_left, Nat.add_sub_cancel_left, Nat.mul_comm]
      omega
theorem not_isDone (X Y W H w k : Nat) (hW : 0 < W) (hX : X + W ≤ w) : ¬ isDone X Y W H w k (nIdx X Y W w k) := by
  intro h
  obtain ⟨h1, h2⟩ := nIdx_parts X Y W w k hW hX
  have := h.2
  rw [h1, h2, Nat.add_sub_cancel_left, Nat.add_sub_cancel_left, Nat.mul_comm] at this
  have := Nat.div_add_mod k W
  omega
end Go.Proofs.YtieacbccadbdbaaGreatDoor


/- What the dabs of a stroke are good for. -/
namespace Go.Proofs.YtieacbccadbdbaaGreatDoor
set_option linter.unusedVariables false

/-- What the dabs of a stroke are good for. -/
def dsOk (B : Bru) (ds : List Dab) : Prop := ∀ d ∈ ds, dOk d = true
theorem edge_ok {B : Bru} (hB : BruOk B) (p q : Smp) (speed len : Int) : ∀ (f : Nat) (d r : Int) (out : List Dab) (r' : Int) (out' : List Dab), edge B p q speed len f d r out = some (r', out') → dsOk B out → dsOk B out' ∧ out.length ≤ out'.length ∧ (out.length ≤ 1024 → out'.length ≤ 1024) ∧ out <+: out'
  | 0, d, r, out, r', out', h, _ => by cases h
  | f + 1, d, r, out, r', out', h, ho => by
    unfold edge at h
    split at h
    · split at h
      · cases h
      · rename_i h1 h2
        have ho' : dsOk B (out ++ [dabOf B (btw p q (d + r) len) speed out.length]) := by
          intro x hx
          rcases List.mem_append.1 hx with hx | hx
          · exact ho x hx
          · rw [List.mem_singleton] at hx
            subst hx
            exact dabOf_ok hB _ _ _
        have := edge_ok hB p q speed len f _ _ _ r' out' h ho'
        simp only [List.length_append, List.length_cons, List.length_nil] at this
        exact ⟨this.1, by omega, fun h3 => this.2.2.1 (by omega), (List.prefix_append _ _).trans this.2.2.2⟩
    · cases h
      exact ⟨ho, Nat.le_refl _, fun h => h, List.prefix_refl _⟩
theorem edges_ok {B : Bru} (hB : BruOk B) (ls : List Smp) : ∀ (m i : Nat) (r : Int) (out l : List Dab), edges B ls m i r out = some l → dsOk B out → dsOk B l ∧ out.length ≤ l.length ∧ (out.length ≤ 1024 → l.length ≤ 1024) ∧ out <+: l
  | 0, i, r, out, l, h, ho => by
    cases h
    exact ⟨ho, Nat.le_refl _, fun h => h, List.prefix_refl _⟩
  | m + 1, i, r, out, l, h, ho => by
    unfold edges at h
    split at h
    · cases h
    · rename_i r' out' he
      have h1 := edge_ok hB _ _ _ _ _ _ _ _ _ _ he ho
      have h2 := edges_ok hB ls m (i + 1) r' out' l h h1.1
      exact ⟨h2.1, by omega, fun h3 => h2.2.2.1 (h1.2.2.1 h3), h1.2.2.2.trans h2.2.2.2⟩
theorem dabs_ok {B : Bru} {ls : List Smp} (h : (dabs B ls).2 = 0) : bchk B = 0 ∧ schk ls = 0 ∧ dsOk B (dabs B ls).1 ∧ 1 ≤ (dabs B ls).1.length ∧ (dabs B ls).1.length ≤ 1024 ∧ [dab0 B ls] <+: (dabs B ls).1 := by
  unfold dabs at *
  split at h
  · rename_i h0
    rw [if_pos h0]
    split at h
    · rename_i h1
      rw [if_pos h1]
      cases hs : stroke B ls with
      | none => rw [hs] at h; cases h
      | some l =>
        have h2 := edges_ok (bruOk h0) ls _ _ _ _ l hs (fun x hx => by rw [List.mem_singleton] at hx; subst hx; exact dabOf_ok (bruOk h0) _ _ _)
        simp only [List.length_cons, List.length_nil] at h2
        exact ⟨h0, h1, h2.1, h2.2.1, h2.2.2.1 (by omega), h2.2.2.2⟩
    · exact absurd h ‹_›
  · exact absurd h ‹_›
end Go.Proofs.YtieacbccadbdbaaGreatDoor


/- The examples of the chapter on strokes, plainly. -/
namespace Go.Proofs.YtieacbccadbdbaaGreatDoor
set_option linter.unusedVariables false

def exB (sz : Int) : Bru := ⟨sz, 65535, 65535, 65535, 65535, 100, 0, 0, 0, 0, 0, 0, 65535, 0, [], false⟩
def exS (x : Int) : Smp := ⟨x, 0, 0, 0, 0⟩
theorem ex1 : (dabs (exB 160) [exS 0, exS 100, exS 200]).2 = 0 ∧ (dabs (exB 160) [exS 0, exS 100, exS 200]).1.length = 2 ∧ ((dabs (exB 160) [exS 0, exS 100, exS 200]).1.getD 0 ⟨0, 0, 0, 0, 0⟩).x = 0 ∧ ((dabs (exB 160) [exS 0, exS 100, exS 200]).1.getD 1 ⟨0, 0, 0, 0, 0⟩).x = 160 := by decide +kernel
theorem ex2 : (dabs (exB 160) [exS 0, exS 400]).2 = 0 ∧ (dabs (exB 160) [exS 0, exS 400]).1.length = 3 ∧ ((dabs (exB 160) [exS 0, exS 400]).1.getD 2 ⟨0, 0, 0, 0, 0⟩).x = 320 ∧ ((dabs (exB 160) [exS 0, exS 400]).1.getD 2 ⟨0, 0, 0, 0, 0⟩).sz = 160 := by decide +kernel
/-- Edges on which every dab is as far from the next one. -/
theorem edge_many (B : Bru) (p q : Smp) (speed len r : Int) (hr : 0 < r) (hB : ∀ s a b, bspc B (dabOf B s a b).sz = r) : ∀ (f : Nat) (d : Int) (out : List Dab), r * f ≤ len - d → edge B p q speed len f d r out = none
  | 0, d, out, h => rfl
  | f + 1, d, out, h => by
    have e : r * ((f + 1 : Nat) : Int) = r * (f : Int) + r := by rw [Int.natCast_add, Int.mul_add]; simp
    have h0 : 0 ≤ r * (f : Int) := Int.mul_nonneg (by omega) (by omega)
    unfold edge
    rw [if_pos (by omega)]
    by_cases hl : out.length = 1024
    · rw [if_pos hl]
    · rw [if_neg hl, hB]
      exact edge_many B p q speed len r hr hB f _ _ (by omega)
theorem edge_few (B : Bru) (p q : Smp) (speed len r : Int) (hr : 0 < r) (hB : ∀ s a b, bspc B (dabOf B s a b).sz = r) : ∀ (f : Nat) (d : Int) (out : List Dab) (k : Nat), out.length + f = 1025 → r * k ≤ len - d → len - d < r * k + r → k < f →
    ∃ r' out', edge B p q speed len f d r out = some (r', out') ∧ out'.length = out.length + k
  | 0, d, out, k, _, _, _, h => absurd h (Nat.not_lt_zero _)
  | f + 1, d, out, 0, hf, h1, h2, h3 => by
    unfold edge
    rw [if_neg (by simp at h2; omega)]
    exact ⟨_, _, rfl, rfl⟩
  | f + 1, d, out, k + 1, hf, h1, h2, h3 => by
    have e : r * ((k + 1 : Nat) : Int) = r * (k : Int) + r := by rw [Int.natCast_add, Int.mul_add]; simp
    have h0 : 0 ≤ r * (k : Int) := Int.mul_nonneg (by omega) (by omega)
    unfold edge
    rw [if_pos (by omega), if_neg (by omega), hB]
    obtain ⟨r', out', he, hl⟩ := edge_few B p q speed len r hr hB f (d + r) (out ++ [dabOf B (btw p q (d + r) len) speed out.length]) k (by simp; omega) (by omega) (by omega) (by omega)
    exact ⟨r', out', he, by rw [hl]; simp; omega⟩
theorem ex_spc (s : Smp) (a b : Int) : bspc (exB 1) (dabOf (exB 1) s a b).sz = 16 := rfl
theorem ex_chk : bchk (exB 1) = 0 := by decide +kernel
theorem edges_succ (B : Bru) (ls : List Smp) (m i : Nat) (r : Int) (out : List Dab) : edges B ls (m + 1) i r out =
    match edge B (smAt ls (i - 1)) (smAt ls i) (espd (smAt ls (i - 1)) (smAt ls i)) (elen (smAt ls (i - 1)) (smAt ls i)) (1025 - out.length) 0 r out with
    | none => none
    | some (r', out') => edges B ls m (i + 1) r' out' := rfl
theorem ex_stroke (q : Smp) (f : Nat) (hf : f = 1024) : stroke (exB 1) [exS 0, q] = match edge (exB 1) (exS 0) q (espd (exS 0) q) (elen (exS 0) q) f 0 16 [dab0 (exB 1) [exS 0, q]] with
    | none => none
    | some (r', out') => edges (exB 1) [exS 0, q] 0 2 r' out' := by
  unfold stroke
  have e1 : [exS 0, q].length - 1 = 0 + 1 := rfl
  have e2 : 1025 - [dab0 (exB 1) [exS 0, q]].length = f := by rw [hf]; rfl
  have e3 : smAt [exS 0, q] (1 - 1) = exS 0 := rfl
  have e4 : smAt [exS 0, q] 1 = q := rfl
  have e5 : bspc (exB 1) (dab0 (exB 1) [exS 0, q]).sz = 16 := ex_spc _ _ _
  rw [e1, edges_succ, e2, e3, e4, e5]
theorem ex3 : (dabs (exB 1) [exS 0, exS 1026]).2 = 3 := by
  have h1 : schk [exS 0, exS 1026] = 0 := by decide +kernel
  have h2 : elen (exS 0) (exS 1026) = 16416 := by decide +kernel
  obtain ⟨f, hf⟩ : ∃ f : Nat, f = 1024 := ⟨_, rfl⟩
  have h3 : stroke (exB 1) [exS 0, exS 1026] = none := by
    rw [ex_stroke _ f hf, edge_many (exB 1) _ _ _ _ 16 (by omega) ex_spc f 0 _ (by rw [h2]; omega)]
  unfold dabs
  rw [if_pos ex_chk, if_pos h1, h3]
theorem ex4 : (dabs (exB 1) [exS 0, exS 1023]).2 = 0 ∧ (dabs (exB 1) [exS 0, exS 1023]).1.length = 1024 := by
  have h1 : schk [exS 0, exS 1023] = 0 := by decide +kernel
  have h2 : elen (exS 0) (exS 1023) = 16368 := by decide +kernel
  obtain ⟨f, hf⟩ : ∃ f : Nat, f = 1024 := ⟨_, rfl⟩
  obtain ⟨k, hk⟩ : ∃ k : Nat, k = 1023 := ⟨_, rfl⟩
  obtain ⟨r', out', he, hl⟩ := edge_few (exB 1) (exS 0) (exS 1023) (espd (exS 0) (exS 1023)) (elen (exS 0) (exS 1023)) 16 (by omega) ex_spc f 0 [dab0 (exB 1) [exS 0, exS 1023]] k (by rw [List.length_singleton]; omega) (by rw [h2]; omega) (by rw [h2]; omega) (by omega)
  have h3 : stroke (exB 1) [exS 0, exS 1023] = some out' := by
    rw [ex_stroke _ f hf, he]
    rfl
  rw [List.length_singleton] at hl
  unfold dabs
  rw [if_pos ex_chk, if_pos h1, h3]
  exact ⟨rfl, by show out'.length = 1024; omega⟩
end Go.Proofs.YtieacbccadbdbaaGreatDoor

