/- Brush strokes, plainly: samples, the dab of a sample, the dabs of a stroke, boxes. -/
import Derived.Test.YtjaidcdkkgnfoaaDoorLPlain
namespace Go.Proofs.YtjaidcdkkgnfoaaDoor
set_option linter.unusedVariables false

structure Smp where
  (x y p t m : Int)
def smAt (ls : List Smp) (i : Nat) : Smp := ls.getD i ⟨0, 0, 0, 0, 0⟩
def smOk (s : Smp) : Bool := inB s.x (-16777216) 16777216 && (inB s.y (-16777216) 16777216 && (inB s.p 0 65535 && (inB s.t 0 65535 && inB s.m 0 1073741824)))
theorem smOk_bd {s : Smp} (h : smOk s = true) : (-16777216 ≤ s.x ∧ s.x ≤ 16777216) ∧ (-16777216 ≤ s.y ∧ s.y ≤ 16777216) ∧ (0 ≤ s.p ∧ s.p ≤ 65535) ∧ (0 ≤ s.t ∧ s.t ≤ 65535) ∧ (0 ≤ s.m ∧ s.m ≤ 1073741824) := by
  unfold smOk inB at h
  simp only [Bool.and_eq_true, decide_eq_true_eq] at h
  omega
/-- The error of a sample, of samples. -/
def sbad (ls : List Smp) (i : Nat) : Int := if smOk (smAt ls i) = true then if 0 < i ∧ (smAt ls i).m < (smAt ls (i - 1)).m then 24 else 0 else 2
def schk (ls : List Smp) : Int := if ls.length = 0 then 1 else if 128 < ls.length then 3 else ferr (sbad ls) (ls.length - 0) 0
theorem schk_ok {ls : List Smp} (h : schk ls = 0) : 1 ≤ ls.length ∧ ls.length ≤ 128 ∧ ∀ i, i < ls.length → smOk (smAt ls i) = true ∧ (0 < i → (smAt ls (i - 1)).m ≤ (smAt ls i).m) := by
  unfold schk at h
  split at h
  · cases h
  · split at h
    · cases h
    · refine ⟨by omega, by omega, fun i hi => ?_⟩
      have h1 := ferr_zero _ _ _ h i (by omega) (by omega)
      unfold sbad at h1
      split at h1
      · rename_i h2
        split at h1
        · cases h1
        · exact ⟨h2, fun h0 => by omega⟩
      · cases h1

/-- The dab of a sample. -/
def bval (B : Bru) (s : Smp) (speed index target : Int) : Int := dvalue B.ds target (fun k => src k s.p s.t speed index B.sd)
def bsz (z v : Int) : Int := max 1 (dv (z * v) 65535)
def bsc (z sc v : Int) : Int := dv (dv (z * sc) 100 * v) 65535
def bpos (x sd index k m : Int) : Int := co (x + belowI sd index k (2 * m + 1) - m)
def ban (v : Int) : Int := v * 65536 / 65535 % 65536
def dabOf (B : Bru) (s : Smp) (speed index : Int) : Dab :=
  ⟨bpos s.x B.sd index 2 (bsc (bsz B.sz (bval B s speed index 1)) B.sc (bval B s speed index 4)), bpos s.y B.sd index 3 (bsc (bsz B.sz (bval B s speed index 1)) B.sc (bval B s speed index 4)), bsz B.sz (bval B s speed index 1), bval B s speed index 2, ban (bval B s speed index 3)⟩
theorem dfrom_bd (ds : Dyns) (target : Int) (f : Int → Int) : ∀ (m i : Nat) (v : Int), 0 ≤ v ∧ v ≤ 65535 → 0 ≤ dfrom ds target f m i v ∧ dfrom ds target f m i v ≤ 65535
  | 0, _, _, h => h
  | m + 1, i, v, h => dfrom_bd ds target f m (i + 1) _ (dstep_bd ds target f i v h)
theorem dvalue_bd (ds : Dyns) (target : Int) (f : Int → Int) : 0 ≤ dvalue ds target f ∧ dvalue ds target f ≤ 65535 := by
  unfold dvalue
  split
  · exact dfrom_bd _ _ _ _ _ _ (by omega)
  · omega
theorem bval_bd (B : Bru) (s : Smp) (speed index target : Int) : 0 ≤ bval B s speed index target ∧ bval B s speed index target ≤ 65535 := dvalue_bd _ _ _
theorem mul_in (a b A B : Int) (ha : 0 ≤ a ∧ a ≤ A) (hb : 0 ≤ b ∧ b ≤ B) : 0 ≤ a * b ∧ a * b ≤ A * B := ⟨Int.mul_nonneg ha.1 hb.1, Int.mul_le_mul ha.2 hb.2 hb.1 (by omega)⟩
theorem bsz_in (z v : Int) (hz : 1 ≤ z ∧ z ≤ 1024) (hv : 0 ≤ v ∧ v ≤ 65535) : 0 ≤ z * v ∧ z * v ≤ 67107840 := by
  have := mul_in z v 1024 65535 (by omega) hv; omega
theorem bsz_bd (z v : Int) (hz : 1 ≤ z ∧ z ≤ 1024) (hv : 0 ≤ v ∧ v ≤ 65535) : 1 ≤ bsz z v ∧ bsz z v ≤ 1024 := by
  have h := bsz_in z v hz hv
  have := dv_le (z * v) 65535 1024 (by omega) (by omega)
  unfold bsz; omega
theorem bsc_in (z sc v : Int) (hz : 1 ≤ z ∧ z ≤ 1024) (hs : 0 ≤ sc ∧ sc ≤ 1000) (hv : 0 ≤ v ∧ v ≤ 65535) : (0 ≤ z * sc ∧ z * sc ≤ 1024000) ∧ (0 ≤ dv (z * sc) 100 ∧ dv (z * sc) 100 ≤ 10240) ∧ (0 ≤ dv (z * sc) 100 * v ∧ dv (z * sc) 100 * v ≤ 671078400) := by
  have h1 := mul_in z sc 1024 1000 (by omega) hs
  have h2 := dv_nonneg (z * sc) 100 (by omega) (by omega)
  have h3 := dv_le (z * sc) 100 10240 (by omega) (by omega)
  have h4 := mul_in (dv (z * sc) 100) v 10240 65535 (by omega) hv
  omega
theorem bsc_bd (z sc v : Int) (hz : 1 ≤ z ∧ z ≤ 1024) (hs : 0 ≤ sc ∧ sc ≤ 1000) (hv : 0 ≤ v ∧ v ≤ 65535) : 0 ≤ bsc z sc v ∧ bsc z sc v ≤ 10240 := by
  have h := bsc_in z sc v hz hs hv
  exact ⟨dv_nonneg _ _ (by omega) h.2.2.1, dv_le _ _ _ (by omega) (by omega)⟩
theorem ban_bd (v : Int) : 0 ≤ ban v ∧ ban v < 65536 := by unfold ban; omega

/-- The distance to the next dab; the sample between two samples. -/
def bspc (B : Bru) (z : Int) : Int := 16 * max 1 (dv (z * B.sp) 100)
theorem bspc_in (z sp : Int) (hz : 1 ≤ z ∧ z ≤ 1024) (hs : 1 ≤ sp ∧ sp ≤ 1000) : 0 ≤ z * sp ∧ z * sp ≤ 1024000 := by
  have := mul_in z sp 1024 1000 (by omega) (by omega); omega
theorem bspc_bd (B : Bru) (z : Int) (hz : 1 ≤ z ∧ z ≤ 1024) (hs : 1 ≤ B.sp ∧ B.sp ≤ 1000) : 16 ≤ bspc B z ∧ bspc B z ≤ 163840 := by
  have h := bspc_in z B.sp hz hs
  have := dv_le (z * B.sp) 100 10240 (by omega) (by omega)
  unfold bspc; omega
def btw1 (a b d n : Int) : Int := a + dv ((b - a) * d) n
theorem btw1_in (a b d n M : Int) (hn : 0 < n) (hd : 0 ≤ d ∧ d ≤ n) (hM : -M ≤ b - a ∧ b - a ≤ M) : -(M * n) ≤ (b - a) * d ∧ (b - a) * d ≤ M * n ∧ a - M ≤ btw1 a b d n ∧ btw1 a b d n ≤ a + M := by
  have h := absmul (b - a) d M n hM.1 hM.2 (by omega) hd.2
  have := dv_abs ((b - a) * d) n M hn h.1 h.2
  unfold btw1
  omega
def btw (p q : Smp) (d n : Int) : Smp := ⟨btw1 p.x q.x d n, btw1 p.y q.y d n, btw1 p.p q.p d n, btw1 p.t q.t d n, btw1 p.m q.m d n⟩

/-- The dabs on an edge: of the given length, behind d, the next one at the distance r; the dabs before; what is left of the distance. -/
def edge (B : Bru) (p q : Smp) (speed len : Int) : Nat → Int → Int → List Dab → Option (Int × List Dab)
  | 0, _, _, _ => none
  | f + 1, d, r, out =>
    if r ≤ len - d then
      if out.length = 1024 then none else
        edge B p q speed len f (d + r) (bspc B (dabOf B (btw p q (d + r) len) speed out.length).sz) (out ++ [dabOf B (btw p q (d + r) len) speed out.length])
    else some (r - (len - d), out)
def elen (p q : Smp) : Int := hypot (16 * (q.x - p.x)) (16 * (q.y - p.y))
def espd (p q : Smp) : Int := spd p.x p.y p.m q.x q.y q.m
/-- The dabs of the edges from the one that ends in sample i on; m of them. -/
def edges (B : Bru) (ls : List Smp) : Nat → Nat → Int → List Dab → Option (List Dab)
  | 0, _, _, out => some out
  | m + 1, i, r, out =>
    match edge B (smAt ls (i - 1)) (smAt ls i) (espd (smAt ls (i - 1)) (smAt ls i)) (elen (smAt ls (i - 1)) (smAt ls i)) (1025 - out.length) 0 r out with
    | none => none
    | some (r', out') => edges B ls m (i + 1) r' out'
def dab0 (B : Bru) (ls : List Smp) : Dab := dabOf B (smAt ls 0) 0 0
def stroke (B : Bru) (ls : List Smp) : Option (List Dab) := edges B ls (ls.length - 1) 1 (bspc B (dab0 B ls).sz) [dab0 B ls]
def dabs (B : Bru) (ls : List Smp) : List Dab × Int :=
  if bchk B = 0 then if schk ls = 0 then match stroke B ls with
    | none => ([], 3)
    | some l => (l, 0)
  else ([], schk ls) else ([], bchk B)

/-- What is left of the edges, when the edge that ends in sample i is under way. -/
def rest (B : Bru) (ls : List Smp) (m i : Nat) (d r : Int) (out : List Dab) : Option (List Dab) :=
  match edge B (smAt ls (i - 1)) (smAt ls i) (espd (smAt ls (i - 1)) (smAt ls i)) (elen (smAt ls (i - 1)) (smAt ls i)) (1025 - out.length) d r out with
  | none => none
  | some (r', out') => edges B ls m (i + 1) r' out'
theorem edges_go (B : Bru) (ls : List Smp) (n i : Nat) (r : Int) (out : List Dab) (h : i < n) : edges B ls (n - i) i r out = rest B ls (n - (i + 1)) i 0 r out := by
  rw [show n - i = (n - (i + 1)) + 1 from by omega]
  rfl
theorem edges_end (B : Bru) (ls : List Smp) (n : Nat) (r : Int) (out : List Dab) : edges B ls (n - n) n r out = some out := by rw [Nat.sub_self]; rfl
theorem rest_full (B : Bru) (ls : List Smp) (m i : Nat) (d r : Int) (out : List Dab) (h : r ≤ elen (smAt ls (i - 1)) (smAt ls i) - d) (hl : out.length = 1024) : rest B ls m i d r out = none := by
  unfold rest
  rw [show 1025 - out.length = 0 + 1 by omega]
  unfold edge
  rw [if_pos h, if_pos hl]
theorem rest_next (B : Bru) (ls : List Smp) (m i : Nat) (d r : Int) (out : List Dab) (x : Dab) (h : r ≤ elen (smAt ls (i - 1)) (smAt ls i) - d) (hl : out.length < 1024)
    (hx : x = dabOf B (btw (smAt ls (i - 1)) (smAt ls i) (d + r) (elen (smAt ls (i - 1)) (smAt ls i))) (espd (smAt ls (i - 1)) (smAt ls i)) out.length) :
    rest B ls m i d r out = rest B ls m i (d + r) (bspc B x.sz) (out ++ [x]) := by
  unfold rest
  rw [show 1025 - out.length = (1024 - out.length) + 1 by omega]
  rw [show 1025 - (out ++ [x]).length = 1024 - out.length by simp]
  conv => lhs; unfold edge
  rw [if_pos h, if_neg (by omega), ← hx]
theorem rest_done (B : Bru) (ls : List Smp) (m i : Nat) (d r : Int) (out : List Dab) (h : ¬ r ≤ elen (smAt ls (i - 1)) (smAt ls i) - d) (hl : out.length ≤ 1024) : rest B ls m i d r out = edges B ls m (i + 1) (r - (elen (smAt ls (i - 1)) (smAt ls i) - d)) out := by
  unfold rest
  rw [show 1025 - out.length = (1024 - out.length) + 1 by omega]
  unfold edge
  rw [if_neg h]
/-- What is asked of a brush by its dabs. -/
structure BruOk (B : Bru) : Prop where
  sz : 1 ≤ B.sz ∧ B.sz ≤ 1024
  sp : 1 ≤ B.sp ∧ B.sp ≤ 1000
  sc : 0 ≤ B.sc ∧ B.sc ≤ 1000
theorem bruOk {B : Bru} (h : bchk B = 0) : BruOk B := by
  have := bchk_ok h
  exact ⟨this.1, this.2.2.2.2.2.1, this.2.2.2.2.2.2.2.1⟩
theorem dabOf_ok {B : Bru} (h : BruOk B) (s : Smp) (speed index : Int) : dOk (dabOf B s speed index) = true := by
  have h1 := bsz_bd B.sz (bval B s speed index 1) h.sz (bval_bd _ _ _ _ _)
  have h2 := bval_bd B s speed index 2
  have h3 := ban_bd (bval B s speed index 3)
  have e : ∀ x, co (co x) = co x := fun x => by unfold co; omega
  refine decide_eq_true ⟨?_, ?_, ?_, ?_, ?_⟩
  · unfold dabOf bpos; exact (e _).symm
  · unfold dabOf bpos; exact (e _).symm
  · show bsz _ _ = sz1 (bsz _ _); unfold sz1; omega
  · exact (cl_id _ h2.1 h2.2).symm
  · show ban _ = ban _ % 65536; omega
theorem dabOf_sz {B : Bru} (h : BruOk B) (s : Smp) (speed index : Int) : 1 ≤ (dabOf B s speed index).sz ∧ (dabOf B s speed index).sz ≤ 1024 :=
  bsz_bd B.sz (bval B s speed index 1) h.sz (bval_bd _ _ _ _ _)
end Go.Proofs.YtjaidcdkkgnfoaaDoor

