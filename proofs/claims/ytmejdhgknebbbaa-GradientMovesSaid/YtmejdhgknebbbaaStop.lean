/- The stops of a gradient as plain data; the color at a position. -/
import Derived.Test.YtmejdhgknebbbaaImgPlain
import Derived.Test.YtmejdhgknebbbaaPixMix
import Derived.Test.YtmejdhgknebbbaaPixRef
namespace Go.Proofs.Ytmejdhgknebbbaa
open Go.RowKit
set_option linter.unusedVariables false

abbrev St := Int × Px
def stA (ss : List St) (i : Nat) : Int := (ss.getD i (0, (0, 0, 0, 0))).1
def stK (ss : List St) (i : Nat) : Px := (ss.getD i (0, (0, 0, 0, 0))).2
/-- A slice of stops, by its elements. -/
def Sn (w : World) (v : Value) (ss : List St) : Prop :=
  ∃ a cap, v = .slice a ss.length cap ∧ ss.length ≤ 9223372036854775807 ∧ (ss.length = 0 ∨ ∃ b off, a = some ⟨b, off, none⟩ ∧ b < w.heap.size ∧
    ∀ i, i < ss.length → w.cell? ⟨b, off + i * 5, none⟩ = some (.int .i64 (stA ss i)) ∧ w.cell? ⟨b, off + i * 5 + 1, none⟩ = some (.int .i64 (stK ss i).1) ∧ w.cell? ⟨b, off + i * 5 + 2, none⟩ = some (.int .i64 (stK ss i).2.1) ∧ w.cell? ⟨b, off + i * 5 + 3, none⟩ = some (.int .i64 (stK ss i).2.2.1) ∧ w.cell? ⟨b, off + i * 5 + 4, none⟩ = some (.int .i64 (stK ss i).2.2.2))
theorem Sn.kept {w w' : World} {v : Value} {ss : List St} (h : Sn w v ss) (hb : Below w.heap.size w w') : Sn w' v ss := by
  obtain ⟨a, cap, hv, hl, hr⟩ := h
  refine ⟨a, cap, hv, hl, ?_⟩
  rcases hr with h0 | ⟨b, off, ha, hlt, hc⟩
  · exact .inl h0
  · refine .inr ⟨b, off, ha, Nat.lt_of_lt_of_le hlt hb.size, fun i hi => ?_⟩
    rw [hb.cell (p := ⟨b, off + i * 5, none⟩) hlt, hb.cell (p := ⟨b, off + i * 5 + 1, none⟩) hlt, hb.cell (p := ⟨b, off + i * 5 + 2, none⟩) hlt, hb.cell (p := ⟨b, off + i * 5 + 3, none⟩) hlt, hb.cell (p := ⟨b, off + i * 5 + 4, none⟩) hlt]
    exact hc i hi
theorem Sn.slice {w : World} {v : Value} {ss : List St} (h : Sn w v ss) : ∃ a cap, v = .slice a ss.length cap ∧ ss.length ≤ 9223372036854775807 := by
  obtain ⟨a, cap, hv, hl, _⟩ := h
  exact ⟨a, cap, hv, hl⟩
theorem Sn.at {w : World} {a : Option Addr} {n cap : Nat} {ss : List St} (h : Sn w (.slice a n cap) ss) : n = 0 ∨ ∃ b off, a = some ⟨b, off, none⟩ ∧ ∀ i, i < n → ∀ w', Below w.heap.size w w' →
    w'.cell? ⟨b, off + i * 5, none⟩ = some (.int .i64 (stA ss i)) ∧ w'.cell? ⟨b, off + i * 5 + 1, none⟩ = some (.int .i64 (stK ss i).1) ∧ w'.cell? ⟨b, off + i * 5 + 2, none⟩ = some (.int .i64 (stK ss i).2.1) ∧ w'.cell? ⟨b, off + i * 5 + 3, none⟩ = some (.int .i64 (stK ss i).2.2.1) ∧ w'.cell? ⟨b, off + i * 5 + 4, none⟩ = some (.int .i64 (stK ss i).2.2.2) := by
  obtain ⟨a', cap', hv, hl, hr⟩ := h
  simp only [Value.slice.injEq] at hv
  obtain ⟨rfl, rfl, rfl⟩ := hv
  rcases hr with h0 | ⟨b, off, ha, hlt, hc⟩
  · exact .inl h0
  · refine .inr ⟨b, off, ha, fun i hi w' hb => ?_⟩
    rw [hb.cell (p := ⟨b, off + i * 5, none⟩) hlt, hb.cell (p := ⟨b, off + i * 5 + 1, none⟩) hlt, hb.cell (p := ⟨b, off + i * 5 + 2, none⟩) hlt, hb.cell (p := ⟨b, off + i * 5 + 3, none⟩) hlt, hb.cell (p := ⟨b, off + i * 5 + 4, none⟩) hlt]
    exact hc i hi

def sbad (ss : List St) (i : Nat) : Int := if stA ss i < 0 ∨ 65535 < stA ss i ∨ pOk (stK ss i) = false then 2 else if 0 < i ∧ stA ss i ≤ stA ss (i - 1) then 24 else 0
/-- The error of the first invalid stop. -/
def sStops (ss : List St) : Int := ferr (sbad ss) (ss.length - 0) 0
/-- The error of stops. -/
def gStops (ss : List St) : Int := if ss.length = 0 then 1 else if 16 < ss.length then 3 else sStops ss
theorem sStops_ok {ss : List St} (h : sStops ss = 0) (i : Nat) (hi : i < ss.length) : 0 ≤ stA ss i ∧ stA ss i ≤ 65535 ∧ (0 < i → stA ss (i - 1) < stA ss i) := by
  have h0 := ferr_zero (sbad ss) _ _ h i (by omega) (by omega)
  unfold sbad at h0
  split at h0
  · cases h0
  · split at h0
    · cases h0
    · omega
theorem stA_mono {ss : List St} (h : sStops ss = 0) (i : Nat) : ∀ j, i < j → j < ss.length → stA ss i < stA ss j
  | 0, hj, _ => by omega
  | j + 1, hj, hl => by
    have h1 := (sStops_ok h (j + 1) hl).2.2 (by omega)
    simp only [Nat.add_sub_cancel] at h1
    by_cases e : i = j
    · subst e; exact h1
    · have := stA_mono h i j (by omega) (by omega)
      omega

/-- A mixed pixel. -/
def mixP (p q : Px) (t : Int) : Px := if mxA p.2.2.2 q.2.2.2 t = 0 then (0, 0, 0, 0) else (mxC p.1 q.1 p.2.2.2 q.2.2.2 t, mxC p.2.1 q.2.1 p.2.2.2 q.2.2.2 t, mxC p.2.2.1 q.2.2.1 p.2.2.2 q.2.2.2 t, mxA p.2.2.2 q.2.2.2 t)
theorem mix_any (p q : Px) (t : Int) (w : World) : Calls Try.prog 43 #[pvx p, pvx q, .int .i64 t] w fun e w' => e = .returned (pvx (mixP p q t)) ∧ Below w.heap.size w w' := by
  by_cases h : mxA p.2.2.2 q.2.2.2 t = 0
  · have e : mixP p q t = (0, 0, 0, 0) := if_pos h
    rw [e]; exact mix_zero _ _ _ _ _ _ _ _ _ w h
  · have e : mixP p q t = _ := if_neg h
    rw [e]; exact mix_pos _ _ _ _ _ _ _ _ _ w h
theorem refMix_any (p q : Px) (t : Int) (w : World) : Calls Try.prog 30 #[pvx p, pvx q, .int .i64 t] w fun e w' => e = .returned (pvx (mixP p q t)) ∧ Below w.heap.size w w' := by
  by_cases h : mxA p.2.2.2 q.2.2.2 t = 0
  · have e : mixP p q t = (0, 0, 0, 0) := if_pos h
    rw [e]; exact refMix_zero _ _ _ _ _ _ _ _ _ w h
  · have e : mixP p q t = _ := if_neg h
    rw [e]; exact refMix_pos _ _ _ _ _ _ _ _ _ w h

/-- The share of the position t between the stops i and i + 1. -/
def stM (ss : List St) (i : Nat) (t : Int) : Px := mixP (stK ss i) (stK ss (i + 1)) (dv (65535 * (t - stA ss i)) (stA ss (i + 1) - stA ss i))
/-- One step of the scan over the stops. -/
def scStep (ss : List St) (t : Int) (i : Nat) (p : Px) : Px :=
  if 0 < i ∧ stA ss (i - 1) < t ∧ t < stA ss i then stM ss (i - 1) t else if stA ss i ≤ t then stK ss i else p
def sc (ss : List St) (t : Int) : Nat → Px
  | 0 => stK ss 0
  | k + 1 => scStep ss t k (sc ss t k)
def colF (p : Px) : Px := if p.2.2.2 = 0 then (0, 0, 0, 0) else p
/-- The color at a position. -/
def gcol (ss : List St) (t : Int) : Px := if gStops ss = 0 then colF (sc ss (cl t) ss.length) else (0, 0, 0, 0)

theorem sc_stay {ss : List St} {t : Int} (h : sStops ss = 0) (i : Nat) (ht : t < stA ss i) : ∀ k, i < k → k ≤ ss.length → sc ss t k = sc ss t (i + 1)
  | 0, hk, _ => by omega
  | k + 1, hk, hl => by
    by_cases e : i = k
    · subst e; rfl
    · have h1 := sc_stay h i ht k (by omega) (by omega)
      have h2 := stA_mono h i k (by omega) (by omega)
      have h3 : stA ss i ≤ stA ss (k - 1) := by
        by_cases e2 : i = k - 1
        · rw [e2]; exact Int.le_refl _
        · have := stA_mono h i (k - 1) (by omega) (by omega); omega
      show scStep ss t k (sc ss t k) = _
      unfold scStep
      rw [if_neg (by omega), if_neg (by omega), h1]
theorem sc_first {ss : List St} {t : Int} (h : sStops ss = 0) (hl : 0 < ss.length) (ht : t ≤ stA ss 0) : sc ss t ss.length = stK ss 0 := by
  have e1 : sc ss t 1 = stK ss 0 := by
    show scStep ss t 0 (stK ss 0) = _
    unfold scStep
    rw [if_neg (by omega)]
    split <;> rfl
  by_cases hlt : t < stA ss 0
  · rw [sc_stay h 0 hlt ss.length hl (Nat.le_refl _), e1]
  · by_cases h1 : ss.length = 1
    · rw [h1, e1]
    · have h2 := stA_mono h 0 1 (by omega) (by omega)
      rw [sc_stay h 1 (by omega) ss.length (by omega) (Nat.le_refl _)]
      show scStep ss t 1 (sc ss t 1) = _
      unfold scStep
      rw [if_neg (by simp; omega), if_neg (by omega), e1]
theorem sc_last {ss : List St} {t : Int} (n : Nat) (hn : ss.length = n + 1) (ht : stA ss n ≤ t) : sc ss t ss.length = stK ss n := by
  rw [hn]
  show scStep ss t n (sc ss t n) = _
  unfold scStep
  rw [if_neg (by omega), if_pos ht]
theorem sc_at {ss : List St} {t : Int} (i : Nat) (ht : stA ss i ≤ t) : sc ss t (i + 1) = stK ss i := by
  show scStep ss t i (sc ss t i) = _
  unfold scStep
  rw [if_neg (by omega), if_pos ht]
theorem sc_found {ss : List St} {t : Int} (h : sStops ss = 0) (i : Nat) (hi : i + 1 < ss.length) (h1 : stA ss i ≤ t) (h2 : t < stA ss (i + 1)) : sc ss t ss.length = if stA ss i < t then stM ss i t else stK ss i := by
  rw [sc_stay h (i + 1) h2 ss.length hi (Nat.le_refl _)]
  show scStep ss t (i + 1) (sc ss t (i + 1)) = _
  unfold scStep
  simp only [Nat.add_sub_cancel]
  split
  · rename_i hc
    rw [if_pos hc.2.1]
  · rename_i hc
    rw [if_neg (by omega), if_neg (fun hh => hc ⟨by omega, hh, h2⟩), sc_at i h1]
end Go.Proofs.Ytmejdhgknebbbaa
