/- The parameters of a gradient: slices of integers, their error, by the program and by the reference. -/
import Derived.Test.YtmejdhgknebbbaaCurvePlain
import Derived.Test.YtmejdhgknebbbaaGPlain
import Derived.Test.YtmejdhgknebbbaaBlk
namespace Go.Proofs.Ytmejdhgknebbbaa
open Go.RowKit
set_option linter.unusedVariables false

/-- A slice of integers, by its elements. -/
def Nn (w : World) (v : Value) (zs : List Int) : Prop :=
  ∃ a cap, v = .slice a zs.length cap ∧ zs.length ≤ 9223372036854775807 ∧ (zs.length = 0 ∨ ∃ b off, a = some ⟨b, off, none⟩ ∧ b < w.heap.size ∧ ∀ i, i < zs.length → w.cell? ⟨b, off + i, none⟩ = some (.int .i64 (zs.getD i 0)))
theorem Nn.kept {w w' : World} {v : Value} {zs : List Int} (h : Nn w v zs) (hb : Below w.heap.size w w') : Nn w' v zs := by
  obtain ⟨a, cap, hv, hl, hr⟩ := h
  refine ⟨a, cap, hv, hl, ?_⟩
  rcases hr with h0 | ⟨b, off, ha, hlt, hc⟩
  · exact .inl h0
  · refine .inr ⟨b, off, ha, Nat.lt_of_lt_of_le hlt hb.size, fun i hi => ?_⟩
    rw [hb.cell (p := ⟨b, off + i, none⟩) hlt]
    exact hc i hi
theorem Nn.slice {w : World} {v : Value} {zs : List Int} (h : Nn w v zs) : ∃ a cap, v = .slice a zs.length cap ∧ zs.length ≤ 9223372036854775807 := by
  obtain ⟨a, cap, hv, hl, _⟩ := h
  exact ⟨a, cap, hv, hl⟩
theorem Nn.at {w : World} {a : Option Addr} {n cap : Nat} {zs : List Int} (h : Nn w (.slice a n cap) zs) (i : Nat) (hi : i < n) : ∃ b off, a = some ⟨b, off, none⟩ ∧ w.cell? ⟨b, off + i, none⟩ = some (.int .i64 (zs.getD i 0)) := by
  obtain ⟨a', cap', hv, hl, hr⟩ := h
  simp only [Value.slice.injEq] at hv
  obtain ⟨rfl, rfl, rfl⟩ := hv
  rcases hr with h0 | ⟨b, off, ha, hlt, hc⟩
  · omega
  · exact ⟨b, off, ha, hc i hi⟩
/-- The first three, or four, in this and in later worlds. -/
theorem Nn.three {w : World} {v : Value} {p0 p1 p2 : Int} (h : Nn w v [p0, p1, p2]) : ∃ b off cap, v = .slice (some ⟨b, off, none⟩) 3 cap ∧ ∀ w', Below w.heap.size w w' → w'.cell? ⟨b, off, none⟩ = some (.int .i64 p0) ∧ w'.cell? ⟨b, off + 1, none⟩ = some (.int .i64 p1) ∧ w'.cell? ⟨b, off + 2, none⟩ = some (.int .i64 p2) := by
  obtain ⟨a, cap, hv, hl, hr⟩ := h
  rcases hr with h0 | ⟨b, off, rfl, hlt, hc⟩
  · simp at h0
  · refine ⟨b, off, cap, hv, fun w' hb => ?_⟩
    rw [hb.cell (p := ⟨b, off, none⟩) hlt, hb.cell (p := ⟨b, off + 1, none⟩) hlt, hb.cell (p := ⟨b, off + 2, none⟩) hlt]
    exact ⟨hc 0 (by simp), hc 1 (by simp), hc 2 (by simp)⟩
theorem Nn.four {w : World} {v : Value} {p0 p1 p2 p3 : Int} (h : Nn w v [p0, p1, p2, p3]) : ∃ b off cap, v = .slice (some ⟨b, off, none⟩) 4 cap ∧ ∀ w', Below w.heap.size w w' → w'.cell? ⟨b, off, none⟩ = some (.int .i64 p0) ∧ w'.cell? ⟨b, off + 1, none⟩ = some (.int .i64 p1) ∧ w'.cell? ⟨b, off + 2, none⟩ = some (.int .i64 p2) ∧ w'.cell? ⟨b, off + 3, none⟩ = some (.int .i64 p3) := by
  obtain ⟨a, cap, hv, hl, hr⟩ := h
  rcases hr with h0 | ⟨b, off, rfl, hlt, hc⟩
  · simp at h0
  · refine ⟨b, off, cap, hv, fun w' hb => ?_⟩
    rw [hb.cell (p := ⟨b, off, none⟩) hlt, hb.cell (p := ⟨b, off + 1, none⟩) hlt, hb.cell (p := ⟨b, off + 2, none⟩) hlt, hb.cell (p := ⟨b, off + 3, none⟩) hlt]
    exact ⟨hc 0 (by simp), hc 1 (by simp), hc 2 (by simp), hc 3 (by simp)⟩

def gbad (zs : List Int) (i : Nat) : Int := if zs.getD i 0 < -1048576 ∨ 1048576 < zs.getD i 0 then 2 else 0
def gNums (zs : List Int) : Int := ferr (gbad zs) (zs.length - 0) 0
/-- The error of the numbers. -/
def gNum (kind : Int) (zs : List Int) : Int := if gNums zs ≠ 0 then gNums zs else if (kind = 2 ∨ kind = 4) ∧ zs.getD 2 0 < 0 then 2 else 0
def gHead (kind : Int) (n : Nat) (spread : Int) : Int :=
  if kind < 1 ∨ 4 < kind ∨ spread < 0 ∨ 2 < spread then 8 else if (kind = 1 ∧ n ≠ 4) ∨ (kind ≠ 1 ∧ n ≠ 3) then 1 else 0
/-- The error of all but the stops, of which there are m. -/
def gPar (kind : Int) (zs : List Int) (spread m : Int) : Int :=
  if gHead kind zs.length spread ≠ 0 then gHead kind zs.length spread else if m = 0 then 1 else if 16 < m then 3 else gNum kind zs
theorem gHead_bad {kind spread : Int} {n : Nat} (h : kind < 1 ∨ 4 < kind ∨ spread < 0 ∨ 2 < spread) : gHead kind n spread = 8 := if_pos h
theorem gHead_cnt {kind spread : Int} {n : Nat} (h : ¬ (kind < 1 ∨ 4 < kind ∨ spread < 0 ∨ 2 < spread)) (h2 : (kind = 1 ∧ n ≠ 4) ∨ (kind ≠ 1 ∧ n ≠ 3)) : gHead kind n spread = 1 := by unfold gHead; rw [if_neg h, if_pos h2]
theorem gHead_ok {kind spread : Int} {n : Nat} (h : ¬ (kind < 1 ∨ 4 < kind ∨ spread < 0 ∨ 2 < spread)) (h2 : ¬ ((kind = 1 ∧ n ≠ 4) ∨ (kind ≠ 1 ∧ n ≠ 3))) : gHead kind n spread = 0 := by unfold gHead; rw [if_neg h, if_neg h2]
theorem gPar_head {kind spread m : Int} {zs : List Int} (h : gHead kind zs.length spread ≠ 0) : gPar kind zs spread m = gHead kind zs.length spread := if_pos h
theorem gPar_ok {kind spread m : Int} {zs : List Int} (h : gHead kind zs.length spread = 0) : gPar kind zs spread m = if m = 0 then 1 else if 16 < m then 3 else gNum kind zs := if_neg (by simpa using h)
theorem gNum_bad {kind : Int} {zs : List Int} (h : gNums zs ≠ 0) : gNum kind zs = gNums zs := if_pos h
theorem gNum_neg {kind : Int} {zs : List Int} (h : gNums zs = 0) (hk : kind = 2 ∨ kind = 4) (h2 : zs.getD 2 0 < 0) : gNum kind zs = 2 := by unfold gNum; rw [if_neg (by simpa using h), if_pos ⟨hk, h2⟩]
theorem gNum_pos {kind : Int} {zs : List Int} (h : gNums zs = 0) (h2 : ¬ ((kind = 2 ∨ kind = 4) ∧ zs.getD 2 0 < 0)) : gNum kind zs = 0 := by unfold gNum; rw [if_neg (by simpa using h), if_neg h2]

set_option maxHeartbeats 400000 in
theorem counted_any (kind n : Int) (w : World) :
    Calls Try.prog 41 #[.int .i64 kind, .int .i64 n] w fun e w' => e = .returned (.bool (if kind = 1 then n == 4 else n == 3)) ∧ w = w' := by
  by_cases h : kind = 1
  · subst h
    go_enter Try.func41, Try.ntmps41
    go_wp2
    go_ret
    exact ⟨ret_bool (by simp), rfl⟩
  · have b : (kind == 1) = false := by simpa using h
    go_enter Try.func41, Try.ntmps41
    go_wp2
    go_ret
    exact ⟨rfl, rfl⟩

set_option maxHeartbeats 2000000 in
theorem checkParams_any (kind spread m : Int) (v : Value) (zs : List Int) (w : World) (h : Nn w v zs) :
    Calls Try.prog 23 #[.int .i64 kind, v, .int .i64 spread, .int .i64 m] w fun e w' => e = .returned (.int .i64 (gPar kind zs spread m)) ∧ w = w' := by
  obtain ⟨a, cap, rfl, hlen⟩ := h.slice
  have HN := Lib.hid h
  clear h
  by_cases c0 : kind < 1 ∨ 4 < kind ∨ spread < 0 ∨ 2 < spread
  · have e8 := gHead_bad (n := zs.length) c0
    have HE : Hid (gPar kind zs spread m = 8) := by show _ = _; rw [gPar_head (by rw [e8]; decide), e8]
    generalize gPar kind zs spread m = R at *
    clear e8
    generalize zs.length = n at *
    have c1 : kind < 1 ∨ (¬ kind < 1 ∧ 4 < kind) ∨ (¬ kind < 1 ∧ ¬ 4 < kind ∧ spread < 0) ∨ (¬ kind < 1 ∧ ¬ 4 < kind ∧ ¬ spread < 0 ∧ 2 < spread) := by omega
    clear c0
    rcases c1 with c | ⟨c, d⟩ | ⟨c, d, e⟩ | ⟨c, d, e, f⟩
    all_goals (go_enter Try.func23, Try.ntmps23; go_wp2_with fail; go_ret; exact ⟨ret_int HE.out.symm, rfl⟩)
  · by_cases c2 : (kind = 1 ∧ zs.length ≠ 4) ∨ (kind ≠ 1 ∧ zs.length ≠ 3)
    · have e1 := gHead_cnt c0 c2
      have HE : Hid (gPar kind zs spread m = 1) := by show _ = _; rw [gPar_head (by rw [e1]; decide), e1]
      generalize gPar kind zs spread m = R at *
      clear e1
      generalize zs.length = n at *
      have hcnt : (if kind = 1 then (n : Int) == 4 else (n : Int) == 3) = false := by split <;> simp <;> omega
      go_enter Try.func23, Try.ntmps23
      go_wp2_with fail
      refine (counted_any _ _ _).mono ?_
      rintro e w' ⟨rfl, rfl⟩
      rw [hcnt]
      go_wp2_with fail
      go_ret
      exact ⟨ret_int HE.out.symm, rfl⟩
    · have e0 := gHead_ok c0 c2
      have HP := Lib.hid (gPar_ok (m := m) e0)
      have hcnt : (if kind = 1 then (zs.length : Int) == 4 else (zs.length : Int) == 3) = true := by split <;> simp <;> omega
      clear e0
      by_cases m0 : m = 0
      · have HE : Hid (gPar kind zs spread m = 1) := by show _ = _; rw [HP.out, if_pos m0]
        subst m0
        generalize gPar kind zs spread 0 = R at *
        generalize zs.length = n at *
        go_enter Try.func23, Try.ntmps23
        go_wp2_with fail
        refine (counted_any _ _ _).mono ?_
        rintro e w' ⟨rfl, rfl⟩
        rw [hcnt]
        go_wp2_with fail
        go_ret
        exact ⟨ret_int HE.out.symm, rfl⟩
      · have bm : (m == 0) = false := by simpa using m0
        by_cases m1 : 16 < m
        · have HE : Hid (gPar kind zs spread m = 3) := by show _ = _; rw [HP.out, if_neg m0, if_pos m1]
          generalize gPar kind zs spread m = R at *
          generalize zs.length = n at *
          go_enter Try.func23, Try.ntmps23
          go_wp2_with fail
          refine (counted_any _ _ _).mono ?_
          rintro e w' ⟨rfl, rfl⟩
          rw [hcnt]
          go_wp2_with fail
          go_ret
          exact ⟨ret_int HE.out.symm, rfl⟩
        · have HE : Hid (gPar kind zs spread m = gNum kind zs) := by show _ = _; rw [HP.out, if_neg m0, if_neg m1]
          have HQ : Hid (gNums zs = ferr (gbad zs) (zs.length - 0) 0) := rfl
          have FA := Lib.hid (ferr_at (gbad zs) zs.length)
          have FG := Lib.hid (ferr_go (gbad zs) zs.length)
          have FE := Lib.hid (ferr_end (gbad zs) zs.length)
          have G1 := Lib.hid (@gNum_bad kind zs)
          have G2 := Lib.hid (@gNum_neg kind zs)
          have G3 := Lib.hid (@gNum_pos kind zs)
          have FB : Hid (∀ i, gbad zs i = if zs.getD i 0 < -1048576 ∨ 1048576 < zs.getD i 0 then 2 else 0) := fun i => rfl
          clear HP
          generalize gPar kind zs spread m = R at *
          generalize gNum kind zs = R2 at *
          generalize zs.length = n at *
          go_enter Try.func23, Try.ntmps23
          go_wp2_with fail
          refine (counted_any _ _ _).mono ?_
          rintro e w' ⟨rfl, rfl⟩
          rw [hcnt]
          go_wp2_with fail
          go_loopw [38] (fun i wr => ∃ k : Nat, k ≤ n ∧ i = .int .i64 k ∧ wr = w ∧ Hid (gNums zs = ferr (gbad zs) (n - k) k)) (fun i _ => n - (intOf i).toNat)
          case atStart => exact ⟨0, Nat.zero_le _, rfl, rfl, HQ⟩
          case round =>
            clear HQ
            obtain ⟨k, hk, rfl, rfl, HR⟩ := hrel
            by_cases hlt : k < n
            · obtain ⟨b, off, rfl, hc⟩ := HN.out.at k hlt
              have FB1 := Lib.hid (FB.out k)
              generalize zs.getD k 0 = z at hc FB1
              have hz : (z < -1048576) ∨ (¬ z < -1048576 ∧ 1048576 < z) ∨ (¬ z < -1048576 ∧ ¬ 1048576 < z) := by omega
              rcases hz with z1 | ⟨z1, z2⟩ | ⟨z1, z2⟩
              · have FB2 : Hid (gbad zs k = 2) := by show _ = _; rw [FB1.out, if_pos (by omega)]
                go_wp2_with fail
                go_ret
                have e2 : gNums zs = 2 := by rw [HR.out, FA.out k hlt (by rw [FB2.out]; decide), FB2.out]
                exact ⟨ret_int (by rw [HE.out, G1.out (by rw [e2]; decide), e2]), rfl⟩
              · have FB2 : Hid (gbad zs k = 2) := by show _ = _; rw [FB1.out, if_pos (by omega)]
                go_wp2_with fail
                go_ret
                have e2 : gNums zs = 2 := by rw [HR.out, FA.out k hlt (by rw [FB2.out]; decide), FB2.out]
                exact ⟨ret_int (by rw [HE.out, G1.out (by rw [e2]; decide), e2]), rfl⟩
              · have FB2 : Hid (gbad zs k = 0) := by show _ = _; rw [FB1.out, if_neg (by omega)]
                go_wp2_with fail
                go_roundw
                case rel => exact ⟨k + 1, by omega, by go_num, trivial, by show _ = _; rw [HR.out, FG.out k hlt FB2.out]⟩
                case measure => simp only [intOf]; omega
            · obtain rfl : k = n := by omega
              have e0 : gNums zs = 0 := by rw [HR.out, FE.out]
              have E0 := Lib.hid e0
              clear e0
              obtain rfl | rfl | rfl | rfl : kind = 1 ∨ kind = 2 ∨ kind = 3 ∨ kind = 4 := by omega
              · go_wp2_with fail
                go_ret
                exact ⟨ret_int (by rw [HE.out, G3.out E0.out (by omega)]), rfl⟩
              · obtain ⟨b, off, rfl, hc⟩ := HN.out.at 2 (by omega)
                have i2 : (2 : Int) < (k : Int) := by omega
                by_cases hz : zs.getD 2 0 < 0
                · have HZ := Lib.hid hz
                  generalize zs.getD 2 0 = z at hc hz
                  go_wp2_with fail
                  go_ret
                  exact ⟨ret_int (by rw [HE.out, G2.out E0.out (by simp) HZ.out]), rfl⟩
                · have HZ := Lib.hid hz
                  generalize zs.getD 2 0 = z at hc hz
                  go_wp2_with fail
                  go_ret
                  exact ⟨ret_int (by rw [HE.out, G3.out E0.out (fun hh => by have := hh.2; have := HZ.out; omega)]), rfl⟩
              · go_wp2_with fail
                go_ret
                exact ⟨ret_int (by rw [HE.out, G3.out E0.out (by omega)]), rfl⟩
              · obtain ⟨b, off, rfl, hc⟩ := HN.out.at 2 (by omega)
                have i2 : (2 : Int) < (k : Int) := by omega
                by_cases hz : zs.getD 2 0 < 0
                · have HZ := Lib.hid hz
                  generalize zs.getD 2 0 = z at hc hz
                  go_wp2_with fail
                  go_ret
                  exact ⟨ret_int (by rw [HE.out, G2.out E0.out (by simp) HZ.out]), rfl⟩
                · have HZ := Lib.hid hz
                  generalize zs.getD 2 0 = z at hc hz
                  go_wp2_with fail
                  go_ret
                  exact ⟨ret_int (by rw [HE.out, G3.out E0.out (fun hh => by have := hh.2; have := HZ.out; omega)]), rfl⟩
set_option maxHeartbeats 2000000 in
theorem head_any (kind spread : Int) (v : Value) (zs : List Int) (w : World) (h : Nn w v zs) :
    Calls Try.prog 25 #[.int .i64 kind, v, .int .i64 spread] w fun e w' => e = .returned (.int .i64 (gHead kind zs.length spread)) ∧ w = w' := by
  obtain ⟨a, cap, rfl, hlen⟩ := h.slice
  clear h
  generalize zs.length = n at *
  by_cases c0 : kind < 1 ∨ 4 < kind ∨ spread < 0 ∨ 2 < spread
  · have HE := Lib.hid (gHead_bad (n := n) c0)
    generalize gHead kind n spread = R at *
    have c1 : kind < 1 ∨ (¬ kind < 1 ∧ 4 < kind) ∨ (¬ kind < 1 ∧ ¬ 4 < kind ∧ spread < 0) ∨ (¬ kind < 1 ∧ ¬ 4 < kind ∧ ¬ spread < 0 ∧ 2 < spread) := by omega
    clear c0
    rcases c1 with c | ⟨c, d⟩ | ⟨c, d, e⟩ | ⟨c, d, e, f⟩
    all_goals (go_enter Try.func25, Try.ntmps25; go_wp2_with fail; go_ret; exact ⟨ret_int HE.out.symm, rfl⟩)
  · by_cases c2 : (kind = 1 ∧ n ≠ 4) ∨ (kind ≠ 1 ∧ n ≠ 3)
    · have HE := Lib.hid (gHead_cnt c0 c2)
      generalize gHead kind n spread = R at *
      by_cases k1 : kind = 1
      · subst k1
        have hn : ((n : Int) != 4) = true := by simp; omega
        go_enter Try.func25, Try.ntmps25
        go_wp2_with fail
        go_ret
        exact ⟨ret_int HE.out.symm, rfl⟩
      · have hn : ((n : Int) != 3) = true := by simp; omega
        have hk : (kind == 1) = false := by simpa using k1
        have hk2 : (kind != 1) = true := by simpa using k1
        go_enter Try.func25, Try.ntmps25
        go_wp2_with fail
        go_ret
        exact ⟨ret_int HE.out.symm, rfl⟩
    · have HE := Lib.hid (gHead_ok c0 c2)
      generalize gHead kind n spread = R at *
      by_cases k1 : kind = 1
      · subst k1
        obtain rfl : n = 4 := by omega
        go_enter Try.func25, Try.ntmps25
        go_wp2_with fail
        go_ret
        exact ⟨ret_int HE.out.symm, rfl⟩
      · obtain rfl : n = 3 := by omega
        have hk : (kind == 1) = false := by simpa using k1
        have hk2 : (kind != 1) = true := by simpa using k1
        go_enter Try.func25, Try.ntmps25
        go_wp2_with fail
        go_ret
        exact ⟨ret_int HE.out.symm, rfl⟩

set_option maxHeartbeats 2000000 in
theorem numbers_any (kind : Int) (v : Value) (zs : List Int) (w : World) (h : Nn w v zs) (hk : 1 ≤ kind ∧ kind ≤ 4) (hl : 3 ≤ zs.length) :
    Calls Try.prog 26 #[.int .i64 kind, v] w fun e w' => e = .returned (.int .i64 (gNum kind zs)) ∧ w = w' := by
  obtain ⟨a, cap, rfl, hlen⟩ := h.slice
  have HN := Lib.hid h
  clear h
  have HQ : Hid (gNums zs = ferr (gbad zs) (zs.length - 0) 0) := rfl
  have FA := Lib.hid (ferr_at (gbad zs) zs.length)
  have FG := Lib.hid (ferr_go (gbad zs) zs.length)
  have FE := Lib.hid (ferr_end (gbad zs) zs.length)
  have G1 := Lib.hid (@gNum_bad kind zs)
  have G2 := Lib.hid (@gNum_neg kind zs)
  have G3 := Lib.hid (@gNum_pos kind zs)
  have FB : Hid (∀ i, gbad zs i = if zs.getD i 0 < -1048576 ∨ 1048576 < zs.getD i 0 then 2 else 0) := fun i => rfl
  generalize gNum kind zs = R2 at *
  generalize zs.length = n at *
  go_enter Try.func26, Try.ntmps26
  go_wp2_with fail
  go_loopw [8] (fun i wr => ∃ k : Nat, k ≤ n ∧ i = .int .i64 k ∧ wr = w ∧ Hid (gNums zs = ferr (gbad zs) (n - k) k)) (fun i _ => n - (intOf i).toNat)
  case atStart => exact ⟨0, Nat.zero_le _, rfl, rfl, HQ⟩
  case round =>
    clear HQ
    obtain ⟨k, hk, rfl, rfl, HR⟩ := hrel
    by_cases hlt : k < n
    · obtain ⟨b, off, rfl, hc⟩ := HN.out.at k hlt
      have FB1 := Lib.hid (FB.out k)
      have i1 : (0 : Int) ≤ (k : Int) := by omega
      have i2 : (k : Int) < (n : Int) := by omega
      generalize zs.getD k 0 = z at hc FB1
      have hz : (z < -1048576) ∨ (¬ z < -1048576 ∧ 1048576 < z) ∨ (¬ z < -1048576 ∧ ¬ 1048576 < z) := by omega
      rcases hz with z1 | ⟨z1, z2⟩ | ⟨z1, z2⟩
      · have FB2 : Hid (gbad zs k = 2) := by show _ = _; rw [FB1.out, if_pos (by omega)]
        go_wp2_with fail
        go_ret
        have e2 : gNums zs = 2 := by rw [HR.out, FA.out k hlt (by rw [FB2.out]; decide), FB2.out]
        exact ⟨ret_int (by rw [G1.out (by rw [e2]; decide), e2]), rfl⟩
      · have FB2 : Hid (gbad zs k = 2) := by show _ = _; rw [FB1.out, if_pos (by omega)]
        go_wp2_with fail
        go_ret
        have e2 : gNums zs = 2 := by rw [HR.out, FA.out k hlt (by rw [FB2.out]; decide), FB2.out]
        exact ⟨ret_int (by rw [G1.out (by rw [e2]; decide), e2]), rfl⟩
      · have FB2 : Hid (gbad zs k = 0) := by show _ = _; rw [FB1.out, if_neg (by omega)]
        go_wp2_with fail
        go_roundw
        case rel => exact ⟨k + 1, by omega, by go_num, trivial, by show _ = _; rw [HR.out, FG.out k hlt FB2.out]⟩
        case measure => simp only [intOf]; omega
    · obtain rfl : k = n := by omega
      have e0 : gNums zs = 0 := by rw [HR.out, FE.out]
      have E0 := Lib.hid e0
      clear e0
      obtain rfl | rfl | rfl | rfl : kind = 1 ∨ kind = 2 ∨ kind = 3 ∨ kind = 4 := by omega
      · go_wp2_with fail
        go_ret
        exact ⟨ret_int (by rw [G3.out E0.out (by omega)]), rfl⟩
      · obtain ⟨b, off, rfl, hc⟩ := HN.out.at 2 (by omega)
        have i2 : (2 : Int) < (k : Int) := by omega
        by_cases hz : zs.getD 2 0 < 0
        · have HZ := Lib.hid hz
          generalize zs.getD 2 0 = z at hc hz
          go_wp2_with fail
          go_ret
          exact ⟨ret_int (by rw [G2.out E0.out (by simp) HZ.out]), rfl⟩
        · have HZ := Lib.hid hz
          generalize zs.getD 2 0 = z at hc hz
          go_wp2_with fail
          go_ret
          exact ⟨ret_int (by rw [G3.out E0.out (fun hh => by have := hh.2; have := HZ.out; omega)]), rfl⟩
      · go_wp2_with fail
        go_ret
        exact ⟨ret_int (by rw [G3.out E0.out (by omega)]), rfl⟩
      · obtain ⟨b, off, rfl, hc⟩ := HN.out.at 2 (by omega)
        have i2 : (2 : Int) < (k : Int) := by omega
        by_cases hz : zs.getD 2 0 < 0
        · have HZ := Lib.hid hz
          generalize zs.getD 2 0 = z at hc hz
          go_wp2_with fail
          go_ret
          exact ⟨ret_int (by rw [G2.out E0.out (by simp) HZ.out]), rfl⟩
        · have HZ := Lib.hid hz
          generalize zs.getD 2 0 = z at hc hz
          go_wp2_with fail
          go_ret
          exact ⟨ret_int (by rw [G3.out E0.out (fun hh => by have := hh.2; have := HZ.out; omega)]), rfl⟩
end Go.Proofs.Ytmejdhgknebbbaa
