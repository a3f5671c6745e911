/- The walks of package dynamics and of its reference: Check, Speed, Source. -/
import Derived.Test.YtflegfoalkkkdaaDoorCurveRef
import Derived.Test.YtflegfoalkkkdaaDoorHyp
import Derived.Test.YtflegfoalkkkdaaDoorRand
import Derived.Test.YtflegfoalkkkdaaDoorDynPlain
import Derived.Lib.MinMax
namespace Go.Proofs.YtflegfoalkkkdaaDoor
open Go.RowKit
set_option linter.unusedVariables false
attribute [local go_sem] Oper.gAt gUponK

abbrev sv (x y p t m : Int) : Value := .agg #[.int .i64 x, .int .i64 y, .int .i64 p, .int .i64 t, .int .i64 m]

/-- The slice value v reads as the elements ds. -/
def Dn (w : World) (v : Value) (ds : Dyns) : Prop :=
  ∃ a cap, v = .slice a ds.length cap ∧ ds.length ≤ 9223372036854775807 ∧ (ds.length = 0 ∨ ∃ b off, a = some ⟨b, off, none⟩ ∧ b < w.heap.size ∧
    ∀ i, i < ds.length → w.cell? ⟨b, off + i * 3, none⟩ = some (.int .i64 (dT ds i)) ∧ w.cell? ⟨b, off + i * 3 + 1, none⟩ = some (.int .i64 (dS ds i)) ∧ ∃ c, w.cell? ⟨b, off + i * 3 + 2, none⟩ = some c ∧ Kn w c (dC ds i))
theorem Dn.kept {w w' : World} {v : Value} {ds : Dyns} (h : Dn w v ds) (hb : Below w.heap.size w w') : Dn w' v ds := by
  obtain ⟨a, cap, hv, hl, hr⟩ := h
  refine ⟨a, cap, hv, hl, ?_⟩
  rcases hr with h0 | ⟨b, off, ha, hlt, hc⟩
  · exact .inl h0
  · refine .inr ⟨b, off, ha, Nat.lt_of_lt_of_le hlt hb.size, fun i hi => ?_⟩
    rw [hb.cell (p := ⟨b, off + i * 3, none⟩) hlt, hb.cell (p := ⟨b, off + i * 3 + 1, none⟩) hlt, hb.cell (p := ⟨b, off + i * 3 + 2, none⟩) hlt]
    obtain ⟨h1, h2, c, h3, h4⟩ := hc i hi
    exact ⟨h1, h2, c, h3, h4.kept hb⟩
/-- The cells of element i, in any later world. -/
theorem Dn.at {w : World} {b off : Nat} {ds : Dyns} (hlt : b < w.heap.size)
    (hc : ∀ i, i < ds.length → w.cell? ⟨b, off + i * 3, none⟩ = some (.int .i64 (dT ds i)) ∧ w.cell? ⟨b, off + i * 3 + 1, none⟩ = some (.int .i64 (dS ds i)) ∧ ∃ c, w.cell? ⟨b, off + i * 3 + 2, none⟩ = some c ∧ Kn w c (dC ds i)) (i : Nat) (hi : i < ds.length) :
    ∃ a n cap, Kn w (.slice a n cap) (dC ds i) ∧ ∀ w' : World, Below w.heap.size w w' → w'.cell? ⟨b, off + i * 3, none⟩ = some (.int .i64 (dT ds i)) ∧ w'.cell? ⟨b, off + i * 3 + 1, none⟩ = some (.int .i64 (dS ds i)) ∧ w'.cell? ⟨b, off + i * 3 + 2, none⟩ = some (.slice a n cap) := by
  obtain ⟨h1, h2, c, h3, h4⟩ := hc i hi
  have h5 := h4
  obtain ⟨a, cap, rfl, _⟩ := h5
  refine ⟨a, _, cap, h4, fun w' hb => ?_⟩
  rw [hb.cell (p := ⟨b, off + i * 3, none⟩) hlt, hb.cell (p := ⟨b, off + i * 3 + 1, none⟩) hlt, hb.cell (p := ⟨b, off + i * 3 + 2, none⟩) hlt]
  exact ⟨h1, h2, h3⟩

theorem tm_ref (x : Int) : min (max x 0) 1073741824 = tm x := by unfold tm; omega

theorem src_1 (p t speed index seed : Int) : src 1 p t speed index seed = cl p := rfl
theorem src_2 (p t speed index seed : Int) : src 2 p t speed index seed = cl t := rfl
theorem src_3 (p t speed index seed : Int) : src 3 p t speed index seed = cl speed := rfl
theorem src_4 (p t speed index seed : Int) : src 4 p t speed index seed = atI seed index 1 / 65537 := rfl
theorem src_5 (p t speed index seed : Int) : src 5 p t speed index seed = 65535 - min 65535 (1024 * min 64 (max index 0)) := rfl
theorem src_0 (kind p t speed index seed : Int) (h : kind < 1 ∨ 5 < kind) : src kind p t speed index seed = 0 := by
  unfold src
  repeat' rw [if_neg (by omega)]
theorem fade_min (m : Int) (h0 : 0 ≤ m) : (if 1024 * m < 65535 then 1024 * m else 65535) = min 65535 (1024 * m) := by split <;> omega

set_option maxHeartbeats 1000000 in
theorem dynCheck_any (v : Value) (ds : Dyns) (w : World) (h : Dn w v ds) :
    Calls Tryd.prog 22 #[v] w fun e w' => e = .returned (.int .i64 (dchk ds)) ∧ Below w.heap.size w w' := by
  obtain ⟨a, cap, rfl, hl, hr⟩ := h
  by_cases h8 : 8 < ds.length
  · have HQ : Hid (dchk ds = 3) := by show _ = _; unfold dchk; rw [if_pos h8]
    go_enter Tryd.func22, Tryd.ntmps22
    go_wp2
    go_ret
    exact ⟨ret_int HQ.out.symm, Below.refl _ _⟩
  · have HQ : Hid (dchk ds = ferr (dbad ds) (ds.length - 0) 0) := by show _ = _; unfold dchk; rw [if_neg h8]
    have HC : Hid (∀ i, i < ds.length → ∃ b off ac nc cc, a = some ⟨b, off, none⟩ ∧ Kn w (.slice ac nc cc) (dC ds i) ∧ ∀ w' : World, Below w.heap.size w w' → w'.cell? ⟨b, off + i * 3, none⟩ = some (.int .i64 (dT ds i)) ∧ w'.cell? ⟨b, off + i * 3 + 1, none⟩ = some (.int .i64 (dS ds i)) ∧ w'.cell? ⟨b, off + i * 3 + 2, none⟩ = some (.slice ac nc cc)) := fun i hi => by
      rcases hr with h0 | ⟨b, off, ha, hlt, hc⟩
      · omega
      · obtain ⟨ac, nc, cc, hk, hcell⟩ := Dn.at hlt hc i hi
        exact ⟨b, off, ac, nc, cc, ha, hk, hcell⟩
    clear hr
    have d8 : decide (8 < (ds.length : Int)) = false := by simp; omega
    generalize hn : ds.length = n at *
    have HN := Lib.hid hn
    clear hn
    go_enter Tryd.func22, Tryd.ntmps22
    go_wp2
    clear d8
    go_loopw [4, 5, 11] (fun _ _ i wr => ∃ k : Nat, k ≤ n ∧ i = .int .i64 k ∧ Hid (dchk ds = ferr (dbad ds) (n - k) k) ∧ Below w.heap.size w wr) (fun _ _ i _ => n - (intOf i).toNat)
    case atStart => exact ⟨0, Nat.zero_le _, rfl, HQ, Below.refl _ _⟩
    case round =>
      obtain ⟨k, hk, rfl, HR, hb⟩ := hrel
      by_cases hlt2 : k < n
      · obtain ⟨b, off, ac, nc, cc, rfl, hkn, hcell⟩ := HC.out k hlt2
        obtain ⟨c1, c2, c3⟩ := hcell wr hb
        clear hcell
        have HK : Hid (dbad ds k = if dT ds k < 1 then 8 else if 4 < dT ds k then 8 else if dS ds k < 1 then 8 else if 5 < dS ds k then 8 else kchk (dC ds k)) := rfl
        have HF := Lib.hid (ferr_at (dbad ds) n k hlt2)
        have HG := Lib.hid (ferr_go (dbad ds) n k hlt2)
        have HKN := Lib.hid hkn
        clear hkn HC
        generalize dT ds k = T at *
        generalize dS ds k = S at *
        generalize dC ds k = C at *
        have bad : ∀ w2 : World, Below w.heap.size w w2 → dbad ds k = 8 → Hid (Ending.returned (.int .i64 8) = Ending.returned (.int .i64 (dchk ds))) := fun w2 hb2 h8' => ret_int (by rw [HR.out, HF.out (by rw [h8']; decide), h8'])
        have BAD := Lib.hid bad
        clear bad
        have hbA : Below w.heap.size w (wr.alloc (.cells #[.int .i64 T, .int .i64 S, .slice ac nc cc] 65)) := hb.alloc hb.size _
        by_cases t1 : T < 1
        · have HE : Hid (dbad ds k = 8) := by show _ = _; rw [HK.out, if_pos t1]
          go_wp2
          go_ret
          exact ⟨(BAD.out _ hb HE.out).out, hbA⟩
        by_cases t2 : 4 < T
        · have HE : Hid (dbad ds k = 8) := by show _ = _; rw [HK.out, if_neg t1, if_pos t2]
          go_wp2
          go_ret
          exact ⟨(BAD.out _ hb HE.out).out, hbA⟩
        by_cases t3 : S < 1
        · have HE : Hid (dbad ds k = 8) := by show _ = _; rw [HK.out, if_neg t1, if_neg t2, if_pos t3]
          go_wp2
          go_ret
          exact ⟨(BAD.out _ hb HE.out).out, hbA⟩
        by_cases t4 : 5 < S
        · have HE : Hid (dbad ds k = 8) := by show _ = _; rw [HK.out, if_neg t1, if_neg t2, if_neg t3, if_pos t4]
          go_wp2
          go_ret
          exact ⟨(BAD.out _ hb HE.out).out, hbA⟩
        have HE : Hid (dbad ds k = kchk C) := by show _ = _; rw [HK.out, if_neg t1, if_neg t2, if_neg t3, if_neg t4]
        by_cases t5 : kchk C = 0
        · have T5 := Lib.hid t5
          clear t5
          go_wp2_with fail
          refine callName1 (fun W k1 hb1 => ?_)
          replace hb := hb.trans (hb1.mono hb.size)
          clear hbA hb1
          refine (curveCheck_any _ C _ (HKN.out.kept hb)).mono ?_
          rintro e w2 ⟨rfl, hb2⟩
          replace hb := hb.trans (hb2.mono hb.size)
          rw [T5.out]
          clear hb2
          go_wp2_with fail
          go_roundw
          case rel => exact ⟨k + 1, by omega, by go_num, by show _ = _; rw [HR.out, HG.out (by rw [HE.out, T5.out])], hb⟩
          case measure => simp [intOf]; omega
        · have g5 : (kchk C != 0) = true := by simpa using t5
          have T5 := Lib.hid t5
          clear t5
          go_wp2_with fail
          refine callName1 (fun W k1 hb1 => ?_)
          replace hb := hb.trans (hb1.mono hb.size)
          clear hbA hb1
          refine (curveCheck_any _ C _ (HKN.out.kept hb)).mono ?_
          rintro e w2 ⟨rfl, hb2⟩
          replace hb := hb.trans (hb2.mono hb.size)
          clear hb2
          go_wp2_with fail
          go_ret
          exact ⟨ret_int (by rw [HR.out, HF.out (by rw [HE.out]; exact T5.out), HE.out]), hb⟩
      · obtain rfl : k = n := by omega
        go_wp2
        go_ret
        exact ⟨ret_int (by rw [HR.out, ferr_end]), hb⟩
end Go.Proofs.YtflegfoalkkkdaaDoor
