/- The walks of package dynamics and of its reference, continued: Value. -/
import Derived.Test.YtflegfoalkkkdaaDoorDyn
namespace Go.Proofs.YtflegfoalkkkdaaDoor
open Go.RowKit
set_option linter.unusedVariables false
attribute [local go_sem] Oper.gAt gUponK

set_option maxHeartbeats 1000000 in
theorem refDynCheck_any (v : Value) (ds : Dyns) (w : World) (h : Dn w v ds) :
    Calls Tryd.prog 25 #[v] w fun e w' => e = .returned (.int .i64 (dchk ds)) ∧ Below w.heap.size w w' := by
  obtain ⟨a, cap, rfl, hl, hr⟩ := h
  by_cases h8 : 8 < ds.length
  · have HQ : Hid (dchk ds = 3) := by show _ = _; unfold dchk; rw [if_pos h8]
    go_enter Tryd.func25, Tryd.ntmps25
    go_wp2
    go_ret
    exact ⟨ret_int HQ.out.symm, Below.refl _ _⟩
  · have HQ : Hid (dchk ds = ferr (dbad ds) (ds.length - 0) 0) := by show _ = _; unfold dchk; rw [if_neg h8]
    have HC : Hid (∀ i, i < ds.length → ∃ b off ac nc cc, a = some ⟨b, off, none⟩ ∧ Kn w (.slice ac nc cc) (dC ds i) ∧ ∀ w' : World, Below w.heap.size w w' → w'.cell? ⟨b, off + i * 3, none⟩ = some (.int .i64 (dT ds i)) ∧ w'.cell? ⟨b, off + i * 3 + 1, none⟩ = some (.int .i64 (dS ds i)) ∧ w'.cell? ⟨b, off + i * 3 + 2, none⟩ = some (.slice ac nc cc)) := fun i hi => by
      rcases hr with h0 | ⟨b, off, ha, hlt, hc⟩
      · omega
      · obtain ⟨ac, nc, cc, hk, hcell⟩ := Dn.at hlt hc i hi
        exact ⟨b, off, ac, nc, cc, ha, hk, hcell⟩
    clear hr
    have d8 : decide (8 < (ds.length : Int)) = false := by simp; omega
    generalize hn : ds.length = n at *
    have HN := Lib.hid hn
    clear hn
    go_enter Tryd.func25, Tryd.ntmps25
    go_wp2
    clear d8
    go_loopw [3, 4] (fun i _ wr => ∃ k : Nat, k ≤ n ∧ i = .int .i64 k ∧ Hid (dchk ds = ferr (dbad ds) (n - k) k) ∧ Below w.heap.size w wr) (fun i _ _ => n - (intOf i).toNat)
    case atStart => exact ⟨0, Nat.zero_le _, rfl, HQ, Below.refl _ _⟩
    case round =>
      obtain ⟨k, hk, rfl, HR, hb⟩ := hrel
      by_cases hlt2 : k < n
      · obtain ⟨b, off, ac, nc, cc, rfl, hkn, hcell⟩ := HC.out k hlt2
        obtain ⟨c1, c2, c3⟩ := hcell wr hb
        clear hcell
        have HK : Hid (dbad ds k = if dT ds k < 1 then 8 else if 4 < dT ds k then 8 else if dS ds k < 1 then 8 else if 5 < dS ds k then 8 else kchk (dC ds k)) := rfl
        have HF := Lib.hid (ferr_at (dbad ds) n k hlt2)
        have HG := Lib.hid (ferr_go (dbad ds) n k hlt2)
        have HKN := Lib.hid hkn
        clear hkn HC
        generalize dT ds k = T at *
        generalize dS ds k = S at *
        generalize dC ds k = C at *
        have bad : ∀ w2 : World, Below w.heap.size w w2 → dbad ds k = 8 → Hid (Ending.returned (.int .i64 8) = Ending.returned (.int .i64 (dchk ds))) := fun w2 hb2 h8' => ret_int (by rw [HR.out, HF.out (by rw [h8']; decide), h8'])
        have BAD := Lib.hid bad
        clear bad
        by_cases t1 : T < 1
        · have HE : Hid (dbad ds k = 8) := by show _ = _; rw [HK.out, if_pos t1]
          go_wp2
          go_ret
          exact ⟨(BAD.out _ hb HE.out).out, hb⟩
        by_cases t2 : 4 < T
        · have HE : Hid (dbad ds k = 8) := by show _ = _; rw [HK.out, if_neg t1, if_pos t2]
          go_wp2
          go_ret
          exact ⟨(BAD.out _ hb HE.out).out, hb⟩
        by_cases t3 : S < 1
        · have HE : Hid (dbad ds k = 8) := by show _ = _; rw [HK.out, if_neg t1, if_neg t2, if_pos t3]
          go_wp2
          go_ret
          exact ⟨(BAD.out _ hb HE.out).out, hb⟩
        by_cases t4 : 5 < S
        · have HE : Hid (dbad ds k = 8) := by show _ = _; rw [HK.out, if_neg t1, if_neg t2, if_neg t3, if_pos t4]
          go_wp2
          go_ret
          exact ⟨(BAD.out _ hb HE.out).out, hb⟩
        have HE : Hid (dbad ds k = kchk C) := by show _ = _; rw [HK.out, if_neg t1, if_neg t2, if_neg t3, if_neg t4]
        by_cases t5 : kchk C = 0
        · have T5 := Lib.hid t5
          clear t5
          go_wp2_with fail
          refine (refCurveCheck_any _ C _ (HKN.out.kept hb)).mono ?_
          rintro e w2 ⟨rfl, hb2⟩
          replace hb := hb.trans (hb2.mono hb.size)
          rw [T5.out]
          clear hb2
          go_wp2_with fail
          go_roundw
          case rel => exact ⟨k + 1, by omega, by go_num, by show _ = _; rw [HR.out, HG.out (by rw [HE.out, T5.out])], hb⟩
          case measure => simp [intOf]; omega
        · have g5 : (kchk C != 0) = true := by simpa using t5
          have T5 := Lib.hid t5
          clear t5
          go_wp2_with fail
          refine (refCurveCheck_any _ C _ (HKN.out.kept hb)).mono ?_
          rintro e w2 ⟨rfl, hb2⟩
          replace hb := hb.trans (hb2.mono hb.size)
          clear hb2
          go_wp2_with fail
          go_ret
          exact ⟨ret_int (by rw [HR.out, HF.out (by rw [HE.out]; exact T5.out), HE.out]), hb⟩
      · obtain rfl : k = n := by omega
        go_wp2
        go_ret
        exact ⟨ret_int (by rw [HR.out, ferr_end]), hb⟩

theorem dvalue_ok (ds : Dyns) (target : Int) (f : Int → Int) (h : dchk ds = 0) : dvalue ds target f = dfrom ds target f (ds.length - 0) 0 65535 := by unfold dvalue; rw [if_pos h]
theorem dvalue_bad (ds : Dyns) (target : Int) (f : Int → Int) (h : dchk ds ≠ 0) : dvalue ds target f = 65535 := by unfold dvalue; rw [if_neg h]
theorem dstep_hit (ds : Dyns) (target : Int) (f : Int → Int) (i : Nat) (v : Int) (h : dT ds i = target) : dstep ds target f i v = dv (cl v * cl (kat (dC ds i) (f (dS ds i)))) 65535 := by unfold dstep; rw [if_pos h]
theorem dstep_miss (ds : Dyns) (target : Int) (f : Int → Int) (i : Nat) (v : Int) (h : dT ds i ≠ target) : dstep ds target f i v = v := by unfold dstep; rw [if_neg h]
end Go.Proofs.YtflegfoalkkkdaaDoor
