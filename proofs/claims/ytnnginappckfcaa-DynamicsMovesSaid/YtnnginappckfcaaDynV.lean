/- The walks of package dynamics and of its reference, continued: Value. -/
import Derived.Test.YtnnginappckfcaaDyn
namespace Go.Proofs.Ytnnginappckfcaa
open Go.RowKit
set_option linter.unusedVariables false
attribute [local go_sem] Oper.gAt gUponK

set_option maxHeartbeats 1000000 in
theorem refDynCheck_any (v : Value) (ds : Dyns) (w : World) (h : Dn w v ds) :
    Calls Try.prog 12 #[v] w fun e w' => e = .returned (.int .i64 (dchk ds)) ∧ Below w.heap.size w w' := by
  obtain ⟨a, cap, rfl, hl, hr⟩ := h
  by_cases h8 : 8 < ds.length
  · have HQ : Hid (dchk ds = 3) := by show _ = _; unfold dchk; rw [if_pos h8]
    go_enter Try.func12, Try.ntmps12
    go_wp2
    go_ret
    exact ⟨ret_int HQ.out.symm, Below.refl _ _⟩
  · have HQ : Hid (dchk ds = ferr (dbad ds) (ds.length - 0) 0) := by show _ = _; unfold dchk; rw [if_neg h8]
    have HC : Hid (∀ i, i < ds.length → ∃ b off ac nc cc, a = some ⟨b, off, none⟩ ∧ Kn w (.slice ac nc cc) (dC ds i) ∧ ∀ w' : World, Below w.heap.size w w' → w'.cell? ⟨b, off + i * 3, none⟩ = some (.int .i64 (dT ds i)) ∧ w'.cell? ⟨b, off + i * 3 + 1, none⟩ = some (.int .i64 (dS ds i)) ∧ w'.cell? ⟨b, off + i * 3 + 2, none⟩ = some (.slice ac nc cc)) := fun i hi => by
      rcases hr with h0 | ⟨b, off, ha, hlt, hc⟩
      · omega
      · obtain ⟨ac, nc, cc, hk, hcell⟩ := Dn.at hlt hc i hi
        exact ⟨b, off, ac, nc, cc, ha, hk, hcell⟩
    clear hr
    have d8 : decide (8 < (ds.length : Int)) = false := by simp; omega
    generalize hn : ds.length = n at *
    have HN := Lib.hid hn
    clear hn
    go_enter Try.func12, Try.ntmps12
    go_wp2
    clear d8
    go_loopw [3, 4] (fun i _ wr => ∃ k : Nat, k ≤ n ∧ i = .int .i64 k ∧ Hid (dchk ds = ferr (dbad ds) (n - k) k) ∧ Below w.heap.size w wr) (fun i _ _ => n - (intOf i).toNat)
    case atStart => exact ⟨0, Nat.zero_le _, rfl, HQ, Below.refl _ _⟩
    case round =>
      obtain ⟨k, hk, rfl, HR, hb⟩ := hrel
      by_cases hlt2 : k < n
      · obtain ⟨b, off, ac, nc, cc, rfl, hkn, hcell⟩ := HC.out k hlt2
        obtain ⟨c1, c2, c3⟩ := hcell wr hb
        clear hcell
        have HK : Hid (dbad ds k = if dT ds k < 1 then 8 else if 4 < dT ds k then 8 else if dS ds k < 1 then 8 else if 5 < dS ds k then 8 else kchk (dC ds k)) := rfl
        have HF := Lib.hid (ferr_at (dbad ds) n k hlt2)
        have HG := Lib.hid (ferr_go (dbad ds) n k hlt2)
        have HKN := Lib.hid hkn
        clear hkn HC
        generalize dT ds k = T at *
        generalize dS ds k = S at *
        generalize dC ds k = C at *
        have bad : ∀ w2 : World, Below w.heap.size w w2 → dbad ds k = 8 → Hid (Ending.returned (.int .i64 8) = Ending.returned (.int .i64 (dchk ds))) := fun w2 hb2 h8' => ret_int (by rw [HR.out, HF.out (by rw [h8']; decide), h8'])
        have BAD := Lib.hid bad
        clear bad
        by_cases t1 : T < 1
        · have HE : Hid (dbad ds k = 8) := by show _ = _; rw [HK.out, if_pos t1]
          go_wp2
          go_ret
          exact ⟨(BAD.out _ hb HE.out).out, hb⟩
        by_cases t2 : 4 < T
        · have HE : Hid (dbad ds k = 8) := by show _ = _; rw [HK.out, if_neg t1, if_pos t2]
          go_wp2
          go_ret
          exact ⟨(BAD.out _ hb HE.out).out, hb⟩
        by_cases t3 : S < 1
        · have HE : Hid (dbad ds k = 8) := by show _ = _; rw [HK.out, if_neg t1, if_neg t2, if_pos t3]
          go_wp2
          go_ret
          exact ⟨(BAD.out _ hb HE.out).out, hb⟩
        by_cases t4 : 5 < S
        · have HE : Hid (dbad ds k = 8) := by show _ = _; rw [HK.out, if_neg t1, if_neg t2, if_neg t3, if_pos t4]
          go_wp2
          go_ret
          exact ⟨(BAD.out _ hb HE.out).out, hb⟩
        have HE : Hid (dbad ds k = kchk C) := by show _ = _; rw [HK.out, if_neg t1, if_neg t2, if_neg t3, if_neg t4]
        by_cases t5 : kchk C = 0
        · have T5 := Lib.hid t5
          clear t5
          go_wp2_with fail
          refine (refCurveCheck_any _ C _ (HKN.out.kept hb)).mono ?_
          rintro e w2 ⟨rfl, hb2⟩
          replace hb := hb.trans (hb2.mono hb.size)
          rw [T5.out]
          clear hb2
          go_wp2_with fail
          go_roundw
          case rel => exact ⟨k + 1, by omega, by go_num, by show _ = _; rw [HR.out, HG.out (by rw [HE.out, T5.out])], hb⟩
          case measure => simp [intOf]; omega
        · have g5 : (kchk C != 0) = true := by simpa using t5
          have T5 := Lib.hid t5
          clear t5
          go_wp2_with fail
          refine (refCurveCheck_any _ C _ (HKN.out.kept hb)).mono ?_
          rintro e w2 ⟨rfl, hb2⟩
          replace hb := hb.trans (hb2.mono hb.size)
          clear hb2
          go_wp2_with fail
          go_ret
          exact ⟨ret_int (by rw [HR.out, HF.out (by rw [HE.out]; exact T5.out), HE.out]), hb⟩
      · obtain rfl : k = n := by omega
        go_wp2
        go_ret
        exact ⟨ret_int (by rw [HR.out, ferr_end]), hb⟩

theorem dvalue_ok (ds : Dyns) (target : Int) (f : Int → Int) (h : dchk ds = 0) : dvalue ds target f = dfrom ds target f (ds.length - 0) 0 65535 := by unfold dvalue; rw [if_pos h]
theorem dvalue_bad (ds : Dyns) (target : Int) (f : Int → Int) (h : dchk ds ≠ 0) : dvalue ds target f = 65535 := by unfold dvalue; rw [if_neg h]
theorem dstep_hit (ds : Dyns) (target : Int) (f : Int → Int) (i : Nat) (v : Int) (h : dT ds i = target) : dstep ds target f i v = dv (cl v * cl (kat (dC ds i) (f (dS ds i)))) 65535 := by unfold dstep; rw [if_pos h]
theorem dstep_miss (ds : Dyns) (target : Int) (f : Int → Int) (i : Nat) (v : Int) (h : dT ds i ≠ target) : dstep ds target f i v = v := by unfold dstep; rw [if_neg h]

set_option maxHeartbeats 1000000 in
theorem dynValue_any (v : Value) (ds : Dyns) (target x y p t m speed index seed : Int) (w : World) (h : Dn w v ds) :
    Calls Try.prog 17 #[v, .int .i64 target, sv x y p t m, .int .i64 speed, .int .i64 index, .int .i64 seed] w fun e w' => e = .returned (.int .i64 (dvalue ds target (fun k => src k p t speed index seed))) ∧ Below w.heap.size w w' := by
  have HH := Lib.hid h
  obtain ⟨a, cap, rfl, hl, hr⟩ := h
  generalize hf : (fun k => src k p t speed index seed) = f
  have HFn : Hid (∀ k, f k = src k p t speed index seed) := fun k => by rw [← hf]
  clear hf
  by_cases h0 : dchk ds = 0
  · have HQ := Lib.hid (dvalue_ok ds target f h0)
    have H0 := Lib.hid h0
    clear h0
    have HC : Hid (∀ i, i < ds.length → ∃ b off ac nc cc, a = some ⟨b, off, none⟩ ∧ Kn w (.slice ac nc cc) (dC ds i) ∧ ∀ w' : World, Below w.heap.size w w' → w'.cell? ⟨b, off + i * 3, none⟩ = some (.int .i64 (dT ds i)) ∧ w'.cell? ⟨b, off + i * 3 + 1, none⟩ = some (.int .i64 (dS ds i)) ∧ w'.cell? ⟨b, off + i * 3 + 2, none⟩ = some (.slice ac nc cc)) := fun i hi => by
      rcases hr with h0 | ⟨b, off, ha, hlt, hc⟩
      · omega
      · obtain ⟨ac, nc, cc, hk, hcell⟩ := Dn.at hlt hc i hi
        exact ⟨b, off, ac, nc, cc, ha, hk, hcell⟩
    clear hr
    go_enter Try.func17, Try.ntmps17
    go_wp2_with fail
    refine callName1 (fun W k1 hb => ?_)
    refine (dynCheck_any _ ds _ (HH.out.kept hb)).mono ?_
    rintro e w2 ⟨rfl, hb2⟩
    replace hb := hb.trans (hb2.mono hb.size)
    replace k1 := k1.kept hb2
    rw [H0.out]
    clear hb2 HH
    generalize hn : ds.length = n at *
    have HN := Lib.hid hn
    clear hn
    go_wp2_with fail
    go_loopw [13, 15, 22] (fun q _ i wr => ∃ (k : Nat) (z : Int), k ≤ n ∧ i = .int .i64 k ∧ q = .int .i64 z ∧ Hid (dvalue ds target f = dfrom ds target f (n - k) k z) ∧ Below w.heap.size w wr ∧ Blk wr w.heap.size (.cells #[.int .i64 x, .int .i64 y, .int .i64 p, .int .i64 t, .int .i64 m] 28)) (fun _ _ i _ => n - (intOf i).toNat)
    case atStart => exact ⟨0, 65535, Nat.zero_le _, rfl, rfl, HQ, hb, k1⟩
    case round =>
      clear hb k1
      obtain ⟨k, z, hk, rfl, rfl, HR, hb, k1⟩ := hrel
      by_cases hlt2 : k < n
      · obtain ⟨b, off, ac, nc, cc, rfl, hkn, hcell⟩ := HC.out k hlt2
        obtain ⟨c1, c2, c3⟩ := hcell wr hb
        clear hcell
        have HG := Lib.hid (dfrom_go ds target f n k z hlt2)
        have HKN := Lib.hid hkn
        clear hkn HC
        by_cases ht : dT ds k = target
        · have HS := Lib.hid (dstep_hit ds target f k z ht)
          have g1 : (dT ds k == target) = true := by simpa using ht
          clear ht
          generalize dT ds k = T at *
          generalize dS ds k = S at *
          generalize dC ds k = C at *
          have hsb := src_bd S p t speed index seed
          have f1 : -9223372036854775808 ≤ src S p t speed index seed := by omega
          have f2 : src S p t speed index seed ≤ 9223372036854775807 := by omega
          go_wp2_with fail
          refine name1 (fun W2 k2 hb1 => ?_)
          replace k1 := k1.kept hb1
          replace hb := hb.trans (hb1.mono hb.size)
          clear hb1
          refine wp_region_grow 13 (fun w' => Below (World.heap W2).size W2 w') (by kernel_rfl) (by kernel_rfl) (Below.refl _ _).drew ?_
          simp only [List.take_succ_cons, List.take_zero, List.drop_succ_cons, List.drop_zero]
          repeat (first | (apply wpG_on; rfl; (intro w' hS K hK; have hc0 := (k1.kept hS).c5; have hc1 := (k2.kept hS).c3; go_simp; (first | exact hK.out _ hS | (go_at_call 15; (with_reducible refine (source_any _ _ _ _ _ _ _ _ _ _).mono ?_); rintro e w'' ⟨rfl, hbb⟩; exact ⟨_, rfl, hK.out _ (hS.trans (hbb.mono hS.size))⟩) | (go_at_call 20; (with_reducible refine (curveAt_any _ C _ _ (HKN.out.kept (hb.trans (hS.mono hb.size))) f1 f2).mono ?_); rintro e w'' ⟨rfl, hbb⟩; exact ⟨_, rfl, hK.out _ (hS.trans (hbb.mono hS.size))⟩) | (go_at_call 19; (with_reducible refine (mul_any _ _ _).mono ?_); rintro e w'' ⟨rfl, rfl⟩; exact ⟨_, rfl, hK.out _ hS⟩))); simp only [Act.put, List.setIfInBounds_toArray, List.set_cons_succ, List.set_cons_zero]) | (apply wpG_off; rfl; simp only [Act.put, List.setIfInBounds_toArray, List.set_cons_succ, List.set_cons_zero]))
          apply wpG_nil
          intro W3 hS
          replace k1 := k1.kept hS
          replace k2 := k2.kept hS
          replace hb := hb.trans (hS.mono hb.size)
          clear hS
          go_wp2_with fail
          go_roundw
          case rel => exact ⟨k + 1, _, by omega, by go_num, rfl, by show _ = _; rw [HR.out, HG.out, HS.out, HFn.out], hb, k1⟩
          case measure => simp [intOf]; omega
        · have HS := Lib.hid (dstep_miss ds target f k z ht)
          have g1 : (dT ds k == target) = false := by simpa using ht
          clear ht
          generalize dT ds k = T at *
          generalize dS ds k = S at *
          go_wp2_with fail
          go_roundw
          case rel => exact ⟨k + 1, _, by omega, by go_num, rfl, by show _ = _; rw [HR.out, HG.out, HS.out], hb.alloc hb.size _, k1.alloc _⟩
          case measure => simp [intOf]; omega
      · obtain rfl : k = n := by omega
        go_wp2
        go_ret
        exact ⟨ret_int (by rw [HR.out, dfrom_end]), hb⟩
  · have HQ := Lib.hid (dvalue_bad ds target f h0)
    have g0 : (dchk ds != 0) = true := by simpa using h0
    clear h0
    go_enter Try.func17, Try.ntmps17
    go_wp2_with fail
    refine callName1 (fun W k1 hb => ?_)
    refine (dynCheck_any _ ds _ (HH.out.kept hb)).mono ?_
    rintro e w2 ⟨rfl, hb2⟩
    replace hb := hb.trans (hb2.mono hb.size)
    go_wp2_with fail
    go_ret
    exact ⟨ret_int HQ.out.symm, hb⟩
set_option maxHeartbeats 1000000 in
theorem refDynValue_any (v : Value) (ds : Dyns) (target x y p t m speed index seed : Int) (w : World) (h : Dn w v ds) :
    Calls Try.prog 18 #[v, .int .i64 target, sv x y p t m, .int .i64 speed, .int .i64 index, .int .i64 seed] w fun e w' => e = .returned (.int .i64 (dvalue ds target (fun k => src k p t speed index seed))) ∧ Below w.heap.size w w' := by
  have HH := Lib.hid h
  obtain ⟨a, cap, rfl, hl, hr⟩ := h
  generalize hf : (fun k => src k p t speed index seed) = f
  have HFn : Hid (∀ k, f k = src k p t speed index seed) := fun k => by rw [← hf]
  clear hf
  by_cases h0 : dchk ds = 0
  · have HQ := Lib.hid (dvalue_ok ds target f h0)
    have H0 := Lib.hid h0
    clear h0
    have HC : Hid (∀ i, i < ds.length → ∃ b off ac nc cc, a = some ⟨b, off, none⟩ ∧ Kn w (.slice ac nc cc) (dC ds i) ∧ ∀ w' : World, Below w.heap.size w w' → w'.cell? ⟨b, off + i * 3, none⟩ = some (.int .i64 (dT ds i)) ∧ w'.cell? ⟨b, off + i * 3 + 1, none⟩ = some (.int .i64 (dS ds i)) ∧ w'.cell? ⟨b, off + i * 3 + 2, none⟩ = some (.slice ac nc cc)) := fun i hi => by
      rcases hr with h0 | ⟨b, off, ha, hlt, hc⟩
      · omega
      · obtain ⟨ac, nc, cc, hk, hcell⟩ := Dn.at hlt hc i hi
        exact ⟨b, off, ac, nc, cc, ha, hk, hcell⟩
    clear hr
    go_enter Try.func18, Try.ntmps18
    go_wp2_with fail
    refine callName1 (fun W k1 hb => ?_)
    refine (refDynCheck_any _ ds _ (HH.out.kept hb)).mono ?_
    rintro e w2 ⟨rfl, hb2⟩
    replace hb := hb.trans (hb2.mono hb.size)
    replace k1 := k1.kept hb2
    rw [H0.out]
    clear hb2 HH
    generalize hn : ds.length = n at *
    have HN := Lib.hid hn
    clear hn
    go_wp2_with fail
    go_loopw [13, 14] (fun q i wr => ∃ (k : Nat) (z : Int), k ≤ n ∧ i = .int .i64 k ∧ q = .int .i64 z ∧ Hid (dvalue ds target f = dfrom ds target f (n - k) k z) ∧ Below w.heap.size w wr ∧ Blk wr w.heap.size (.cells #[.int .i64 x, .int .i64 y, .int .i64 p, .int .i64 t, .int .i64 m] 28)) (fun _ i _ => n - (intOf i).toNat)
    case atStart => exact ⟨0, 65535, Nat.zero_le _, rfl, rfl, HQ, hb, k1⟩
    case round =>
      clear hb k1
      obtain ⟨k, z, hk, rfl, rfl, HR, hb, k1⟩ := hrel
      by_cases hlt2 : k < n
      · obtain ⟨b, off, ac, nc, cc, rfl, hkn, hcell⟩ := HC.out k hlt2
        obtain ⟨c1, c2, c3⟩ := hcell wr hb
        have HCE := Lib.hid hcell
        clear hcell
        have hi4 : (0 : Int) ≤ (k : Int) := by omega
        have hi5 : (k : Int) < (n : Int) := by omega
        have HG := Lib.hid (dfrom_go ds target f n k z hlt2)
        have HKN := Lib.hid hkn
        clear hkn HC
        by_cases ht : dT ds k = target
        · have HS := Lib.hid (dstep_hit ds target f k z ht)
          have g1 : (dT ds k == target) = true := by simpa using ht
          clear ht
          generalize dT ds k = T at *
          generalize dS ds k = S at *
          generalize dC ds k = C at *
          have hsb := src_bd S p t speed index seed
          have f1 : -9223372036854775808 ≤ src S p t speed index seed := by omega
          have f2 : src S p t speed index seed ≤ 9223372036854775807 := by omega
          go_wp2_with fail
          clear c1 c2 c3
          refine wp_region_grow 19 (fun w' => Below (World.heap wr).size wr w') (by kernel_rfl) (by kernel_rfl) (Below.refl _ _).drew ?_
          simp only [List.take_succ_cons, List.take_zero, List.drop_succ_cons, List.drop_zero]
          repeat (first | (apply wpG_on; rfl; (intro w' hS K hK; have hc0 := (k1.kept hS).c5; have hr0 := HCE.out _ (hb.trans (hS.mono hb.size)); go_simp; (first | exact hK.out _ hS | (go_at_call 16; (with_reducible refine (refSource_any _ _ _ _ _ _ _ _ _ _).mono ?_); rintro e w'' ⟨rfl, hbb⟩; exact ⟨_, rfl, hK.out _ (hS.trans (hbb.mono hS.size))⟩) | (go_at_call 35; (with_reducible refine (refCurveAt_any _ C _ _ (HKN.out.kept (hb.trans (hS.mono hb.size))) f1 f2).mono ?_); rintro e w'' ⟨rfl, hbb⟩; exact ⟨_, rfl, hK.out _ (hS.trans (hbb.mono hS.size))⟩) | (go_at_call 34; (with_reducible refine (refMul_any _ _ _).mono ?_); rintro e w'' ⟨rfl, nn, rfl⟩; exact ⟨_, rfl, hK.out _ (belowN hS nn)⟩))); simp only [Act.put, List.setIfInBounds_toArray, List.set_cons_succ, List.set_cons_zero]) | (apply wpG_off; rfl; simp only [Act.put, List.setIfInBounds_toArray, List.set_cons_succ, List.set_cons_zero]))
          apply wpG_nil
          intro W3 hS
          replace k1 := k1.kept hS
          replace hb := hb.trans (hS.mono hb.size)
          clear hS
          go_wp2_with fail
          go_roundw
          case rel => exact ⟨k + 1, _, by omega, by go_num, rfl, by show _ = _; rw [HR.out, HG.out, HS.out, HFn.out], hb, k1⟩
          case measure => simp [intOf]; omega
        · have HS := Lib.hid (dstep_miss ds target f k z ht)
          have g1 : (dT ds k == target) = false := by simpa using ht
          clear ht
          generalize dT ds k = T at *
          generalize dS ds k = S at *
          go_wp2_with fail
          go_roundw
          case rel => exact ⟨k + 1, _, by omega, by go_num, rfl, by show _ = _; rw [HR.out, HG.out, HS.out], hb, k1⟩
          case measure => simp [intOf]; omega
      · obtain rfl : k = n := by omega
        go_wp2
        go_ret
        exact ⟨ret_int (by rw [HR.out, dfrom_end]), hb⟩
  · have HQ := Lib.hid (dvalue_bad ds target f h0)
    have g0 : (dchk ds != 0) = true := by simpa using h0
    clear h0
    go_enter Try.func18, Try.ntmps18
    go_wp2_with fail
    refine callName1 (fun W k1 hb => ?_)
    refine (refDynCheck_any _ ds _ (HH.out.kept hb)).mono ?_
    rintro e w2 ⟨rfl, hb2⟩
    replace hb := hb.trans (hb2.mono hb.size)
    go_wp2_with fail
    go_ret
    exact ⟨ret_int HQ.out.symm, hb⟩
end Go.Proofs.Ytnnginappckfcaa
