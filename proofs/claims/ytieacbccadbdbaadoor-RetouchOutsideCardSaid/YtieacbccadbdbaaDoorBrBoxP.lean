/- brush.Box. -/
import Derived.Test.YtieacbccadbdbaaDoorLDab
import Derived.Test.YtieacbccadbdbaaDoorLCovR
import Derived.Test.YtieacbccadbdbaaDoorLBru
import Derived.Test.YtieacbccadbdbaaDoorLBrD
import Derived.Deep.Cut
namespace Go.Proofs.YtieacbccadbdbaaDoor
open Go.RowKit
set_option linter.unusedVariables false
attribute [local go_sem] Oper.gAt gUponK Oper.sAt stilK

set_option maxRecDepth 20000 in
set_option maxHeartbeats 4000000 in
theorem brBox_any (v : Value) (ds : List Dab) (w : World) (h : Bm w v ds) : Calls Tryd.prog 19 #[v] w fun e w' => e = .returned (rvx (bbox ds)) ∧ Below w.heap.size w w' := by
  have HQ := Lib.hid h
  have hlen := Qn.len h
  obtain ⟨a, cap, rfl⟩ := Qn.slice h
  have HA := Lib.hid (fun hn => Qn.all h hn)
  have HR : Hid (bbox ds = bfrom ds (ds.length - 0) 0 r0) := rfl
  have FG := Lib.hid (fun k r h => bfrom_go ds ds.length k r h)
  have FE := Lib.hid (fun r => bfrom_end ds ds.length r)
  clear h HQ
  generalize hn : ds.length = n at *
  have HN := Lib.hid hn
  clear hn
  generalize bbox ds = R at *
  go_enter Tryd.func19, Tryd.ntmps19
  go_upto_region 2 with (fail)
  refine name2 (fun W kr kx hb => ?_)
  go_wp2_with fail
  go_loopw [8] (fun i wr => ∃ (k : Nat) (x y ww hh : Int), k ≤ n ∧ i = .int .i64 k ∧ Hid (R = bfrom ds (n - k) k (x, y, ww, hh)) ∧ Blk wr (w.heap.size + 1) (.cells #[.int .i64 x, .int .i64 y, .int .i64 ww, .int .i64 hh] 35 (0, 0)) ∧ Blk wr w.heap.size (.cells #[.int .i64 0, .int .i64 0, .int .i64 0, .int .i64 0] 35 (0, 0)) ∧ Below w.heap.size w wr) (fun i _ => n - (intOf i).toNat)
  case atStart => exact ⟨0, 0, 0, 0, 0, Nat.zero_le _, rfl, HR, kx, kr, hb⟩
  case round =>
    clear kr kx hb HR
    obtain ⟨k, x, y, ww, hh, hk, rfl, HR, kx, kr, hb⟩ := hrel
    by_cases hlt : k < n
    · obtain ⟨bl, off, rfl, hbl, hall⟩ := HA.out (by omega)
      have hc := hall k hlt _ hb
      have HC := Lib.hid (fun w' h => hall k hlt w' h)
      unfold At5 d5 at hc HC
      simp only at hc HC
      clear hall
      have BX := Lib.hid (fun w => dabBox_any (dbAt ds k) w)
      have HG := Lib.hid (FG.out k (x, y, ww, hh) hlt)
      generalize dbAt ds k = d at *
      generalize dbox d = b at *
      obtain ⟨b0, b1, b2, b3⟩ := b
      replace BX : Hid (∀ w, Calls Tryd.prog 46 #[dbv d] w fun e w' => e = .returned (.agg #[.int .i64 b0, .int .i64 b1, .int .i64 b2, .int .i64 b3]) ∧ Below w.heap.size w w') := BX
      have JN := Lib.hid (fun w => rjoin_any x y ww hh b0 b1 b2 b3 w)
      generalize rjoin (x, y, ww, hh) (b0, b1, b2, b3) = j at *
      obtain ⟨j0, j1, j2, j3⟩ := j
      replace JN : Hid (∀ w, Calls Tryd.prog 55 #[.agg #[.int .i64 x, .int .i64 y, .int .i64 ww, .int .i64 hh], .agg #[.int .i64 b0, .int .i64 b1, .int .i64 b2, .int .i64 b3]] w fun e w' => e = .returned (.agg #[.int .i64 j0, .int .i64 j1, .int .i64 j2, .int .i64 j3]) ∧ Below w.heap.size w w') := JN
      have i1 : (0 : Int) ≤ (k : Int) := by omega
      have i2 : (k : Int) < (n : Int) := by omega
      have lx := kx.lt
      go_upto_region 5 with (fail)
      refine name1 (fun W2 kd hS => ?_)
      replace kx := kx.kept hS
      replace kr := kr.kept hS
      replace hb := hb.trans (hS.mono hb.size)
      clear hS hc HC
      refine wp_region_grow 4 (fun w' => Below (World.heap W2).size W2 w') (by kernel_rfl) (by kernel_rfl) (Below.refl _ _).drew ?_
      simp only [List.take_succ_cons, List.take_zero, List.drop_succ_cons, List.drop_zero]
      repeat (first | (apply wpG_on; rfl; (intro w' hS K hK; have hc0 := (kx.kept hS).c4; have hc1 := (kr.kept hS).c4; have hc2 := (kd.kept hS).c5; go_simp; (first | exact hK.out _ hS | (go_at_call 46; (with_reducible refine (BX.out _).mono ?_); rintro e w'' ⟨rfl, hbb⟩; exact ⟨_, rfl, hK.out _ (hS.trans (hbb.mono hS.size))⟩) | (go_at_call 55; (with_reducible refine (JN.out _).mono ?_); rintro e w'' ⟨rfl, hbb⟩; exact ⟨_, rfl, hK.out _ (hS.trans (hbb.mono hS.size))⟩))); simp only [Act.put, List.setIfInBounds_toArray, List.set_cons_succ, List.set_cons_zero]) | (apply wpG_off; rfl; simp only [Act.put, List.setIfInBounds_toArray, List.set_cons_succ, List.set_cons_zero]))
      apply wpG_nil
      intro W3 hS
      replace kx := kx.kept hS
      replace kr := kr.kept hS
      replace kd := kd.kept hS
      replace hb := hb.trans (hS.mono hb.size)
      clear hS
      have cx := kx.c4
      go_upto_region 6 with (fail)
      refine mid4 hb kx (by omega) (fun W4 kx hk hb => ?_)
      replace kr := hk _ _ (by omega) kr
      clear hk cx
      go_wp2_with fail
      go_roundw
      case rel => exact ⟨k + 1, j0, j1, j2, j3, by omega, by go_num, by show _ = _; rw [HR.out, HG.out], kx, kr, hb⟩
      case measure => simp [intOf]; omega
    · obtain rfl : k = n := by omega
      have HE : Hid (R = (x, y, ww, hh)) := by show _ = _; rw [HR.out, FE.out]
      have c1 := kx.c4
      have c2 := kr.c4
      go_wp2_with fail
      exact end4 hb kr (Nat.le_refl _) (fun w3 c3 => by simp [results, Tryd.results19, go_sem, c3]) rfl (fun w3 hb3 => ⟨by rw [HE.out]; rfl, hb3⟩)
end Go.Proofs.YtieacbccadbdbaaDoor

