/- The examples of the chapter on dynamics hold. -/
import Derived.Test.YtjaidcdkkgnfoaaLDyn
import Derived.Deep.RegionHeld3
namespace Go.Proofs.Ytjaidcdkkgnfoaa
open Go.RowKit
set_option linter.unusedVariables false
attribute [local go_sem] Oper.gAt gUponK

def ks0 : Knots := [(0, 0), (65535, 65535)]
def ds0 : Dyns := [(1, 1, ks0)]
def ds1 : Dyns := [(1, 1, ks0), (1, 1, ks0)]
theorem ex1 : spd 0 0 0 48 64 10 = 8192 := by decide +kernel
theorem ex2 : spd 48 64 10 0 0 0 = 0 := by decide +kernel
theorem ex3 : src 5 32768 0 0 3 0 = 62463 := by decide +kernel
theorem ex4 : src 5 32768 0 0 64 0 = 0 := by decide +kernel
theorem ex5 : src 9 32768 0 5 5 5 = 0 := by decide +kernel
theorem ex6 : dvalue ds0 1 (fun k => src k 32768 0 0 0 0) = 32768 := by decide +kernel
theorem ex7 : dvalue ds1 1 (fun k => src k 32768 0 0 0 0) = 16384 := by decide +kernel
theorem ex8 : dvalue ds0 2 (fun k => src k 32768 0 0 0 0) = 65535 := by decide +kernel
theorem ex9 : dchk ds0 = 0 := by decide +kernel
theorem ex10 : dchk [(5, 0, [])] = 8 := by decide +kernel
theorem ex11 : dchk (List.replicate 9 (0, 0, [])) = 3 := by decide +kernel

theorem kn_blk2 {w : World} {b : Nat} {x0 y0 x1 y1 : Int} {t : TypeId} {c : Nat} (k : Blk w b (.cells #[.int .i64 x0, .int .i64 y0, .int .i64 x1, .int .i64 y1] t (0, 0))) : Kn w (.slice (some ⟨b, 0, none⟩) 2 c) [(x0, y0), (x1, y1)] := by
  refine ⟨_, c, rfl, by simp, .inr ⟨b, 0, rfl, k.lt, fun i hi => ?_⟩⟩
  have hi' : i < 2 := hi
  obtain rfl | rfl : i = 0 ∨ i = 1 := by omega
  · exact ⟨cell_blk k rfl, cell_blk k rfl⟩
  · exact ⟨cell_blk k rfl, cell_blk k rfl⟩
theorem dn_blk1 {w : World} {b : Nat} {t0 s0 : Int} {v : Value} {ks : Knots} {t : TypeId} {c : Nat} (k : Blk w b (.cells #[.int .i64 t0, .int .i64 s0, v] t (0, 0))) (hk : Kn w v ks) : Dn w (.slice (some ⟨b, 0, none⟩) 1 c) [(t0, s0, ks)] := by
  refine ⟨_, c, rfl, by simp, .inr ⟨b, 0, rfl, k.lt, fun i hi => ?_⟩⟩
  have hi' : i < 1 := hi
  obtain rfl : i = 0 := by omega
  exact ⟨cell_blk k rfl, cell_blk k rfl, v, cell_blk k rfl, hk⟩
theorem dn_blk2 {w : World} {b : Nat} {t0 s0 t1 s1 : Int} {v u : Value} {ks ks' : Knots} {t : TypeId} {c : Nat} (k : Blk w b (.cells #[.int .i64 t0, .int .i64 s0, v, .int .i64 t1, .int .i64 s1, u] t (0, 0))) (hk : Kn w v ks) (hk' : Kn w u ks') :
    Dn w (.slice (some ⟨b, 0, none⟩) 2 c) [(t0, s0, ks), (t1, s1, ks')] := by
  refine ⟨_, c, rfl, by simp, .inr ⟨b, 0, rfl, k.lt, fun i hi => ?_⟩⟩
  have hi' : i < 2 := hi
  obtain rfl | rfl : i = 0 ∨ i = 1 := by omega
  · exact ⟨cell_blk k rfl, cell_blk k rfl, v, cell_blk k rfl, hk⟩
  · exact ⟨cell_blk k rfl, cell_blk k rfl, u, cell_blk k rfl, hk'⟩
theorem valN (v : Value) (ds : Dyns) (target n : Int) (w : World) (h : Dn w v ds) (hn : dvalue ds target (fun k => src k 32768 0 0 0 0) = n) :
    Calls Try.prog 6 #[v, .int .i64 target, sv 0 0 32768 0 0, .int .i64 0, .int .i64 0, .int .i64 0] w fun e w' => e = .returned (.int .i64 n) ∧ Below w.heap.size w w' := by
  rw [← hn]
  exact dynValue_any v ds target 0 0 32768 0 0 0 0 0 w h

set_option maxHeartbeats 400000 in
theorem dynCheck_long (a : Option Addr) (n cap : Nat) (w : World) (h : 8 < n) (h2 : n ≤ 9223372036854775807) :
    Calls Try.prog 5 #[.slice a n cap] w fun e w' => e = .returned (.int .i64 3) ∧ w = w' := by
  go_enter Try.func5, Try.ntmps5
  go_wp2
  go_ret
  exact ⟨rfl, rfl⟩
theorem kn_nil (w : World) : Kn w (.slice none 0 0) [] := ⟨none, 0, rfl, by simp, .inl rfl⟩
theorem andTrans {W a b : World} {p : Prop} (h : Below W.heap.size W a ∧ p) (hb : Below a.heap.size a b) : Below W.heap.size W b := h.1.trans (hb.mono h.1.size)
theorem andAlloc {W a : World} {p : Prop} (h : Below W.heap.size W a ∧ p) (o : Obj) : Below W.heap.size W (a.alloc o) := h.1.alloc h.1.size _
theorem andDn {W a : World} {p : Prop} {v : Value} {ds : Dyns} (h : Below W.heap.size W a ∧ p) (k : Dn W v ds) : Dn a v ds := k.kept h.1
theorem andKn {W a : World} {p : Prop} {v : Value} {ds : Knots} (h : Below W.heap.size W a ∧ p) (k : Kn W v ds) : Kn a v ds := k.kept h.1
set_option maxHeartbeats 1000000 in
theorem awake_any (w : World) :
    Calls Try.prog 4 #[] w fun e w' => e = .returned (.bool true) ∧ Below w.heap.size w w' := by
  go_enter Try.func4, Try.ntmps4
  go_wp2_with fail
  refine callName2 (fun W k1 k2 hb => ?_)
  refine (speed_any _ _ _ _ _ _ _ _ _ _ _).mono ?_
  rintro e W1 ⟨rfl, hS⟩
  replace k1 := k1.kept hS
  replace k2 := k2.kept hS
  replace hb := hb.trans (hS.mono hb.size)
  clear hS
  rw [ex1]
  have c1 := k1.c5
  have c2 := k2.c5
  go_wp2_with fail
  clear c1 c2
  refine (speed_any _ _ _ _ _ _ _ _ _ _ _).mono ?_
  rintro e W2 ⟨rfl, hS⟩
  replace k1 := k1.kept hS
  replace k2 := k2.kept hS
  replace hb := hb.trans (hS.mono hb.size)
  clear hS
  rw [ex2]
  have c1 := k1.c5
  go_wp2_with fail
  clear c1
  refine (source_any _ _ _ _ _ _ _ _ _ _).mono ?_
  rintro e W3 ⟨rfl, hS⟩
  replace k1 := k1.kept hS
  replace hb := hb.trans (hS.mono hb.size)
  clear hS
  rw [ex3]
  have c1 := k1.c5
  go_wp2_with fail
  clear c1
  refine (source_any _ _ _ _ _ _ _ _ _ _).mono ?_
  rintro e W4 ⟨rfl, hS⟩
  replace k1 := k1.kept hS
  replace hb := hb.trans (hS.mono hb.size)
  clear hS
  rw [ex4]
  have c1 := k1.c5
  go_wp2_with fail
  clear c1
  refine (source_any _ _ _ _ _ _ _ _ _ _).mono ?_
  rintro e W5 ⟨rfl, hS⟩
  replace k1 := k1.kept hS
  replace hb := hb.trans (hS.mono hb.size)
  clear hS
  rw [ex5]
  go_wp2_with fail
  refine name2 (fun W6 k3 k4 hS => ?_)
  replace k1 := k1.kept hS
  replace hb := hb.trans (hS.mono hb.size)
  clear hS
  have HKN := Lib.hid (kn_blk2 (c := 2) k3)
  have HDN := Lib.hid (dn_blk1 (c := 1) k4 HKN.out)
  have HK : Hid (∀ w' : World, Below W6.heap.size W6 w' → Below W6.heap.size W6 w' ∧ w'.cell? ⟨w.heap.size, 0, none⟩ = some (.int .i64 0) ∧ w'.cell? ⟨w.heap.size, 1, none⟩ = some (.int .i64 0) ∧ w'.cell? ⟨w.heap.size, 2, none⟩ = some (.int .i64 32768) ∧ w'.cell? ⟨w.heap.size, 3, none⟩ = some (.int .i64 0) ∧ w'.cell? ⟨w.heap.size, 4, none⟩ = some (.int .i64 0) ∧ w'.cell? ⟨W5.heap.size + 1, 0, none⟩ = some (.int .i64 1) ∧ w'.cell? ⟨W5.heap.size + 1, 1, none⟩ = some (.int .i64 1) ∧ w'.cell? ⟨W5.heap.size + 1, 2, none⟩ = some (.slice (some ⟨W5.heap.size, 0, none⟩) 2 2)) := fun w' h => ⟨h, (k1.kept h).c5.1, (k1.kept h).c5.2.1, (k1.kept h).c5.2.2.1, (k1.kept h).c5.2.2.2.1, (k1.kept h).c5.2.2.2.2.1, (k4.kept h).c3.1, (k4.kept h).c3.2.1, (k4.kept h).c3.2.2.1⟩
  go_region_held3 (fun w' => Below W6.heap.size W6 w' ∧ w'.cell? ⟨w.heap.size, 0, none⟩ = some (.int .i64 0) ∧ w'.cell? ⟨w.heap.size, 1, none⟩ = some (.int .i64 0) ∧ w'.cell? ⟨w.heap.size, 2, none⟩ = some (.int .i64 32768) ∧ w'.cell? ⟨w.heap.size, 3, none⟩ = some (.int .i64 0) ∧ w'.cell? ⟨w.heap.size, 4, none⟩ = some (.int .i64 0) ∧ w'.cell? ⟨W5.heap.size + 1, 0, none⟩ = some (.int .i64 1) ∧ w'.cell? ⟨W5.heap.size + 1, 1, none⟩ = some (.int .i64 1) ∧ w'.cell? ⟨W5.heap.size + 1, 2, none⟩ = some (.slice (some ⟨W5.heap.size, 0, none⟩) 2 2))
    ((refine HK.out _ ?_; first | exact (Below.refl _ _).drew | (apply andAlloc; assumption) | (apply andTrans (hb := hbb); assumption)))
    (first | (go_at_call 6; (with_reducible refine (valN (.slice (some ⟨W5.heap.size + 1, 0, none⟩) 1 1) ds0 _ _ _ ?_ ex6).mono ?_); (apply andDn (k := HDN.out); assumption); rintro e w' ⟨rfl, hbb⟩) | (go_at_call 6; (with_reducible refine (valN (.slice (some ⟨W5.heap.size + 1, 0, none⟩) 1 1) ds0 _ _ _ ?_ ex8).mono ?_); (apply andDn (k := HDN.out); assumption); rintro e w' ⟨rfl, hbb⟩) | (go_at_call 6; (with_reducible refine (valN (.slice _ 2 2) ds1 _ _ _ ?_ ex7).mono ?_); (refine dn_blk2 (heap_alloc_new _ _) ?_ ?_; (apply andKn (k := HKN.out); assumption); (apply andKn (k := HKN.out); assumption)); rintro e w' ⟨rfl, hbb⟩))
  all_goals go_wp2_with fail
  have hB : Below W6.heap.size W6 w' := by apply And.left; assumption
  clear HK
  refine (dynCheck_any _ ds0 _ (HDN.out.kept hB)).mono ?_
  rintro e w3 ⟨rfl, hS⟩
  rw [ex9]
  replace hb := (hb.trans (hB.mono hb.size)).trans (hS.mono (Nat.le_trans hb.size hB.size))
  go_wp2_with fail
  refine callName1 (fun W8 k5 hS8 => ?_)
  refine (dynCheck_any _ [(5, 0, [])] _ (dn_blk1 k5 (kn_nil _))).mono ?_
  rintro e w4 ⟨rfl, hS4⟩
  rw [ex10]
  replace hb := (hb.trans (hS8.mono hb.size)).trans (hS4.mono (Nat.le_trans hb.size hS8.size))
  have hmk : ∀ w : World, (Instr.makeSlice 22 (.int .i64 9) (.int .i64 9)).run Try.prog w = .ok (.slice (some ⟨w.heap.size, 0, none⟩) 9 9) (w.alloc (.cells (madeCells #[.int .i64 0, .int .i64 0, .slice none 0 0] 27) 25)) := fun _ => by kernel_rfl
  go_wp2_with fail
  refine (dynCheck_long _ _ _ _ (by omega) (by omega)).mono ?_
  rintro e w5 ⟨rfl, rfl⟩
  clear hmk
  go_wp2_with fail
  go_ret
  exact ⟨rfl, hb.alloc hb.size _⟩
end Go.Proofs.Ytjaidcdkkgnfoaa

