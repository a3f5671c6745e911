/- The examples of the chapter on strokes; two slices of the same dabs. -/
import Derived.Test.YtjaidcdkkgnfoaaGreatDoorBrDabs
import Derived.Test.YtjaidcdkkgnfoaaGreatDoorLBru
import Derived.Test.YtjaidcdkkgnfoaaGreatDoorLDyn
namespace Go.Proofs.YtjaidcdkkgnfoaaGreatDoor
open Go.RowKit
set_option linter.unusedVariables false
attribute [local go_sem] Oper.gAt gUponK Oper.sAt stilK

theorem dn_nil' (w : World) : Dn w (.slice none 0 0) [] := ⟨none, 0, rfl, by simp, .inl rfl⟩
abbrev exV (sz : Int) : Value := .agg #[.int .i64 sz, .int .i64 65535, .int .i64 65535, .int .i64 65535, .int .i64 65535, .int .i64 100, .int .i64 0, .int .i64 0, .int .i64 0, .int .i64 0, .int .i64 0, .int .i64 0, .int .i64 65535, .int .i64 0, .slice none 0 0, .bool false]
set_option maxHeartbeats 4000000 in
theorem lawPlain_any (w : World) :
    Calls Tryz.prog 25 #[] w fun e w' => e = .returned (exV 160) ∧ Below w.heap.size w w' := by
  go_enter Tryz.func25, Tryz.ntmps25
  go_upto_region 1 with (fail)
  refine name1 (fun W k1 hb => ?_)
  go_wp2_with (refine wpList_store_blk rfl _ _ _ rfl w.heap.size #[.int .i64 160, .int .i64 65535, .int .i64 65535, .int .i64 65535, .int .i64 65535, .int .i64 100, .int .i64 0, .int .i64 0, .int .i64 0, .int .i64 0, .int .i64 0, .int .i64 0, .int .i64 65535, .int .i64 0, .slice none 0 0, .bool false] rfl rfl k1 infoBr rfl (by simp [Value.oneCell']) (fun W2 k2 hk hb2 => ?_))
  have c2 := k2.c16
  refine bodyPost_ret (v := exV 160) (by simp [results, Tryz.results25, go_sem, c2]) rfl ⟨rfl, hb.trans hb2⟩

theorem sm2 {w : World} {b : Nat} {t : TypeId} {x : Int} (k : Blk w b (.cells #[.int .i64 0, .int .i64 0, .int .i64 0, .int .i64 0, .int .i64 0, .int .i64 x, .int .i64 0, .int .i64 0, .int .i64 0, .int .i64 0] t (0, 0))) : Sm w (.slice (some ⟨b, 0, none⟩) 2 2) [exS 0, exS x] :=
  ⟨_, 2, rfl, by simp, .inr ⟨b, 0, rfl, k.lt, fun i hi => by
    match i, hi with
    | 0, _ => exact ⟨cell_blk k rfl, cell_blk k rfl, cell_blk k rfl, cell_blk k rfl, cell_blk k rfl⟩
    | 1, _ => exact ⟨cell_blk k rfl, cell_blk k rfl, cell_blk k rfl, cell_blk k rfl, cell_blk k rfl⟩
    | i + 2, hi => exact absurd hi (by simp)⟩⟩
theorem sm3 {w : World} {b : Nat} {t : TypeId} {x y : Int} (k : Blk w b (.cells #[.int .i64 0, .int .i64 0, .int .i64 0, .int .i64 0, .int .i64 0, .int .i64 x, .int .i64 0, .int .i64 0, .int .i64 0, .int .i64 0, .int .i64 y, .int .i64 0, .int .i64 0, .int .i64 0, .int .i64 0] t (0, 0))) : Sm w (.slice (some ⟨b, 0, none⟩) 3 3) [exS 0, exS x, exS y] :=
  ⟨_, 3, rfl, by simp, .inr ⟨b, 0, rfl, k.lt, fun i hi => by
    match i, hi with
    | 0, _ => exact ⟨cell_blk k rfl, cell_blk k rfl, cell_blk k rfl, cell_blk k rfl, cell_blk k rfl⟩
    | 1, _ => exact ⟨cell_blk k rfl, cell_blk k rfl, cell_blk k rfl, cell_blk k rfl, cell_blk k rfl⟩
    | 2, _ => exact ⟨cell_blk k rfl, cell_blk k rfl, cell_blk k rfl, cell_blk k rfl, cell_blk k rfl⟩
    | i + 3, hi => exact absurd hi (by simp)⟩⟩
/-- The examples' dabs, by the places that are looked at. -/
theorem exE1 (w : World) (v : Value) (h : Sm w v [exS 0, exS 100, exS 200]) : Calls Tryz.prog 12 #[exV 160, v] w fun e w' => ∃ b off cap, e = .returned (.tuple #[.slice (some ⟨b, off, none⟩) 2 cap, .int .i64 0]) ∧ (∀ w'', Below w'.heap.size w' w'' → w''.cell? ⟨b, off, none⟩ = some (.int .i64 0) ∧ w''.cell? ⟨b, off + 5, none⟩ = some (.int .i64 160)) ∧ Below w.heap.size w w' := by
  refine (dabs_any (exB 160) (.slice none 0 0) v _ w (dn_nil' w) h).mono ?_
  rintro e w' ⟨q, rfl, hq, hS⟩
  obtain ⟨h1, h2, h3, h4⟩ := ex1
  generalize (dabs (exB 160) [exS 0, exS 100, exS 200]).2 = E at *
  generalize (dabs (exB 160) [exS 0, exS 100, exS 200]).1 = l at *
  subst h1
  unfold Bm at hq
  rw [h2] at hq
  obtain ⟨a, cap, rfl⟩ := hq.slice
  obtain ⟨b, off, rfl, hb, ha⟩ := hq.all (by omega)
  refine ⟨b, off, cap, rfl, fun w'' hw => ⟨?_, ?_⟩, hS⟩
  · have := (ha 0 (by omega) w'' hw).1
    rw [← h3]
    simpa [d5, dbAt] using this
  · have := (ha 1 (by omega) w'' hw).1
    rw [← h4]
    simpa [d5, dbAt] using this
theorem exE2 (w : World) (v : Value) (h : Sm w v [exS 0, exS 400]) : Calls Tryz.prog 12 #[exV 160, v] w fun e w' => ∃ b off cap, e = .returned (.tuple #[.slice (some ⟨b, off, none⟩) 3 cap, .int .i64 0]) ∧ (∀ w'', Below w'.heap.size w' w'' → w''.cell? ⟨b, off + 10, none⟩ = some (.int .i64 320) ∧ w''.cell? ⟨b, off + 12, none⟩ = some (.int .i64 160) ∧ w''.cell? ⟨b, off + 10 + 2, none⟩ = some (.int .i64 160)) ∧ Below w.heap.size w w' := by
  refine (dabs_any (exB 160) (.slice none 0 0) v _ w (dn_nil' w) h).mono ?_
  rintro e w' ⟨q, rfl, hq, hS⟩
  obtain ⟨h1, h2, h3, h4⟩ := ex2
  generalize (dabs (exB 160) [exS 0, exS 400]).2 = E at *
  generalize (dabs (exB 160) [exS 0, exS 400]).1 = l at *
  subst h1
  unfold Bm at hq
  rw [h2] at hq
  obtain ⟨a, cap, rfl⟩ := hq.slice
  obtain ⟨b, off, rfl, hb, ha⟩ := hq.all (by omega)
  have c1 : ∀ w'', Below w'.heap.size w' w'' → w''.cell? ⟨b, off + 10 + 2, none⟩ = some (.int .i64 160) := fun w'' hw => by
    have := (ha 2 (by omega) w'' hw).2.2.1
    rw [← h4]
    simpa [d5, dbAt] using this
  refine ⟨b, off, cap, rfl, fun w'' hw => ⟨?_, c1 w'' hw, c1 w'' hw⟩, hS⟩
  have := (ha 2 (by omega) w'' hw).1
  rw [← h3]
  simpa [d5, dbAt] using this
theorem exE3 (w : World) (v : Value) (h : Sm w v [exS 0, exS 1026]) : Calls Tryz.prog 12 #[exV 1, v] w fun e w' => ∃ a n cap, e = .returned (.tuple #[.slice a n cap, .int .i64 3]) ∧ Below w.heap.size w w' := by
  refine (dabs_any (exB 1) (.slice none 0 0) v _ w (dn_nil' w) h).mono ?_
  rintro e w' ⟨q, rfl, hq, hS⟩
  have h1 := ex3
  generalize (dabs (exB 1) [exS 0, exS 1026]).2 = E at *
  subst h1
  obtain ⟨a, cap, rfl⟩ := hq.slice
  exact ⟨a, _, cap, rfl, hS⟩
theorem exE4 (w : World) (v : Value) (h : Sm w v [exS 0, exS 1023]) : Calls Tryz.prog 12 #[exV 1, v] w fun e w' => ∃ a n cap, e = .returned (.tuple #[.slice a n cap, .int .i64 0]) ∧ ((n : Int) == 1024) = true ∧ Below w.heap.size w w' := by
  refine (dabs_any (exB 1) (.slice none 0 0) v _ w (dn_nil' w) h).mono ?_
  rintro e w' ⟨q, rfl, hq, hS⟩
  obtain ⟨h1, h2⟩ := ex4
  generalize (dabs (exB 1) [exS 0, exS 1023]).2 = E at *
  generalize (dabs (exB 1) [exS 0, exS 1023]).1 = l at *
  subst h1
  obtain ⟨a, cap, rfl⟩ := hq.slice
  exact ⟨a, _, cap, rfl, by rw [h2]; rfl, hS⟩

set_option maxRecDepth 20000 in
set_option maxHeartbeats 8000000 in
theorem example_any (w : World) :
    Calls Tryz.prog 10 #[] w fun e w' => e = .returned (.bool true) ∧ Below w.heap.size w w' := by
  have PL := Lib.hid lawPlain_any
  have E1 := Lib.hid exE1
  have E2 := Lib.hid exE2
  have E3 := Lib.hid exE3
  have E4 := Lib.hid exE4
  have CN : Hid (∀ w, Calls Tryz.prog 26 #[.slice none 0 0] w fun e w' => e = .returned (.int .i64 1) ∧ Below w.heap.size w w') := fun w => brCheck_any _ [] w (Qn.nil _ _)
  go_enter Tryz.func10, Tryz.ntmps10
  go_wp2_with fail
  refine (PL.out _).mono ?_
  rintro e W1 ⟨rfl, hb⟩
  go_wp2_with fail
  refine callName1 (fun W2 kx hS => ?_)
  replace hb := hb.trans (hS.mono hb.size)
  clear hS
  refine (E1.out _ _ (sm3 kx)).mono ?_
  rintro e W3 ⟨b1, o1, p1, rfl, hc1, hS⟩
  have HC1 := Lib.hid hc1
  replace hb := hb.trans (hS.mono hb.size)
  clear hS kx hc1
  have B3 := Below.refl W3.heap.size W3
  go_wp2_with fail
  refine (PL.out _).mono ?_
  rintro e W4 ⟨rfl, hS⟩
  replace B3 := B3.trans (hS.mono B3.size)
  replace hb := hb.trans (hS.mono hb.size)
  clear hS
  go_wp2_with fail
  refine callName1 (fun W5 kx hS => ?_)
  replace B3 := B3.trans (hS.mono B3.size)
  replace hb := hb.trans (hS.mono hb.size)
  clear hS
  refine (E2.out _ _ (sm2 kx)).mono ?_
  rintro e W6 ⟨b2, o2, p2, rfl, hc2, hS⟩
  have HC2 := Lib.hid hc2
  replace B3 := B3.trans (hS.mono B3.size)
  replace hb := hb.trans (hS.mono hb.size)
  clear hS kx hc2
  have c1 := HC1.out _ B3
  have c2 := HC2.out _ (Below.refl _ _)
  go_wp2_with fail
  clear c1 c2 HC1 HC2 B3
  refine (PL.out _).mono ?_
  rintro e W7 ⟨rfl, hS⟩
  replace hb := hb.trans (hS.mono hb.size)
  clear hS
  have lb := hb.size
  go_upto_region 6 with (refine wpList_store_blk rfl _ _ _ rfl W7.heap.size #[.int .i64 160, .int .i64 65535, .int .i64 65535, .int .i64 65535, .int .i64 65535, .int .i64 100, .int .i64 0, .int .i64 0, .int .i64 0, .int .i64 0, .int .i64 0, .int .i64 0, .int .i64 65535, .int .i64 0, .slice none 0 0, .bool false] rfl rfl (heap_alloc_new W7 _) infoBr rfl (by simp [Value.oneCell']) (fun W8 kb hkx hbx => ?_))
  replace hb : Below w.heap.size w W8 := hb.trans ((((Below.refl _ _).alloc (Nat.le_refl _) _).trans hbx).mono hb.size)
  clear hkx hbx
  generalize W7.heap.size = bb at *
  have cb := kb.c16
  go_upto_region 7 with (fail)
  clear cb
  refine codeGen (fun W9 hW9 => ?_)
  replace kb : Blk W9 bb (.cells #[.int .i64 1, .int .i64 65535, .int .i64 65535, .int .i64 65535, .int .i64 65535, .int .i64 100, .int .i64 0, .int .i64 0, .int .i64 0, .int .i64 0, .int .i64 0, .int .i64 0, .int .i64 65535, .int .i64 0, .slice none 0 0, .bool false] 29 (0, 0)) := by rw [hW9]; exact kb.set1 0 (.int .i64 1) (by simp) rfl
  replace hb : Below w.heap.size w W9 := by rw [hW9]; exact hb.setCell (by simpa using lb) _
  clear hW9
  have cb := kb.c16
  go_wp2_with fail
  clear cb
  refine callName1 (fun W10 kx hS => ?_)
  replace kb := kb.kept hS
  replace hb := hb.trans (hS.mono hb.size)
  clear hS
  refine (E3.out _ _ (sm2 kx)).mono ?_
  rintro e W11 ⟨a3, n3, p3, rfl, hS⟩
  replace kb := kb.kept hS
  replace hb := hb.trans (hS.mono hb.size)
  clear hS kx
  have cb := kb.c16
  go_wp2_with fail
  clear cb
  refine callName1 (fun W12 kx hS => ?_)
  replace kb := kb.kept hS
  replace hb := hb.trans (hS.mono hb.size)
  clear hS
  refine (E4.out _ _ (sm2 kx)).mono ?_
  rintro e W13 ⟨a4, n4, p4, rfl, hn4, hS⟩
  replace hb := hb.trans (hS.mono hb.size)
  clear hS kx kb
  go_wp2_with fail
  refine (CN.out _).mono ?_
  rintro e W14 ⟨rfl, hS⟩
  replace hb := hb.trans (hS.mono hb.size)
  go_wp2_with fail
  go_ret
  exact ⟨rfl, hb⟩

end Go.Proofs.YtjaidcdkkgnfoaaGreatDoor

