/- GradientMoves, three parameters. -/
import Derived.Test.YtmejdhgknebbbaaGMovesP
namespace Go.Proofs.Ytmejdhgknebbbaa.gradientMoves
open Go.ChangeShapes Go.WideShapes Go.ChangeAt Go.RowKit
set_option linter.unusedVariables false
attribute [local go_sem] Oper.gAt gUponK Oper.sAt stilK Oper.vAt valK


set_option maxRecDepth 20000 in
set_option maxHeartbeats 4000000 in
theorem good3 (kind p0 p1 p2 s x y a b : Int) (v : Value) (w : World) (h : Nn w v [p0, p1, p2]) (hk : kind = 2 ∨ kind = 3 ∨ kind = 4) (h0 : gChk kind [p0, p1, p2] s graysL = 0) (hp0 : -1048576 ≤ p0 ∧ p0 ≤ 1048576) (hp1 : -1048576 ≤ p1 ∧ p1 ≤ 1048576) (hp2 : -1048576 ≤ p2 ∧ p2 ≤ 1048576) (ba : -1048576 ≤ a ∧ a ≤ 1048576) (bb : -1048576 ≤ b ∧ b ≤ 1048576) (bx : -1048576 ≤ x ∧ x ≤ 1048576) (by' : -1048576 ≤ y ∧ y ≤ 1048576) (bxa : -1048576 ≤ x + a ∧ x + a ≤ 1048576) (byb : -1048576 ≤ y + b ∧ y + b ≤ 1048576) :
    Calls Try.prog 7 #[.int .i64 kind, v, .int .i64 s, .int .i64 x, .int .i64 y, .int .i64 a, .int .i64 b] w fun e w' => e = .returned (.bool true) ∧ Below w.heap.size w w' := by
  have C := Lib.hid (fun v u w h hs => refCheck_any kind s v u [p0, p1, p2] graysL w h hs)
  have C2 := Lib.hid (fun v u w h hs => refCheck_any kind s v u [p0 + 16 * a, p1 + 16 * b, p2] graysL w h hs)
  have P := Lib.hid (fun v w h => Place_any kind s x y v [p0, p1, p2] w h)
  have P2 := Lib.hid (fun v w h => Place_any kind s (x + a) (y + b) v [p0 + 16 * a, p1 + 16 * b, p2] w h)
  have T : Hid (gChk kind [p0 + 16 * a, p1 + 16 * b, p2] s graysL = 0 → gPlace kind [p0 + 16 * a, p1 + 16 * b, p2] s (x + a) (y + b) = gPlace kind [p0, p1, p2] s x y) := fun h2 => move3 kind p0 p1 p2 s x y a b hk (gChk_zero h0).1 (gChk_zero h2).1 bx by' bxa byb
  have H0 := Lib.hid h0
  have HN := Lib.hid h
  have bk : (kind == 1) = false := by simp; omega
  have NM : Hid (∀ (w : World) (g cap : Nat), RowI w g 3 (fun i => ([p0, p1, p2] : List Int).getD i 0) → Nn (((w.setCell ⟨g, 0, none⟩ (.int .i64 (p0 + 16 * a))).setCell ⟨g, 1, none⟩ (.int .i64 (p1 + 16 * b)))) (.slice (some ⟨g, 0, none⟩) 3 cap) [p0 + 16 * a, p1 + 16 * b, p2]) := fun w g cap h => nn_mv3 h
  rw [h0] at C
  clear h0
  obtain ⟨bl, off, cap, rfl, hcl⟩ := h.three
  have HC := Lib.hid hcl
  clear h hcl
  generalize gPlace kind [p0 + 16 * a, p1 + 16 * b, p2] s (x + a) (y + b) = t1 at *
  generalize gPlace kind [p0, p1, p2] s x y = t2 at *
  generalize gChk kind [p0 + 16 * a, p1 + 16 * b, p2] s graysL = E at *
  go_enter Try.func7, Try.ntmps7
  go_wp2_with fail
  refine (grays_any _).mono ?_
  rintro e V1 ⟨ag, cg, rfl, sg, hb⟩
  have SG := Lib.hid sg
  clear sg
  go_wp2_with fail
  refine (C.out _ _ _ (HN.out.kept hb) SG.out).mono ?_
  rintro e V2 ⟨rfl, hS⟩
  replace hb := hb.trans (hS.mono hb.size)
  clear hS
  go_upto_region 4 with (fail)
  obtain ⟨i0, hi, hz0, hz1, hz2⟩ := info_parts infoInt
  have own : (V2.alloc (.cells #[] 3 (0, 0))).ownsRow w.heap.size 3 1 (.slice (some ⟨V2.heap.size, 0, none⟩) 0 0) 0 [] := ⟨rfl, .inr ⟨_, 0, #[], rfl, hb.size, heap_alloc_new _ _, by omega, by decide, rfl, rfl⟩⟩
  have hb1 : Below w.heap.size w (V2.alloc (.cells #[] 3 (0, 0))) := hb.alloc hb.size _
  have cs := HC.out _ hb1
  go_wp2_with (at_builtin; refine wpList_append_own _ rfl _ _ 22 rfl w.heap.size 3 i0 (.int .i64 0) 1 8 Try.underlying22 hi hz0 hz1 hz2 rfl (by decide) _ _ _ rfl own ⟨bl, off, none⟩ 3 cap [.int .i64 p0, .int .i64 p1, .int .i64 p2] rfl rfl ?ca1 ?ca2 ?ca3 ?ca4 ?ca5 ?_)
  case ca1 =>
    intro j u hj
    match j, hj with
    | 0, hj => obtain rfl := Option.some.inj hj; exact cs.1
    | 1, hj => obtain rfl := Option.some.inj hj; exact cs.2.1
    | 2, hj => obtain rfl := Option.some.inj hj; exact cs.2.2
    | j + 3, hj => simp at hj
  case ca2 => simp [Value.oneCell']
  case ca3 => unfold maxLen; omega
  case ca4 => omega
  case ca5 => exact hb1.size
  intro v' w7 own' grow' _
  replace own' : w7.ownsRow w.heap.size 3 1 v' 3 [.int .i64 p0, .int .i64 p1, .int .i64 p2] := own'
  obtain ⟨g, cap', rfl, hg1, hg2⟩ := own'.form (by omega)
  have row := (rowI_own (zs := [p0, p1, p2]) own' rfl).1
  replace hb : Below w.heap.size w w7 := hb1.grown grow' hb1.size (fun b hb' => by have := (own.lt _ hb').1; omega)
  have HR := Lib.hid row
  have cp := HC.out _ hb
  have hbg : bl ≠ g := by have := Nn_lt HN.out (by omega); omega
  clear own own' grow' cs hb1 row hi hz0 hz1 hz2
  have r0 := HR.out.c 0 (by omega)
  have r1 := HR.out.c 1 (by omega)
  go_upto_region 5 with (fail)
  refine wp_region_flow (fun w' => ∀ p : Addr, p.block ≠ g → w'.cell? p = w7.cell? p) (by kernel_rfl) (by kernel_rfl) (fun p _ => rfl) ?_
  repeat (first | (apply wpS_on; rfl; rfl; (intro w' hS K hK; have q0 := hS ⟨bl, off, none⟩ hbg; have q1 := hS ⟨bl, off + 1, none⟩ hbg; have cq := cp.1; have cq2 := cp.2.1; rw [← q0] at cq; rw [← q1] at cq2; go_simp; exact hK.out); simp only [Act.put, List.setIfInBounds_toArray, List.set_cons_succ, List.set_cons_zero]) | (apply wpS_off; rfl; rfl; simp only [Act.put, List.setIfInBounds_toArray, List.set_cons_succ, List.set_cons_zero]) | (apply wpS_store; rfl; rfl; (intro K hK; go_simp; exact hK.out); (intro p hp; repeat (first | rfl | (refine (cell_far (by simpa using hp)).trans ?_))); simp only [Act.put]))
  apply wpS_nil
  go_wp2_with fail
  refine callGen (fun W8 hW8 => ?_)
  have NW : Nn W8 (.slice (some ⟨g, 0, none⟩) 3 cap') [p0 + 16 * a, p1 + 16 * b, p2] := by rw [hW8]; exact NM.out _ _ _ HR.out
  replace hb : Below w.heap.size w W8 := by rw [hW8]; exact ((hb.setCell (p := ⟨g, 0, none⟩) hg1 _).setCell (p := ⟨g, 1, none⟩) hg1 _).drew
  clear hW8 r0 r1 cp HR
  have NH := Lib.hid NW
  clear NW
  refine (grays_any _).mono ?_
  rintro e V3 ⟨ag2, cg2, rfl, sg2, hS⟩
  have SG2 := Lib.hid sg2
  clear sg2
  replace NH := Lib.hid (NH.out.kept hS)
  replace hb := hb.trans (hS.mono hb.size)
  clear hS
  go_wp2_with fail
  refine (C2.out _ _ _ NH.out SG2.out).mono ?_
  rintro e V4 ⟨rfl, hS⟩
  replace NH := Lib.hid (NH.out.kept hS)
  replace hb := hb.trans (hS.mono hb.size)
  clear hS
  by_cases hE : E = 0
  · subst hE
    obtain rfl := T.out rfl
    go_wp2_with fail
    refine (P2.out _ _ NH.out).mono ?_
    rintro e V5 ⟨rfl, hS⟩
    replace hb := hb.trans (hS.mono hb.size)
    clear hS
    go_wp2_with fail
    refine (P.out _ _ (HN.out.kept hb)).mono ?_
    rintro e V6 ⟨rfl, hS⟩
    replace hb := hb.trans (hS.mono hb.size)
    clear hS
    go_wp2_with fail
    refine (awake_any _).mono ?_
    rintro e V9 ⟨rfl, hS⟩
    replace hb := hb.trans (hS.mono hb.size)
    go_wp2_with fail
    go_ret
    exact ⟨ret_bool (by simp), hb⟩
  · have bE : (E != 0) = true := by simpa using hE
    go_wp2_with fail
    refine (awake_any _).mono ?_
    rintro e V9 ⟨rfl, hS⟩
    replace hb := hb.trans (hS.mono hb.size)
    go_wp2_with fail
    go_ret
    exact ⟨rfl, hb⟩
end Go.Proofs.Ytmejdhgknebbbaa.gradientMoves
