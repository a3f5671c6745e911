/- law29.awake: the examples of the chapter (printed by genaw29.py). -/
import Derived.Test.YtieacbccadbdbaaGreatDoorRetAk
import Derived.Test.YtieacbccadbdbaaGreatDoorRetS
import Derived.Test.YtieacbccadbdbaaGreatDoorRetH
import Derived.Test.YtieacbccadbdbaaGreatDoorLKit
import Derived.Deep.DeepCutAuto
import Derived.Deep.DeepCutAuto
import Derived.Deep.Cut
namespace Go.Proofs.YtieacbccadbdbaaGreatDoor
open Go.RowKit
set_option linter.unusedVariables false
attribute [local go_sem] Oper.gAt gUponK Oper.sAt stilK

theorem rex_e1 : ¬ hRect 6 3 0 0 0 3 := by unfold hRect; decide +kernel
theorem rex_e2 : ¬ cOff 257 0 := by unfold cOff; decide +kernel
theorem rex_o1 : cOff 1 0 := by unfold cOff; decide +kernel
theorem rex_o2 : cOff (-1) 0 := by unfold cOff; decide +kernel
def rexK : List Px := (List.range 18).map rexG
theorem rex_i2 : ichk 6 3 rexK = 0 := by decide +kernel
theorem rexH_at (i : Nat) (hi : i < 18) : pxAt rexH i = rexF i := by simp [rexH, pxAt, List.getD, hi]
theorem rexK_at (i : Nat) (hi : i < 18) : pxAt rexK i = rexG i := by simp [rexK, pxAt, List.getD, hi]

/-- What stands from region n on. -/
def headR (n : Nat) : Code → Bool
  | .region m _ _ => m == n
  | .seq a _ => headR n a
  | _ => false
def tailR (n : Nat) : Code → Option Code
  | .seq a b => if headR n a then some (.seq a b) else tailR n b
  | .block _ c => tailR n c
  | .scope c => tailR n c
  | _ => none

noncomputable def awT14 : Code := ((Tryz.f8.body.bind (tailR 14)).getD .skip)
set_option maxHeartbeats 32000000 in
set_option maxRecDepth 100000 in
theorem aw14 (w W6 : World) (n1 n3 n4 bl : Nat) (h0 : Below w.heap.size w W6) (hs : Sines W6) (k1 : Blk W6 n1 (.cells #[.int .i64 100, .int .i64 100, .int .i64 100, .int .i64 65535] 26 (0, 0))) (k2 : Blk W6 (n1 + 1) (.cells #[.int .i64 7, .int .i64 7, .int .i64 7, .int .i64 65535] 26 (0, 0))) (k3 : Blk W6 (n3 + 1) (.cells #[.int .i64 2, .int .i64 1, .slice (some ⟨n3, 0, none⟩) 2 2] 24 (0, 0))) (k4 : Blk W6 n4 (.cells #[.int .i64 160, .int .i64 65535, .int .i64 65535, .int .i64 65535, .int .i64 65535, .int .i64 100, .int .i64 0, .int .i64 0, .int .i64 0, .int .i64 0, .int .i64 0, .int .i64 0, .int .i64 0, .int .i64 0, .slice none 0 0, .bool false] 29 (0, 0))) (hPI : Pn W6 (.slice (some ⟨n3, 0, none⟩) 2 2) rexI) (hL : Sm W6 (.slice (some ⟨bl, 0, none⟩) 1 1) rexL) (wc : World) (x6 : Nat) (aq : Option Addr) (cq : Nat) (hx6 : W6.heap.size ≤ x6) (k6 : Blk wc x6 (.cells #[.int .i64 2, .int .i64 1, .slice aq 2 cq] 24 (0, 0))) (hb : Below W6.heap.size W6 wc) (x8 : Nat) (x86 : x6 < x8) (ox : x8 < wc.heap.size) (k8 : Blk wc x8 (.cells #[.int .i64 6, .int .i64 3, .slice none 0 0] 24 (0, 0))) {c9 c10 c11 c12 c13 c14 c15 c16 c17 c18 c19 c20 c21 c22 c23 c24 c25 c26 c27 c28 c29 c30 c31 c32 c33 c34 c35 c36 c37 c38 c39 c40 c41 c42 c43 c44 c45 c46 c47 c48 c49 c50 c51 c52 c53 c54 c55 c56 c57 c58 c59 c60 c61 c62 c63 c64 c65 c66 c67 c68 c69 c70 c71 c72 c73 c74 c75 c76 c77 c78 c79 c80 c81 c82 c83 c84 c85 c86 c87 c88 c89 c90 c91 c92 c93 c94 c95 c96 c97 c98 c99 c100 c101 c102 c103 c104 c105 c106 c107 c108 c109 c110 c111 c112 c113 c114 c115 c116 c117 c118 c119 c120 c121 c122 c123 c124 c125 c126 c127 c128 c129 c130 c131 c132 c133 c134 c135 c136 c137 c138 c139 c140 c141 c142 c143 c144 : Value} :
    Code.wp Tryz.prog awT14 (bodyPost Tryz.prog Tryz.f8 fun e w' => e = .returned (.bool true) ∧ Below w.heap.size w w') ⟨#[.bool false, .pointer (some ⟨n1, 0, none⟩), .pointer (some ⟨(n1 + 1), 0, none⟩), .pointer (some ⟨(n3 + 1), 0, none⟩), .pointer (some ⟨n4, 0, none⟩), .slice (some ⟨bl, 0, none⟩) 1 1, .pointer (some ⟨x6, 0, none⟩), .int .i64 0, .pointer (some ⟨x8, 0, none⟩), c9, c10, c11, c12, c13, c14, c15, c16, c17, c18, c19, c20, c21, c22, c23, c24, c25, c26, c27, c28, c29, c30, c31, c32, c33, c34, c35, c36, c37, c38, c39, c40, c41, c42, c43, c44, c45, c46, c47, c48, c49, c50, c51, c52, c53, c54, c55, c56, c57, c58, c59, c60, c61, c62, c63, c64, c65, c66, c67, c68, c69, c70, c71, c72, c73, c74, c75, c76, c77, c78, c79, c80, c81, c82, c83, c84, c85, c86, c87, c88, c89, c90, c91, c92, c93, c94, c95, c96, c97, c98, c99, c100, c101, c102, c103, c104, c105, c106, c107, c108, c109, c110, c111, c112, c113, c114, c115, c116, c117, c118, c119, c120, c121, c122, c123, c124, c125, c126, c127, c128, c129, c130, c131, c132, c133, c134, c135, c136, c137, c138, c139, c140, c141, c142, c143, c144], []⟩ wc := by
  have GR := Lib.hid gray_any
  have FU := Lib.hid full_any
  have C1 : Hid (∀ w v l, Sines w → Pn w v rexI → Sm w l rexL → Calls Tryz.prog 6 #[.agg #[.int .i64 2, .int .i64 1, v], exV29, l, .agg #[.int .i64 1, .int .i64 0], .agg #[.int .i64 0, .int .i64 0, .slice none 0 0]] w fun e w' => ∃ q, e = .returned (.tuple #[.agg #[.int .i64 2, .int .i64 1, q], .int .i64 0]) ∧ Pn w' q [gr 7, gr 7] ∧ Below w.heap.size w w') := fun w v l h1 h2 h3 =>
    clone_any 2 1 v rexI rexB (.slice none 0 0) l rexL 1 0 0 0 (.slice none 0 0) [] 2 1 0 _ w h1 h2 (dnNil w) h3 (nnNil w) (.inr (.inr ⟨rex_p0, rex_o1, rfl, rfl, rfl, rex_c1.symm⟩))
  have C2 : Hid (∀ w v l, Sines w → Pn w v rexI → Sm w l rexL → Calls Tryz.prog 6 #[.agg #[.int .i64 2, .int .i64 1, v], exV29, l, .agg #[.int .i64 (-1), .int .i64 0], .agg #[.int .i64 0, .int .i64 0, .slice none 0 0]] w fun e w' => ∃ q, e = .returned (.tuple #[.agg #[.int .i64 2, .int .i64 1, q], .int .i64 0]) ∧ Pn w' q [gr 100, gr 100] ∧ Below w.heap.size w w') := fun w v l h1 h2 h3 =>
    clone_any 2 1 v rexI rexB (.slice none 0 0) l rexL (-1) 0 0 0 (.slice none 0 0) [] 2 1 0 _ w h1 h2 (dnNil w) h3 (nnNil w) (.inr (.inr ⟨rex_p0, rex_o2, rfl, rfl, rfl, rex_c2.symm⟩))
  have C3 : Hid (∀ w v l, Sines w → Pn w v rexI → Sm w l rexL → Calls Tryz.prog 6 #[.agg #[.int .i64 2, .int .i64 1, v], exV29, l, .agg #[.int .i64 257, .int .i64 0], .agg #[.int .i64 0, .int .i64 0, .slice none 0 0]] w fun e w' => ∃ q, e = .returned (.tuple #[.agg #[.int .i64 0, .int .i64 0, q], .int .i64 2]) ∧ Pn w' q [] ∧ Below w.heap.size w w') := fun w v l h1 h2 h3 =>
    clone_any 2 1 v rexI rexB (.slice none 0 0) l rexL 257 0 0 0 (.slice none 0 0) [] 0 0 2 _ w h1 h2 (dnNil w) h3 (nnNil w) (.inr (.inl ⟨rex_p0, rex_e2, rfl, rfl, rfl, rfl⟩))
  have S1 : Hid (∀ w v l m, Sines w → Pn w v rexI → Sm w l rexL → Nn w m [0, 65535] → Calls Tryz.prog 10 #[.agg #[.int .i64 2, .int .i64 1, v], exV29, l, .agg #[.int .i64 2, .int .i64 1, m]] w fun e w' => ∃ q, e = .returned (.tuple #[.agg #[.int .i64 2, .int .i64 1, q], .int .i64 0]) ∧ Pn w' q [gr 100, gr 100] ∧ Below w.heap.size w w') := fun w v l m h1 h2 h3 h4 =>
    smudge_any 2 1 v rexI rexB (.slice none 0 0) l rexL 2 1 m [0, 65535] 2 1 0 _ w h1 h2 (dnNil w) h3 h4 (.inr ⟨rex_p1, rfl, rfl, rfl, rex_s.symm⟩)
  have H1 : Hid (∀ w v, Pn w v rexH → Calls Tryz.prog 12 #[.agg #[.int .i64 6, .int .i64 3, v], .agg #[.int .i64 0, .int .i64 0, .int .i64 3, .int .i64 3], .agg #[.int .i64 3, .int .i64 0], .agg #[.int .i64 0, .int .i64 0, .slice none 0 0]] w fun e w' => ∃ q, e = .returned (.tuple #[.agg #[.int .i64 6, .int .i64 3, q], .int .i64 0]) ∧ Pn w' q rexK ∧ Fresh w.heap.size q ∧ Below w.heap.size w w') := fun w v h =>
    heal_any 6 3 v rexH 0 0 3 3 3 0 0 0 (.slice none 0 0) [] 6 3 0 _ w h (nnNil w) (.inr (.inr (.inr (.inr (.inr ⟨rex_i, rex_m, rex_hr, rex_ho, rex_hs, rfl, rfl, rfl, rex_h.symm⟩)))))
  have H2 : Hid (∀ w v, Pn w v rexK → Calls Tryz.prog 12 #[.agg #[.int .i64 6, .int .i64 3, v], .agg #[.int .i64 0, .int .i64 0, .int .i64 0, .int .i64 3], .agg #[.int .i64 3, .int .i64 0], .agg #[.int .i64 0, .int .i64 0, .slice none 0 0]] w fun e w' => ∃ q, e = .returned (.tuple #[.agg #[.int .i64 0, .int .i64 0, q], .int .i64 2]) ∧ Pn w' q [] ∧ Fresh w.heap.size q ∧ Below w.heap.size w w') := fun w v h =>
    heal_any 6 3 v rexK 0 0 0 3 3 0 0 0 (.slice none 0 0) [] 0 0 2 _ w h (nnNil w) (.inr (.inr (.inl ⟨rex_i2, rex_m, rex_e1, rfl, rfl, rfl, rfl⟩)))
  have SM := Lib.hid same29_true
  have HSn := Lib.hid hs
  have K1 := Lib.hid k1
  have K2 := Lib.hid k2
  have K3 := Lib.hid k3
  have K4 := Lib.hid k4
  have PI := Lib.hid hPI
  have HL := Lib.hid hL
  clear hs k1 k2 k3 k4 hPI hL
  conv => arg 2; whnf
  obtain ⟨WD, hWD⟩ : ∃ WD, WD = wc := ⟨_, rfl⟩
  rw [← hWD] at k8 k6 hb ox ⊢
  clear hWD
  have own := own_nil WD WD.heap.size 26 rexA
  obtain ⟨base, hbase⟩ : ∃ base, base = WD.heap.size := ⟨_, rfl⟩
  have hbs : base ≤ WD.heap.size := by omega
  have hWb : W6.heap.size ≤ base := by have := hb.size; omega
  rw [← hbase] at ox own
  clear hbase
  go_wp2_with fail
  go_loopw [83] (fun i wr => ∃ (k : Nat) (q : Value), k ≤ 18 ∧ i = .int .i64 k ∧ wr.ownsRow base 26 4 q k (pcF rexA k) ∧ base ≤ wr.heap.size ∧ Blk wr x8 (.cells #[.int .i64 6, .int .i64 3, q] 24 (0, 0)) ∧ Blk wr x6 (.cells #[.int .i64 2, .int .i64 1, .slice aq 2 cq] 24 (0, 0)) ∧ Below W6.heap.size W6 wr) (fun i _ => 18 - (intOf i).toNat)
  case atStart => exact ⟨0, _, Nat.zero_le _, rfl, own, hbs, k8, k6, hb⟩
  case round =>
    clear own k8 k6 hb hbs
    obtain ⟨k, q, hk, rfl, own, hbs, k8, k6, hb⟩ := hrel
    by_cases hlt : k < 18
    · have PS := Lib.hid (pcF_succ rexA k)
      obtain ⟨v, hv⟩ : ∃ v, 100 - ((k % 6 / 3 : Nat) : Int) * 50 = v := ⟨_, rfl⟩
      replace PS : Hid (pcF rexA (k + 1) = pcF rexA k ++ [.int .i64 v, .int .i64 v, .int .i64 v, .int .i64 65535]) := by
        rw [← hv]
        exact PS
      have G1 := Lib.hid (fun w => GR.out v w)
      have t1 : ((k : Nat) : Int).tmod 6 = ((k % 6 : Nat) : Int) := Int.tmod_eq_emod_of_nonneg (by omega)
      have t2 : ((k % 6 : Nat) : Int).tdiv 3 = ((k % 6 / 3 : Nat) : Int) := Int.tdiv_eq_ediv_of_nonneg (by omega)
      have r1 : k % 6 < 6 := Nat.mod_lt _ (by omega)
      have r2 : k % 6 / 3 ≤ 1 := by omega
      generalize k % 6 = rm at *
      generalize rm / 3 = qd at *
      have e1 : IntKind.i64.wrap (rm : Int) = (rm : Int) := IntWalk.i64_in _ (by omega)
      have e2 : IntKind.i64.wrap (qd : Int) = (qd : Int) := IntWalk.i64_in _ (by omega)
      have e3 : IntKind.i64.wrap ((qd : Int) * 50) = (qd : Int) * 50 := IntWalk.i64_in _ (by omega)
      have e4 : IntKind.i64.wrap (100 - (qd : Int) * 50) = v := by rw [hv]; exact IntWalk.i64_in _ (by omega)
      have HO := Lib.hid own
      clear own hv
      obtain ⟨aq0, cq0, rfl⟩ := own_slice HO.out
      go_upto_region 17 with (fail)
      refine wp_region_ord [] [0, 1, 2, 3, 4, 5, 6, 7, 8] [9, 10, 11] (fun h => absurd rfl h) (by kernel_rfl) (by kernel_rfl) ?_
      simp only [picked, opsAt, List.getElem?_cons_succ, List.getElem?_cons_zero]
      apply wpFl_nil
      repeat (first | (apply wpN_on; rfl; rfl; (intro w' hS K hK; have hc0 := (k8.kept hS).c3; have hc1 := (k6.kept hS).lt; go_simp; (first | exact hK.out _ (Below.refl _ _) | (go_at_call 29; (with_reducible refine (G1.out _).mono ?_); rintro e w'' ⟨rfl, hbb⟩; exact ⟨_, rfl, hK.out _ hbb⟩))); simp only [Act.put, List.setIfInBounds_toArray, List.set_cons_succ, List.set_cons_zero]) | (apply wpN_off; rfl; rfl; simp only [Act.put, List.setIfInBounds_toArray, List.set_cons_succ, List.set_cons_zero]))
      apply wpN_new
      rfl
      rfl
      · intro w' hS K hK; have hc0 := (k8.kept hS).c3; have hc1 := (k6.kept hS).lt; go_simp; exact hK.out
      intro x16 hx16 nx16
      simp only [Act.put, mkOf, List.setIfInBounds_toArray, List.set_cons_succ, List.set_cons_zero]
      apply wpN_nil
      rintro WE hS ⟨-, kx16⟩
      replace k8 := k8.kept hS
      replace k6 := k6.kept hS
      replace hb := hb.trans (hS.mono hb.size)
      have own := ownsKept HO.out hS
      replace hbs : base ≤ WE.heap.size := Nat.le_trans hbs hS.size
      clear hS nx16 t1 t2 e1 e2 e3 e4
      obtain ⟨i0, hi, hz0, hz1, hz2⟩ := info_parts infoPx
      go_wp2_with (at_builtin; refine wpList_append_own _ rfl _ _ 22 rfl base 26 i0 (pv 0 0 0 0) 4 32 Tryz.underlying22 hi hz0 hz1 hz2 rfl (by decide) _ _ _ rfl own ⟨x16, 0, none⟩ 1 1 [.int .i64 v, .int .i64 v, .int .i64 v, .int .i64 65535] rfl rfl ?ca1 ?ca2 ?ca3 ?ca4 ?ca5 ?_)
      case ca1 => exact World.news_of_block (cs := #[.int .i64 v, .int .i64 v, .int .i64 v, .int .i64 65535]) (t := 26) (fr := (0, 0)) kx16
      case ca2 => simp [Value.oneCell']
      case ca3 => unfold maxLen; omega
      case ca4 => omega
      case ca5 => exact hbs
      intro v' w7 own' grow' _
      have hno : ∀ b, b < base → (Value.slice aq0 k cq0).ownBlock ≠ some b := fun b hb' h => by have := (own.lt _ h).1; omega
      replace k8 := k8.grown grow' (hno _ (by omega))
      replace k6 := k6.grown grow' (hno _ (by omega))
      replace hb : Below W6.heap.size W6 w7 := hb.grown grow' (by omega) (fun b hb' => by have := (own.lt _ hb').1; omega)
      have hb7 : base ≤ w7.heap.size := Nat.le_trans hbs grow'.size
      obtain ⟨av', cv', rfl⟩ := own_slice own'
      have co := k8.c3
      go_wp2_with fail
      go_roundw
      case rel =>
        refine ⟨k + 1, _, by omega, by go_num, ?_, by simpa using hb7, k8.set1 2 _ (by simp) rfl, k6.other (p := ⟨x8, 2, none⟩) (by show x6 ≠ x8; omega) _, hb.setCell (p := ⟨x8, 2, none⟩) (by show W6.heap.size ≤ x8; omega) _⟩
        rw [PS.out]
        exact own'.kept (row := some x8) ⟨rfl, rfl, rfl, by simp, fun j hj hne => Below.heap_setCell _ _ _ _ (fun h => hne (by rw [h]))⟩ (.inr (fun h => by have := (own'.lt _ h).1; omega))
      case measure => simp [intOf]; omega
    · obtain rfl : k = 18 := by omega
      obtain ⟨g, cap, rfl⟩ := own_some own (by omega)
      obtain ⟨row, hbg⟩ := rowI_own4 own
      have hg6 : W6.heap.size ≤ g := by omega
      clear own
      have R1 : Hid (∀ (r : Nat → Px) w, RowI w g 72 (fun j => cmp (j % 4) (r (j / 4))) → ∀ i, i < 72 → w.cell? ⟨g, i, none⟩ = some (.int .i64 (cmp (i % 4) (r (i / 4)))) ∧ ∀ o, w.frozen? ⟨g, o, none⟩ = false) := fun r w h i hi => h.c i hi
      go_upto_region 19 with (fail)
      refine wp_region_grow 4 (fun w' => Below (World.heap wr).size wr w') (by kernel_rfl) (by kernel_rfl) (Below.refl _ _).drew ?_
      simp only [List.take_succ_cons, List.take_zero, List.drop_succ_cons, List.drop_zero]
      repeat (first | (apply wpG_on; rfl; (intro w' hS K hK; have hc0 := (k8.kept hS).c3; have hc1 := (k6.kept hS).lt; have hc2 := (row.kept hS).lt; go_simp; (first | exact hK.out _ hS | (go_at_call 29; (with_reducible refine (GR.out 60 _).mono ?_); rintro e w'' ⟨rfl, hbb⟩; exact ⟨_, rfl, hK.out _ (hS.trans (hbb.mono hS.size))⟩))); simp only [Act.put, List.setIfInBounds_toArray, List.set_cons_succ, List.set_cons_zero]) | (apply wpG_off; rfl; simp only [Act.put, List.setIfInBounds_toArray, List.set_cons_succ, List.set_cons_zero]))
      apply wpG_nil
      intro WF hS
      replace k8 := k8.kept hS
      replace k6 := k6.kept hS
      replace row := row.kept hS
      replace hb := hb.trans (hS.mono hb.size)
      clear hS
      have d0 := R1.out _ _ row 40 (by omega)
      have d1 := R1.out _ _ row 41 (by omega)
      have d2 := R1.out _ _ row 42 (by omega)
      have d3 := R1.out _ _ row 43 (by omega)
      go_upto_region 20 with (fail)
      clear d0 d1 d2 d3
      refine midRow (k := 10) hb row (by omega) hg6 (fun WG row kk hb => ?_)
      replace k6 := kk _ _ (by omega) k6
      replace k8 := kk _ _ (by omega) k8
      clear kk
      replace row : RowI WG g 72 (fun j => cmp (j % 4) (rexF (j / 4))) := row
      have PH : Pn WG (.slice (some ⟨g, 0, none⟩) 18 cap) rexH := pn_rowI row (by simp [rexH]) (by omega) (fun i hi => rexH_at i hi)
      have c8 := k8.c3
      go_wp2_with fail
      clear c8
      refine (H1.out _ _ PH).mono ?_
      rintro e WH ⟨q, rfl, hq, hfr, hS⟩
      have lr := row.lt
      replace k6 := k6.kept hS
      replace k8 := k8.kept hS
      replace row := row.kept hS
      replace hb := hb.trans (hS.mono hb.size)
      clear hS PH
      obtain ⟨aq3, cq3, rfl⟩ := hq.slice
      rw [show rexK.length = 18 by simp [rexK]] at *
      have hqg : ∀ b o y, aq3 = some ⟨b, o, y⟩ → b ≠ g := fun b o y h => by
        have := hfr b o y 18 cq3 (by rw [h])
        omega
      have HK6 := Lib.hid k6
      clear hfr lr
      go_upto_region 21 with (refine wpList_store_blk rfl _ _ _ rfl x6 #[.int .i64 6, .int .i64 3, .slice aq3 18 cq3] rfl rfl HK6.out infoImgR rfl (by simp [Value.oneCell']) (fun WI k6' hkx hbx => ?_))
      replace hb := hb.trans (hbx.mono hx6)
      have k6 := k6'
      replace hq := pn_stay hq (by first | omega | simp) HK6.out hkx
      replace k8 := hkx _ _ (by omega) k8
      replace row : RowI WI g 72 (fun j => cmp (j % 4) (rexF (j / 4))) := by
        obtain ⟨cs, t, hh, r⟩ := row
        exact ⟨cs, t, hkx _ _ (by omega) hh, r⟩
      clear hkx hbx k6' HK6
      refine wp_region_grow 4 (fun w' => Below (World.heap WI).size WI w') (by kernel_rfl) (by kernel_rfl) (Below.refl _ _).drew ?_
      simp only [List.take_succ_cons, List.take_zero, List.drop_succ_cons, List.drop_zero]
      repeat (first | (apply wpG_on; rfl; (intro w' hS K hK; have hc0 := (k8.kept hS).c3; have hc1 := (k6.kept hS).lt; have hc2 := (row.kept hS).lt; have hc3 := (hq.kept hS).slice; go_simp; (first | exact hK.out _ hS | (go_at_call 29; (with_reducible refine (GR.out 110 _).mono ?_); rintro e w'' ⟨rfl, hbb⟩; exact ⟨_, rfl, hK.out _ (hS.trans (hbb.mono hS.size))⟩))); simp only [Act.put, List.setIfInBounds_toArray, List.set_cons_succ, List.set_cons_zero]) | (apply wpG_off; rfl; simp only [Act.put, List.setIfInBounds_toArray, List.set_cons_succ, List.set_cons_zero]))
      apply wpG_nil
      intro WJ hS
      replace k8 := k8.kept hS
      replace k6 := k6.kept hS
      replace row := row.kept hS
      replace hq := hq.kept hS
      replace hb := hb.trans (hS.mono hb.size)
      clear hS
      have d0 := R1.out _ _ row 28 (by omega)
      have d1 := R1.out _ _ row 29 (by omega)
      have d2 := R1.out _ _ row 30 (by omega)
      have d3 := R1.out _ _ row 31 (by omega)
      go_upto_region 22 with (fail)
      clear d0 d1 d2 d3
      refine midRow (k := 7) hb row (by omega) hg6 (fun WK row kk hb => ?_)
      replace k6 := kk _ _ (by omega) k6
      replace k8 := kk _ _ (by omega) k8
      replace hq := pn_via hq hqg kk
      clear kk hqg R1
      replace row : RowI WK g 72 (fun j => cmp (j % 4) (rexG (j / 4))) := row
      have PH : Pn WK (.slice (some ⟨g, 0, none⟩) 18 cap) rexK := pn_rowI row (by simp [rexK]) (by omega) (fun i hi => rexK_at i hi)
      have c8 := k8.c3
      have c6 := k6.c3
      go_wp2_with fail
      clear c8 c6
      refine (SM.out 6 3 _ _ _ _ hq PH).mono ?_
      rintro e WL ⟨rfl, hS⟩
      replace k8 := k8.kept hS
      replace PH := PH.kept hS
      replace hb := hb.trans (hS.mono hb.size)
      clear hS hq k6 row
      have c8 := k8.c3
      go_wp2_with fail
      clear c8
      refine (H2.out _ _ PH).mono ?_
      rintro e WM ⟨q, rfl, hq, _, hS⟩
      replace hb := hb.trans (hS.mono hb.size)
      obtain ⟨aq4, cq4, rfl⟩ := hq.slice
      clear hS hq PH k8
      have c3 := (K3.out.kept hb).c3
      have c4 := (K4.out.kept hb).c16
      go_wp2_with fail
      clear c3 c4
      refine (C3.out _ _ _ (HSn.out.kept hb) (PI.out.kept hb) (HL.out.kept hb)).mono ?_
      rintro e WN ⟨q, rfl, hq, hS⟩
      replace hb := hb.trans (hS.mono hb.size)
      obtain ⟨aq5, cq5, rfl⟩ := hq.slice
      clear hS hq
      go_upto_region 26 with (refine wpList_store_blk rfl _ _ _ rfl WN.heap.size #[.int .i64 0, .int .i64 0, .slice aq5 0 cq5] rfl rfl (heap_alloc_new WN _) infoImgR rfl (by simp [Value.oneCell']) (fun WO kz hkx hbx => ?_))
      have hS : Below WN.heap.size WN WO := ((Below.refl _ _).alloc (Nat.le_refl _) _).trans hbx
      replace hb := hb.trans (hS.mono hb.size)
      go_wp2_with fail
      go_ret
      exact ⟨rfl, h0.trans (hb.mono h0.size)⟩

noncomputable def awT11 : Code := ((Tryz.f8.body.bind (tailR 11)).getD .skip)
set_option maxHeartbeats 32000000 in
set_option maxRecDepth 100000 in
theorem aw11 (w W6 : World) (n1 n3 n4 bl : Nat) (h0 : Below w.heap.size w W6) (hs : Sines W6) (k1 : Blk W6 n1 (.cells #[.int .i64 100, .int .i64 100, .int .i64 100, .int .i64 65535] 26 (0, 0))) (k2 : Blk W6 (n1 + 1) (.cells #[.int .i64 7, .int .i64 7, .int .i64 7, .int .i64 65535] 26 (0, 0))) (k3 : Blk W6 (n3 + 1) (.cells #[.int .i64 2, .int .i64 1, .slice (some ⟨n3, 0, none⟩) 2 2] 24 (0, 0))) (k4 : Blk W6 n4 (.cells #[.int .i64 160, .int .i64 65535, .int .i64 65535, .int .i64 65535, .int .i64 65535, .int .i64 100, .int .i64 0, .int .i64 0, .int .i64 0, .int .i64 0, .int .i64 0, .int .i64 0, .int .i64 0, .int .i64 0, .slice none 0 0, .bool false] 29 (0, 0))) (hPI : Pn W6 (.slice (some ⟨n3, 0, none⟩) 2 2) rexI) (hL : Sm W6 (.slice (some ⟨bl, 0, none⟩) 1 1) rexL) (wc : World) (x6 : Nat) (aq : Option Addr) (cq : Nat) (hx6 : W6.heap.size ≤ x6) (k6 : Blk wc x6 (.cells #[.int .i64 2, .int .i64 1, .slice aq 2 cq] 24 (0, 0))) (hq : Pn wc (.slice aq 2 cq) [gr 100, gr 100]) (hb : Below W6.heap.size W6 wc) {c8 c9 c10 c11 c12 c13 c14 c15 c16 c17 c18 c19 c20 c21 c22 c23 c24 c25 c26 c27 c28 c29 c30 c31 c32 c33 c34 c35 c36 c37 c38 c39 c40 c41 c42 c43 c44 c45 c46 c47 c48 c49 c50 c51 c52 c53 c54 c55 c56 c57 c58 c59 c60 c61 c62 c63 c64 c65 c66 c67 c68 c69 c70 c71 c72 c73 c74 c75 c76 c77 c78 c79 c80 c81 c82 c83 c84 c85 c86 c87 c88 c89 c90 c91 c92 c93 c94 c95 c96 c97 c98 c99 c100 c101 c102 c103 c104 c105 c106 c107 c108 c109 c110 c111 c112 c113 c114 c115 c116 c117 c118 c119 c120 c121 c122 c123 c124 c125 c126 c127 c128 c129 c130 c131 c132 c133 c134 c135 c136 c137 c138 c139 c140 c141 c142 c143 c144 : Value} :
    Code.wp Tryz.prog awT11 (bodyPost Tryz.prog Tryz.f8 fun e w' => e = .returned (.bool true) ∧ Below w.heap.size w w') ⟨#[.bool false, .pointer (some ⟨n1, 0, none⟩), .pointer (some ⟨(n1 + 1), 0, none⟩), .pointer (some ⟨(n3 + 1), 0, none⟩), .pointer (some ⟨n4, 0, none⟩), .slice (some ⟨bl, 0, none⟩) 1 1, .pointer (some ⟨x6, 0, none⟩), .int .i64 0, c8, c9, c10, c11, c12, c13, c14, c15, c16, c17, c18, c19, c20, c21, c22, c23, c24, c25, c26, c27, c28, c29, c30, c31, c32, c33, c34, c35, c36, c37, c38, c39, c40, c41, c42, c43, c44, c45, c46, c47, c48, c49, c50, c51, c52, c53, c54, c55, c56, c57, c58, c59, c60, c61, c62, c63, c64, c65, c66, c67, c68, c69, c70, c71, c72, c73, c74, c75, c76, c77, c78, c79, c80, c81, c82, c83, c84, c85, c86, c87, c88, c89, c90, c91, c92, c93, c94, c95, c96, c97, c98, c99, c100, c101, c102, c103, c104, c105, c106, c107, c108, c109, c110, c111, c112, c113, c114, c115, c116, c117, c118, c119, c120, c121, c122, c123, c124, c125, c126, c127, c128, c129, c130, c131, c132, c133, c134, c135, c136, c137, c138, c139, c140, c141, c142, c143, c144], []⟩ wc := by
  have GR := Lib.hid gray_any
  have FU := Lib.hid full_any
  have C1 : Hid (∀ w v l, Sines w → Pn w v rexI → Sm w l rexL → Calls Tryz.prog 6 #[.agg #[.int .i64 2, .int .i64 1, v], exV29, l, .agg #[.int .i64 1, .int .i64 0], .agg #[.int .i64 0, .int .i64 0, .slice none 0 0]] w fun e w' => ∃ q, e = .returned (.tuple #[.agg #[.int .i64 2, .int .i64 1, q], .int .i64 0]) ∧ Pn w' q [gr 7, gr 7] ∧ Below w.heap.size w w') := fun w v l h1 h2 h3 =>
    clone_any 2 1 v rexI rexB (.slice none 0 0) l rexL 1 0 0 0 (.slice none 0 0) [] 2 1 0 _ w h1 h2 (dnNil w) h3 (nnNil w) (.inr (.inr ⟨rex_p0, rex_o1, rfl, rfl, rfl, rex_c1.symm⟩))
  have C2 : Hid (∀ w v l, Sines w → Pn w v rexI → Sm w l rexL → Calls Tryz.prog 6 #[.agg #[.int .i64 2, .int .i64 1, v], exV29, l, .agg #[.int .i64 (-1), .int .i64 0], .agg #[.int .i64 0, .int .i64 0, .slice none 0 0]] w fun e w' => ∃ q, e = .returned (.tuple #[.agg #[.int .i64 2, .int .i64 1, q], .int .i64 0]) ∧ Pn w' q [gr 100, gr 100] ∧ Below w.heap.size w w') := fun w v l h1 h2 h3 =>
    clone_any 2 1 v rexI rexB (.slice none 0 0) l rexL (-1) 0 0 0 (.slice none 0 0) [] 2 1 0 _ w h1 h2 (dnNil w) h3 (nnNil w) (.inr (.inr ⟨rex_p0, rex_o2, rfl, rfl, rfl, rex_c2.symm⟩))
  have C3 : Hid (∀ w v l, Sines w → Pn w v rexI → Sm w l rexL → Calls Tryz.prog 6 #[.agg #[.int .i64 2, .int .i64 1, v], exV29, l, .agg #[.int .i64 257, .int .i64 0], .agg #[.int .i64 0, .int .i64 0, .slice none 0 0]] w fun e w' => ∃ q, e = .returned (.tuple #[.agg #[.int .i64 0, .int .i64 0, q], .int .i64 2]) ∧ Pn w' q [] ∧ Below w.heap.size w w') := fun w v l h1 h2 h3 =>
    clone_any 2 1 v rexI rexB (.slice none 0 0) l rexL 257 0 0 0 (.slice none 0 0) [] 0 0 2 _ w h1 h2 (dnNil w) h3 (nnNil w) (.inr (.inl ⟨rex_p0, rex_e2, rfl, rfl, rfl, rfl⟩))
  have S1 : Hid (∀ w v l m, Sines w → Pn w v rexI → Sm w l rexL → Nn w m [0, 65535] → Calls Tryz.prog 10 #[.agg #[.int .i64 2, .int .i64 1, v], exV29, l, .agg #[.int .i64 2, .int .i64 1, m]] w fun e w' => ∃ q, e = .returned (.tuple #[.agg #[.int .i64 2, .int .i64 1, q], .int .i64 0]) ∧ Pn w' q [gr 100, gr 100] ∧ Below w.heap.size w w') := fun w v l m h1 h2 h3 h4 =>
    smudge_any 2 1 v rexI rexB (.slice none 0 0) l rexL 2 1 m [0, 65535] 2 1 0 _ w h1 h2 (dnNil w) h3 h4 (.inr ⟨rex_p1, rfl, rfl, rfl, rex_s.symm⟩)
  have H1 : Hid (∀ w v, Pn w v rexH → Calls Tryz.prog 12 #[.agg #[.int .i64 6, .int .i64 3, v], .agg #[.int .i64 0, .int .i64 0, .int .i64 3, .int .i64 3], .agg #[.int .i64 3, .int .i64 0], .agg #[.int .i64 0, .int .i64 0, .slice none 0 0]] w fun e w' => ∃ q, e = .returned (.tuple #[.agg #[.int .i64 6, .int .i64 3, q], .int .i64 0]) ∧ Pn w' q rexK ∧ Fresh w.heap.size q ∧ Below w.heap.size w w') := fun w v h =>
    heal_any 6 3 v rexH 0 0 3 3 3 0 0 0 (.slice none 0 0) [] 6 3 0 _ w h (nnNil w) (.inr (.inr (.inr (.inr (.inr ⟨rex_i, rex_m, rex_hr, rex_ho, rex_hs, rfl, rfl, rfl, rex_h.symm⟩)))))
  have H2 : Hid (∀ w v, Pn w v rexK → Calls Tryz.prog 12 #[.agg #[.int .i64 6, .int .i64 3, v], .agg #[.int .i64 0, .int .i64 0, .int .i64 0, .int .i64 3], .agg #[.int .i64 3, .int .i64 0], .agg #[.int .i64 0, .int .i64 0, .slice none 0 0]] w fun e w' => ∃ q, e = .returned (.tuple #[.agg #[.int .i64 0, .int .i64 0, q], .int .i64 2]) ∧ Pn w' q [] ∧ Fresh w.heap.size q ∧ Below w.heap.size w w') := fun w v h =>
    heal_any 6 3 v rexK 0 0 0 3 3 0 0 0 (.slice none 0 0) [] 0 0 2 _ w h (nnNil w) (.inr (.inr (.inl ⟨rex_i2, rex_m, rex_e1, rfl, rfl, rfl, rfl⟩)))
  have SM := Lib.hid same29_true
  have HSn := Lib.hid hs
  have K1 := Lib.hid k1
  have K2 := Lib.hid k2
  have K3 := Lib.hid k3
  have K4 := Lib.hid k4
  have PI := Lib.hid hPI
  have HL := Lib.hid hL
  clear hs k1 k2 k3 k4 hPI hL
  conv => arg 2; whnf
  have cx := (K1.out.kept hb).c4
  have c6 := k6.c3
  go_wp2_with fail
  clear cx c6
  refine callName1 (fun WS kx hS => ?_)
  replace k6 := k6.kept hS
  replace hq := hq.kept hS
  replace hb := hb.trans (hS.mono hb.size)
  clear hS
  refine (SM.out 2 1 _ _ _ _ hq (pn29 kx)).mono ?_
  rintro e WCc ⟨rfl, hS⟩
  replace k6 := k6.kept hS
  replace hb := hb.trans (hS.mono hb.size)
  clear hS kx hq
  go_upto_region 13 with (fail)
  go_cut [8] (fun s8 wx => ∃ x8 : Nat, s8 = .pointer (some ⟨x8, 0, none⟩) ∧ x6 < x8 ∧ x8 < wx.heap.size ∧ Blk wx x8 (.cells #[.int .i64 6, .int .i64 3, .slice none 0 0] 24 (0, 0)) ∧ Blk wx x6 (.cells #[.int .i64 2, .int .i64 1, .slice aq 2 cq] 24 (0, 0)) ∧ Below W6.heap.size W6 wx)
  case first =>
    have l6 := k6.lt
    go_wp2_with fail
    go_meet
    exact ⟨_, rfl, l6, by simp, heap_alloc_new _ _, k6.alloc _, hb.alloc hb.size _⟩
  case rest =>
    clear k6 hb
    obtain ⟨x8, rfl, x86, ox, k8, k6, hb⟩ := hcut
    rename_i hk0
    refine hk0 _ _ (aw14 w W6 n1 n3 n4 bl h0 HSn.out K1.out K2.out K3.out K4.out PI.out HL.out _ _ _ _ hx6 k6 hb _ x86 ox k8)

noncomputable def awT8 : Code := ((Tryz.f8.body.bind (tailR 8)).getD .skip)
set_option maxHeartbeats 32000000 in
set_option maxRecDepth 100000 in
theorem aw8 (w W6 : World) (n1 n3 n4 bl : Nat) (h0 : Below w.heap.size w W6) (hs : Sines W6) (k1 : Blk W6 n1 (.cells #[.int .i64 100, .int .i64 100, .int .i64 100, .int .i64 65535] 26 (0, 0))) (k2 : Blk W6 (n1 + 1) (.cells #[.int .i64 7, .int .i64 7, .int .i64 7, .int .i64 65535] 26 (0, 0))) (k3 : Blk W6 (n3 + 1) (.cells #[.int .i64 2, .int .i64 1, .slice (some ⟨n3, 0, none⟩) 2 2] 24 (0, 0))) (k4 : Blk W6 n4 (.cells #[.int .i64 160, .int .i64 65535, .int .i64 65535, .int .i64 65535, .int .i64 65535, .int .i64 100, .int .i64 0, .int .i64 0, .int .i64 0, .int .i64 0, .int .i64 0, .int .i64 0, .int .i64 0, .int .i64 0, .slice none 0 0, .bool false] 29 (0, 0))) (hPI : Pn W6 (.slice (some ⟨n3, 0, none⟩) 2 2) rexI) (hL : Sm W6 (.slice (some ⟨bl, 0, none⟩) 1 1) rexL) (wc : World) (x6 : Nat) (aq : Option Addr) (cq : Nat) (hx6 : W6.heap.size ≤ x6) (k6 : Blk wc x6 (.cells #[.int .i64 2, .int .i64 1, .slice aq 2 cq] 24 (0, 0))) (hq : Pn wc (.slice aq 2 cq) [gr 100, gr 100]) (hb : Below W6.heap.size W6 wc) {c8 c9 c10 c11 c12 c13 c14 c15 c16 c17 c18 c19 c20 c21 c22 c23 c24 c25 c26 c27 c28 c29 c30 c31 c32 c33 c34 c35 c36 c37 c38 c39 c40 c41 c42 c43 c44 c45 c46 c47 c48 c49 c50 c51 c52 c53 c54 c55 c56 c57 c58 c59 c60 c61 c62 c63 c64 c65 c66 c67 c68 c69 c70 c71 c72 c73 c74 c75 c76 c77 c78 c79 c80 c81 c82 c83 c84 c85 c86 c87 c88 c89 c90 c91 c92 c93 c94 c95 c96 c97 c98 c99 c100 c101 c102 c103 c104 c105 c106 c107 c108 c109 c110 c111 c112 c113 c114 c115 c116 c117 c118 c119 c120 c121 c122 c123 c124 c125 c126 c127 c128 c129 c130 c131 c132 c133 c134 c135 c136 c137 c138 c139 c140 c141 c142 c143 c144 : Value} :
    Code.wp Tryz.prog awT8 (bodyPost Tryz.prog Tryz.f8 fun e w' => e = .returned (.bool true) ∧ Below w.heap.size w w') ⟨#[.bool false, .pointer (some ⟨n1, 0, none⟩), .pointer (some ⟨(n1 + 1), 0, none⟩), .pointer (some ⟨(n3 + 1), 0, none⟩), .pointer (some ⟨n4, 0, none⟩), .slice (some ⟨bl, 0, none⟩) 1 1, .pointer (some ⟨x6, 0, none⟩), .int .i64 0, c8, c9, c10, c11, c12, c13, c14, c15, c16, c17, c18, c19, c20, c21, c22, c23, c24, c25, c26, c27, c28, c29, c30, c31, c32, c33, c34, c35, c36, c37, c38, c39, c40, c41, c42, c43, c44, c45, c46, c47, c48, c49, c50, c51, c52, c53, c54, c55, c56, c57, c58, c59, c60, c61, c62, c63, c64, c65, c66, c67, c68, c69, c70, c71, c72, c73, c74, c75, c76, c77, c78, c79, c80, c81, c82, c83, c84, c85, c86, c87, c88, c89, c90, c91, c92, c93, c94, c95, c96, c97, c98, c99, c100, c101, c102, c103, c104, c105, c106, c107, c108, c109, c110, c111, c112, c113, c114, c115, c116, c117, c118, c119, c120, c121, c122, c123, c124, c125, c126, c127, c128, c129, c130, c131, c132, c133, c134, c135, c136, c137, c138, c139, c140, c141, c142, c143, c144], []⟩ wc := by
  have GR := Lib.hid gray_any
  have FU := Lib.hid full_any
  have C1 : Hid (∀ w v l, Sines w → Pn w v rexI → Sm w l rexL → Calls Tryz.prog 6 #[.agg #[.int .i64 2, .int .i64 1, v], exV29, l, .agg #[.int .i64 1, .int .i64 0], .agg #[.int .i64 0, .int .i64 0, .slice none 0 0]] w fun e w' => ∃ q, e = .returned (.tuple #[.agg #[.int .i64 2, .int .i64 1, q], .int .i64 0]) ∧ Pn w' q [gr 7, gr 7] ∧ Below w.heap.size w w') := fun w v l h1 h2 h3 =>
    clone_any 2 1 v rexI rexB (.slice none 0 0) l rexL 1 0 0 0 (.slice none 0 0) [] 2 1 0 _ w h1 h2 (dnNil w) h3 (nnNil w) (.inr (.inr ⟨rex_p0, rex_o1, rfl, rfl, rfl, rex_c1.symm⟩))
  have C2 : Hid (∀ w v l, Sines w → Pn w v rexI → Sm w l rexL → Calls Tryz.prog 6 #[.agg #[.int .i64 2, .int .i64 1, v], exV29, l, .agg #[.int .i64 (-1), .int .i64 0], .agg #[.int .i64 0, .int .i64 0, .slice none 0 0]] w fun e w' => ∃ q, e = .returned (.tuple #[.agg #[.int .i64 2, .int .i64 1, q], .int .i64 0]) ∧ Pn w' q [gr 100, gr 100] ∧ Below w.heap.size w w') := fun w v l h1 h2 h3 =>
    clone_any 2 1 v rexI rexB (.slice none 0 0) l rexL (-1) 0 0 0 (.slice none 0 0) [] 2 1 0 _ w h1 h2 (dnNil w) h3 (nnNil w) (.inr (.inr ⟨rex_p0, rex_o2, rfl, rfl, rfl, rex_c2.symm⟩))
  have C3 : Hid (∀ w v l, Sines w → Pn w v rexI → Sm w l rexL → Calls Tryz.prog 6 #[.agg #[.int .i64 2, .int .i64 1, v], exV29, l, .agg #[.int .i64 257, .int .i64 0], .agg #[.int .i64 0, .int .i64 0, .slice none 0 0]] w fun e w' => ∃ q, e = .returned (.tuple #[.agg #[.int .i64 0, .int .i64 0, q], .int .i64 2]) ∧ Pn w' q [] ∧ Below w.heap.size w w') := fun w v l h1 h2 h3 =>
    clone_any 2 1 v rexI rexB (.slice none 0 0) l rexL 257 0 0 0 (.slice none 0 0) [] 0 0 2 _ w h1 h2 (dnNil w) h3 (nnNil w) (.inr (.inl ⟨rex_p0, rex_e2, rfl, rfl, rfl, rfl⟩))
  have S1 : Hid (∀ w v l m, Sines w → Pn w v rexI → Sm w l rexL → Nn w m [0, 65535] → Calls Tryz.prog 10 #[.agg #[.int .i64 2, .int .i64 1, v], exV29, l, .agg #[.int .i64 2, .int .i64 1, m]] w fun e w' => ∃ q, e = .returned (.tuple #[.agg #[.int .i64 2, .int .i64 1, q], .int .i64 0]) ∧ Pn w' q [gr 100, gr 100] ∧ Below w.heap.size w w') := fun w v l m h1 h2 h3 h4 =>
    smudge_any 2 1 v rexI rexB (.slice none 0 0) l rexL 2 1 m [0, 65535] 2 1 0 _ w h1 h2 (dnNil w) h3 h4 (.inr ⟨rex_p1, rfl, rfl, rfl, rex_s.symm⟩)
  have H1 : Hid (∀ w v, Pn w v rexH → Calls Tryz.prog 12 #[.agg #[.int .i64 6, .int .i64 3, v], .agg #[.int .i64 0, .int .i64 0, .int .i64 3, .int .i64 3], .agg #[.int .i64 3, .int .i64 0], .agg #[.int .i64 0, .int .i64 0, .slice none 0 0]] w fun e w' => ∃ q, e = .returned (.tuple #[.agg #[.int .i64 6, .int .i64 3, q], .int .i64 0]) ∧ Pn w' q rexK ∧ Fresh w.heap.size q ∧ Below w.heap.size w w') := fun w v h =>
    heal_any 6 3 v rexH 0 0 3 3 3 0 0 0 (.slice none 0 0) [] 6 3 0 _ w h (nnNil w) (.inr (.inr (.inr (.inr (.inr ⟨rex_i, rex_m, rex_hr, rex_ho, rex_hs, rfl, rfl, rfl, rex_h.symm⟩)))))
  have H2 : Hid (∀ w v, Pn w v rexK → Calls Tryz.prog 12 #[.agg #[.int .i64 6, .int .i64 3, v], .agg #[.int .i64 0, .int .i64 0, .int .i64 0, .int .i64 3], .agg #[.int .i64 3, .int .i64 0], .agg #[.int .i64 0, .int .i64 0, .slice none 0 0]] w fun e w' => ∃ q, e = .returned (.tuple #[.agg #[.int .i64 0, .int .i64 0, q], .int .i64 2]) ∧ Pn w' q [] ∧ Fresh w.heap.size q ∧ Below w.heap.size w w') := fun w v h =>
    heal_any 6 3 v rexK 0 0 0 3 3 0 0 0 (.slice none 0 0) [] 0 0 2 _ w h (nnNil w) (.inr (.inr (.inl ⟨rex_i2, rex_m, rex_e1, rfl, rfl, rfl, rfl⟩)))
  have SM := Lib.hid same29_true
  have HSn := Lib.hid hs
  have K1 := Lib.hid k1
  have K2 := Lib.hid k2
  have K3 := Lib.hid k3
  have K4 := Lib.hid k4
  have PI := Lib.hid hPI
  have HL := Lib.hid hL
  clear hs k1 k2 k3 k4 hPI hL
  conv => arg 2; whnf
  have cx := (K1.out.kept hb).c4
  have c6 := k6.c3
  go_wp2_with fail
  clear cx c6
  refine callName1 (fun WS kx hS => ?_)
  replace k6 := k6.kept hS
  replace hq := hq.kept hS
  replace hb := hb.trans (hS.mono hb.size)
  clear hS
  refine (SM.out 2 1 _ _ _ _ hq (pn29 kx)).mono ?_
  rintro e WBc ⟨rfl, hS⟩
  replace k6 := k6.kept hS
  replace hb := hb.trans (hS.mono hb.size)
  clear hS kx hq
  go_upto_region 10 with (fail)
  go_cut [6, 7] (fun s6 s7 wx => s7 = .int .i64 0 ∧ ∃ (x6 : Nat) (aq : Option Addr) (cq : Nat), s6 = .pointer (some ⟨x6, 0, none⟩) ∧ W6.heap.size ≤ x6 ∧ Blk wx x6 (.cells #[.int .i64 2, .int .i64 1, .slice aq 2 cq] 24 (0, 0)) ∧ Pn wx (.slice aq 2 cq) [gr 100, gr 100] ∧ Below W6.heap.size W6 wx)
  case first =>
    have c3 := (K3.out.kept hb).c3
    have c4 := (K4.out.kept hb).c16
    go_wp2_with fail
    clear c3 c4
    refine callName1 (fun WM km hS => ?_)
    replace hb := hb.trans (hS.mono hb.size)
    replace k6 := k6.kept hS
    clear hS
    refine (S1.out _ _ _ _ (HSn.out.kept hb) (PI.out.kept hb) (HL.out.kept hb) (nn29 km)).mono ?_
    rintro e WC ⟨q, rfl, hq, hS⟩
    replace k6 := k6.kept hS
    replace hb := hb.trans (hS.mono hb.size)
    clear hS km
    obtain ⟨aq, cq, rfl⟩ := hq.slice
    have HK6 := Lib.hid k6
    go_wp2_with (refine wpList_store_blk rfl _ _ _ rfl x6 #[.int .i64 2, .int .i64 1, .slice aq 2 cq] rfl rfl HK6.out infoImgR rfl (by simp [Value.oneCell']) (fun WCb k6' hkx hbx => ?_))
    replace hb := hb.trans (hbx.mono hx6)
    replace hq := pn_stay hq (by first | omega | simp) HK6.out hkx
    go_meet
    exact ⟨rfl, x6, aq, cq, rfl, hx6, k6', hq, hb⟩
  case rest =>
    clear k6 hb
    obtain ⟨rfl, x6, aq, cq, rfl, hx6, k6, hq, hb⟩ := hcut
    rename_i hk0
    refine hk0 _ _ (aw11 w W6 n1 n3 n4 bl h0 HSn.out K1.out K2.out K3.out K4.out PI.out HL.out _ _ _ _ hx6 k6 hq hb)

noncomputable def awT5 : Code := ((Tryz.f8.body.bind (tailR 5)).getD .skip)
set_option maxHeartbeats 32000000 in
set_option maxRecDepth 100000 in
theorem aw5 (w W6 : World) (n1 n3 n4 bl : Nat) (h0 : Below w.heap.size w W6) (hs : Sines W6) (k1 : Blk W6 n1 (.cells #[.int .i64 100, .int .i64 100, .int .i64 100, .int .i64 65535] 26 (0, 0))) (k2 : Blk W6 (n1 + 1) (.cells #[.int .i64 7, .int .i64 7, .int .i64 7, .int .i64 65535] 26 (0, 0))) (k3 : Blk W6 (n3 + 1) (.cells #[.int .i64 2, .int .i64 1, .slice (some ⟨n3, 0, none⟩) 2 2] 24 (0, 0))) (k4 : Blk W6 n4 (.cells #[.int .i64 160, .int .i64 65535, .int .i64 65535, .int .i64 65535, .int .i64 65535, .int .i64 100, .int .i64 0, .int .i64 0, .int .i64 0, .int .i64 0, .int .i64 0, .int .i64 0, .int .i64 0, .int .i64 0, .slice none 0 0, .bool false] 29 (0, 0))) (hPI : Pn W6 (.slice (some ⟨n3, 0, none⟩) 2 2) rexI) (hL : Sm W6 (.slice (some ⟨bl, 0, none⟩) 1 1) rexL) (wc : World) (x6 : Nat) (aq : Option Addr) (cq : Nat) (hx6 : W6.heap.size ≤ x6) (k6 : Blk wc x6 (.cells #[.int .i64 2, .int .i64 1, .slice aq 2 cq] 24 (0, 0))) (hq : Pn wc (.slice aq 2 cq) [gr 7, gr 7]) (hb : Below W6.heap.size W6 wc) {c8 c9 c10 c11 c12 c13 c14 c15 c16 c17 c18 c19 c20 c21 c22 c23 c24 c25 c26 c27 c28 c29 c30 c31 c32 c33 c34 c35 c36 c37 c38 c39 c40 c41 c42 c43 c44 c45 c46 c47 c48 c49 c50 c51 c52 c53 c54 c55 c56 c57 c58 c59 c60 c61 c62 c63 c64 c65 c66 c67 c68 c69 c70 c71 c72 c73 c74 c75 c76 c77 c78 c79 c80 c81 c82 c83 c84 c85 c86 c87 c88 c89 c90 c91 c92 c93 c94 c95 c96 c97 c98 c99 c100 c101 c102 c103 c104 c105 c106 c107 c108 c109 c110 c111 c112 c113 c114 c115 c116 c117 c118 c119 c120 c121 c122 c123 c124 c125 c126 c127 c128 c129 c130 c131 c132 c133 c134 c135 c136 c137 c138 c139 c140 c141 c142 c143 c144 : Value} :
    Code.wp Tryz.prog awT5 (bodyPost Tryz.prog Tryz.f8 fun e w' => e = .returned (.bool true) ∧ Below w.heap.size w w') ⟨#[.bool false, .pointer (some ⟨n1, 0, none⟩), .pointer (some ⟨(n1 + 1), 0, none⟩), .pointer (some ⟨(n3 + 1), 0, none⟩), .pointer (some ⟨n4, 0, none⟩), .slice (some ⟨bl, 0, none⟩) 1 1, .pointer (some ⟨x6, 0, none⟩), .int .i64 0, c8, c9, c10, c11, c12, c13, c14, c15, c16, c17, c18, c19, c20, c21, c22, c23, c24, c25, c26, c27, c28, c29, c30, c31, c32, c33, c34, c35, c36, c37, c38, c39, c40, c41, c42, c43, c44, c45, c46, c47, c48, c49, c50, c51, c52, c53, c54, c55, c56, c57, c58, c59, c60, c61, c62, c63, c64, c65, c66, c67, c68, c69, c70, c71, c72, c73, c74, c75, c76, c77, c78, c79, c80, c81, c82, c83, c84, c85, c86, c87, c88, c89, c90, c91, c92, c93, c94, c95, c96, c97, c98, c99, c100, c101, c102, c103, c104, c105, c106, c107, c108, c109, c110, c111, c112, c113, c114, c115, c116, c117, c118, c119, c120, c121, c122, c123, c124, c125, c126, c127, c128, c129, c130, c131, c132, c133, c134, c135, c136, c137, c138, c139, c140, c141, c142, c143, c144], []⟩ wc := by
  have GR := Lib.hid gray_any
  have FU := Lib.hid full_any
  have C1 : Hid (∀ w v l, Sines w → Pn w v rexI → Sm w l rexL → Calls Tryz.prog 6 #[.agg #[.int .i64 2, .int .i64 1, v], exV29, l, .agg #[.int .i64 1, .int .i64 0], .agg #[.int .i64 0, .int .i64 0, .slice none 0 0]] w fun e w' => ∃ q, e = .returned (.tuple #[.agg #[.int .i64 2, .int .i64 1, q], .int .i64 0]) ∧ Pn w' q [gr 7, gr 7] ∧ Below w.heap.size w w') := fun w v l h1 h2 h3 =>
    clone_any 2 1 v rexI rexB (.slice none 0 0) l rexL 1 0 0 0 (.slice none 0 0) [] 2 1 0 _ w h1 h2 (dnNil w) h3 (nnNil w) (.inr (.inr ⟨rex_p0, rex_o1, rfl, rfl, rfl, rex_c1.symm⟩))
  have C2 : Hid (∀ w v l, Sines w → Pn w v rexI → Sm w l rexL → Calls Tryz.prog 6 #[.agg #[.int .i64 2, .int .i64 1, v], exV29, l, .agg #[.int .i64 (-1), .int .i64 0], .agg #[.int .i64 0, .int .i64 0, .slice none 0 0]] w fun e w' => ∃ q, e = .returned (.tuple #[.agg #[.int .i64 2, .int .i64 1, q], .int .i64 0]) ∧ Pn w' q [gr 100, gr 100] ∧ Below w.heap.size w w') := fun w v l h1 h2 h3 =>
    clone_any 2 1 v rexI rexB (.slice none 0 0) l rexL (-1) 0 0 0 (.slice none 0 0) [] 2 1 0 _ w h1 h2 (dnNil w) h3 (nnNil w) (.inr (.inr ⟨rex_p0, rex_o2, rfl, rfl, rfl, rex_c2.symm⟩))
  have C3 : Hid (∀ w v l, Sines w → Pn w v rexI → Sm w l rexL → Calls Tryz.prog 6 #[.agg #[.int .i64 2, .int .i64 1, v], exV29, l, .agg #[.int .i64 257, .int .i64 0], .agg #[.int .i64 0, .int .i64 0, .slice none 0 0]] w fun e w' => ∃ q, e = .returned (.tuple #[.agg #[.int .i64 0, .int .i64 0, q], .int .i64 2]) ∧ Pn w' q [] ∧ Below w.heap.size w w') := fun w v l h1 h2 h3 =>
    clone_any 2 1 v rexI rexB (.slice none 0 0) l rexL 257 0 0 0 (.slice none 0 0) [] 0 0 2 _ w h1 h2 (dnNil w) h3 (nnNil w) (.inr (.inl ⟨rex_p0, rex_e2, rfl, rfl, rfl, rfl⟩))
  have S1 : Hid (∀ w v l m, Sines w → Pn w v rexI → Sm w l rexL → Nn w m [0, 65535] → Calls Tryz.prog 10 #[.agg #[.int .i64 2, .int .i64 1, v], exV29, l, .agg #[.int .i64 2, .int .i64 1, m]] w fun e w' => ∃ q, e = .returned (.tuple #[.agg #[.int .i64 2, .int .i64 1, q], .int .i64 0]) ∧ Pn w' q [gr 100, gr 100] ∧ Below w.heap.size w w') := fun w v l m h1 h2 h3 h4 =>
    smudge_any 2 1 v rexI rexB (.slice none 0 0) l rexL 2 1 m [0, 65535] 2 1 0 _ w h1 h2 (dnNil w) h3 h4 (.inr ⟨rex_p1, rfl, rfl, rfl, rex_s.symm⟩)
  have H1 : Hid (∀ w v, Pn w v rexH → Calls Tryz.prog 12 #[.agg #[.int .i64 6, .int .i64 3, v], .agg #[.int .i64 0, .int .i64 0, .int .i64 3, .int .i64 3], .agg #[.int .i64 3, .int .i64 0], .agg #[.int .i64 0, .int .i64 0, .slice none 0 0]] w fun e w' => ∃ q, e = .returned (.tuple #[.agg #[.int .i64 6, .int .i64 3, q], .int .i64 0]) ∧ Pn w' q rexK ∧ Fresh w.heap.size q ∧ Below w.heap.size w w') := fun w v h =>
    heal_any 6 3 v rexH 0 0 3 3 3 0 0 0 (.slice none 0 0) [] 6 3 0 _ w h (nnNil w) (.inr (.inr (.inr (.inr (.inr ⟨rex_i, rex_m, rex_hr, rex_ho, rex_hs, rfl, rfl, rfl, rex_h.symm⟩)))))
  have H2 : Hid (∀ w v, Pn w v rexK → Calls Tryz.prog 12 #[.agg #[.int .i64 6, .int .i64 3, v], .agg #[.int .i64 0, .int .i64 0, .int .i64 0, .int .i64 3], .agg #[.int .i64 3, .int .i64 0], .agg #[.int .i64 0, .int .i64 0, .slice none 0 0]] w fun e w' => ∃ q, e = .returned (.tuple #[.agg #[.int .i64 0, .int .i64 0, q], .int .i64 2]) ∧ Pn w' q [] ∧ Fresh w.heap.size q ∧ Below w.heap.size w w') := fun w v h =>
    heal_any 6 3 v rexK 0 0 0 3 3 0 0 0 (.slice none 0 0) [] 0 0 2 _ w h (nnNil w) (.inr (.inr (.inl ⟨rex_i2, rex_m, rex_e1, rfl, rfl, rfl, rfl⟩)))
  have SM := Lib.hid same29_true
  have HSn := Lib.hid hs
  have K1 := Lib.hid k1
  have K2 := Lib.hid k2
  have K3 := Lib.hid k3
  have K4 := Lib.hid k4
  have PI := Lib.hid hPI
  have HL := Lib.hid hL
  clear hs k1 k2 k3 k4 hPI hL
  conv => arg 2; whnf
  have cx := (K2.out.kept hb).c4
  have c6 := k6.c3
  go_wp2_with fail
  clear cx c6
  refine callName1 (fun WS kx hS => ?_)
  replace k6 := k6.kept hS
  replace hq := hq.kept hS
  replace hb := hb.trans (hS.mono hb.size)
  clear hS
  refine (SM.out 2 1 _ _ _ _ hq (pn29 kx)).mono ?_
  rintro e WAc ⟨rfl, hS⟩
  replace k6 := k6.kept hS
  replace hb := hb.trans (hS.mono hb.size)
  clear hS kx hq
  go_upto_region 7 with (fail)
  go_cut [6, 7] (fun s6 s7 wx => s7 = .int .i64 0 ∧ ∃ (x6 : Nat) (aq : Option Addr) (cq : Nat), s6 = .pointer (some ⟨x6, 0, none⟩) ∧ W6.heap.size ≤ x6 ∧ Blk wx x6 (.cells #[.int .i64 2, .int .i64 1, .slice aq 2 cq] 24 (0, 0)) ∧ Pn wx (.slice aq 2 cq) [gr 100, gr 100] ∧ Below W6.heap.size W6 wx)
  case first =>
    have c3 := (K3.out.kept hb).c3
    have c4 := (K4.out.kept hb).c16
    go_wp2_with fail
    clear c3 c4
    refine (C2.out _ _ _ (HSn.out.kept hb) (PI.out.kept hb) (HL.out.kept hb)).mono ?_
    rintro e WB ⟨q, rfl, hq, hS⟩
    replace k6 := k6.kept hS
    replace hb := hb.trans (hS.mono hb.size)
    clear hS
    obtain ⟨aq, cq, rfl⟩ := hq.slice
    have HK6 := Lib.hid k6
    go_wp2_with (refine wpList_store_blk rfl _ _ _ rfl x6 #[.int .i64 2, .int .i64 1, .slice aq 2 cq] rfl rfl HK6.out infoImgR rfl (by simp [Value.oneCell']) (fun WBb k6' hkx hbx => ?_))
    replace hb := hb.trans (hbx.mono hx6)
    replace hq := pn_stay hq (by first | omega | simp) HK6.out hkx
    go_meet
    exact ⟨rfl, x6, aq, cq, rfl, hx6, k6', hq, hb⟩
  case rest =>
    clear k6 hb
    obtain ⟨rfl, x6, aq, cq, rfl, hx6, k6, hq, hb⟩ := hcut
    rename_i hk0
    refine hk0 _ _ (aw8 w W6 n1 n3 n4 bl h0 HSn.out K1.out K2.out K3.out K4.out PI.out HL.out _ _ _ _ hx6 k6 hq hb)

set_option maxHeartbeats 32000000 in
set_option maxRecDepth 100000 in
/-- The examples of the chapter hold. -/
theorem awake_any (w : World) (hs : Sines w) :
    Calls Tryz.prog 8 #[] w fun e w' => e = .returned (.bool true) ∧ Below w.heap.size w w' := by
  have GR := Lib.hid gray_any
  have FU := Lib.hid full_any
  have HSn := Lib.hid hs
  clear hs
  have C1 : Hid (∀ w v l, Sines w → Pn w v rexI → Sm w l rexL → Calls Tryz.prog 6 #[.agg #[.int .i64 2, .int .i64 1, v], exV29, l, .agg #[.int .i64 1, .int .i64 0], .agg #[.int .i64 0, .int .i64 0, .slice none 0 0]] w fun e w' => ∃ q, e = .returned (.tuple #[.agg #[.int .i64 2, .int .i64 1, q], .int .i64 0]) ∧ Pn w' q [gr 7, gr 7] ∧ Below w.heap.size w w') := fun w v l h1 h2 h3 =>
    clone_any 2 1 v rexI rexB (.slice none 0 0) l rexL 1 0 0 0 (.slice none 0 0) [] 2 1 0 _ w h1 h2 (dnNil w) h3 (nnNil w) (.inr (.inr ⟨rex_p0, rex_o1, rfl, rfl, rfl, rex_c1.symm⟩))
  have C2 : Hid (∀ w v l, Sines w → Pn w v rexI → Sm w l rexL → Calls Tryz.prog 6 #[.agg #[.int .i64 2, .int .i64 1, v], exV29, l, .agg #[.int .i64 (-1), .int .i64 0], .agg #[.int .i64 0, .int .i64 0, .slice none 0 0]] w fun e w' => ∃ q, e = .returned (.tuple #[.agg #[.int .i64 2, .int .i64 1, q], .int .i64 0]) ∧ Pn w' q [gr 100, gr 100] ∧ Below w.heap.size w w') := fun w v l h1 h2 h3 =>
    clone_any 2 1 v rexI rexB (.slice none 0 0) l rexL (-1) 0 0 0 (.slice none 0 0) [] 2 1 0 _ w h1 h2 (dnNil w) h3 (nnNil w) (.inr (.inr ⟨rex_p0, rex_o2, rfl, rfl, rfl, rex_c2.symm⟩))
  have C3 : Hid (∀ w v l, Sines w → Pn w v rexI → Sm w l rexL → Calls Tryz.prog 6 #[.agg #[.int .i64 2, .int .i64 1, v], exV29, l, .agg #[.int .i64 257, .int .i64 0], .agg #[.int .i64 0, .int .i64 0, .slice none 0 0]] w fun e w' => ∃ q, e = .returned (.tuple #[.agg #[.int .i64 0, .int .i64 0, q], .int .i64 2]) ∧ Pn w' q [] ∧ Below w.heap.size w w') := fun w v l h1 h2 h3 =>
    clone_any 2 1 v rexI rexB (.slice none 0 0) l rexL 257 0 0 0 (.slice none 0 0) [] 0 0 2 _ w h1 h2 (dnNil w) h3 (nnNil w) (.inr (.inl ⟨rex_p0, rex_e2, rfl, rfl, rfl, rfl⟩))
  have S1 : Hid (∀ w v l m, Sines w → Pn w v rexI → Sm w l rexL → Nn w m [0, 65535] → Calls Tryz.prog 10 #[.agg #[.int .i64 2, .int .i64 1, v], exV29, l, .agg #[.int .i64 2, .int .i64 1, m]] w fun e w' => ∃ q, e = .returned (.tuple #[.agg #[.int .i64 2, .int .i64 1, q], .int .i64 0]) ∧ Pn w' q [gr 100, gr 100] ∧ Below w.heap.size w w') := fun w v l m h1 h2 h3 h4 =>
    smudge_any 2 1 v rexI rexB (.slice none 0 0) l rexL 2 1 m [0, 65535] 2 1 0 _ w h1 h2 (dnNil w) h3 h4 (.inr ⟨rex_p1, rfl, rfl, rfl, rex_s.symm⟩)
  have H1 : Hid (∀ w v, Pn w v rexH → Calls Tryz.prog 12 #[.agg #[.int .i64 6, .int .i64 3, v], .agg #[.int .i64 0, .int .i64 0, .int .i64 3, .int .i64 3], .agg #[.int .i64 3, .int .i64 0], .agg #[.int .i64 0, .int .i64 0, .slice none 0 0]] w fun e w' => ∃ q, e = .returned (.tuple #[.agg #[.int .i64 6, .int .i64 3, q], .int .i64 0]) ∧ Pn w' q rexK ∧ Fresh w.heap.size q ∧ Below w.heap.size w w') := fun w v h =>
    heal_any 6 3 v rexH 0 0 3 3 3 0 0 0 (.slice none 0 0) [] 6 3 0 _ w h (nnNil w) (.inr (.inr (.inr (.inr (.inr ⟨rex_i, rex_m, rex_hr, rex_ho, rex_hs, rfl, rfl, rfl, rex_h.symm⟩)))))
  have H2 : Hid (∀ w v, Pn w v rexK → Calls Tryz.prog 12 #[.agg #[.int .i64 6, .int .i64 3, v], .agg #[.int .i64 0, .int .i64 0, .int .i64 0, .int .i64 3], .agg #[.int .i64 3, .int .i64 0], .agg #[.int .i64 0, .int .i64 0, .slice none 0 0]] w fun e w' => ∃ q, e = .returned (.tuple #[.agg #[.int .i64 0, .int .i64 0, q], .int .i64 2]) ∧ Pn w' q [] ∧ Fresh w.heap.size q ∧ Below w.heap.size w w') := fun w v h =>
    heal_any 6 3 v rexK 0 0 0 3 3 0 0 0 (.slice none 0 0) [] 0 0 2 _ w h (nnNil w) (.inr (.inr (.inl ⟨rex_i2, rex_m, rex_e1, rfl, rfl, rfl, rfl⟩)))
  have SM := Lib.hid same29_true
  go_enter Tryz.func8, Tryz.ntmps8
  go_wp2_with fail
  refine (GR.out 100 _).mono ?_
  rintro e W1 ⟨rfl, hb⟩
  go_wp2_with fail
  refine (GR.out 7 _).mono ?_
  rintro e W2 ⟨rfl, hS⟩
  replace hb := hb.trans (hS.mono hb.size)
  clear hS
  go_upto_region 2 with (fail)
  refine name2 (fun W3 k1 k2 hS => ?_)
  replace hb := hb.trans (hS.mono hb.size)
  clear hS
  have c1 := k1.c4
  have c2 := k2.c4
  have l2 := k2.lt
  go_upto_region 3 with (refine wpList_store_blk rfl _ _ _ rfl (W3.heap.size + 1) #[.int .i64 2, .int .i64 1, .slice (some ⟨W3.heap.size, 0, none⟩) 2 2] rfl rfl (alloc2 W3 _ _).2.1 infoImgR rfl (by simp [Value.oneCell']) (fun W4 k3 hkx hbx => ?_))
  have ks := hkx _ _ (by omega) (alloc2 W3 _ _).1
  replace k1 := hkx _ _ (by omega) ((k1.alloc _).alloc _)
  replace k2 := hkx _ _ (by omega) ((k2.alloc _).alloc _)
  have hS : Below W3.heap.size W3 W4 := (alloc2 W3 _ _).2.2.trans (hbx.mono (by omega))
  replace hb := hb.trans (hS.mono hb.size)
  have PI := pn29 ks
  have x1 := k1.lt
  have x3 := k3.lt
  clear hkx hbx hS c1 c2 l2 ks
  generalize W2.heap.size = n1 at *
  generalize W3.heap.size = n3 at *
  go_wp2_with fail
  refine (FU.out _).mono ?_
  rintro e W5 ⟨bl, rfl, hL, hS⟩
  replace k1 := k1.kept hS
  replace k2 := k2.kept hS
  replace k3 := k3.kept hS
  replace PI := PI.kept hS
  replace hb := hb.trans (hS.mono hb.size)
  clear hS
  go_upto_region 4 with (refine wpList_store_blk rfl _ _ _ rfl W5.heap.size #[.int .i64 160, .int .i64 65535, .int .i64 65535, .int .i64 65535, .int .i64 65535, .int .i64 100, .int .i64 0, .int .i64 0, .int .i64 0, .int .i64 0, .int .i64 0, .int .i64 0, .int .i64 0, .int .i64 0, .slice none 0 0, .bool false] rfl rfl (heap_alloc_new W5 _) infoBr rfl (by simp [Value.oneCell']) (fun W6 k4 hkx hbx => ?_))
  have hS : Below W5.heap.size W5 W6 := ((Below.refl _ _).alloc (Nat.le_refl _) _).trans hbx
  replace k1 := k1.kept hS
  replace k2 := k2.kept hS
  replace k3 := k3.kept hS
  replace PI := PI.kept hS
  replace hb := hb.trans (hS.mono hb.size)
  replace hL := hL.kept hS
  clear hS hkx hbx
  generalize W5.heap.size = n4 at *
  have h0 := hb
  clear hb x1 x3
  have K1 := Lib.hid k1
  have K2 := Lib.hid k2
  have K3 := Lib.hid k3
  have K4 := Lib.hid k4
  have PI := Lib.hid PI
  have HL := Lib.hid hL
  replace HSn := Lib.hid (HSn.out.kept h0)
  clear k1 k2 k3 k4 hL
  have hb := Below.refl W6.heap.size W6
  go_upto_region 4 with (fail)
  go_cut [6, 7] (fun s6 s7 wx => s7 = .int .i64 0 ∧ ∃ (x6 : Nat) (aq : Option Addr) (cq : Nat), s6 = .pointer (some ⟨x6, 0, none⟩) ∧ W6.heap.size ≤ x6 ∧ Blk wx x6 (.cells #[.int .i64 2, .int .i64 1, .slice aq 2 cq] 24 (0, 0)) ∧ Pn wx (.slice aq 2 cq) [gr 7, gr 7] ∧ Below W6.heap.size W6 wx)
  case first =>
    have c3 := (K3.out.kept hb).c3
    have c4 := (K4.out.kept hb).c16
    go_wp2_with fail
    clear c3 c4
    refine (C1.out _ _ _ (HSn.out.kept hb) (PI.out.kept hb) (HL.out.kept hb)).mono ?_
    rintro e WA ⟨q, rfl, hq, hS⟩
    replace hb := hb.trans (hS.mono hb.size)
    clear hS
    obtain ⟨aq, cq, rfl⟩ := hq.slice
    have hx6 : W6.heap.size ≤ WA.heap.size := hb.size
    go_wp2_with (refine wpList_store_blk rfl _ _ _ rfl WA.heap.size #[.int .i64 2, .int .i64 1, .slice aq 2 cq] rfl rfl (heap_alloc_new WA _) infoImgR rfl (by simp [Value.oneCell']) (fun WAb k6 hkx hbx => ?_))
    have hS : Below WA.heap.size WA WAb := ((Below.refl _ _).alloc (Nat.le_refl _) _).trans hbx
    replace hb := hb.trans (hS.mono hb.size)
    replace hq := hq.kept hS
    clear hS hkx hbx
    go_meet
    exact ⟨rfl, _, aq, cq, rfl, hx6, k6, hq, hb⟩
  case rest =>
    clear hb
    obtain ⟨rfl, x6, aq, cq, rfl, hx6, k6, hq, hb⟩ := hcut
    rename_i hk0 _
    refine hk0 _ _ (aw5 w W6 n1 n3 n4 bl h0 HSn.out K1.out K2.out K3.out K4.out PI.out HL.out _ _ _ _ hx6 k6 hq hb)
end Go.Proofs.YtieacbccadbdbaaGreatDoor

