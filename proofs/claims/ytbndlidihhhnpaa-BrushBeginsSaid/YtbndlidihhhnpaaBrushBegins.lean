/- BrushBegins: the dabs of the first samples are the first dabs, for every brush, list of samples and number. -/
import Derived.Test.YtbndlidihhhnpaaBrBox
import Derived.Test.YtbndlidihhhnpaaBrEx
import Derived.Test.YtbndlidihhhnpaaBrOpen
import Derived.Test.YtbndlidihhhnpaaBeginsP
import Derived.Test.YtbndlidihhhnpaaCallReg
import Derived.Test.YtbndlidihhhnpaaLNum
namespace Go.Proofs.Ytbndlidihhhnpaa.brushBegins
open Go.ChangeShapes Go.WideShapes Go.ChangeAt Go.RowKit
set_option linter.unusedVariables false
attribute [local go_sem] Oper.gAt gUponK Oper.sAt stilK

theorem sm_take {w : World} {a : Option Addr} {cap m : Nat} {ls : List Smp} (h : Sm w (.slice a ls.length cap) ls) (hm : m ≤ ls.length) : Sm w (.slice a m cap) (ls.take m) := by
  have hc := Qn.caps h
  have e : (ls.take m).length = m := by simp; omega
  unfold Sm
  rw [e]
  exact (Qn.take h hm (by omega)).congr fun i hi => by rw [smAt_take ls m i hi]
theorem bm_take {w : World} {a : Option Addr} {cap : Nat} {L L2 : List Dab} (h : Bm w (.slice a L.length cap) L) (hp : L2 <+: L) : Bm w (.slice a L2.length cap) L2 := by
  have hc := Qn.caps h
  have hl := hp.length_le
  refine (Qn.take h hl (by omega)).congr fun i hi => ?_
  obtain ⟨r, rfl⟩ := hp
  unfold dbAt
  rw [List.getD_eq_getElem?_getD, List.getElem?_append_left hi, List.getD_eq_getElem?_getD]
theorem first_at {L : List Dab} {d : Dab} (hp : [d] <+: L) : dbAt L 0 = d := by
  obtain ⟨r, rfl⟩ := hp
  rfl

set_option maxRecDepth 20000 in
set_option maxHeartbeats 8000000 in
theorem walk (B : Bru) (u v : Value) (ls : List Smp) (n : Int) (w : World) (hD : Dn w u B.ds) (hL : Sm w v ls) (_ : (Lit.int .i64 n).wf = true) :
    Calls Try.prog 4 #[brv B u, v, .int .i64 n] w fun e w' => e = .returned (.bool true) ∧ Below w.heap.size w w' := by
  have HD := Lib.hid hD
  have HL := Lib.hid hL
  obtain ⟨a, cap, rfl⟩ := Qn.slice hL
  have hcap := Qn.caps hL
  obtain ⟨au, capu, rfl, _, _⟩ := hD
  have EX := Lib.hid example_any
  have D1 := Lib.hid (fun w h h' => dabs_any B (.slice au B.ds.length capu) (.slice a ls.length cap) ls w h h')
  by_cases hE : (dabs B ls).2 = 0
  · obtain ⟨h0, hs, _, l1, l2, pf⟩ := dabs_ok hE
    obtain ⟨hn1, hn2, _⟩ := schk_ok hs
    obtain ⟨bl, off, rfl, hbl, hall⟩ := Qn.all hL (by omega)
    obtain ⟨m, hm⟩ : ∃ m : Nat, (m : Int) = min (ls.length : Int) (max n 1) := ⟨(min (ls.length : Int) (max n 1)).toNat, by omega⟩
    have m1 : 1 ≤ m := by omega
    have m2 : m ≤ ls.length := by omega
    have CL : Hid (∀ w, Calls Try.prog 15 #[.int .i64 n, .int .i64 1, .int .i64 ls.length] w fun e w' => e = .returned (.int .i64 m) ∧ w = w') := fun w => by rw [hm]; exact refClamp_any _ _ _ _
    obtain ⟨t1, t2⟩ := dabs_take hE m m1 m2
    obtain ⟨_, _, _, l3, _, _⟩ := dabs_ok t1
    have D2 := Lib.hid (fun w h h' => dabs_any B (.slice au B.ds.length capu) (.slice (some ⟨bl, off, none⟩) m cap) (ls.take m) w h h')
    rw [t1] at D2
    rw [hE] at D1
    have TK := Lib.hid (fun w h => sm_take (w := w) (a := some ⟨bl, off, none⟩) (cap := cap) (m := m) (ls := ls) h m2)
    have hlen := t2.length_le
    have d0 := first_at pf
    have PL := Lib.hid (fun hsc => dab0_place hE hsc)
    rw [← d0] at PL
    have HC0 : Hid (∀ w', Below w.heap.size w w' → w'.cell? ⟨bl, off, none⟩ = some (.int .i64 (smAt ls 0).x) ∧ w'.cell? ⟨bl, off + 1, none⟩ = some (.int .i64 (smAt ls 0).y)) := fun w' h => by
      have := hall 0 (by omega) w' h
      simp only [At5, s5, Nat.zero_mul, Nat.add_zero] at this
      exact ⟨this.1, this.2.1⟩
    have T2 := Lib.hid t2
    clear h0 hs pf hm hE t1 t2 hall d0 hL
    generalize (dabs B (ls.take m)).1 = L2 at *
    generalize (dabs B ls).1 = L at *
    generalize smAt ls 0 = s0 at *
    generalize hx : ls.length = len at *
    have HX := Lib.hid hx
    clear hx
    generalize hy : B.ds.length = nd at *
    have HYY := Lib.hid hy
    clear hy
    have b1 : ((len : Int) == 0) = false := by simp; omega
    have b2 : ((L2.length : Int) == 0) = false := beq_eq_false_iff_ne.2 (by omega)
    have b3 : decide ((L.length : Int) < (L2.length : Int)) = false := by simp; omega
    go_enter Try.func4, Try.ntmps4
    go_upto_region 1 with (fail)
    refine name1 (fun W0 k0 hb => ?_)
    have c0 := k0.c16
    go_wp2_with fail
    clear c0
    refine (D1.out _ (HD.out.kept hb) (HL.out.kept hb)).mono ?_
    rintro e W1 ⟨q1, rfl, h1, hS⟩
    replace k0 := k0.kept hS
    replace hb := hb.trans (hS.mono hb.size)
    clear hS
    have H1 := Lib.hid h1
    obtain ⟨a1, p1, rfl⟩ := Qn.slice h1
    have hc1 := Qn.caps h1
    obtain ⟨bq, oq, rfl, hbq, hq⟩ := Qn.all h1 (by omega)
    have HQ : Hid (∀ w', Below W1.heap.size W1 w' → w'.cell? ⟨bq, oq, none⟩ = some (.int .i64 (dbAt L 0).x) ∧ w'.cell? ⟨bq, oq + 1, none⟩ = some (.int .i64 (dbAt L 0).y)) := fun w' h => by
      have := hq 0 (by omega) w' h
      simp only [At5, d5, Nat.zero_mul, Nat.add_zero] at this
      exact ⟨this.1, this.2.1⟩
    have BT := Lib.hid (fun w' (h : Below W1.heap.size W1 w') => bm_take (L2 := L2) (H1.out.kept h) T2.out)
    clear h1 hq H1 T2
    generalize dbAt L 0 = e0 at *
    generalize hz : L.length = ll at *
    have HZ := Lib.hid hz
    clear hz
    have B1 := Below.refl W1.heap.size W1
    have i1 : (0 : Int) ≤ (m : Int) := by omega
    have i2 : (m : Int) ≤ (cap : Int) := by omega
    have i3 : (m : Int) ≤ (len : Int) := by omega
    go_wp2_with fail
    refine (CL.out _).mono ?_
    rintro e w' ⟨rfl, rfl⟩
    go_upto_region 5 with (fail)
    refine wp_region_call 4 (fun w' => Below (World.heap W1).size W1 w') (by kernel_rfl) (by kernel_rfl) (Below.refl _ _).drew ?_
    simp only [List.take_succ_cons, List.take_zero, List.drop_succ_cons, List.drop_zero]
    repeat (first | (apply wpG_on; rfl; (intro w' hS K hK; have hc0 := (k0.kept hS).c16; go_simp; exact hK.out _ hS); simp only [Act.put, List.setIfInBounds_toArray, List.set_cons_succ, List.set_cons_zero]) | (apply wpG_off; rfl; simp only [Act.put, List.setIfInBounds_toArray, List.set_cons_succ, List.set_cons_zero]))
    apply wpG_nil
    intro W4 hS
    replace k0 := k0.kept hS
    replace hb := hb.trans (hS.mono hb.size)
    have hSr := hS
    clear hS
    refine wpOp_gAt rfl rfl ?_
    go_simp
    go_at_call 13
    refine (D2.out _ (HD.out.kept hb) (TK.out _ (HL.out.kept hb))).mono ?_
    rintro e W5 ⟨q2, rfl, h2, hS⟩
    refine gRet_mk ?_
    try simp only [Act.put, List.setIfInBounds_toArray, List.set_cons_succ, List.set_cons_zero]
    repeat (first | (apply wpG_on; rfl; (intro w' hS K hK; subst hS; go_simp; exact hK.out _ rfl); simp only [Act.put, List.setIfInBounds_toArray, List.set_cons_succ, List.set_cons_zero]) | (apply wpG_off; rfl; simp only [Act.put, List.setIfInBounds_toArray, List.set_cons_succ, List.set_cons_zero]))
    apply wpG_nil
    replace k0 := k0.kept hS
    replace hb := hb.trans (hS.mono hb.size)
    clear CL D2 TK i1 i2 i3
    have B5 : Below W1.heap.size W1 W5 := hSr.trans (hS.mono hSr.size)
    have H2 := Lib.hid h2
    obtain ⟨a2, p2, rfl⟩ := Qn.slice h2
    clear hS h2
    have SD := Lib.hid (fun w' (h : Below W5.heap.size W5 w') => sameDabs_true _ _ L2 w' (H2.out.kept h) (BT.out w' (B5.trans (h.mono B5.size))))
    have LL := HZ.out
    generalize hv : L2.length = l2' at *
    have HV := Lib.hid hv
    clear hv LL
    have j1 : (0 : Int) ≤ (l2' : Int) := by omega
    have j2 : (l2' : Int) ≤ (p1 : Int) := by omega
    have j3 : (l2' : Int) ≤ (ll : Int) := by omega
    go_wp2_with fail
    refine (SD.out _ (Below.refl _ _)).mono ?_
    rintro e W6 ⟨rfl, hS⟩
    replace k0 := k0.kept hS
    replace hb := hb.trans (hS.mono hb.size)
    have B6 : Below W1.heap.size W1 W6 := B5.trans (hS.mono B5.size)
    clear hS SD BT
    have i0 : decide ((0 : Int) < (ll : Int)) = true := by simp; omega
    have i1 : decide ((0 : Int) < (len : Int)) = true := by simp; omega
    have i2 : (0 : Int) < (ll : Int) := by omega
    have i3 : (0 : Int) < (len : Int) := by omega
    have i4 : 0 < ll := by omega
    have i5 : 0 < len := by omega
    go_upto_region 8 with (fail)
    by_cases hsc : B.sc = 0
    · have bs : (B.sc != 0) = false := by simpa using hsc
      obtain ⟨x1, x2⟩ := PL.out hsc
      rw [x1, x2] at HQ
      clear hsc x1 x2 PL
      refine wp_region_grow 29 (fun w' => Below (World.heap W6).size W6 w') (by kernel_rfl) (by kernel_rfl) (Below.refl _ _).drew ?_
      simp only [List.take_succ_cons, List.take_zero, List.drop_succ_cons, List.drop_zero]
      repeat (first | (apply wpG_on; rfl; (intro w' hS K hK; have hc0 := (k0.kept hS).c16; have hr0 := HQ.out _ (B6.trans (hS.mono B6.size)); have hr1 := HC0.out _ (hb.trans (hS.mono hb.size)); go_simp; (first | exact hK.out _ hS | (go_at_call 14; (with_reducible refine (EX.out _).mono ?_); rintro e w'' ⟨rfl, hbb⟩; exact ⟨_, rfl, hK.out _ (hS.trans (hbb.mono hS.size))⟩))); simp only [Act.put, List.setIfInBounds_toArray, List.set_cons_succ, List.set_cons_zero]) | (apply wpG_off; rfl; simp only [Act.put, List.setIfInBounds_toArray, List.set_cons_succ, List.set_cons_zero]))
      apply wpG_nil
      intro W7 hS
      replace k0 := k0.kept hS
      replace hb := hb.trans (hS.mono hb.size)
      clear hS
      go_wp2_with fail
      go_ret
      exact ⟨rfl, hb⟩
    · have bs : (B.sc != 0) = true := by simpa using hsc
      clear hsc PL
      refine wp_region_grow 29 (fun w' => Below (World.heap W6).size W6 w') (by kernel_rfl) (by kernel_rfl) (Below.refl _ _).drew ?_
      simp only [List.take_succ_cons, List.take_zero, List.drop_succ_cons, List.drop_zero]
      repeat (first | (apply wpG_on; rfl; (intro w' hS K hK; have hc0 := (k0.kept hS).c16; go_simp; (first | exact hK.out _ hS | (go_at_call 14; (with_reducible refine (EX.out _).mono ?_); rintro e w'' ⟨rfl, hbb⟩; exact ⟨_, rfl, hK.out _ (hS.trans (hbb.mono hS.size))⟩))); simp only [Act.put, List.setIfInBounds_toArray, List.set_cons_succ, List.set_cons_zero]) | (apply wpG_off; rfl; simp only [Act.put, List.setIfInBounds_toArray, List.set_cons_succ, List.set_cons_zero]))
      apply wpG_nil
      intro W7 hS
      replace k0 := k0.kept hS
      replace hb := hb.trans (hS.mono hb.size)
      clear hS
      go_wp2_with fail
      go_ret
      exact ⟨rfl, hb⟩
  · have bE : ((dabs B ls).2 != 0) = true := by simpa using hE
    clear hE hL
    generalize (dabs B ls).2 = E at *
    generalize (dabs B ls).1 = L at *
    generalize hx : ls.length = len at *
    have HX := Lib.hid hx
    clear hx
    generalize B.ds.length = nd at *
    go_enter Try.func4, Try.ntmps4
    go_upto_region 1 with (fail)
    refine name1 (fun W0 k0 hb => ?_)
    have c0 := k0.c16
    go_wp2_with fail
    clear c0
    refine (D1.out _ (HD.out.kept hb) (HL.out.kept hb)).mono ?_
    rintro e W1 ⟨q1, rfl, h1, hS⟩
    replace hb := hb.trans (hS.mono hb.size)
    clear hS
    obtain ⟨a1, p1, rfl⟩ := Qn.slice h1
    clear h1
    generalize L.length = ll at *
    go_wp2_with fail
    refine (EX.out _).mono ?_
    rintro e W8 ⟨rfl, hS⟩
    replace hb := hb.trans (hS.mono hb.size)
    go_wp2_with fail
    go_ret
    exact ⟨rfl, hb⟩


set_option maxRecDepth 100000 in
theorem lifted (os : Os) (started : os.Started) (H : Type) (enc : TypeId × Value → H) :
    ReturnsInHanded {} Try.checked os 4 .any (Rows.brushBeginsSpec.pre6 enc Try.prog Try.f4 Rows.brushBeginsRow.domain false) (Rows.brushBeginsSpec.post enc Try.prog Try.f4 false true false false) := by
  refine returnsInHanded_of_change_sized (C := Try.checked) ownK started (by kernel_rfl) Try.func4
    (ChangeSpec.witness6 (enc := enc) (C := Try.checked) false ⟨#[], #[.agg #[.int .i64 0, .int .i64 0, .int .i64 0, .int .i64 0, .int .i64 0, .int .i64 0, .int .i64 0, .int .i64 0, .int .i64 0, .int .i64 0, .int .i64 0, .int .i64 0, .int .i64 0, .int .i64 0, .slice none 0 0, .bool false], .slice none 0 0, .int .i64 0], []⟩ 8 (by kernel_rfl) (by kernel_rfl) (by kernel_rfl) (by kernel_rfl)) ?_
  intro W base args ds gs before hval0 hW hcnd hsz0 _
  have hval : ∀ (j : Nat) t v, Try.f4.params[j]? = some t → args[j]? = some v → Value.okWide Try.prog W .any base t v := hval0
  have hW' := hW
  obtain ⟨p, q, hA0, hV, rfl, hfz, hnd⟩ := hW
  have hA : DataW.TrodAll enc Try.prog W 0 (fun _ => true) true Try.f4.params.toList args.toList ds p := hA0
  rw [Try.params4] at hA hval
  have hAll := hA
  obtain ⟨v0, vs0, d0, ds0, p0, q0, hargs, rfl, rfl, h0, r0⟩ := trodAll_cons hA
  obtain ⟨v1, vs1, d1, ds1, p1, q1, rfl, rfl, rfl, h1, r1⟩ := trodAll_cons r0
  obtain ⟨v2, vs2, d2, ds2, p2, q2, rfl, rfl, rfl, h2, r2⟩ := trodAll_cons r1
  obtain ⟨rfl, rfl, rfl⟩ := trodAll_nil r2
  obtain rfl : args = #[v0, v1, v2] := by cases args; simp_all
  obtain ⟨rfl, rfl⟩ := trodVars_none hV
  have hsz : (DataW.weightsEach Try.prog [41, 42, 3] [d0, d1, d2]).all (· ≤ reachBytes) = true := hsz0
  clear hA0 hval0 hsz0
  have hAll' : DataW.TrodAll enc Try.prog W 0 (fun _ => true) true [41, 42, 3] [v0, v1, v2] [d0, d1, d2] _ := hAll
  clear hAll
  have hargsBack : ∀ W' : World, Below W.heap.size W W' → DataW.TrodAll enc Try.prog W' 0 (fun b => decide (b < W.heap.size)) true [41, 42, 3] [v0, v1, v2] [d0, d1, d2] _ := fun W' bel => belowTrodAll laidK bel _ _ _ _ (by kernel_rfl) hAll'
  have hc : Calls Try.prog 4 #[v0, v1, v2] W fun e w' => e = .returned (.bool true) ∧ Below W.heap.size W w' := by
    clear hargsBack hAll' hW'
    obtain ⟨B0, u0, rfl, hD0⟩ := openBrush (hval 0 41 v0 rfl rfl) h0
    obtain ⟨ls1, hl1⟩ := openSms (hval 1 42 v1 rfl rfl) h1
    obtain ⟨a2, rfl, rfl, rfl, w2⟩ := open_int Try.underlying3 (hval 2 3 v2 rfl rfl) h2
    exact walk B0 u0 v1 ls1 a2 W hD0 hl1 w2
  refine hc.mono fun e W' ⟨he, bel⟩ => ?_
  subst he
  exact ⟨_, rfl, _, _, _, [], _, [], hW', trodAll_mk1 (shut_bool Try.underlying4 _), hargsBack W' bel, rfl, bel.frame _, fun h => by cases h⟩

theorem over : Rows.brushBeginsRow.holds Try.pinned (OpenSpec.ofChange Rows.brushBeginsSpec) :=
  OpenClaim.holds_of_wide 4 Try.f4 rfl rfl rfl rfl rfl rfl rfl ⟨rfl, rfl, rfl, rfl, rfl⟩ rfl rfl rfl rfl rfl (by kernel_rfl) Try.func4 (by kernel_rfl)
    (of_decide_eq_true (by kernel_rfl)) (by unfold Func.isWrapper; first | (rw [if_pos (by decide +kernel)]; kernel_rfl) | (rw [if_neg (by decide +kernel)]; exact ⟨rfl, rfl⟩))
    (fun os started H enc _ => lifted os started H enc)

theorem proved : Rows.BrushBeginsSaid := over

end Go.Proofs.Ytbndlidihhhnpaa.brushBegins
