/- RetouchOutside: Clone and Smudge change no pixel at which the selection is 0, nor one outside of the box of the dabs (the walk; printed by genout29.py). -/
import Derived.Test.YtieacbccadbdbaaDoorOutP
import Derived.Test.YtieacbccadbdbaaDoorBrBoxP
import Derived.Test.YtieacbccadbdbaaDoorRetAw
import Derived.Test.YtieacbccadbdbaaDoorBrOpen
import Derived.Test.YtieacbccadbdbaaDoorLOpen
import Derived.Deep.Cut
namespace Go.Proofs.YtieacbccadbdbaaDoor.retouchOutside
open Go.ChangeShapes Go.WideShapes Go.ChangeAt Go.RowKit
set_option linter.unusedVariables false
attribute [local go_sem] Oper.gAt gUponK Oper.sAt stilK

set_option maxRecDepth 100000 in
set_option maxHeartbeats 16000000 in
theorem out_bad (iw ih : Int) (iv : Value) (ps : List Px) (B : Bru) (u lv : Value) (ls : List Smp) (px py mw mh : Int) (mv : Value) (zs : List Int) (w : World) (hs : Sines w) (hI : Pn w iv ps) (hD : Dn w u B.ds) (hL : Sm w lv ls) (hM : Nn w mv zs) (hE : prepE iw ih ps B ls mw mh zs ≠ 0) :
    Calls Tryd.prog 6 #[.agg #[.int .i64 iw, .int .i64 ih, iv], brv B u, lv, .agg #[.int .i64 px, .int .i64 py], .agg #[.int .i64 mw, .int .i64 mh, mv]] w fun e w' => e = .returned (.bool true) ∧ Below w.heap.size w w' := by
  have HI := Lib.hid hI
  have HD := Lib.hid hD
  have HL := Lib.hid hL
  have HM := Lib.hid hM
  have HSn := Lib.hid hs
  obtain ⟨ai, ci, rfl⟩ := hI.slice
  obtain ⟨a, cap, rfl⟩ := Qn.slice hL
  obtain ⟨au, capu, rfl, _, _⟩ := hD
  obtain ⟨am, cm, rfl, _⟩ := hM.slice
  have S1 : Hid (∀ w, Sines w → Pn w (.slice ai ps.length ci) ps → Dn w (.slice au B.ds.length capu) B.ds → Sm w (.slice a ls.length cap) ls → Nn w (.slice am zs.length cm) zs → Calls Tryd.prog 9 #[.agg #[.int .i64 iw, .int .i64 ih, .slice ai ps.length ci], brv B (.slice au B.ds.length capu), .slice a ls.length cap, .agg #[.int .i64 px, .int .i64 py], .agg #[.int .i64 mw, .int .i64 mh, .slice am zs.length cm]] w fun e w' => ∃ q, e = .returned (.tuple #[.agg #[.int .i64 0, .int .i64 0, q], .int .i64 (prepE iw ih ps B ls mw mh zs)]) ∧ Pn w' q [] ∧ Below w.heap.size w w') := fun w hs h1 h2 h3 h4 =>
    clone_any iw ih (.slice ai ps.length ci) ps B (.slice au B.ds.length capu) (.slice a ls.length cap) ls px py mw mh (.slice am zs.length cm) zs 0 0 (prepE iw ih ps B ls mw mh zs) [] w hs h1 h2 h3 h4 (.inl ⟨hE, rfl, rfl, rfl, rfl⟩)
  have S2 : Hid (∀ w, Sines w → Pn w (.slice ai ps.length ci) ps → Dn w (.slice au B.ds.length capu) B.ds → Sm w (.slice a ls.length cap) ls → Nn w (.slice am zs.length cm) zs → Calls Tryd.prog 17 #[.agg #[.int .i64 iw, .int .i64 ih, .slice ai ps.length ci], brv B (.slice au B.ds.length capu), .slice a ls.length cap, .agg #[.int .i64 mw, .int .i64 mh, .slice am zs.length cm]] w fun e w' => ∃ q, e = .returned (.tuple #[.agg #[.int .i64 0, .int .i64 0, q], .int .i64 (prepE iw ih ps B ls mw mh zs)]) ∧ Pn w' q [] ∧ Below w.heap.size w w') := fun w hs h1 h2 h3 h4 =>
    smudge_any iw ih (.slice ai ps.length ci) ps B (.slice au B.ds.length capu) (.slice a ls.length cap) ls mw mh (.slice am zs.length cm) zs 0 0 (prepE iw ih ps B ls mw mh zs) [] w hs h1 h2 h3 h4 (.inl ⟨hE, rfl, rfl, rfl, rfl⟩)
  have AW := Lib.hid awake_any
  have SM := Lib.hid (same29_true 0 0)
  have be : (prepE iw ih ps B ls mw mh zs != 0) = true := by simpa using hE
  have bq : (prepE iw ih ps B ls mw mh zs == prepE iw ih ps B ls mw mh zs) = true := by simp
  clear hI hL hM hs hE
  generalize prepE iw ih ps B ls mw mh zs = E at *
  generalize ps.length = ni at *
  generalize zs.length = nz at *
  generalize ls.length = nl at *
  generalize B.ds.length = nd at *
  go_enter Tryd.func6, Tryd.ntmps6
  go_upto_region 1 with (fail)
  refine name4 (fun W1 k1 k2 k3 k4 hb => ?_)
  have c1 := k1.c3
  have c2 := k2.c16
  have c3 := k3.c2
  have c4 := k4.c3
  go_wp2_with fail
  clear c1 c2 c3 c4
  refine (S1.out _ (HSn.out.kept hb) (HI.out.kept hb) (HD.out.kept hb) (HL.out.kept hb) (HM.out.kept hb)).mono ?_
  rintro e W2 ⟨q, rfl, hq, hS⟩
  replace k1 := k1.kept hS
  replace k2 := k2.kept hS
  replace k3 := k3.kept hS
  replace k4 := k4.kept hS
  replace hb := hb.trans (hS.mono hb.size)
  obtain ⟨aq, caq, rfl⟩ := hq.slice
  rw [List.length_nil] at hq ⊢
  clear hS S1
  go_upto_region 2 with (refine wpList_store_blk rfl _ _ _ rfl W2.heap.size #[.int .i64 0, .int .i64 0, .slice aq 0 caq] rfl rfl (heap_alloc_new W2 _) infoImgR rfl (by simp [Value.oneCell']) (fun W3 ka hkx hbx => ?_))
  have hS : Below W2.heap.size W2 W3 := ((Below.refl _ _).alloc (Nat.le_refl _) _).trans hbx
  replace k1 := k1.kept hS
  replace k2 := k2.kept hS
  replace k3 := k3.kept hS
  replace k4 := k4.kept hS
  replace hb := hb.trans (hS.mono hb.size)
  replace hq := hq.kept hS
  clear hS hkx hbx
  generalize W2.heap.size = xka at *
  have c1 := k1.c3
  have c2 := k2.c16
  have c3 := k3.c2
  have c4 := k4.c3
  go_wp2_with fail
  clear c1 c2 c3 c4
  refine (S2.out _ (HSn.out.kept hb) (HI.out.kept hb) (HD.out.kept hb) (HL.out.kept hb) (HM.out.kept hb)).mono ?_
  rintro e W4 ⟨q, rfl, hr, hS⟩
  replace k1 := k1.kept hS
  replace k2 := k2.kept hS
  replace k3 := k3.kept hS
  replace k4 := k4.kept hS
  replace ka := ka.kept hS
  replace hb := hb.trans (hS.mono hb.size)
  replace hq := hq.kept hS
  obtain ⟨ar, car, rfl⟩ := hr.slice
  rw [List.length_nil] at hr ⊢
  clear hS S2
  go_upto_region 3 with (refine wpList_store_blk rfl _ _ _ rfl W4.heap.size #[.int .i64 0, .int .i64 0, .slice ar 0 car] rfl rfl (heap_alloc_new W4 _) infoImgR rfl (by simp [Value.oneCell']) (fun W5 kz hkx hbx => ?_))
  have hS : Below W4.heap.size W4 W5 := ((Below.refl _ _).alloc (Nat.le_refl _) _).trans hbx
  replace k1 := k1.kept hS
  replace k2 := k2.kept hS
  replace k3 := k3.kept hS
  replace k4 := k4.kept hS
  replace ka := ka.kept hS
  replace hb := hb.trans (hS.mono hb.size)
  replace hr := hr.kept hS
  replace hq := hq.kept hS
  clear hS hkx hbx
  generalize W4.heap.size = xkz at *
  go_wp2_with fail
  refine (AW.out _ (HSn.out.kept hb)).mono ?_
  rintro e W6 ⟨rfl, hS⟩
  replace k1 := k1.kept hS
  replace k2 := k2.kept hS
  replace k3 := k3.kept hS
  replace k4 := k4.kept hS
  replace ka := ka.kept hS
  replace kz := kz.kept hS
  replace hq := hq.kept hS
  replace hr := hr.kept hS
  replace hb := hb.trans (hS.mono hb.size)
  clear hS AW
  have ca := ka.c3
  go_wp2_with fail
  clear ca
  refine (SM.out _ _ [] _ hq (Pn.nil _)).mono ?_
  rintro e W7 ⟨rfl, hS⟩
  replace kz := kz.kept hS
  replace hr := hr.kept hS
  replace hb := hb.trans (hS.mono hb.size)
  clear hS
  have cz := kz.c3
  go_wp2_with fail
  clear cz
  refine (SM.out _ _ [] _ hr (Pn.nil _)).mono ?_
  rintro e W8 ⟨rfl, hS⟩
  replace hb := hb.trans (hS.mono hb.size)
  go_wp2_with fail
  go_ret
  exact ⟨rfl, hb⟩

noncomputable def tail_goodC : Code := ((Tryd.f6.body.bind (tailR 9)).getD .skip)
set_option maxRecDepth 100000 in
set_option maxHeartbeats 32000000 in
theorem tail_good (W H n nz : Nat) (ai am aq ar : Option Addr) (ci cm caq car : Nat) (ps us ts : List Px) (zs : List Int) (mw mh r0' r1' r2' r3' : Int) (w W9 : World) (xka xkz xb : Nat) (hn : n ≤ 65536) (hW : (W : Int) ≤ 256) (hH : (H : Int) ≤ 256) (hnW : n = 0 ∨ (1 ≤ W ∧ 0 < n)) (hzn : mw ≠ 0 → nz = n) (hbo : rValid r0' r1' r2' r3' = true) (KA : ∀ k, k < n → 1 ≤ W → (mw ≠ 0 ∧ zs.getD k 0 = 0) ∨ hasP r0' r1' r2' r3' ((k % W : Nat) : Int) ((k / W : Nat) : Int) = false → pxAt us k = pxAt ps k ∧ pxAt ts k = pxAt ps k) (hI : Pn w (.slice ai n ci) ps) (hM : Nn w (.slice am nz cm) zs) (hq : Pn W9 (.slice aq n caq) ts) (hr : Pn W9 (.slice ar n car) us) (k1 : Blk W9 w.heap.size (.cells #[.int .i64 W, .int .i64 H, .slice ai n ci] 24 (0, 0))) (k4 : Blk W9 (w.heap.size + 1 + 1 + 1) (.cells #[.int .i64 mw, .int .i64 mh, .slice am nz cm] 33 (0, 0))) (ka : Blk W9 xka (.cells #[.int .i64 W, .int .i64 H, .slice aq n caq] 24 (0, 0))) (kz : Blk W9 xkz (.cells #[.int .i64 W, .int .i64 H, .slice ar n car] 24 (0, 0))) (kb : Blk W9 xb (.cells #[.int .i64 r0', .int .i64 r1', .int .i64 r2', .int .i64 r3'] 35 (0, 0))) (h6 : Below w.heap.size w W9) {v0 v1 v2 v3 v4 v7 v15 v18 v19 v20 v21 v22 v23 v24 v25 v26 v27 v28 v29 v30 v31 v32 v33 v34 v35 v36 v37 v38 v39 v40 v41 v42 v43 v44 v45 v46 v47 v48 v49 v50 v51 v52 v53 v54 v55 v56 v57 v58 v59 v60 v61 v62 v63 v64 v65 v66 v67 v68 v69 v70 v71 v72 v73 v74 v75 v76 v77 v78 v79 v80 v81 v82 v83 v84 v85 v86 v87 v88 v89 v90 v91 v92 v93 v94 v95 v96 v97 v98 v99 v100 v101 v102 v103 v104 v105 v106 v107 v108 v109 v110 v111 v112 v113 v114 v115 v116 v117 v118 v119 v120 v121 v122 v123 v124 v125 v126 v127 v128 v129 v130 v131 v132 v133 v134 v135 v136 v137 v138 v139 v140 v141 v142 v143 v144 v145 v146 v147 v148 v149 v150 v151 v152 v153 v154 v155 v156 : Value} :
    Code.wp Tryd.prog tail_goodC (bodyPost Tryd.prog Tryd.f6 fun e w' => e = .returned (.bool true) ∧ Below w.heap.size w w') ⟨#[v0, v1, v2, v3, v4, .pointer (some ⟨w.heap.size, 0, none⟩), .pointer (some ⟨(w.heap.size + 1), 0, none⟩), v7, .pointer (some ⟨(w.heap.size + 1 + 1), 0, none⟩), .pointer (some ⟨(w.heap.size + 1 + 1 + 1), 0, none⟩), .bool false, .pointer (some ⟨xka, 0, none⟩), .int .i64 0, .pointer (some ⟨xkz, 0, none⟩), .int .i64 0, v15, .int .i64 0, .pointer (some ⟨xb, 0, none⟩), v18, v19, v20, v21, v22, v23, v24, v25, v26, v27, v28, v29, v30, v31, v32, v33, v34, v35, v36, v37, v38, v39, v40, v41, v42, v43, v44, v45, v46, v47, v48, v49, v50, v51, v52, v53, v54, v55, v56, v57, v58, v59, v60, v61, v62, v63, v64, v65, v66, v67, v68, v69, v70, v71, v72, v73, v74, v75, v76, v77, v78, v79, v80, v81, v82, v83, v84, v85, v86, v87, v88, v89, v90, v91, v92, v93, v94, v95, v96, v97, v98, v99, v100, v101, v102, v103, v104, v105, v106, v107, v108, v109, v110, v111, v112, v113, v114, v115, v116, v117, v118, v119, v120, v121, v122, v123, v124, v125, v126, v127, v128, v129, v130, v131, v132, v133, v134, v135, v136, v137, v138, v139, v140, v141, v142, v143, v144, v145, v146, v147, v148, v149, v150, v151, v152, v153, v154, v155, v156], []⟩ W9 := by
  have HI := Lib.hid hI
  have HM := Lib.hid hM
  have HQ := Lib.hid hq
  have HU := Lib.hid hr
  have HS := Lib.hid (fun px py w => hasRect_any r0' r1' r2' r3' px py w hbo)
  replace KA := Lib.hid KA
  clear hI hM hq hr hbo
  have hb := Below.refl W9.heap.size W9
  have c1 := k1.c3
  have ca := ka.c3
  have cz := kz.c3
  conv => arg 2; whnf
  rcases hnW with rfl | ⟨hW1, hn0⟩
  · go_wp2_with fail
    clear ca cz c1
    go_loopw [100] (fun i wr => i = .int .i64 0 ∧ Below W9.heap.size W9 wr) (fun i _ => 0)
    case atStart => exact ⟨rfl, hb⟩
    case round =>
      clear hb
      obtain ⟨rfl, hb⟩ := hrel
      go_wp2_with fail
      go_ret
      exact ⟨rfl, h6.trans (hb.mono h6.size)⟩
  · have hw0 : ¬ (W : Int) < 1 := by omega
    have hnb : ((n : Int) != 0) = true := by simp; omega
    have hnb2 : ¬ (n : Int) = 0 := by omega
    have hnb3 : ¬ n = 0 := by omega
    go_wp2_with fail
    clear ca cz c1
    go_loopw [100] (fun i wr => ∃ k : Nat, k ≤ n ∧ i = .int .i64 k ∧ Blk wr w.heap.size (.cells #[.int .i64 W, .int .i64 H, .slice ai n ci] 24 (0, 0)) ∧ Blk wr (w.heap.size + 1 + 1 + 1) (.cells #[.int .i64 mw, .int .i64 mh, .slice am nz cm] 33 (0, 0)) ∧ Blk wr xka (.cells #[.int .i64 W, .int .i64 H, .slice aq n caq] 24 (0, 0)) ∧ Blk wr xkz (.cells #[.int .i64 W, .int .i64 H, .slice ar n car] 24 (0, 0)) ∧ Blk wr xb (.cells #[.int .i64 r0', .int .i64 r1', .int .i64 r2', .int .i64 r3'] 35 (0, 0)) ∧ Below W9.heap.size W9 wr) (fun i _ => n - (intOf i).toNat)
    case atStart => exact ⟨0, Nat.zero_le _, rfl, k1, k4, ka, kz, kb, hb⟩
    case round =>
      clear k1 k4 ka kz kb hb
      obtain ⟨k, hk, rfl, k1, k4, ka, kz, kb, hb⟩ := hrel
      by_cases hlt : k < n
      · obtain ⟨b1, off1, rfl, hbl1, hcell1⟩ := HI.out.at k hlt
        obtain ⟨b2, off2, rfl, hbl2, hcell2⟩ := HU.out.at k hlt
        obtain ⟨b3, off3, rfl, hbl3, hcell3⟩ := HQ.out.at k hlt
        have KA1 := Lib.hid (KA.out k hlt hW1)
        have HS1 := Lib.hid (fun w => HS.out ((k % W : Nat) : Int) ((k / W : Nat) : Int) w)
        have t1 : ((k : Nat) : Int).tmod (W : Int) = ((k % W : Nat) : Int) := Int.tmod_eq_emod_of_nonneg (by omega)
        have t2 : ((k : Nat) : Int).tdiv (W : Int) = ((k / W : Nat) : Int) := Int.tdiv_eq_ediv_of_nonneg (by omega)
        have r1 : k % W < W := Nat.mod_lt _ (by omega)
        have r2 : k / W ≤ k := Nat.div_le_self _ _
        generalize hasP r0' r1' r2' r3' ((k % W : Nat) : Int) ((k / W : Nat) : Int) = hx at *
        generalize pxAt ps k = p at *
        generalize pxAt us k = q at *
        generalize pxAt ts k = q' at *
        generalize k % W = rm at *
        generalize k / W = qd at *
        obtain ⟨p0, p1', p2, p3⟩ := p
        simp only at hcell1
        have hc1 := hcell1 wr (h6.trans (hb.mono h6.size))
        clear hcell1
        have HC2 := Lib.hid hcell2
        clear hcell2
        have HC3 := Lib.hid hcell3
        clear hcell3
        have wz : ((W : Int) == 0) = false := by simp; omega
        have wn : ¬ W = 0 := by omega
        have e5 : IntKind.i64.wrap (qd : Int) = (qd : Int) := IntWalk.i64_in _ (by omega)
        have e6 : IntKind.i64.wrap (rm : Int) = (rm : Int) := IntWalk.i64_in _ (by omega)
        have i1 : (0 : Int) ≤ (k : Int) := by omega
        have i2 : (k : Int) < (n : Int) := by omega
        have i3 : k < n := hlt
        go_upto_region 14 with (fail)
        clear hc1
        refine name1 (fun W10 kp hS => ?_)
        replace k1 := k1.kept hS
        replace k4 := k4.kept hS
        replace ka := ka.kept hS
        replace kz := kz.kept hS
        replace kb := kb.kept hS
        replace hb := hb.trans (hS.mono hb.size)
        clear hS
        cases hx
        · have hKK := KA1.out (.inr rfl)
          obtain ⟨hKa, hKb⟩ := hKK
          subst hKa hKb
          have HC2' := Lib.hid HC2.out
          simp only at HC2'
          have HC3' := Lib.hid HC3.out
          simp only at HC3'
          refine wp_region_grow 31 (fun w' => Below (World.heap W10).size W10 w') (by kernel_rfl) (by kernel_rfl) (Below.refl _ _).drew ?_
          simp only [List.take_succ_cons, List.take_zero, List.drop_succ_cons, List.drop_zero]
          repeat (first | (apply wpG_on; rfl; (intro w' hS K hK; have hc0 := (kb.kept hS).c4; have hc1 := (k1.kept hS).c3; have hc2 := (k4.kept hS).c3; have hc3 := (kp.kept hS).lt; have hc4 := (ka.kept hS).lt; have hc5 := (kz.kept hS).lt; go_simp; (first | exact hK.out _ hS | (go_at_call 13; (with_reducible refine (HS1.out _).mono ?_); rintro e w'' ⟨rfl, hbb⟩; exact ⟨_, rfl, hK.out _ (hS.trans (hbb.mono hS.size))⟩))); simp only [Act.put, List.setIfInBounds_toArray, List.set_cons_succ, List.set_cons_zero]) | (apply wpG_off; rfl; simp only [Act.put, List.setIfInBounds_toArray, List.set_cons_succ, List.set_cons_zero]))
          apply wpG_nil
          intro W11 hS
          replace kb := kb.kept hS
          replace k1 := k1.kept hS
          replace k4 := k4.kept hS
          replace kp := kp.kept hS
          replace ka := ka.kept hS
          replace kz := kz.kept hS
          replace hb := hb.trans (hS.mono hb.size)
          clear hS
          clear t1 t2 wz wn e5 e6
          go_upto_region 15 with (fail)
          refine wp_region_grow 20 (fun w' => Below (World.heap W11).size W11 w') (by kernel_rfl) (by kernel_rfl) (Below.refl _ _).drew ?_
          simp only [List.take_succ_cons, List.take_zero, List.drop_succ_cons, List.drop_zero]
          repeat (first | (apply wpG_on; rfl; (intro w' hS K hK; have hc0 := (ka.kept hS).c3; have hc1 := (kz.kept hS).c3; have hc2 := (kp.kept hS).c4; have hc3 := (k1.kept hS).lt; have hc4 := (k4.kept hS).lt; have hc5 := (kb.kept hS).lt; have hr0 := HC2'.out _ (hb.trans (hS.mono hb.size)); have hr1 := HC3'.out _ (hb.trans (hS.mono hb.size)); go_simp; (first | exact hK.out _ hS)); simp only [Act.put, List.setIfInBounds_toArray, List.set_cons_succ, List.set_cons_zero]) | (apply wpG_off; rfl; simp only [Act.put, List.setIfInBounds_toArray, List.set_cons_succ, List.set_cons_zero]))
          apply wpG_nil
          intro W12 hS
          replace ka := ka.kept hS
          replace kz := kz.kept hS
          replace kp := kp.kept hS
          replace k1 := k1.kept hS
          replace k4 := k4.kept hS
          replace kb := kb.kept hS
          replace hb := hb.trans (hS.mono hb.size)
          clear hS
          go_wp2_with fail
          go_roundw
          case rel => exact ⟨k + 1, by omega, by go_num, k1, k4, ka, kz, kb, hb⟩
          case measure => simp only [intOf]; omega
        · by_cases hm0 : mw = 0
          · have bm : (mw == 0) = true := by simpa using hm0
            refine wp_region_grow 31 (fun w' => Below (World.heap W10).size W10 w') (by kernel_rfl) (by kernel_rfl) (Below.refl _ _).drew ?_
            simp only [List.take_succ_cons, List.take_zero, List.drop_succ_cons, List.drop_zero]
            repeat (first | (apply wpG_on; rfl; (intro w' hS K hK; have hc0 := (kb.kept hS).c4; have hc1 := (k1.kept hS).c3; have hc2 := (k4.kept hS).c3; have hc3 := (kp.kept hS).lt; have hc4 := (ka.kept hS).lt; have hc5 := (kz.kept hS).lt; go_simp; (first | exact hK.out _ hS | (go_at_call 13; (with_reducible refine (HS1.out _).mono ?_); rintro e w'' ⟨rfl, hbb⟩; exact ⟨_, rfl, hK.out _ (hS.trans (hbb.mono hS.size))⟩))); simp only [Act.put, List.setIfInBounds_toArray, List.set_cons_succ, List.set_cons_zero]) | (apply wpG_off; rfl; simp only [Act.put, List.setIfInBounds_toArray, List.set_cons_succ, List.set_cons_zero]))
            apply wpG_nil
            intro W11 hS
            replace kb := kb.kept hS
            replace k1 := k1.kept hS
            replace k4 := k4.kept hS
            replace kp := kp.kept hS
            replace ka := ka.kept hS
            replace kz := kz.kept hS
            replace hb := hb.trans (hS.mono hb.size)
            clear hS
            clear t1 t2 wz wn e5 e6
            go_wp2_with fail
            go_roundw
            case rel => exact ⟨k + 1, by omega, by go_num, k1, k4, ka, kz, kb, hb⟩
            case measure => simp only [intOf]; omega
          · have bm : (mw == 0) = false := by simpa using hm0
            obtain rfl : nz = n := hzn hm0
            obtain ⟨bz, oz, rfl, hz⟩ := nnAtB HM.out k hlt
            have HZ := Lib.hid hz
            clear hz
            generalize zs.getD k 0 = z at *
            by_cases hz0 : z = 0
            · subst hz0
              have hKK := KA1.out (.inl ⟨hm0, rfl⟩)
              obtain ⟨hKa, hKb⟩ := hKK
              subst hKa hKb
              have HC2' := Lib.hid HC2.out
              simp only at HC2'
              have HC3' := Lib.hid HC3.out
              simp only at HC3'
              refine wp_region_grow 31 (fun w' => Below (World.heap W10).size W10 w') (by kernel_rfl) (by kernel_rfl) (Below.refl _ _).drew ?_
              simp only [List.take_succ_cons, List.take_zero, List.drop_succ_cons, List.drop_zero]
              repeat (first | (apply wpG_on; rfl; (intro w' hS K hK; have hc0 := (kb.kept hS).c4; have hc1 := (k1.kept hS).c3; have hc2 := (k4.kept hS).c3; have hc3 := (kp.kept hS).lt; have hc4 := (ka.kept hS).lt; have hc5 := (kz.kept hS).lt; have hr0 := HZ.out _ (h6.trans ((hb.trans (hS.mono hb.size)).mono h6.size)); go_simp; (first | exact hK.out _ hS | (go_at_call 13; (with_reducible refine (HS1.out _).mono ?_); rintro e w'' ⟨rfl, hbb⟩; exact ⟨_, rfl, hK.out _ (hS.trans (hbb.mono hS.size))⟩))); simp only [Act.put, List.setIfInBounds_toArray, List.set_cons_succ, List.set_cons_zero]) | (apply wpG_off; rfl; simp only [Act.put, List.setIfInBounds_toArray, List.set_cons_succ, List.set_cons_zero]))
              apply wpG_nil
              intro W11 hS
              replace kb := kb.kept hS
              replace k1 := k1.kept hS
              replace k4 := k4.kept hS
              replace kp := kp.kept hS
              replace ka := ka.kept hS
              replace kz := kz.kept hS
              replace hb := hb.trans (hS.mono hb.size)
              clear hS
              clear t1 t2 wz wn e5 e6
              go_upto_region 15 with (fail)
              refine wp_region_grow 20 (fun w' => Below (World.heap W11).size W11 w') (by kernel_rfl) (by kernel_rfl) (Below.refl _ _).drew ?_
              simp only [List.take_succ_cons, List.take_zero, List.drop_succ_cons, List.drop_zero]
              repeat (first | (apply wpG_on; rfl; (intro w' hS K hK; have hc0 := (ka.kept hS).c3; have hc1 := (kz.kept hS).c3; have hc2 := (kp.kept hS).c4; have hc3 := (k1.kept hS).lt; have hc4 := (k4.kept hS).lt; have hc5 := (kb.kept hS).lt; have hr0 := HC2'.out _ (hb.trans (hS.mono hb.size)); have hr1 := HC3'.out _ (hb.trans (hS.mono hb.size)); go_simp; (first | exact hK.out _ hS)); simp only [Act.put, List.setIfInBounds_toArray, List.set_cons_succ, List.set_cons_zero]) | (apply wpG_off; rfl; simp only [Act.put, List.setIfInBounds_toArray, List.set_cons_succ, List.set_cons_zero]))
              apply wpG_nil
              intro W12 hS
              replace ka := ka.kept hS
              replace kz := kz.kept hS
              replace kp := kp.kept hS
              replace k1 := k1.kept hS
              replace k4 := k4.kept hS
              replace kb := kb.kept hS
              replace hb := hb.trans (hS.mono hb.size)
              clear hS
              go_wp2_with fail
              go_roundw
              case rel => exact ⟨k + 1, by omega, by go_num, k1, k4, ka, kz, kb, hb⟩
              case measure => simp only [intOf]; omega

            · have bz0 : (z != 0) = true := by simpa using hz0
              refine wp_region_grow 31 (fun w' => Below (World.heap W10).size W10 w') (by kernel_rfl) (by kernel_rfl) (Below.refl _ _).drew ?_
              simp only [List.take_succ_cons, List.take_zero, List.drop_succ_cons, List.drop_zero]
              repeat (first | (apply wpG_on; rfl; (intro w' hS K hK; have hc0 := (kb.kept hS).c4; have hc1 := (k1.kept hS).c3; have hc2 := (k4.kept hS).c3; have hc3 := (kp.kept hS).lt; have hc4 := (ka.kept hS).lt; have hc5 := (kz.kept hS).lt; have hr0 := HZ.out _ (h6.trans ((hb.trans (hS.mono hb.size)).mono h6.size)); go_simp; (first | exact hK.out _ hS | (go_at_call 13; (with_reducible refine (HS1.out _).mono ?_); rintro e w'' ⟨rfl, hbb⟩; exact ⟨_, rfl, hK.out _ (hS.trans (hbb.mono hS.size))⟩))); simp only [Act.put, List.setIfInBounds_toArray, List.set_cons_succ, List.set_cons_zero]) | (apply wpG_off; rfl; simp only [Act.put, List.setIfInBounds_toArray, List.set_cons_succ, List.set_cons_zero]))
              apply wpG_nil
              intro W11 hS
              replace kb := kb.kept hS
              replace k1 := k1.kept hS
              replace k4 := k4.kept hS
              replace kp := kp.kept hS
              replace ka := ka.kept hS
              replace kz := kz.kept hS
              replace hb := hb.trans (hS.mono hb.size)
              clear hS
              clear t1 t2 wz wn e5 e6
              go_wp2_with fail
              go_roundw
              case rel => exact ⟨k + 1, by omega, by go_num, k1, k4, ka, kz, kb, hb⟩
              case measure => simp only [intOf]; omega

      · obtain rfl : k = n := by omega
        go_wp2_with fail
        go_ret
        exact ⟨rfl, h6.trans (hb.mono h6.size)⟩

set_option maxRecDepth 100000 in
set_option maxHeartbeats 32000000 in
theorem out_good (W H : Nat) (iv : Value) (ps : List Px) (B : Bru) (u lv : Value) (ls : List Smp) (px py mw mh : Int) (mv : Value) (zs : List Int) (w : World) (hs : Sines w) (hI : Pn w iv ps) (hD : Dn w u B.ds) (hL : Sm w lv ls) (hM : Nn w mv zs) (hE : prepE W H ps B ls mw mh zs = 0) (ho : cOff px py) :
    Calls Tryd.prog 6 #[.agg #[.int .i64 W, .int .i64 H, iv], brv B u, lv, .agg #[.int .i64 px, .int .i64 py], .agg #[.int .i64 mw, .int .i64 mh, mv]] w fun e w' => e = .returned (.bool true) ∧ Below w.heap.size w w' := by
  obtain ⟨h1, h2, h3, h4⟩ := prep_ok hE
  obtain ⟨hn, _, hW, _, hH, hnl⟩ := ichk_len h1
  have hwh := (ichk_px h1).1
  obtain ⟨_, _, _, _, _, _, hzl⟩ := mchk_len h2
  have hzn : mw ≠ 0 → zs.length = ps.length := fun h0 => by
    obtain ⟨h5, h6⟩ : mw = W ∧ mh = H := by omega
    rw [h5, h6] at hzl
    omega
  have hnW : ps.length = 0 ∨ (1 ≤ W ∧ 0 < ps.length) := by
    by_cases h0 : W = 0
    · subst h0
      left
      simp at hnl
      exact List.length_eq_zero_iff.2 (by simpa using hnl)
    · right
      have hH1 : 1 ≤ H := by omega
      have e1 := Nat.mul_le_mul (show 1 ≤ W by omega) hH1
      have e2 := Int.natCast_mul W H
      omega
  have HI := Lib.hid hI
  have HD := Lib.hid hD
  have HL := Lib.hid hL
  have HM := Lib.hid hM
  have HSn := Lib.hid hs
  obtain ⟨ai, ci, rfl⟩ := hI.slice
  obtain ⟨a, cap, rfl⟩ := Qn.slice hL
  obtain ⟨au, capu, rfl, _, _⟩ := hD
  obtain ⟨am, cm, rfl, _⟩ := hM.slice
  have S1 : Hid (∀ w, Sines w → Pn w (.slice ai ps.length ci) ps → Dn w (.slice au B.ds.length capu) B.ds → Sm w (.slice a ls.length cap) ls → Nn w (.slice am zs.length cm) zs → Calls Tryd.prog 9 #[.agg #[.int .i64 W, .int .i64 H, .slice ai ps.length ci], brv B (.slice au B.ds.length capu), .slice a ls.length cap, .agg #[.int .i64 px, .int .i64 py], .agg #[.int .i64 mw, .int .i64 mh, .slice am zs.length cm]] w fun e w' => ∃ q, e = .returned (.tuple #[.agg #[.int .i64 W, .int .i64 H, q], .int .i64 0]) ∧ Pn w' q (clones B (dabs B ls).1 W H mw zs ps px py) ∧ Below w.heap.size w w') := fun w hs h1 h2 h3 h4 =>
    clone_any W H (.slice ai ps.length ci) ps B (.slice au B.ds.length capu) (.slice a ls.length cap) ls px py mw mh (.slice am zs.length cm) zs W H 0 (clones B (dabs B ls).1 W H mw zs ps px py) w hs h1 h2 h3 h4 (.inr (.inr ⟨hE, ho, rfl, rfl, rfl, rfl⟩))
  have S2 : Hid (∀ w, Sines w → Pn w (.slice ai ps.length ci) ps → Dn w (.slice au B.ds.length capu) B.ds → Sm w (.slice a ls.length cap) ls → Nn w (.slice am zs.length cm) zs → Calls Tryd.prog 17 #[.agg #[.int .i64 W, .int .i64 H, .slice ai ps.length ci], brv B (.slice au B.ds.length capu), .slice a ls.length cap, .agg #[.int .i64 mw, .int .i64 mh, .slice am zs.length cm]] w fun e w' => ∃ q, e = .returned (.tuple #[.agg #[.int .i64 W, .int .i64 H, q], .int .i64 0]) ∧ Pn w' q (smuds B (dabs B ls).1 W H mw zs ps) ∧ Below w.heap.size w w') := fun w hs h1 h2 h3 h4 =>
    smudge_any W H (.slice ai ps.length ci) ps B (.slice au B.ds.length capu) (.slice a ls.length cap) ls mw mh (.slice am zs.length cm) zs W H 0 (smuds B (dabs B ls).1 W H mw zs ps) w hs h1 h2 h3 h4 (.inr ⟨hE, rfl, rfl, rfl, rfl⟩)
  have AW := Lib.hid awake_any
  have DB := Lib.hid (fun w h h' => dabs_any B (.slice au B.ds.length capu) (.slice a ls.length cap) ls w h h')
  rw [h3] at DB
  have UL := Lib.hid (smuds_len B (dabs B ls).1 W H mw zs ps)
  have TL := Lib.hid (clones_len B (dabs B ls).1 W H mw zs ps px py)
  have BX := Lib.hid (fun v w h => brBox_any v (dabs B ls).1 w h)
  have hbo := bbox_ok (dabs B ls).1
  have KA : Hid (∀ k, k < ps.length → 1 ≤ W → (mw ≠ 0 ∧ zs.getD k 0 = 0) ∨ hasP (bbox (dabs B ls).1).1 (bbox (dabs B ls).1).2.1 (bbox (dabs B ls).1).2.2.1 (bbox (dabs B ls).1).2.2.2 ((k % W : Nat) : Int) ((k / W : Nat) : Int) = false → pxAt (smuds B (dabs B ls).1 W H mw zs ps) k = pxAt ps k ∧ pxAt (clones B (dabs B ls).1 W H mw zs ps px py) k = pxAt ps k) := fun k hk hW1 h => by
    have r1 : k % W < W := Nat.mod_lt _ (by omega)
    have r2 : k / W ≤ k := Nat.div_le_self _ _
    have hk2 : outK (dabs B ls).1 W mw zs k := by
      rcases h with h | h
      · exact .inl h
      · exact .inr (by
          unfold hasP at h
          have := of_decide_eq_false h
          unfold hasR
          exact this)
    refine ⟨smud_out_at B _ W H mw zs ps k (by omega) (by omega) hk2 hk, ?_⟩
    rw [clones_at _ _ _ _ _ _ _ _ _ _ hk]
    exact clone_out_at B _ W H mw zs ps px py k (by omega) (by omega) hk2
  clear hI hL hM hs hE ho h1 h2 h3 h4 hnl hwh hzl
  generalize clones B (dabs B ls).1 W H mw zs ps px py = ts at *
  generalize smuds B (dabs B ls).1 W H mw zs ps = us at *
  generalize (dabs B ls).1 = ds at *
  generalize bbox ds = r at *
  obtain ⟨r0', r1', r2', r3'⟩ := r
  replace BX : Hid (∀ v w, Bm w v ds → Calls Tryd.prog 19 #[v] w fun e w' => e = .returned (.agg #[.int .i64 r0', .int .i64 r1', .int .i64 r2', .int .i64 r3']) ∧ Below w.heap.size w w') := BX
  have HB : Hid (rValid r0' r1' r2' r3' = true) := Lib.hid hbo
  simp only at KA
  clear hbo
  generalize hnn : ps.length = n at *
  clear hnn
  generalize hnz : zs.length = nz at *
  clear hnz
  generalize ls.length = nl at *
  generalize B.ds.length = nd at *
  go_enter Tryd.func6, Tryd.ntmps6
  go_upto_region 1 with (fail)
  refine name4 (fun W1 k1 k2 k3 k4 hb => ?_)
  have c1 := k1.c3
  have c2 := k2.c16
  have c3 := k3.c2
  have c4 := k4.c3
  go_wp2_with fail
  clear c1 c2 c3 c4
  refine (S1.out _ (HSn.out.kept hb) (HI.out.kept hb) (HD.out.kept hb) (HL.out.kept hb) (HM.out.kept hb)).mono ?_
  rintro e W2 ⟨q, rfl, hq, hS⟩
  replace k1 := k1.kept hS
  replace k2 := k2.kept hS
  replace k3 := k3.kept hS
  replace k4 := k4.kept hS
  replace hb := hb.trans (hS.mono hb.size)
  obtain ⟨aq, caq, rfl⟩ := hq.slice
  rw [TL.out] at hq ⊢
  clear hS S1
  go_upto_region 2 with (refine wpList_store_blk rfl _ _ _ rfl W2.heap.size #[.int .i64 W, .int .i64 H, .slice aq n caq] rfl rfl (heap_alloc_new W2 _) infoImgR rfl (by simp [Value.oneCell']) (fun W3 ka hkx hbx => ?_))
  have hS : Below W2.heap.size W2 W3 := ((Below.refl _ _).alloc (Nat.le_refl _) _).trans hbx
  replace k1 := k1.kept hS
  replace k2 := k2.kept hS
  replace k3 := k3.kept hS
  replace k4 := k4.kept hS
  replace hb := hb.trans (hS.mono hb.size)
  replace hq := hq.kept hS
  clear hS hkx hbx
  generalize W2.heap.size = xka at *
  have c1 := k1.c3
  have c2 := k2.c16
  have c3 := k3.c2
  have c4 := k4.c3
  go_wp2_with fail
  clear c1 c2 c3 c4
  refine (S2.out _ (HSn.out.kept hb) (HI.out.kept hb) (HD.out.kept hb) (HL.out.kept hb) (HM.out.kept hb)).mono ?_
  rintro e W4 ⟨q, rfl, hr, hS⟩
  replace k1 := k1.kept hS
  replace k2 := k2.kept hS
  replace k3 := k3.kept hS
  replace k4 := k4.kept hS
  replace ka := ka.kept hS
  replace hb := hb.trans (hS.mono hb.size)
  replace hq := hq.kept hS
  obtain ⟨ar, car, rfl⟩ := hr.slice
  rw [UL.out] at hr ⊢
  clear hS S2
  go_upto_region 3 with (refine wpList_store_blk rfl _ _ _ rfl W4.heap.size #[.int .i64 W, .int .i64 H, .slice ar n car] rfl rfl (heap_alloc_new W4 _) infoImgR rfl (by simp [Value.oneCell']) (fun W5 kz hkx hbx => ?_))
  have hS : Below W4.heap.size W4 W5 := ((Below.refl _ _).alloc (Nat.le_refl _) _).trans hbx
  replace k1 := k1.kept hS
  replace k2 := k2.kept hS
  replace k3 := k3.kept hS
  replace k4 := k4.kept hS
  replace ka := ka.kept hS
  replace hb := hb.trans (hS.mono hb.size)
  replace hr := hr.kept hS
  replace hq := hq.kept hS
  clear hS hkx hbx
  generalize W4.heap.size = xkz at *
  go_wp2_with fail
  refine (AW.out _ (HSn.out.kept hb)).mono ?_
  rintro e W6 ⟨rfl, hS⟩
  replace k1 := k1.kept hS
  replace k2 := k2.kept hS
  replace k3 := k3.kept hS
  replace k4 := k4.kept hS
  replace ka := ka.kept hS
  replace kz := kz.kept hS
  replace hq := hq.kept hS
  replace hr := hr.kept hS
  replace hb := hb.trans (hS.mono hb.size)
  clear hS AW
  have c2 := k2.c16
  go_wp2_with fail
  clear c2
  refine (DB.out _ (HD.out.kept hb) (HL.out.kept hb)).mono ?_
  rintro e W7 ⟨q1, rfl, h1, hS⟩
  replace k1 := k1.kept hS
  replace k2 := k2.kept hS
  replace k3 := k3.kept hS
  replace k4 := k4.kept hS
  replace ka := ka.kept hS
  replace kz := kz.kept hS
  replace hq := hq.kept hS
  replace hr := hr.kept hS
  replace hb := hb.trans (hS.mono hb.size)
  have H1 := Lib.hid h1
  obtain ⟨a1, p1, rfl⟩ := Qn.slice h1
  clear hS h1 DB
  go_upto_region 8 with (fail)
  go_cut [17] (fun s17 wx => ∃ xb : Nat, s17 = .pointer (some ⟨xb, 0, none⟩) ∧ Blk wx w.heap.size (.cells #[.int .i64 W, .int .i64 H, .slice ai n ci] 24 (0, 0)) ∧ Blk wx (w.heap.size + 1 + 1 + 1) (.cells #[.int .i64 mw, .int .i64 mh, .slice am nz cm] 33 (0, 0)) ∧ Blk wx xka (.cells #[.int .i64 W, .int .i64 H, .slice aq n caq] 24 (0, 0)) ∧ Blk wx xkz (.cells #[.int .i64 W, .int .i64 H, .slice ar n car] 24 (0, 0)) ∧ Blk wx xb (.cells #[.int .i64 r0', .int .i64 r1', .int .i64 r2', .int .i64 r3'] 35 (0, 0)) ∧ Pn wx (.slice aq n caq) ts ∧ Pn wx (.slice ar n car) us ∧ Below w.heap.size w wx)
  case first =>
    go_wp2_with fail
    refine (BX.out _ _ H1.out).mono ?_
    rintro e W8 ⟨rfl, hS⟩
    replace k1 := k1.kept hS
    replace k2 := k2.kept hS
    replace k3 := k3.kept hS
    replace k4 := k4.kept hS
    replace ka := ka.kept hS
    replace kz := kz.kept hS
    replace hq := hq.kept hS
    replace hr := hr.kept hS
    replace hb := hb.trans (hS.mono hb.size)
    clear hS BX H1
    go_wp2_with fail
    go_meet
    exact ⟨_, rfl, k1.alloc _, k4.alloc _, ka.alloc _, kz.alloc _, heap_alloc_new _ _, hq.kept ((Below.refl _ _).alloc (Nat.le_refl _) _), hr.kept ((Below.refl _ _).alloc (Nat.le_refl _) _), hb.alloc hb.size _⟩
  case rest =>
    rename_i hk0
    clear k1 k2 k3 k4 ka kz hb hq hr
    obtain ⟨xb, rfl, k1, k4, ka, kz, kb, hq, hr, hb⟩ := hcut
    refine hk0 _ _ (tail_good W H n nz ai am aq ar ci cm caq car ps us ts zs mw mh r0' r1' r2' r3' w _ xka xkz xb hn hW hH hnW hzn HB.out KA.out HI.out HM.out hq hr k1 k4 ka kz kb hb)

noncomputable def tail_offC : Code := ((Tryd.f6.body.bind (tailR 9)).getD .skip)
set_option maxRecDepth 100000 in
set_option maxHeartbeats 32000000 in
theorem tail_off (W H n nz : Nat) (ai am aq ar : Option Addr) (ci cm caq car : Nat) (ps us : List Px) (zs : List Int) (mw mh r0' r1' r2' r3' : Int) (w W9 : World) (xka xkz xb : Nat) (hn : n ≤ 65536) (hW : (W : Int) ≤ 256) (hH : (H : Int) ≤ 256) (hnW : n = 0 ∨ (1 ≤ W ∧ 0 < n)) (hzn : mw ≠ 0 → nz = n) (hbo : rValid r0' r1' r2' r3' = true) (KA : ∀ k, k < n → 1 ≤ W → (mw ≠ 0 ∧ zs.getD k 0 = 0) ∨ hasP r0' r1' r2' r3' ((k % W : Nat) : Int) ((k / W : Nat) : Int) = false → pxAt us k = pxAt ps k) (hI : Pn w (.slice ai n ci) ps) (hM : Nn w (.slice am nz cm) zs) (hq : Pn W9 (.slice aq 0 caq) []) (hr : Pn W9 (.slice ar n car) us) (k1 : Blk W9 w.heap.size (.cells #[.int .i64 W, .int .i64 H, .slice ai n ci] 24 (0, 0))) (k4 : Blk W9 (w.heap.size + 1 + 1 + 1) (.cells #[.int .i64 mw, .int .i64 mh, .slice am nz cm] 33 (0, 0))) (ka : Blk W9 xka (.cells #[.int .i64 0, .int .i64 0, .slice aq 0 caq] 24 (0, 0))) (kz : Blk W9 xkz (.cells #[.int .i64 W, .int .i64 H, .slice ar n car] 24 (0, 0))) (kb : Blk W9 xb (.cells #[.int .i64 r0', .int .i64 r1', .int .i64 r2', .int .i64 r3'] 35 (0, 0))) (h6 : Below w.heap.size w W9) {v0 v1 v2 v3 v4 v7 v15 v18 v19 v20 v21 v22 v23 v24 v25 v26 v27 v28 v29 v30 v31 v32 v33 v34 v35 v36 v37 v38 v39 v40 v41 v42 v43 v44 v45 v46 v47 v48 v49 v50 v51 v52 v53 v54 v55 v56 v57 v58 v59 v60 v61 v62 v63 v64 v65 v66 v67 v68 v69 v70 v71 v72 v73 v74 v75 v76 v77 v78 v79 v80 v81 v82 v83 v84 v85 v86 v87 v88 v89 v90 v91 v92 v93 v94 v95 v96 v97 v98 v99 v100 v101 v102 v103 v104 v105 v106 v107 v108 v109 v110 v111 v112 v113 v114 v115 v116 v117 v118 v119 v120 v121 v122 v123 v124 v125 v126 v127 v128 v129 v130 v131 v132 v133 v134 v135 v136 v137 v138 v139 v140 v141 v142 v143 v144 v145 v146 v147 v148 v149 v150 v151 v152 v153 v154 v155 v156 : Value} :
    Code.wp Tryd.prog tail_offC (bodyPost Tryd.prog Tryd.f6 fun e w' => e = .returned (.bool true) ∧ Below w.heap.size w w') ⟨#[v0, v1, v2, v3, v4, .pointer (some ⟨w.heap.size, 0, none⟩), .pointer (some ⟨(w.heap.size + 1), 0, none⟩), v7, .pointer (some ⟨(w.heap.size + 1 + 1), 0, none⟩), .pointer (some ⟨(w.heap.size + 1 + 1 + 1), 0, none⟩), .bool false, .pointer (some ⟨xka, 0, none⟩), .int .i64 2, .pointer (some ⟨xkz, 0, none⟩), .int .i64 0, v15, .int .i64 0, .pointer (some ⟨xb, 0, none⟩), v18, v19, v20, v21, v22, v23, v24, v25, v26, v27, v28, v29, v30, v31, v32, v33, v34, v35, v36, v37, v38, v39, v40, v41, v42, v43, v44, v45, v46, v47, v48, v49, v50, v51, v52, v53, v54, v55, v56, v57, v58, v59, v60, v61, v62, v63, v64, v65, v66, v67, v68, v69, v70, v71, v72, v73, v74, v75, v76, v77, v78, v79, v80, v81, v82, v83, v84, v85, v86, v87, v88, v89, v90, v91, v92, v93, v94, v95, v96, v97, v98, v99, v100, v101, v102, v103, v104, v105, v106, v107, v108, v109, v110, v111, v112, v113, v114, v115, v116, v117, v118, v119, v120, v121, v122, v123, v124, v125, v126, v127, v128, v129, v130, v131, v132, v133, v134, v135, v136, v137, v138, v139, v140, v141, v142, v143, v144, v145, v146, v147, v148, v149, v150, v151, v152, v153, v154, v155, v156], []⟩ W9 := by
  have HI := Lib.hid hI
  have HM := Lib.hid hM
  have HQ := Lib.hid hq
  have HU := Lib.hid hr
  have HS := Lib.hid (fun px py w => hasRect_any r0' r1' r2' r3' px py w hbo)
  replace KA := Lib.hid KA
  clear hI hM hq hr hbo
  have hb := Below.refl W9.heap.size W9
  have c1 := k1.c3
  have ca := ka.c3
  have cz := kz.c3
  conv => arg 2; whnf
  rcases hnW with rfl | ⟨hW1, hn0⟩
  · go_wp2_with fail
    clear ca cz c1
    go_loopw [100] (fun i wr => i = .int .i64 0 ∧ Below W9.heap.size W9 wr) (fun i _ => 0)
    case atStart => exact ⟨rfl, hb⟩
    case round =>
      clear hb
      obtain ⟨rfl, hb⟩ := hrel
      go_wp2_with fail
      go_ret
      exact ⟨rfl, h6.trans (hb.mono h6.size)⟩
  · have hw0 : ¬ (W : Int) < 1 := by omega
    have hnb : ((n : Int) != 0) = true := by simp; omega
    have hnb2 : ¬ (n : Int) = 0 := by omega
    have hnb3 : ¬ n = 0 := by omega
    go_wp2_with fail
    clear ca cz c1
    go_loopw [100] (fun i wr => ∃ k : Nat, k ≤ n ∧ i = .int .i64 k ∧ Blk wr w.heap.size (.cells #[.int .i64 W, .int .i64 H, .slice ai n ci] 24 (0, 0)) ∧ Blk wr (w.heap.size + 1 + 1 + 1) (.cells #[.int .i64 mw, .int .i64 mh, .slice am nz cm] 33 (0, 0)) ∧ Blk wr xka (.cells #[.int .i64 0, .int .i64 0, .slice aq 0 caq] 24 (0, 0)) ∧ Blk wr xkz (.cells #[.int .i64 W, .int .i64 H, .slice ar n car] 24 (0, 0)) ∧ Blk wr xb (.cells #[.int .i64 r0', .int .i64 r1', .int .i64 r2', .int .i64 r3'] 35 (0, 0)) ∧ Below W9.heap.size W9 wr) (fun i _ => n - (intOf i).toNat)
    case atStart => exact ⟨0, Nat.zero_le _, rfl, k1, k4, ka, kz, kb, hb⟩
    case round =>
      clear k1 k4 ka kz kb hb
      obtain ⟨k, hk, rfl, k1, k4, ka, kz, kb, hb⟩ := hrel
      by_cases hlt : k < n
      · obtain ⟨b1, off1, rfl, hbl1, hcell1⟩ := HI.out.at k hlt
        obtain ⟨b2, off2, rfl, hbl2, hcell2⟩ := HU.out.at k hlt
        have KA1 := Lib.hid (KA.out k hlt hW1)
        have HS1 := Lib.hid (fun w => HS.out ((k % W : Nat) : Int) ((k / W : Nat) : Int) w)
        have t1 : ((k : Nat) : Int).tmod (W : Int) = ((k % W : Nat) : Int) := Int.tmod_eq_emod_of_nonneg (by omega)
        have t2 : ((k : Nat) : Int).tdiv (W : Int) = ((k / W : Nat) : Int) := Int.tdiv_eq_ediv_of_nonneg (by omega)
        have r1 : k % W < W := Nat.mod_lt _ (by omega)
        have r2 : k / W ≤ k := Nat.div_le_self _ _
        generalize hasP r0' r1' r2' r3' ((k % W : Nat) : Int) ((k / W : Nat) : Int) = hx at *
        generalize pxAt ps k = p at *
        generalize pxAt us k = q at *
        generalize k % W = rm at *
        generalize k / W = qd at *
        obtain ⟨p0, p1', p2, p3⟩ := p
        simp only at hcell1
        have hc1 := hcell1 wr (h6.trans (hb.mono h6.size))
        clear hcell1
        have HC2 := Lib.hid hcell2
        clear hcell2
        have wz : ((W : Int) == 0) = false := by simp; omega
        have wn : ¬ W = 0 := by omega
        have e5 : IntKind.i64.wrap (qd : Int) = (qd : Int) := IntWalk.i64_in _ (by omega)
        have e6 : IntKind.i64.wrap (rm : Int) = (rm : Int) := IntWalk.i64_in _ (by omega)
        have i1 : (0 : Int) ≤ (k : Int) := by omega
        have i2 : (k : Int) < (n : Int) := by omega
        have i3 : k < n := hlt
        go_upto_region 14 with (fail)
        clear hc1
        refine name1 (fun W10 kp hS => ?_)
        replace k1 := k1.kept hS
        replace k4 := k4.kept hS
        replace ka := ka.kept hS
        replace kz := kz.kept hS
        replace kb := kb.kept hS
        replace hb := hb.trans (hS.mono hb.size)
        clear hS
        cases hx
        · have hKK := KA1.out (.inr rfl)
          obtain rfl := hKK
          have HC2' := Lib.hid HC2.out
          simp only at HC2'
          refine wp_region_grow 31 (fun w' => Below (World.heap W10).size W10 w') (by kernel_rfl) (by kernel_rfl) (Below.refl _ _).drew ?_
          simp only [List.take_succ_cons, List.take_zero, List.drop_succ_cons, List.drop_zero]
          repeat (first | (apply wpG_on; rfl; (intro w' hS K hK; have hc0 := (kb.kept hS).c4; have hc1 := (k1.kept hS).c3; have hc2 := (k4.kept hS).c3; have hc3 := (kp.kept hS).lt; have hc4 := (ka.kept hS).lt; have hc5 := (kz.kept hS).lt; go_simp; (first | exact hK.out _ hS | (go_at_call 13; (with_reducible refine (HS1.out _).mono ?_); rintro e w'' ⟨rfl, hbb⟩; exact ⟨_, rfl, hK.out _ (hS.trans (hbb.mono hS.size))⟩))); simp only [Act.put, List.setIfInBounds_toArray, List.set_cons_succ, List.set_cons_zero]) | (apply wpG_off; rfl; simp only [Act.put, List.setIfInBounds_toArray, List.set_cons_succ, List.set_cons_zero]))
          apply wpG_nil
          intro W11 hS
          replace kb := kb.kept hS
          replace k1 := k1.kept hS
          replace k4 := k4.kept hS
          replace kp := kp.kept hS
          replace ka := ka.kept hS
          replace kz := kz.kept hS
          replace hb := hb.trans (hS.mono hb.size)
          clear hS
          clear t1 t2 wz wn e5 e6
          go_upto_region 15 with (fail)
          refine wp_region_grow 20 (fun w' => Below (World.heap W11).size W11 w') (by kernel_rfl) (by kernel_rfl) (Below.refl _ _).drew ?_
          simp only [List.take_succ_cons, List.take_zero, List.drop_succ_cons, List.drop_zero]
          repeat (first | (apply wpG_on; rfl; (intro w' hS K hK; have hc0 := (ka.kept hS).c3; have hc1 := (kz.kept hS).c3; have hc2 := (kp.kept hS).c4; have hc3 := (k1.kept hS).lt; have hc4 := (k4.kept hS).lt; have hc5 := (kb.kept hS).lt; have hr0 := HC2'.out _ (hb.trans (hS.mono hb.size)); go_simp; (first | exact hK.out _ hS)); simp only [Act.put, List.setIfInBounds_toArray, List.set_cons_succ, List.set_cons_zero]) | (apply wpG_off; rfl; simp only [Act.put, List.setIfInBounds_toArray, List.set_cons_succ, List.set_cons_zero]))
          apply wpG_nil
          intro W12 hS
          replace ka := ka.kept hS
          replace kz := kz.kept hS
          replace kp := kp.kept hS
          replace k1 := k1.kept hS
          replace k4 := k4.kept hS
          replace kb := kb.kept hS
          replace hb := hb.trans (hS.mono hb.size)
          clear hS
          go_wp2_with fail
          go_roundw
          case rel => exact ⟨k + 1, by omega, by go_num, k1, k4, ka, kz, kb, hb⟩
          case measure => simp only [intOf]; omega
        · by_cases hm0 : mw = 0
          · have bm : (mw == 0) = true := by simpa using hm0
            refine wp_region_grow 31 (fun w' => Below (World.heap W10).size W10 w') (by kernel_rfl) (by kernel_rfl) (Below.refl _ _).drew ?_
            simp only [List.take_succ_cons, List.take_zero, List.drop_succ_cons, List.drop_zero]
            repeat (first | (apply wpG_on; rfl; (intro w' hS K hK; have hc0 := (kb.kept hS).c4; have hc1 := (k1.kept hS).c3; have hc2 := (k4.kept hS).c3; have hc3 := (kp.kept hS).lt; have hc4 := (ka.kept hS).lt; have hc5 := (kz.kept hS).lt; go_simp; (first | exact hK.out _ hS | (go_at_call 13; (with_reducible refine (HS1.out _).mono ?_); rintro e w'' ⟨rfl, hbb⟩; exact ⟨_, rfl, hK.out _ (hS.trans (hbb.mono hS.size))⟩))); simp only [Act.put, List.setIfInBounds_toArray, List.set_cons_succ, List.set_cons_zero]) | (apply wpG_off; rfl; simp only [Act.put, List.setIfInBounds_toArray, List.set_cons_succ, List.set_cons_zero]))
            apply wpG_nil
            intro W11 hS
            replace kb := kb.kept hS
            replace k1 := k1.kept hS
            replace k4 := k4.kept hS
            replace kp := kp.kept hS
            replace ka := ka.kept hS
            replace kz := kz.kept hS
            replace hb := hb.trans (hS.mono hb.size)
            clear hS
            clear t1 t2 wz wn e5 e6
            go_wp2_with fail
            go_roundw
            case rel => exact ⟨k + 1, by omega, by go_num, k1, k4, ka, kz, kb, hb⟩
            case measure => simp only [intOf]; omega
          · have bm : (mw == 0) = false := by simpa using hm0
            obtain rfl : nz = n := hzn hm0
            obtain ⟨bz, oz, rfl, hz⟩ := nnAtB HM.out k hlt
            have HZ := Lib.hid hz
            clear hz
            generalize zs.getD k 0 = z at *
            by_cases hz0 : z = 0
            · subst hz0
              have hKK := KA1.out (.inl ⟨hm0, rfl⟩)
              obtain rfl := hKK
              have HC2' := Lib.hid HC2.out
              simp only at HC2'
              refine wp_region_grow 31 (fun w' => Below (World.heap W10).size W10 w') (by kernel_rfl) (by kernel_rfl) (Below.refl _ _).drew ?_
              simp only [List.take_succ_cons, List.take_zero, List.drop_succ_cons, List.drop_zero]
              repeat (first | (apply wpG_on; rfl; (intro w' hS K hK; have hc0 := (kb.kept hS).c4; have hc1 := (k1.kept hS).c3; have hc2 := (k4.kept hS).c3; have hc3 := (kp.kept hS).lt; have hc4 := (ka.kept hS).lt; have hc5 := (kz.kept hS).lt; have hr0 := HZ.out _ (h6.trans ((hb.trans (hS.mono hb.size)).mono h6.size)); go_simp; (first | exact hK.out _ hS | (go_at_call 13; (with_reducible refine (HS1.out _).mono ?_); rintro e w'' ⟨rfl, hbb⟩; exact ⟨_, rfl, hK.out _ (hS.trans (hbb.mono hS.size))⟩))); simp only [Act.put, List.setIfInBounds_toArray, List.set_cons_succ, List.set_cons_zero]) | (apply wpG_off; rfl; simp only [Act.put, List.setIfInBounds_toArray, List.set_cons_succ, List.set_cons_zero]))
              apply wpG_nil
              intro W11 hS
              replace kb := kb.kept hS
              replace k1 := k1.kept hS
              replace k4 := k4.kept hS
              replace kp := kp.kept hS
              replace ka := ka.kept hS
              replace kz := kz.kept hS
              replace hb := hb.trans (hS.mono hb.size)
              clear hS
              clear t1 t2 wz wn e5 e6
              go_upto_region 15 with (fail)
              refine wp_region_grow 20 (fun w' => Below (World.heap W11).size W11 w') (by kernel_rfl) (by kernel_rfl) (Below.refl _ _).drew ?_
              simp only [List.take_succ_cons, List.take_zero, List.drop_succ_cons, List.drop_zero]
              repeat (first | (apply wpG_on; rfl; (intro w' hS K hK; have hc0 := (ka.kept hS).c3; have hc1 := (kz.kept hS).c3; have hc2 := (kp.kept hS).c4; have hc3 := (k1.kept hS).lt; have hc4 := (k4.kept hS).lt; have hc5 := (kb.kept hS).lt; have hr0 := HC2'.out _ (hb.trans (hS.mono hb.size)); go_simp; (first | exact hK.out _ hS)); simp only [Act.put, List.setIfInBounds_toArray, List.set_cons_succ, List.set_cons_zero]) | (apply wpG_off; rfl; simp only [Act.put, List.setIfInBounds_toArray, List.set_cons_succ, List.set_cons_zero]))
              apply wpG_nil
              intro W12 hS
              replace ka := ka.kept hS
              replace kz := kz.kept hS
              replace kp := kp.kept hS
              replace k1 := k1.kept hS
              replace k4 := k4.kept hS
              replace kb := kb.kept hS
              replace hb := hb.trans (hS.mono hb.size)
              clear hS
              go_wp2_with fail
              go_roundw
              case rel => exact ⟨k + 1, by omega, by go_num, k1, k4, ka, kz, kb, hb⟩
              case measure => simp only [intOf]; omega

            · have bz0 : (z != 0) = true := by simpa using hz0
              refine wp_region_grow 31 (fun w' => Below (World.heap W10).size W10 w') (by kernel_rfl) (by kernel_rfl) (Below.refl _ _).drew ?_
              simp only [List.take_succ_cons, List.take_zero, List.drop_succ_cons, List.drop_zero]
              repeat (first | (apply wpG_on; rfl; (intro w' hS K hK; have hc0 := (kb.kept hS).c4; have hc1 := (k1.kept hS).c3; have hc2 := (k4.kept hS).c3; have hc3 := (kp.kept hS).lt; have hc4 := (ka.kept hS).lt; have hc5 := (kz.kept hS).lt; have hr0 := HZ.out _ (h6.trans ((hb.trans (hS.mono hb.size)).mono h6.size)); go_simp; (first | exact hK.out _ hS | (go_at_call 13; (with_reducible refine (HS1.out _).mono ?_); rintro e w'' ⟨rfl, hbb⟩; exact ⟨_, rfl, hK.out _ (hS.trans (hbb.mono hS.size))⟩))); simp only [Act.put, List.setIfInBounds_toArray, List.set_cons_succ, List.set_cons_zero]) | (apply wpG_off; rfl; simp only [Act.put, List.setIfInBounds_toArray, List.set_cons_succ, List.set_cons_zero]))
              apply wpG_nil
              intro W11 hS
              replace kb := kb.kept hS
              replace k1 := k1.kept hS
              replace k4 := k4.kept hS
              replace kp := kp.kept hS
              replace ka := ka.kept hS
              replace kz := kz.kept hS
              replace hb := hb.trans (hS.mono hb.size)
              clear hS
              clear t1 t2 wz wn e5 e6
              go_wp2_with fail
              go_roundw
              case rel => exact ⟨k + 1, by omega, by go_num, k1, k4, ka, kz, kb, hb⟩
              case measure => simp only [intOf]; omega

      · obtain rfl : k = n := by omega
        go_wp2_with fail
        go_ret
        exact ⟨rfl, h6.trans (hb.mono h6.size)⟩

set_option maxRecDepth 100000 in
set_option maxHeartbeats 32000000 in
theorem out_off (W H : Nat) (iv : Value) (ps : List Px) (B : Bru) (u lv : Value) (ls : List Smp) (px py mw mh : Int) (mv : Value) (zs : List Int) (w : World) (hs : Sines w) (hI : Pn w iv ps) (hD : Dn w u B.ds) (hL : Sm w lv ls) (hM : Nn w mv zs) (hE : prepE W H ps B ls mw mh zs = 0) (ho : ¬ cOff px py) :
    Calls Tryd.prog 6 #[.agg #[.int .i64 W, .int .i64 H, iv], brv B u, lv, .agg #[.int .i64 px, .int .i64 py], .agg #[.int .i64 mw, .int .i64 mh, mv]] w fun e w' => e = .returned (.bool true) ∧ Below w.heap.size w w' := by
  obtain ⟨h1, h2, h3, h4⟩ := prep_ok hE
  obtain ⟨hn, _, hW, _, hH, hnl⟩ := ichk_len h1
  have hwh := (ichk_px h1).1
  obtain ⟨_, _, _, _, _, _, hzl⟩ := mchk_len h2
  have hzn : mw ≠ 0 → zs.length = ps.length := fun h0 => by
    obtain ⟨h5, h6⟩ : mw = W ∧ mh = H := by omega
    rw [h5, h6] at hzl
    omega
  have hnW : ps.length = 0 ∨ (1 ≤ W ∧ 0 < ps.length) := by
    by_cases h0 : W = 0
    · subst h0
      left
      simp at hnl
      exact List.length_eq_zero_iff.2 (by simpa using hnl)
    · right
      have hH1 : 1 ≤ H := by omega
      have e1 := Nat.mul_le_mul (show 1 ≤ W by omega) hH1
      have e2 := Int.natCast_mul W H
      omega
  have HI := Lib.hid hI
  have HD := Lib.hid hD
  have HL := Lib.hid hL
  have HM := Lib.hid hM
  have HSn := Lib.hid hs
  obtain ⟨ai, ci, rfl⟩ := hI.slice
  obtain ⟨a, cap, rfl⟩ := Qn.slice hL
  obtain ⟨au, capu, rfl, _, _⟩ := hD
  obtain ⟨am, cm, rfl, _⟩ := hM.slice
  have S1 : Hid (∀ w, Sines w → Pn w (.slice ai ps.length ci) ps → Dn w (.slice au B.ds.length capu) B.ds → Sm w (.slice a ls.length cap) ls → Nn w (.slice am zs.length cm) zs → Calls Tryd.prog 9 #[.agg #[.int .i64 W, .int .i64 H, .slice ai ps.length ci], brv B (.slice au B.ds.length capu), .slice a ls.length cap, .agg #[.int .i64 px, .int .i64 py], .agg #[.int .i64 mw, .int .i64 mh, .slice am zs.length cm]] w fun e w' => ∃ q, e = .returned (.tuple #[.agg #[.int .i64 0, .int .i64 0, q], .int .i64 2]) ∧ Pn w' q [] ∧ Below w.heap.size w w') := fun w hs h1 h2 h3 h4 =>
    clone_any W H (.slice ai ps.length ci) ps B (.slice au B.ds.length capu) (.slice a ls.length cap) ls px py mw mh (.slice am zs.length cm) zs 0 0 2 [] w hs h1 h2 h3 h4 (.inr (.inl ⟨hE, ho, rfl, rfl, rfl, rfl⟩))
  have S2 : Hid (∀ w, Sines w → Pn w (.slice ai ps.length ci) ps → Dn w (.slice au B.ds.length capu) B.ds → Sm w (.slice a ls.length cap) ls → Nn w (.slice am zs.length cm) zs → Calls Tryd.prog 17 #[.agg #[.int .i64 W, .int .i64 H, .slice ai ps.length ci], brv B (.slice au B.ds.length capu), .slice a ls.length cap, .agg #[.int .i64 mw, .int .i64 mh, .slice am zs.length cm]] w fun e w' => ∃ q, e = .returned (.tuple #[.agg #[.int .i64 W, .int .i64 H, q], .int .i64 0]) ∧ Pn w' q (smuds B (dabs B ls).1 W H mw zs ps) ∧ Below w.heap.size w w') := fun w hs h1 h2 h3 h4 =>
    smudge_any W H (.slice ai ps.length ci) ps B (.slice au B.ds.length capu) (.slice a ls.length cap) ls mw mh (.slice am zs.length cm) zs W H 0 (smuds B (dabs B ls).1 W H mw zs ps) w hs h1 h2 h3 h4 (.inr ⟨hE, rfl, rfl, rfl, rfl⟩)
  have AW := Lib.hid awake_any
  have DB := Lib.hid (fun w h h' => dabs_any B (.slice au B.ds.length capu) (.slice a ls.length cap) ls w h h')
  rw [h3] at DB
  have UL := Lib.hid (smuds_len B (dabs B ls).1 W H mw zs ps)
  have BX := Lib.hid (fun v w h => brBox_any v (dabs B ls).1 w h)
  have hbo := bbox_ok (dabs B ls).1
  have KA : Hid (∀ k, k < ps.length → 1 ≤ W → (mw ≠ 0 ∧ zs.getD k 0 = 0) ∨ hasP (bbox (dabs B ls).1).1 (bbox (dabs B ls).1).2.1 (bbox (dabs B ls).1).2.2.1 (bbox (dabs B ls).1).2.2.2 ((k % W : Nat) : Int) ((k / W : Nat) : Int) = false → pxAt (smuds B (dabs B ls).1 W H mw zs ps) k = pxAt ps k) := fun k hk hW1 h => by
    have r1 : k % W < W := Nat.mod_lt _ (by omega)
    have r2 : k / W ≤ k := Nat.div_le_self _ _
    have hk2 : outK (dabs B ls).1 W mw zs k := by
      rcases h with h | h
      · exact .inl h
      · exact .inr (by
          unfold hasP at h
          have := of_decide_eq_false h
          unfold hasR
          exact this)
    exact smud_out_at B _ W H mw zs ps k (by omega) (by omega) hk2 hk
  clear hI hL hM hs hE ho h1 h2 h3 h4 hnl hwh hzl
  generalize smuds B (dabs B ls).1 W H mw zs ps = us at *
  generalize (dabs B ls).1 = ds at *
  generalize bbox ds = r at *
  obtain ⟨r0', r1', r2', r3'⟩ := r
  replace BX : Hid (∀ v w, Bm w v ds → Calls Tryd.prog 19 #[v] w fun e w' => e = .returned (.agg #[.int .i64 r0', .int .i64 r1', .int .i64 r2', .int .i64 r3']) ∧ Below w.heap.size w w') := BX
  have HB : Hid (rValid r0' r1' r2' r3' = true) := Lib.hid hbo
  simp only at KA
  clear hbo
  generalize hnn : ps.length = n at *
  clear hnn
  generalize hnz : zs.length = nz at *
  clear hnz
  generalize ls.length = nl at *
  generalize B.ds.length = nd at *
  go_enter Tryd.func6, Tryd.ntmps6
  go_upto_region 1 with (fail)
  refine name4 (fun W1 k1 k2 k3 k4 hb => ?_)
  have c1 := k1.c3
  have c2 := k2.c16
  have c3 := k3.c2
  have c4 := k4.c3
  go_wp2_with fail
  clear c1 c2 c3 c4
  refine (S1.out _ (HSn.out.kept hb) (HI.out.kept hb) (HD.out.kept hb) (HL.out.kept hb) (HM.out.kept hb)).mono ?_
  rintro e W2 ⟨q, rfl, hq, hS⟩
  replace k1 := k1.kept hS
  replace k2 := k2.kept hS
  replace k3 := k3.kept hS
  replace k4 := k4.kept hS
  replace hb := hb.trans (hS.mono hb.size)
  obtain ⟨aq, caq, rfl⟩ := hq.slice
  rw [List.length_nil] at hq ⊢
  clear hS S1
  go_upto_region 2 with (refine wpList_store_blk rfl _ _ _ rfl W2.heap.size #[.int .i64 0, .int .i64 0, .slice aq 0 caq] rfl rfl (heap_alloc_new W2 _) infoImgR rfl (by simp [Value.oneCell']) (fun W3 ka hkx hbx => ?_))
  have hS : Below W2.heap.size W2 W3 := ((Below.refl _ _).alloc (Nat.le_refl _) _).trans hbx
  replace k1 := k1.kept hS
  replace k2 := k2.kept hS
  replace k3 := k3.kept hS
  replace k4 := k4.kept hS
  replace hb := hb.trans (hS.mono hb.size)
  replace hq := hq.kept hS
  clear hS hkx hbx
  generalize W2.heap.size = xka at *
  have c1 := k1.c3
  have c2 := k2.c16
  have c3 := k3.c2
  have c4 := k4.c3
  go_wp2_with fail
  clear c1 c2 c3 c4
  refine (S2.out _ (HSn.out.kept hb) (HI.out.kept hb) (HD.out.kept hb) (HL.out.kept hb) (HM.out.kept hb)).mono ?_
  rintro e W4 ⟨q, rfl, hr, hS⟩
  replace k1 := k1.kept hS
  replace k2 := k2.kept hS
  replace k3 := k3.kept hS
  replace k4 := k4.kept hS
  replace ka := ka.kept hS
  replace hb := hb.trans (hS.mono hb.size)
  replace hq := hq.kept hS
  obtain ⟨ar, car, rfl⟩ := hr.slice
  rw [UL.out] at hr ⊢
  clear hS S2
  go_upto_region 3 with (refine wpList_store_blk rfl _ _ _ rfl W4.heap.size #[.int .i64 W, .int .i64 H, .slice ar n car] rfl rfl (heap_alloc_new W4 _) infoImgR rfl (by simp [Value.oneCell']) (fun W5 kz hkx hbx => ?_))
  have hS : Below W4.heap.size W4 W5 := ((Below.refl _ _).alloc (Nat.le_refl _) _).trans hbx
  replace k1 := k1.kept hS
  replace k2 := k2.kept hS
  replace k3 := k3.kept hS
  replace k4 := k4.kept hS
  replace ka := ka.kept hS
  replace hb := hb.trans (hS.mono hb.size)
  replace hr := hr.kept hS
  replace hq := hq.kept hS
  clear hS hkx hbx
  generalize W4.heap.size = xkz at *
  go_wp2_with fail
  refine (AW.out _ (HSn.out.kept hb)).mono ?_
  rintro e W6 ⟨rfl, hS⟩
  replace k1 := k1.kept hS
  replace k2 := k2.kept hS
  replace k3 := k3.kept hS
  replace k4 := k4.kept hS
  replace ka := ka.kept hS
  replace kz := kz.kept hS
  replace hq := hq.kept hS
  replace hr := hr.kept hS
  replace hb := hb.trans (hS.mono hb.size)
  clear hS AW
  have c2 := k2.c16
  go_wp2_with fail
  clear c2
  refine (DB.out _ (HD.out.kept hb) (HL.out.kept hb)).mono ?_
  rintro e W7 ⟨q1, rfl, h1, hS⟩
  replace k1 := k1.kept hS
  replace k2 := k2.kept hS
  replace k3 := k3.kept hS
  replace k4 := k4.kept hS
  replace ka := ka.kept hS
  replace kz := kz.kept hS
  replace hq := hq.kept hS
  replace hr := hr.kept hS
  replace hb := hb.trans (hS.mono hb.size)
  have H1 := Lib.hid h1
  obtain ⟨a1, p1, rfl⟩ := Qn.slice h1
  clear hS h1 DB
  go_upto_region 8 with (fail)
  go_cut [17] (fun s17 wx => ∃ xb : Nat, s17 = .pointer (some ⟨xb, 0, none⟩) ∧ Blk wx w.heap.size (.cells #[.int .i64 W, .int .i64 H, .slice ai n ci] 24 (0, 0)) ∧ Blk wx (w.heap.size + 1 + 1 + 1) (.cells #[.int .i64 mw, .int .i64 mh, .slice am nz cm] 33 (0, 0)) ∧ Blk wx xka (.cells #[.int .i64 0, .int .i64 0, .slice aq 0 caq] 24 (0, 0)) ∧ Blk wx xkz (.cells #[.int .i64 W, .int .i64 H, .slice ar n car] 24 (0, 0)) ∧ Blk wx xb (.cells #[.int .i64 r0', .int .i64 r1', .int .i64 r2', .int .i64 r3'] 35 (0, 0)) ∧ Pn wx (.slice aq 0 caq) [] ∧ Pn wx (.slice ar n car) us ∧ Below w.heap.size w wx)
  case first =>
    go_wp2_with fail
    refine (BX.out _ _ H1.out).mono ?_
    rintro e W8 ⟨rfl, hS⟩
    replace k1 := k1.kept hS
    replace k2 := k2.kept hS
    replace k3 := k3.kept hS
    replace k4 := k4.kept hS
    replace ka := ka.kept hS
    replace kz := kz.kept hS
    replace hq := hq.kept hS
    replace hr := hr.kept hS
    replace hb := hb.trans (hS.mono hb.size)
    clear hS BX H1
    go_wp2_with fail
    go_meet
    exact ⟨_, rfl, k1.alloc _, k4.alloc _, ka.alloc _, kz.alloc _, heap_alloc_new _ _, hq.kept ((Below.refl _ _).alloc (Nat.le_refl _) _), hr.kept ((Below.refl _ _).alloc (Nat.le_refl _) _), hb.alloc hb.size _⟩
  case rest =>
    rename_i hk0
    clear k1 k2 k3 k4 ka kz hb hq hr
    obtain ⟨xb, rfl, k1, k4, ka, kz, kb, hq, hr, hb⟩ := hcut
    refine hk0 _ _ (tail_off W H n nz ai am aq ar ci cm caq car ps us zs mw mh r0' r1' r2' r3' w _ xka xkz xb hn hW hH hnW hzn HB.out KA.out HI.out HM.out hq hr k1 k4 ka kz kb hb)

theorem walk (iw ih : Int) (iv : Value) (ps : List Px) (B : Bru) (u lv : Value) (ls : List Smp) (px py mw mh : Int) (mv : Value) (zs : List Int) (w : World) (hs : Sines w) (hI : Pn w iv ps) (hD : Dn w u B.ds) (hL : Sm w lv ls) (hM : Nn w mv zs) :
    Calls Tryd.prog 6 #[.agg #[.int .i64 iw, .int .i64 ih, iv], brv B u, lv, .agg #[.int .i64 px, .int .i64 py], .agg #[.int .i64 mw, .int .i64 mh, mv]] w fun e w' => e = .returned (.bool true) ∧ Below w.heap.size w w' := by
  by_cases hE : prepE iw ih ps B ls mw mh zs = 0
  · obtain ⟨h1, _⟩ := prep_ok hE
    obtain ⟨_, a1, _, a3, _, _⟩ := ichk_len h1
    obtain ⟨W, rfl⟩ : ∃ n : Nat, iw = n := ⟨iw.toNat, by omega⟩
    obtain ⟨H, rfl⟩ : ∃ n : Nat, ih = n := ⟨ih.toNat, by omega⟩
    by_cases ho : cOff px py
    · exact out_good W H iv ps B u lv ls px py mw mh mv zs w hs hI hD hL hM hE ho
    · exact out_off W H iv ps B u lv ls px py mw mh mv zs w hs hI hD hL hM hE ho
  · exact out_bad iw ih iv ps B u lv ls px py mw mh mv zs w hs hI hD hL hM hE
end Go.Proofs.YtieacbccadbdbaaDoor.retouchOutside

