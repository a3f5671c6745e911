/- The dabs of a stroke, by the reference (printed by genbrdabs.py). -/
import Derived.Test.YtieacbccadbdbaaGreatDoorLBrD
import Derived.Test.YtieacbccadbdbaaGreatDoorBrDabsJ
import Derived.Test.YtieacbccadbdbaaGreatDoorDabChk
import Derived.Test.YtieacbccadbdbaaGreatDoorLKit
import Derived.Test.YtieacbccadbdbaaGreatDoorBrDabsI
import Derived.Test.YtieacbccadbdbaaGreatDoorLKit
import Derived.Laws.AppendOwn
import Derived.OwnWalk
import Derived.Deep.RegionHeld3
import Derived.Deep.Cut
import Derived.Deep.CutBlock
import Derived.Deep.DeepCutAuto
namespace Go.Proofs.YtieacbccadbdbaaGreatDoor
open Go.RowKit
set_option linter.unusedVariables false
attribute [local go_sem] Oper.gAt gUponK Oper.sAt stilK Oper.vAt valK

set_option maxHeartbeats 2000000 in
theorem refDabs_bad1 (B : Bru) (u v : Value) (ls : List Smp) (w : World) (hD : Dn w u B.ds) (hL : Sm w v ls) (h : bchk B ≠ 0) : Calls Tryz.prog 66 #[brv B u, v] w (DabsEnd w [] (bchk B)) := by
  have HD := Lib.hid hD
  obtain ⟨a, cap, rfl⟩ := Qn.slice hL
  obtain ⟨au, capu, rfl, _, _⟩ := hD
  have C := Lib.hid (fun w h => refDabCheck_any B (.slice au B.ds.length capu) w h)
  have g : (bchk B != 0) = true := by simpa using h
  clear h hL
  generalize bchk B = E at *
  generalize B.ds.length = nd at *
  generalize ls.length = n at *
  go_enter Tryz.func66, Tryz.ntmps66
  go_upto_region 1 with (fail)
  refine name1 (fun W0 k0 hb => ?_)
  have c0 := k0.c16
  go_wp2_with fail
  clear c0
  refine (C.out _ (HD.out.kept hb)).mono ?_
  rintro e W1 ⟨rfl, hS⟩
  replace hb := hb.trans (hS.mono hb.size)
  clear hS
  go_wp2_with fail
  go_ret2
  exact dabsEnd_mk (Qn.nil _ _) hb

set_option maxHeartbeats 2000000 in
theorem refDabs_bad2 (B : Bru) (u v : Value) (ls : List Smp) (w : World) (hD : Dn w u B.ds) (hL : Sm w v ls) (h0 : bchk B = 0) (h : schk ls ≠ 0) : Calls Tryz.prog 66 #[brv B u, v] w (DabsEnd w [] (schk ls)) := by
  have HD := Lib.hid hD
  have HL := Lib.hid hL
  obtain ⟨a, cap, rfl⟩ := Qn.slice hL
  obtain ⟨au, capu, rfl, _, _⟩ := hD
  have C := Lib.hid (fun w h => refDabCheck_any B (.slice au B.ds.length capu) w h)
  rw [h0] at C
  have S := Lib.hid (fun w h => refBrCheck_any (.slice a ls.length cap) ls w h)
  have g : (schk ls != 0) = true := by simpa using h
  clear h hL h0
  generalize schk ls = E at *
  generalize B.ds.length = nd at *
  generalize ls.length = n at *
  go_enter Tryz.func66, Tryz.ntmps66
  go_upto_region 1 with (fail)
  refine name1 (fun W0 k0 hb => ?_)
  have c0 := k0.c16
  go_wp2_with fail
  clear c0
  refine (C.out _ (HD.out.kept hb)).mono ?_
  rintro e W1 ⟨rfl, hS⟩
  replace hb := hb.trans (hS.mono hb.size)
  clear hS
  go_wp2_with fail
  refine (S.out _ (HL.out.kept hb)).mono ?_
  rintro e W2 ⟨rfl, hS⟩
  replace hb := hb.trans (hS.mono hb.size)
  clear hS
  go_wp2_with fail
  go_ret2
  exact dabsEnd_mk (Qn.nil _ _) hb

set_option maxRecDepth 20000 in
set_option maxHeartbeats 16000000 in
theorem refDabs_good (B : Bru) (u v : Value) (ls : List Smp) (w : World) (hD : Dn w u B.ds) (hL : Sm w v ls) (h0 : bchk B = 0) (h1 : schk ls = 0) : Calls Tryz.prog 66 #[brv B u, v] w (DabsEnd w (oL (stroke B ls)) (oE (stroke B ls))) := by
  have HD := Lib.hid hD
  have HL := Lib.hid hL
  have hB := bruOk h0
  obtain ⟨hn1, hn2, hok⟩ := schk_ok h1
  have HOK := Lib.hid (fun i hi => (hok i hi).1)
  obtain ⟨a, cap, rfl⟩ := Qn.slice hL
  obtain ⟨bl, off, rfl, hbl, hall⟩ := Qn.all hL (by omega)
  have HALL := Lib.hid hall
  obtain ⟨au, capu, rfl, _, _⟩ := hD
  have CK := Lib.hid (fun w h => refDabCheck_any B (.slice au B.ds.length capu) w h)
  rw [h0] at CK
  have CS := Lib.hid (fun w h => refBrCheck_any (.slice (some ⟨bl, off, none⟩) ls.length cap) ls w h)
  rw [h1] at CS
  have DO := Lib.hid (fun s speed index w h hx hy => refDabOf_any B (.slice au B.ds.length capu) s speed index w h hB hx hy)
  have SP := Lib.hid (fun d w h hz => refSpacing_any B (.slice au B.ds.length capu) d w h hB hz)
  have SZ := Lib.hid (dabOf_sz hB)
  have BS := Lib.hid (fun z hz => bspc_bd B z hz hB.sp)
  have HR0 : Hid (stroke B ls = edges B ls (ls.length - 1) 1 (bspc B (dab0 B ls).sz) [dab0 B ls]) := rfl
  have s0 := smOk_bd (hok 0 (by omega)).1
  have EG := Lib.hid (fun i r out h => edges_go B ls ls.length i r out h)
  have EE := Lib.hid (edges_end B ls ls.length)
  have HC0 := Lib.hid (fun w' h => hall 0 (by omega) w' h)
  generalize stroke B ls = O at *
  have HB := Lib.hid hB
  clear hL hall hok h0 h1 hB
  generalize hn : ls.length = n at *
  have HN := Lib.hid hn
  clear hn
  generalize hm : B.ds.length = nd at *
  have HM := Lib.hid hm
  clear hm
  have D0 := Lib.hid (fun w h => DO.out (smAt ls 0) 0 0 w h (by omega) (by omega))
  have z0 := SZ.out (smAt ls 0) 0 0
  rw [show dabOf B (smAt ls 0) 0 0 = dab0 B ls from rfl] at D0 z0
  replace HC0 : Hid (∀ w', Below w.heap.size w w' → w'.cell? ⟨bl, off, none⟩ = some (.int .i64 (smAt ls 0).x) ∧ w'.cell? ⟨bl, off + 1, none⟩ = some (.int .i64 (smAt ls 0).y) ∧ w'.cell? ⟨bl, off + 2, none⟩ = some (.int .i64 (smAt ls 0).p) ∧ w'.cell? ⟨bl, off + 3, none⟩ = some (.int .i64 (smAt ls 0).t) ∧ w'.cell? ⟨bl, off + 4, none⟩ = some (.int .i64 (smAt ls 0).m)) := fun w' h => by
    have := HC0.out w' h
    simpa [At5, s5] using this
  generalize smAt ls 0 = f0 at *
  generalize dab0 B ls = d0 at *
  have ln0 : decide ((0 : Int) < (n : Int)) = true := by simp; omega
  have ln1 : 0 < n := by omega
  have ln2 : (0 : Int) < (n : Int) := by omega
  go_enter Tryz.func66, Tryz.ntmps66
  go_upto_region 1 with (fail)
  refine name1 (fun W0 k0 hb => ?_)
  have c0 := k0.c16
  go_wp2_with fail
  clear c0
  refine (CK.out _ (HD.out.kept hb)).mono ?_
  rintro e W1 ⟨rfl, hS⟩
  replace k0 := k0.kept hS
  replace hb := hb.trans (hS.mono hb.size)
  clear hS
  go_wp2_with fail
  refine (CS.out _ (HL.out.kept hb)).mono ?_
  rintro e W2 ⟨rfl, hS⟩
  replace k0 := k0.kept hS
  replace hb := hb.trans (hS.mono hb.size)
  clear hS CK CS
  go_upto_region 7 with (fail)
  have l2 := hb.size
  refine wp_region_make 6 (by kernel_rfl) (by kernel_rfl) ?_
  simp only [makeOrder, numbered, mkB, List.take_succ_cons, List.take_zero, List.drop_succ_cons, List.drop_zero, List.filter_cons, List.filter_nil, Bool.not_true, Bool.not_false, Bool.false_eq_true, List.cons_append, List.nil_append, ↓reduceIte]
  repeat (first | (apply wpN_on; rfl; rfl; (intro w' hS K hK; have hc0 := (k0.kept hS).c16; have hr0 := HC0.out _ (hb.trans (hS.mono hb.size)); go_simp; (first | exact hK.out _ (Below.refl _ _) | (go_at_call 104; (with_reducible refine (D0.out _ (HD.out.kept (hb.trans (hS.mono hb.size)))).mono ?_); rintro e w'' ⟨rfl, hbb⟩; exact ⟨_, rfl, hK.out _ hbb⟩))); simp only [Act.put, List.setIfInBounds_toArray, List.set_cons_succ, List.set_cons_zero]) | (apply wpN_off; rfl; rfl; simp only [Act.put, List.setIfInBounds_toArray, List.set_cons_succ, List.set_cons_zero]))
  apply wpN_new
  rfl
  rfl
  · intro w' hS K hK; have hc0 := (k0.kept hS).c16; have hr0 := HC0.out _ (hb.trans (hS.mono hb.size)); go_simp; exact hK.out
  intro x5 hx5 nx5
  simp only [Act.put, mkOf, List.setIfInBounds_toArray, List.set_cons_succ, List.set_cons_zero]
  apply wpN_nil
  rintro W3 hS ⟨-, kx5⟩
  replace k0 := k0.kept hS
  replace hb := hb.trans (hS.mono hb.size)
  clear hS nx5
  have own := own_one (d := d0) (base := w.heap.size) kx5 (by omega)
  go_upto_region 8 with (fail)
  refine wp_region_grow 6 (fun w' => Below (World.heap W3).size W3 w') (by kernel_rfl) (by kernel_rfl) (Below.refl _ _).drew ?_
  simp only [List.take_succ_cons, List.take_zero, List.drop_succ_cons, List.drop_zero]
  repeat (first | (apply wpG_on; rfl; (intro w' hS K hK; have hc0 := (k0.kept hS).c16; have hc1 := (kx5.kept hS).c5; go_simp; (first | exact hK.out _ hS | (go_at_call 105; (with_reducible refine (SP.out d0 _ (HD.out.kept (hb.trans (hS.mono hb.size))) z0).mono ?_); rintro e w'' ⟨rfl, hbb⟩; exact ⟨_, rfl, hK.out _ (hS.trans (hbb.mono hS.size))⟩))); simp only [Act.put, List.setIfInBounds_toArray, List.set_cons_succ, List.set_cons_zero]) | (apply wpG_off; rfl; simp only [Act.put, List.setIfInBounds_toArray, List.set_cons_succ, List.set_cons_zero]))
  apply wpG_nil
  intro W4 hS
  replace k0 := k0.kept hS
  replace kx5 := kx5.kept hS
  replace hb := hb.trans (hS.mono hb.size)
  replace own := ownsKept own hS
  clear hS kx5 hx5
  have bz := BS.out _ z0
  have HR : Hid (O = edges B ls (n - 1) 1 (bspc B d0.sz) [d0]) := HR0
  clear HR0 D0 HC0 s0 z0 ln0 l2
  generalize bspc B d0.sz = zz at *
  go_wp2_with fail
  go_loopw [8, 9, 10] (fun q r i wr => ∃ (k : Nat) (z : Int) (out : List Dab), 1 ≤ k ∧ k ≤ n ∧ i = .int .i64 k ∧ r = .int .i64 z ∧ (1 ≤ z ∧ z ≤ 163840) ∧ out.length ≤ 1024 ∧ Hid (O = edges B ls (n - k) k z out) ∧ wr.ownsRow w.heap.size 64 5 q out.length (dcs out) ∧ Blk wr w.heap.size (.cells #[.int .i64 B.sz, .int .i64 B.hd, .int .i64 B.rn, .int .i64 B.fl, .int .i64 B.op, .int .i64 B.sp, .int .i64 B.an, .int .i64 B.sc, .int .i64 B.md, .int .i64 B.r, .int .i64 B.g, .int .i64 B.b, .int .i64 B.a, .int .i64 B.sd, .slice au nd capu, .bool B.er] 29 (0, 0)) ∧ Below w.heap.size w wr) (fun _ _ i _ => n - (intOf i).toNat)
  case atStart => exact ⟨1, zz, [d0], by omega, by omega, rfl, rfl, by omega, by simp, HR, own, k0, hb⟩
  case round =>
    clear HR own k0 hb bz
    obtain ⟨k, z, out, hk1, hk, rfl, rfl, hz, hol, HR, own, k0, hb⟩ := hrel
    by_cases hlt : k < n
    · have hcp := HALL.out (k - 1) (by omega) _ hb
      have hcq := HALL.out k hlt _ hb
      have si := smpIn (HOK.out (k - 1) (by omega)) (HOK.out k hlt)
      have EG1 := Lib.hid (EG.out k z out hlt)
      have RF := Lib.hid (fun d r out h hl => rest_full B ls (n - (k + 1)) k d r out h hl)
      have RN := Lib.hid (fun d r out x h hl hx => rest_next B ls (n - (k + 1)) k d r out x h hl hx)
      have RD := Lib.hid (fun d r out h hl => rest_done B ls (n - (k + 1)) k d r out h hl)
      unfold At5 s5 at hcp hcq
      simp only at hcp hcq
      generalize smAt ls (k - 1) = p at *
      generalize smAt ls k = q at *
      have lb := elen_bd si
      have HY : Hid (∀ w, Calls Tryz.prog 85 #[.int .i64 (16 * (q.x - p.x)), .int .i64 (16 * (q.y - p.y))] w fun e w' => e = .returned (.int .i64 (elen p q)) ∧ w = w') := fun w => refHypot_any _ _ w (by have := si.x; omega) (by have := si.x; omega) (by have := si.y; omega) (by have := si.y; omega)
      have SD : Hid (∀ w, Calls Tryz.prog 107 #[svx p, svx q] w fun e w' => e = .returned (.int .i64 (espd p q)) ∧ Below w.heap.size w w') := fun w => refSpeed_any _ _ _ _ _ _ _ _ _ _ w
      generalize elen p q = L at *
      generalize hes : espd p q = S at *
      have HES := Lib.hid hes
      clear hes
      have bx := si.x
      have by_ := si.y
      have HSI := Lib.hid si
      clear si
      have hw : IntKind.i64.wrap ((k : Int) - 1) = (k : Int) - 1 := IntWalk.i64_in _ (by omega)
      have ht : ((k : Int) - 1).toNat = k - 1 := by omega
      have hi1 : 0 ≤ (k : Int) - 1 := by omega
      have hi2 : (k : Int) - 1 < (n : Int) := by omega
      have hi3 : (1 : Int) ≤ (k : Int) := by omega
      have hi4 : (0 : Int) ≤ (k : Int) := by omega
      have hi5 : (k : Int) < (n : Int) := by omega
      obtain ⟨aw, cw, rfl⟩ := own_slice5 own
      go_upto_region 12 with (fail)
      go_cut [11, 12] (fun s11 s12 wx => ∃ bp bq : Nat, s11 = .pointer (some ⟨bp, 0, none⟩) ∧ s12 = .pointer (some ⟨bq, 0, none⟩) ∧ Blk wx bp (.cells #[.int .i64 p.x, .int .i64 p.y, .int .i64 p.p, .int .i64 p.t, .int .i64 p.m] 94 (0, 0)) ∧ Blk wx bq (.cells #[.int .i64 q.x, .int .i64 q.y, .int .i64 q.p, .int .i64 q.t, .int .i64 q.m] 94 (0, 0)) ∧ Blk wx w.heap.size (.cells #[.int .i64 B.sz, .int .i64 B.hd, .int .i64 B.rn, .int .i64 B.fl, .int .i64 B.op, .int .i64 B.sp, .int .i64 B.an, .int .i64 B.sc, .int .i64 B.md, .int .i64 B.r, .int .i64 B.g, .int .i64 B.b, .int .i64 B.a, .int .i64 B.sd, .slice au nd capu, .bool B.er] 29 (0, 0)) ∧ wx.ownsRow w.heap.size 64 5 (.slice aw out.length cw) out.length (dcs out) ∧ Below w.heap.size w wx)
      case first =>
        have OW := Lib.hid own
        clear own
        go_region_held3 (fun w' => w'.cell? ⟨bl, off + (k - 1) * 5, none⟩ = some (.int .i64 p.x) ∧ w'.cell? ⟨bl, off + (k - 1) * 5 + 1, none⟩ = some (.int .i64 p.y) ∧ w'.cell? ⟨bl, off + (k - 1) * 5 + 2, none⟩ = some (.int .i64 p.p) ∧ w'.cell? ⟨bl, off + (k - 1) * 5 + 3, none⟩ = some (.int .i64 p.t) ∧ w'.cell? ⟨bl, off + (k - 1) * 5 + 4, none⟩ = some (.int .i64 p.m) ∧ w'.cell? ⟨bl, off + k * 5, none⟩ = some (.int .i64 q.x) ∧ w'.cell? ⟨bl, off + k * 5 + 1, none⟩ = some (.int .i64 q.y) ∧ w'.cell? ⟨bl, off + k * 5 + 2, none⟩ = some (.int .i64 q.p) ∧ w'.cell? ⟨bl, off + k * 5 + 3, none⟩ = some (.int .i64 q.t) ∧ w'.cell? ⟨bl, off + k * 5 + 4, none⟩ = some (.int .i64 q.m)) (go_keep) (fail)
        all_goals
          go_wp2_with fail
          go_meet
          have hS := (alloc2 wr (.cells #[.int .i64 p.x, .int .i64 p.y, .int .i64 p.p, .int .i64 p.t, .int .i64 p.m] 94 (0, 0)) (.cells #[.int .i64 q.x, .int .i64 q.y, .int .i64 q.p, .int .i64 q.t, .int .i64 q.m] 94 (0, 0))).2.2.drew
          have hS' := (alloc2 wr (.cells #[.int .i64 q.x, .int .i64 q.y, .int .i64 q.p, .int .i64 q.t, .int .i64 q.m] 94 (0, 0)) (.cells #[.int .i64 p.x, .int .i64 p.y, .int .i64 p.p, .int .i64 p.t, .int .i64 p.m] 94 (0, 0))).2.2.drew
          first
          | exact ⟨_, _, rfl, rfl, (alloc2 wr _ _).1.drewd, (alloc2 wr _ _).2.1.drewd, k0.kept hS, ownsKept OW.out hS, hb.trans (hS.mono hb.size)⟩
          | exact ⟨_, _, rfl, rfl, (alloc2 wr _ _).2.1.drewd, (alloc2 wr _ _).1.drewd, k0.kept hS', ownsKept OW.out hS', hb.trans (hS'.mono hb.size)⟩
      case rest =>
        clear hw ht hcp hcq hi1 hi2 hi3 hi4 hi5 k0 own hb
        obtain ⟨bp, bq, rfl, rfl, kp, kq, k0, own, hb⟩ := hcut
        have c1 := kp.c5
        have c2 := kq.c5
        go_wp2_with fail
        refine (HY.out _).mono ?_
        rintro e w' ⟨rfl, rfl⟩
        have OW2 := Lib.hid own
        clear c1 c2 HY own
        go_upto_block 2 with (fail)
        refine refDabs_inner B au capu nd w _ HD.out HM.out HB.out p q HSI.out L S lb HES.out O _ _ RF.out RN.out RD.out z out aw cw bp bq hz hol (by rw [HR.out, EG1.out]) OW2.out k0 kp kq hb ?_ ?_
        · intro z' dd out' a1 c1' w' u4 u5 u64 u65 u66 u67 u68 u69 u70 u71 u72 u73 u74 u75 u76 u77 u78 u79 u80 u81 u82 u83 u84 u85 u86 u87 u88 u89 u90 u91 u92 u93 u94 u95 u96 u97 hz' hd' hc' hol' he' own' k0' hb'
          have OW3 := Lib.hid own'
          have HD2 := Lib.hid he'
          clear own' he' k0 kp kq hb HR EG1 OW2 hol hz
          go_wp2_with fail
          go_roundw
          case rel => exact ⟨k + 1, z' - (L - dd), out', by omega, by omega, by go_num, rfl, by omega, hol', HD2, OW3.out, k0', hb'⟩
          case measure => simp [intOf]; omega
        · intro w' v8 v9 v15 u64 u65 u66 u67 u68 u69 u70 u71 u72 u73 u74 u75 u76 u77 u78 u79 u80 u81 u82 u83 u84 u85 u86 u87 u88 u89 u90 u91 u92 u93 u94 u95 u96 u97 he' hb'
          have HD2 := Lib.hid he'
          clear he' k0 kp kq hb HR EG1 OW2
          go_wp2_with fail
          go_ret2
          exact dabsEnd_none HD2.out hb'

    · obtain rfl : k = n := by omega
      obtain ⟨aw, cw, rfl⟩ := own_slice5 own
      have HE : Hid (O = some out) := by show _ = _; rw [HR.out, EE.out]
      have OW := Lib.hid own
      clear own
      go_wp2_with fail
      go_ret2
      exact dabsEnd_some HE.out (bm_of_own OW.out rfl (by omega)) hb

theorem refDabs_any (B : Bru) (u v : Value) (ls : List Smp) (w : World) (hD : Dn w u B.ds) (hL : Sm w v ls) : Calls Tryz.prog 66 #[brv B u, v] w (DabsEnd w (dabs B ls).1 (dabs B ls).2) := by
  rcases dabs_ends B ls with ⟨h, e⟩ | ⟨h0, h, e⟩ | ⟨h0, h1, e⟩
  · rw [e]; exact refDabs_bad1 B u v ls w hD hL h
  · rw [e]; exact refDabs_bad2 B u v ls w hD hL h0 h
  · rw [e]; exact refDabs_good B u v ls w hD hL h0 h1
end Go.Proofs.YtieacbccadbdbaaGreatDoor

