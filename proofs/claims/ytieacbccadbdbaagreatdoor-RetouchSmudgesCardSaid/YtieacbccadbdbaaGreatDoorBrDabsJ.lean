/- The dabs of a stroke, by the reference: the loop over an edge (printed by genbrdabs.py). -/
import Derived.Test.YtieacbccadbdbaaGreatDoorLBrD
import Derived.Test.YtieacbccadbdbaaGreatDoorBrDabR
import Derived.Test.YtieacbccadbdbaaGreatDoorDabChk
import Derived.Test.YtieacbccadbdbaaGreatDoorLKit
import Derived.Test.YtieacbccadbdbaaGreatDoorBrDabsI
import Derived.Test.YtieacbccadbdbaaGreatDoorLKit
import Derived.Laws.AppendOwn
import Derived.OwnWalk
import Derived.Deep.RegionHeld3
import Derived.Deep.Cut
import Derived.Deep.CutBlock
import Derived.Deep.DeepCutAuto
namespace Go.Proofs.YtieacbccadbdbaaGreatDoor
open Go.RowKit
set_option linter.unusedVariables false
attribute [local go_sem] Oper.gAt gUponK Oper.sAt stilK Oper.vAt valK

noncomputable def refDabsInner : Code := ((Tryz.f66.body.bind (findBlock 2)).getD .skip)
set_option maxRecDepth 20000 in
set_option maxHeartbeats 16000000 in
theorem refDabs_inner (B : Bru) (au : Option Addr) (capu nd : Nat) (w wr : World) (hD : Dn w (.slice au nd capu) B.ds) (hm : B.ds.length = nd) (hB : BruOk B) (p q : Smp) (si : SmpIn p q) (L S : Int) (lb : 0 ≤ L ∧ L ≤ 1073741824) (eS : espd p q = S) (O : Option (List Dab)) (R : Int → Int → List Dab → Option (List Dab)) (F : Int → List Dab → Option (List Dab))
    (rf : ∀ d r out, r ≤ L - d → out.length = 1024 → R d r out = none)
    (rn : ∀ d r out (x : Dab), r ≤ L - d → out.length < 1024 → x = dabOf B (btw p q (d + r) L) S out.length → R d r out = R (d + r) (bspc B x.sz) (out ++ [x]))
    (rd : ∀ d r out, L - d < r → out.length ≤ 1024 → R d r out = F (r - (L - d)) out)
    (z : Int) (out : List Dab) (aw : Option Addr) (cw bp bq : Nat) (hz : 1 ≤ z ∧ z ≤ 163840) (hol : out.length ≤ 1024) (hr : O = R 0 z out) (own : wr.ownsRow w.heap.size 64 5 (.slice aw out.length cw) out.length (dcs out)) (k0 : Blk wr w.heap.size (.cells #[.int .i64 B.sz, .int .i64 B.hd, .int .i64 B.rn, .int .i64 B.fl, .int .i64 B.op, .int .i64 B.sp, .int .i64 B.an, .int .i64 B.sc, .int .i64 B.md, .int .i64 B.r, .int .i64 B.g, .int .i64 B.b, .int .i64 B.a, .int .i64 B.sd, .slice au nd capu, .bool B.er] 29 (0, 0))) (kp : Blk wr bp (.cells #[.int .i64 p.x, .int .i64 p.y, .int .i64 p.p, .int .i64 p.t, .int .i64 p.m] 94 (0, 0))) (kq : Blk wr bq (.cells #[.int .i64 q.x, .int .i64 q.y, .int .i64 q.p, .int .i64 q.t, .int .i64 q.m] 94 (0, 0))) (hb : Below w.heap.size w wr)
    {Q : Exit → Act → World → Prop} {c0 c1 c3 c4 c5 c6 c7 c10 c15 c16 c17 c18 c19 c20 c21 c22 c23 c24 c25 c26 c27 c28 c29 c30 c31 c32 c33 c34 c35 c36 c37 c38 c39 c40 c41 c42 c43 c44 c45 c46 c47 c48 c49 c50 c51 c52 c53 c54 c55 c56 c57 c58 c59 c60 c61 c62 c63 c64 c65 c66 c67 c68 c69 c70 c71 c72 c73 c74 c75 c76 c77 c78 c79 c80 c81 c82 c83 c84 c85 c86 c87 c88 c89 c90 c91 c92 c93 c94 c95 c96 c97 c98 c99 c100 c101 c102 c103 : Value}
    (hx : ∀ (z' dd : Int) (out' : List Dab) (a1 : Option Addr) (c1' : Nat) (w' : World) (u4 u5 u64 u65 u66 u67 u68 u69 u70 u71 u72 u73 u74 u75 u76 u77 u78 u79 u80 u81 u82 u83 u84 u85 u86 u87 u88 u89 u90 u91 u92 u93 u94 u95 u96 u97 : Value), (1 ≤ z' ∧ z' ≤ 163840) → (0 ≤ dd ∧ dd ≤ L) → L - dd < z' → out'.length ≤ 1024 → O = F (z' - (L - dd)) out' → w'.ownsRow w.heap.size 64 5 (.slice a1 out'.length c1') out'.length (dcs out') → Blk w' w.heap.size (.cells #[.int .i64 B.sz, .int .i64 B.hd, .int .i64 B.rn, .int .i64 B.fl, .int .i64 B.op, .int .i64 B.sp, .int .i64 B.an, .int .i64 B.sc, .int .i64 B.md, .int .i64 B.r, .int .i64 B.g, .int .i64 B.b, .int .i64 B.a, .int .i64 B.sd, .slice au nd capu, .bool B.er] 29 (0, 0)) → Below w.heap.size w w' → Q .normal ⟨#[c0, c1, .pointer (some ⟨w.heap.size, 0, none⟩), c3, u4, u5, c6, c7, .slice a1 out'.length c1', .int .i64 z', c10, .pointer (some ⟨bp, 0, none⟩), .pointer (some ⟨bq, 0, none⟩), .int .i64 L, .int .i64 dd, c15, c16, c17, c18, c19, c20, c21, c22, c23, c24, c25, c26, c27, c28, c29, c30, c31, c32, c33, c34, c35, c36, c37, c38, c39, c40, c41, c42, c43, c44, c45, c46, c47, c48, c49, c50, c51, c52, c53, c54, c55, c56, c57, c58, c59, c60, c61, c62, c63, u64, u65, u66, u67, u68, u69, u70, u71, u72, u73, u74, u75, u76, u77, u78, u79, u80, u81, u82, u83, u84, u85, u86, u87, u88, u89, u90, u91, u92, u93, u94, u95, u96, u97, c98, c99, c100, c101, c102, c103], []⟩ w')
    (hf : ∀ (w' : World) (v8 v9 v15 u64 u65 u66 u67 u68 u69 u70 u71 u72 u73 u74 u75 u76 u77 u78 u79 u80 u81 u82 u83 u84 u85 u86 u87 u88 u89 u90 u91 u92 u93 u94 u95 u96 u97 : Value), O = none → Below w.heap.size w w' → Q .ret ⟨#[c0, c1, .pointer (some ⟨w.heap.size, 0, none⟩), c3, .slice none 0 0, .int .i64 3, c6, c7, v8, v9, c10, .pointer (some ⟨bp, 0, none⟩), .pointer (some ⟨bq, 0, none⟩), .int .i64 L, v15, c15, c16, c17, c18, c19, c20, c21, c22, c23, c24, c25, c26, c27, c28, c29, c30, c31, c32, c33, c34, c35, c36, c37, c38, c39, c40, c41, c42, c43, c44, c45, c46, c47, c48, c49, c50, c51, c52, c53, c54, c55, c56, c57, c58, c59, c60, c61, c62, c63, u64, u65, u66, u67, u68, u69, u70, u71, u72, u73, u74, u75, u76, u77, u78, u79, u80, u81, u82, u83, u84, u85, u86, u87, u88, u89, u90, u91, u92, u93, u94, u95, u96, u97, c98, c99, c100, c101, c102, c103], []⟩ w') :
    Code.wp Tryz.prog refDabsInner Q ⟨#[c0, c1, .pointer (some ⟨w.heap.size, 0, none⟩), c3, c4, c5, c6, c7, .slice aw out.length cw, .int .i64 z, c10, .pointer (some ⟨bp, 0, none⟩), .pointer (some ⟨bq, 0, none⟩), .int .i64 L, .int .i64 0, c15, c16, c17, c18, c19, c20, c21, c22, c23, c24, c25, c26, c27, c28, c29, c30, c31, c32, c33, c34, c35, c36, c37, c38, c39, c40, c41, c42, c43, c44, c45, c46, c47, c48, c49, c50, c51, c52, c53, c54, c55, c56, c57, c58, c59, c60, c61, c62, c63, c64, c65, c66, c67, c68, c69, c70, c71, c72, c73, c74, c75, c76, c77, c78, c79, c80, c81, c82, c83, c84, c85, c86, c87, c88, c89, c90, c91, c92, c93, c94, c95, c96, c97, c98, c99, c100, c101, c102, c103], []⟩ wr := by
  have HD := Lib.hid hD
  have HSI := Lib.hid si
  have RF := Lib.hid rf
  have RN := Lib.hid rn
  have RD := Lib.hid rd
  have HR := Lib.hid hr
  have HX := Lib.hid hx
  have HF := Lib.hid hf
  have HM := Lib.hid hm
  have DO := Lib.hid (fun s speed index w h hx hy => refDabOf_any B (.slice au B.ds.length capu) s speed index w h hB hx hy)
  have SP := Lib.hid (fun d w h hz => refSpacing_any B (.slice au B.ds.length capu) d w h hB hz)
  rw [hm] at DO SP
  have SZ := Lib.hid (dabOf_sz hB)
  have BS := Lib.hid (fun z hz => bspc_bd B z hz hB.sp)
  have SD : Hid (∀ w, Calls Tryz.prog 107 #[svx p, svx q] w fun e w' => e = .returned (.int .i64 S) ∧ Below w.heap.size w w') := fun w => by rw [← eS]; exact refSpeed_any _ _ _ _ _ _ _ _ _ _ w
  clear hD si rf rn rd hr hx hf hm hB eS
  conv => arg 2; whnf
  go_wp2_with fail
  go_loopw [8, 9, 14] (fun v r d wr => ∃ (z dd : Int) (out : List Dab), r = .int .i64 z ∧ d = .int .i64 dd ∧ (1 ≤ z ∧ z ≤ 163840) ∧ (0 ≤ dd ∧ dd ≤ L) ∧ out.length ≤ 1024 ∧ Hid (O = R dd z out) ∧ wr.ownsRow w.heap.size 64 5 v out.length (dcs out) ∧ Blk wr w.heap.size (.cells #[.int .i64 B.sz, .int .i64 B.hd, .int .i64 B.rn, .int .i64 B.fl, .int .i64 B.op, .int .i64 B.sp, .int .i64 B.an, .int .i64 B.sc, .int .i64 B.md, .int .i64 B.r, .int .i64 B.g, .int .i64 B.b, .int .i64 B.a, .int .i64 B.sd, .slice au nd capu, .bool B.er] 29 (0, 0)) ∧ Blk wr bp (.cells #[.int .i64 p.x, .int .i64 p.y, .int .i64 p.p, .int .i64 p.t, .int .i64 p.m] 94 (0, 0)) ∧ Blk wr bq (.cells #[.int .i64 q.x, .int .i64 q.y, .int .i64 q.p, .int .i64 q.t, .int .i64 q.m] 94 (0, 0)) ∧ Below w.heap.size w wr) (fun _ _ d _ => (L - intOf d).toNat)
  case atStart => exact ⟨z, 0, out, rfl, rfl, hz, by omega, hol, HR, own, k0, kp, kq, hb⟩
  case round =>
    clear HR own k0 kp kq hb hz hol
    obtain ⟨z, dd, out, rfl, rfl, hz, hd, hol, HR, own, k0, kp, kq, hb⟩ := hrel
    obtain ⟨aw, cw, rfl⟩ := own_slice5 own
    by_cases hc : z ≤ L - dd
    · by_cases hf : out.length = 1024
      · have HE : Hid (O = none) := by show _ = _; rw [HR.out]; exact RF.out dd z out hc hf
        have gl : ((out.length : Int) == 1024) = true := by simp; omega
        clear hf RF RN RD own HX
        generalize out.length = nl at *
        go_wp2_with fail
        exact HF.out _ _ _ _ _ _ _ _ _ _ _ _ _ _ _ _ _ _ _ _ _ _ _ _ _ _ _ _ _ _ _ _ _ _ _ _ _ _ HE.out hb
      · have gl : ((out.length : Int) == 1024) = false := by simp; omega
        clear HX HF
        have BT := Lib.hid (fun w => refBetween_any p q (dd + z) L w HSI.out (by omega) (by omega))
        have bxy := btw_xy HSI.out (dd + z) L (by omega) (by omega)
        obtain ⟨x, hx⟩ : ∃ x, x = dabOf B (btw p q (dd + z) L) S out.length := ⟨_, rfl⟩
        have DN := Lib.hid (fun w h => DO.out (btw p q (dd + z) L) S out.length w h bxy.1 bxy.2)
        have zx := SZ.out (btw p q (dd + z) L) S out.length
        rw [← hx] at DN zx
        have HR2 : Hid (O = R (dd + z) (bspc B x.sz) (out ++ [x])) := by show _ = _; rw [HR.out]; exact RN.out dd z out x hc (by omega) hx
        clear hx bxy HR
        have SX := Lib.hid (fun w h => SP.out x w h zx)
        have bz := BS.out _ zx
        clear zx
        generalize bspc B x.sz = zz at *
        generalize btw p q (dd + z) L = bs at *
        have i1 : IntKind.i64.wrap (dd + z) = dd + z := IntWalk.i64_in _ (by omega)
        have HO := Lib.hid own
        clear own
        go_upto_region 19 with (fail)
        refine wp_region_ord [] [0, 1, 2, 3, 4, 5, 6, 7, 8, 9, 10, 11, 12, 13] [14, 15] (fun h => absurd rfl h) (by kernel_rfl) (by kernel_rfl) ?_
        simp only [picked, opsAt, List.getElem?_cons_succ, List.getElem?_cons_zero]
        apply wpFl_nil
        repeat (first | (apply wpN_on; rfl; rfl; (intro w' hS K hK; have hc0 := (k0.kept hS).c16; have hc1 := (kp.kept hS).c5; have hc2 := (kq.kept hS).c5; go_simp; (first | exact hK.out _ (Below.refl _ _) | (go_at_call 106; (with_reducible refine (BT.out _).mono ?_); rintro e w'' ⟨rfl, hbb⟩; exact ⟨_, rfl, hK.out _ hbb⟩) | (go_at_call 107; (with_reducible refine (SD.out _).mono ?_); rintro e w'' ⟨rfl, hbb⟩; exact ⟨_, rfl, hK.out _ hbb⟩) | (go_at_call 104; (with_reducible refine (DN.out _ (HD.out.kept (hb.trans (hS.mono hb.size)))).mono ?_); rintro e w'' ⟨rfl, hbb⟩; exact ⟨_, rfl, hK.out _ hbb⟩))); simp only [Act.put, List.setIfInBounds_toArray, List.set_cons_succ, List.set_cons_zero]) | (apply wpN_off; rfl; rfl; simp only [Act.put, List.setIfInBounds_toArray, List.set_cons_succ, List.set_cons_zero]))
        apply wpN_new
        rfl
        rfl
        · intro w' hS K hK; have hc0 := (k0.kept hS).c16; have hc1 := (kp.kept hS).c5; have hc2 := (kq.kept hS).c5; go_simp; exact hK.out
        intro x13 hx13 nx13
        simp only [Act.put, mkOf, List.setIfInBounds_toArray, List.set_cons_succ, List.set_cons_zero]
        apply wpN_nil
        rintro W6 hS ⟨-, kx13⟩
        replace k0 := k0.kept hS
        replace kp := kp.kept hS
        replace kq := kq.kept hS
        replace hb := hb.trans (hS.mono hb.size)
        have own := ownsKept HO.out hS
        clear hS nx13 BT DN i1 gl HO
        obtain ⟨i0, hi, hz0, hz1, hz2⟩ := info_parts infoDabZ
        have hbs := hb.size
        go_wp2_with (at_builtin; refine wpList_append_own _ rfl _ _ 48 rfl w.heap.size 64 i0 (.agg #[.int .i64 0, .int .i64 0, .int .i64 0, .int .i64 0, .int .i64 0]) 5 40 Tryz.underlying48 hi hz0 hz1 hz2 rfl (by decide) _ _ _ rfl own ⟨x13, 0, none⟩ 1 1 [.int .i64 x.x, .int .i64 x.y, .int .i64 x.sz, .int .i64 x.fl, .int .i64 x.an] rfl rfl ?ca1 ?ca2 ?ca3 ?ca4 ?ca5 ?_)
        case ca1 => exact World.news_of_block (cs := #[.int .i64 x.x, .int .i64 x.y, .int .i64 x.sz, .int .i64 x.fl, .int .i64 x.an]) (t := 64) (fr := (0, 0)) kx13
        case ca2 => simp [Value.oneCell']
        case ca3 => unfold maxLen; omega
        case ca4 => omega
        case ca5 => exact hbs
        intro v' W7 own' grow' _
        have nk0 := own_ne own k0 (by decide)
        have nkp := own_ne own kp (by decide)
        have nkq := own_ne own kq (by decide)
        replace k0 := k0.grown grow' nk0
        replace kp := kp.grown grow' nkp
        replace kq := kq.grown grow' nkq
        replace hb : Below w.heap.size w W7 := hb.grown grow' hb.size (fun b hb' => by have := (own.lt _ hb').1; omega)
        have ho2 : W7.ownsRow w.heap.size 64 5 v' (out ++ [x]).length (dcs (out ++ [x])) := by
          rw [dcs_snoc, List.length_append]
          exact own'
        clear own own' grow' nk0 nkp nkq hi hz0 hz1 hz2 hbs kx13 hx13
        obtain ⟨g, cap', rfl, hg1, hg2⟩ := ho2.form (by simp)
        have AC : Hid (∀ w', Below W7.heap.size W7 w' → At5 w' g (out.length * 5) (d5 x)) := fun w' h => by
          have hq := Qn.at (bm_of_own ho2 rfl (by simp; omega)) out.length (by simp)
          obtain ⟨b', off', e', _, hc'⟩ := hq
          simp only [Option.some.injEq, Addr.mk.injEq, and_true] at e'
          obtain ⟨rfl, rfl⟩ := e'
          have := hc' w' h
          rw [dbAt_snoc, if_pos rfl, Nat.zero_add] at this
          exact this
        unfold At5 d5 at AC
        simp only at AC
        have HO2 := Lib.hid ho2
        have HL2 : Hid ((out ++ [x]).length = out.length + 1) := by show _ = _; simp
        generalize hl1 : (out ++ [x]).length = m1 at *
        have HM1 := Lib.hid hl1
        clear hl1 ho2
        have e1 := HL2.out
        generalize hl2 : out.length = m at *
        have HM2 := Lib.hid hl2
        clear hl2
        have hw : IntKind.i64.wrap ((m1 : Int) - 1) = (m1 : Int) - 1 := IntWalk.i64_in _ (by omega)
        have ht : ((m1 : Int) - 1).toNat = m := by omega
        have hi1 : 0 ≤ (m1 : Int) - 1 := by omega
        have hi2 : (m1 : Int) - 1 < (m1 : Int) := by omega
        have hi3 : (1 : Int) ≤ (m1 : Int) := by omega
        have hm1 : m1 ≤ 1024 := by omega
        clear e1
        go_upto_region 20 with (fail)
        refine wp_region_grow 9 (fun w' => Below (World.heap W7).size W7 w') (by kernel_rfl) (by kernel_rfl) (Below.refl _ _).drew ?_
        simp only [List.take_succ_cons, List.take_zero, List.drop_succ_cons, List.drop_zero]
        repeat (first | (apply wpG_on; rfl; (intro w' hS K hK; have hc0 := (k0.kept hS).c16; have hc1 := (kp.kept hS).c5; have hc2 := (kq.kept hS).c5; have hr0 := AC.out _ hS; go_simp; (first | exact hK.out _ hS | (go_at_call 105; (with_reducible refine (SX.out _ (HD.out.kept (hb.trans (hS.mono hb.size)))).mono ?_); rintro e w'' ⟨rfl, hbb⟩; exact ⟨_, rfl, hK.out _ (hS.trans (hbb.mono hS.size))⟩))); simp only [Act.put, List.setIfInBounds_toArray, List.set_cons_succ, List.set_cons_zero]) | (apply wpG_off; rfl; simp only [Act.put, List.setIfInBounds_toArray, List.set_cons_succ, List.set_cons_zero]))
        apply wpG_nil
        intro W8 hS
        replace k0 := k0.kept hS
        replace kp := kp.kept hS
        replace kq := kq.kept hS
        replace hb := hb.trans (hS.mono hb.size)
        replace HO2 := Lib.hid (ownsKept HO2.out hS)
        clear hS hw ht hi1 hi2 hi3 AC SX
        go_wp2_with fail
        go_roundw
        case rel => exact ⟨zz, dd + z, out ++ [x], rfl, rfl, by omega, by omega, by rw [HM1.out]; exact hm1, HR2, by rw [HM1.out]; exact HO2.out, k0, kp, kq, hb⟩
        case measure => simp [intOf]; omega
    · have HD2 : Hid (O = F (z - (L - dd)) out) := by show _ = _; rw [HR.out, RD.out dd z out (by omega) hol]
      have OW := Lib.hid own
      clear own HF
      go_wp2_with fail
      exact HX.out z dd out _ _ _ _ _ _ _ _ _ _ _ _ _ _ _ _ _ _ _ _ _ _ _ _ _ _ _ _ _ _ _ _ _ _ _ _ _ _ _ hz hd (by omega) hol HD2.out OW.out k0 hb

end Go.Proofs.YtieacbccadbdbaaGreatDoor

