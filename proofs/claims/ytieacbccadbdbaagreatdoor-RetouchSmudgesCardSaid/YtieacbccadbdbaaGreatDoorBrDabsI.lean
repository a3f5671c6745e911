/- The dabs of a stroke, by the program: the loop over an edge (printed by genbrdabs.py). -/
import Derived.Test.YtieacbccadbdbaaGreatDoorLBrD
import Derived.Test.YtieacbccadbdbaaGreatDoorLBrD
import Derived.Test.YtieacbccadbdbaaGreatDoorDabChk
import Derived.Test.YtieacbccadbdbaaGreatDoorLKit
import Derived.Laws.AppendOwn
import Derived.OwnWalk
import Derived.Deep.RegionHeld3
import Derived.Deep.Cut
import Derived.Deep.CutBlock
import Derived.Deep.DeepCutAuto
namespace Go.Proofs.YtieacbccadbdbaaGreatDoor
open Go.RowKit
set_option linter.unusedVariables false
attribute [local go_sem] Oper.gAt gUponK Oper.sAt stilK

/-- What a stroke's dabs end in: the dabs, the error. -/
def DabsEnd (w : World) (ds : List Dab) (E : Int) (e : Ending) (w' : World) : Prop := ∃ q, e = .returned (.tuple #[q, .int .i64 E]) ∧ Bm w' q ds ∧ Below w.heap.size w w'
theorem dabsEnd_mk {w w' : World} {q : Value} {ds : List Dab} {E : Int} (h : Bm w' q ds) (hb : Below w.heap.size w w') : DabsEnd w ds E (.returned (.tuple #[q, .int .i64 E])) w' := ⟨q, rfl, h, hb⟩
def oL : Option (List Dab) → List Dab
  | none => []
  | some l => l
def oE : Option (List Dab) → Int
  | none => 3
  | some _ => 0
theorem dabsEnd_none {w w' : World} {O : Option (List Dab)} (h : O = none) (hb : Below w.heap.size w w') : DabsEnd w (oL O) (oE O) (.returned (.tuple #[.slice none 0 0, .int .i64 3])) w' := by
  subst h
  exact ⟨_, rfl, Qn.nil _ _, hb⟩
theorem dabsEnd_some {w w' : World} {q : Value} {l : List Dab} {O : Option (List Dab)} (h : O = some l) (hq : Bm w' q l) (hb : Below w.heap.size w w') : DabsEnd w (oL O) (oE O) (.returned (.tuple #[q, .int .i64 0])) w' := by
  subst h
  exact ⟨_, rfl, hq, hb⟩
theorem dabs_ends (B : Bru) (ls : List Smp) : (bchk B ≠ 0 ∧ dabs B ls = ([], bchk B)) ∨ (bchk B = 0 ∧ schk ls ≠ 0 ∧ dabs B ls = ([], schk ls)) ∨ (bchk B = 0 ∧ schk ls = 0 ∧ dabs B ls = (oL (stroke B ls), oE (stroke B ls))) := by
  unfold dabs
  by_cases h0 : bchk B = 0
  · by_cases h1 : schk ls = 0
    · refine .inr (.inr ⟨h0, h1, ?_⟩)
      rw [if_pos h0, if_pos h1]
      cases stroke B ls <;> rfl
    · exact .inr (.inl ⟨h0, h1, by rw [if_pos h0, if_neg h1]⟩)
  · exact .inl ⟨h0, by rw [if_neg h0]⟩
/-- What the call owns stays owned where another block is written. -/
theorem ownsOther {w w2 : World} {base n size b : Nat} {e : TypeId} {v : Value} {xs : List Value} (own : w.ownsRow base e size v n xs) (hk : ∀ i o, i ≠ b → Blk w i o → Blk w2 i o) (hne : v.ownBlock ≠ some b) : w2.ownsRow base e size v n xs := by
  obtain ⟨h1, h2⟩ := own
  refine ⟨h1, ?_⟩
  rcases h2 with h2 | ⟨g, cap, cur, rfl, hb, hg, r⟩
  · exact .inl h2
  · exact .inr ⟨g, cap, cur, rfl, hb, hk _ _ (fun h => hne (by simp [Value.ownBlock, h])) hg, r⟩
theorem infoDabZ : (Tryz.prog.info? 64).map (fun i => (i.zero, i.size, i.bytes)) = some (some (.agg #[.int .i64 0, .int .i64 0, .int .i64 0, .int .i64 0, .int .i64 0]), 5, 40) := by kernel_rfl
theorem elen_bd {p q : Smp} (h : SmpIn p q) : 0 ≤ elen p q ∧ elen p q ≤ 1073741824 := by
  obtain ⟨hx, hy, _, _, _⟩ := h
  exact hyp_bd _ _ 536870912 (by omega) (by omega) (by omega) (by omega)
theorem own_one {W : World} {base x : Nat} {d : Dab} {e : TypeId} (k : Blk W x (.cells #[.int .i64 d.x, .int .i64 d.y, .int .i64 d.sz, .int .i64 d.fl, .int .i64 d.an] e (0, 0))) (hx : base ≤ x) : W.ownsRow base e 5 (.slice (some ⟨x, 0, none⟩) 1 1) 1 (dcs [d]) :=
  ⟨rfl, .inr ⟨x, 1, _, rfl, hx, k, Nat.le_refl _, by unfold maxLen; omega, rfl, rfl⟩⟩

def findBlock (n : Nat) : Code → Option Code
  | .block m c => if m = n then some (.block m c) else findBlock n c
  | .seq a b => match findBlock n a with
    | some c => some c
    | none => findBlock n b
  | .loop c => findBlock n c
  | .scope c => findBlock n c
  | .cond _ a b => match findBlock n a with
    | some c => some c
    | none => findBlock n b
  | _ => none

noncomputable def dabsInner : Code := ((Tryz.f58.body.bind (findBlock 2)).getD .skip)
set_option maxRecDepth 20000 in
set_option maxHeartbeats 16000000 in
theorem dabs_inner (B : Bru) (au : Option Addr) (capu nd : Nat) (w wr : World) (hD : Dn w (.slice au nd capu) B.ds) (hm : B.ds.length = nd) (hB : BruOk B) (p q : Smp) (si : SmpIn p q) (L S : Int) (lb : 0 ≤ L ∧ L ≤ 1073741824) (eS : espd p q = S) (O : Option (List Dab)) (R : Int → Int → List Dab → Option (List Dab)) (F : Int → List Dab → Option (List Dab))
    (rf : ∀ d r out, r ≤ L - d → out.length = 1024 → R d r out = none)
    (rn : ∀ d r out (x : Dab), r ≤ L - d → out.length < 1024 → x = dabOf B (btw p q (d + r) L) S out.length → R d r out = R (d + r) (bspc B x.sz) (out ++ [x]))
    (rd : ∀ d r out, L - d < r → out.length ≤ 1024 → R d r out = F (r - (L - d)) out)
    (z : Int) (out : List Dab) (aw : Option Addr) (cw bp bq : Nat) (hz : 1 ≤ z ∧ z ≤ 163840) (hol : out.length ≤ 1024) (hr : O = R 0 z out) (own : wr.ownsRow w.heap.size 64 5 (.slice aw out.length cw) out.length (dcs out)) (k0 : Blk wr w.heap.size (.cells #[.int .i64 B.sz, .int .i64 B.hd, .int .i64 B.rn, .int .i64 B.fl, .int .i64 B.op, .int .i64 B.sp, .int .i64 B.an, .int .i64 B.sc, .int .i64 B.md, .int .i64 B.r, .int .i64 B.g, .int .i64 B.b, .int .i64 B.a, .int .i64 B.sd, .slice au nd capu, .bool B.er] 29 (0, 0))) (kp : Blk wr bp (.cells #[.int .i64 p.x, .int .i64 p.y, .int .i64 p.p, .int .i64 p.t, .int .i64 p.m] 94 (0, 0))) (kq : Blk wr bq (.cells #[.int .i64 q.x, .int .i64 q.y, .int .i64 q.p, .int .i64 q.t, .int .i64 q.m] 94 (0, 0))) (hb : Below w.heap.size w wr)
    {Q : Exit → Act → World → Prop} {c0 c1 c3 c4 c5 c6 c7 c10 c16 c17 c18 c19 c20 c21 c22 c23 c24 c25 c26 c27 c28 c29 c30 c31 c32 c33 c34 c35 c36 c37 c38 c39 c40 c41 c42 c43 c44 c45 c46 c47 c48 c49 c50 c51 c52 c53 c54 c55 c56 c57 c58 c59 c60 c61 c62 c63 c64 c65 c66 c67 c68 c69 c70 c71 c72 c73 c74 c75 c76 c77 c78 c79 c80 c81 c82 c83 c84 c85 c86 c87 c88 c89 c90 c91 c92 c93 c94 c95 c96 c97 c98 c99 c100 c101 c102 : Value}
    (hx : ∀ (z' dd : Int) (out' : List Dab) (a1 : Option Addr) (c1' : Nat) (w' : World) (u4 u5 u16 u69 u70 u71 u72 u73 u74 u75 u76 u77 u78 u79 u80 u81 u82 u83 u84 u85 u86 u87 u88 u89 u90 u91 u92 u93 u94 u95 u96 : Value), (1 ≤ z' ∧ z' ≤ 163840) → (0 ≤ dd ∧ dd ≤ L) → L - dd < z' → out'.length ≤ 1024 → O = F (z' - (L - dd)) out' → w'.ownsRow w.heap.size 64 5 (.slice a1 out'.length c1') out'.length (dcs out') → Blk w' w.heap.size (.cells #[.int .i64 B.sz, .int .i64 B.hd, .int .i64 B.rn, .int .i64 B.fl, .int .i64 B.op, .int .i64 B.sp, .int .i64 B.an, .int .i64 B.sc, .int .i64 B.md, .int .i64 B.r, .int .i64 B.g, .int .i64 B.b, .int .i64 B.a, .int .i64 B.sd, .slice au nd capu, .bool B.er] 29 (0, 0)) → Below w.heap.size w w' → Q .normal ⟨#[c0, c1, .pointer (some ⟨w.heap.size, 0, none⟩), c3, u4, u5, c6, c7, .slice a1 out'.length c1', .int .i64 z', c10, .pointer (some ⟨bp, 0, none⟩), .pointer (some ⟨bq, 0, none⟩), .int .i64 L, .int .i64 S, .int .i64 dd, u16, c17, c18, c19, c20, c21, c22, c23, c24, c25, c26, c27, c28, c29, c30, c31, c32, c33, c34, c35, c36, c37, c38, c39, c40, c41, c42, c43, c44, c45, c46, c47, c48, c49, c50, c51, c52, c53, c54, c55, c56, c57, c58, c59, c60, c61, c62, c63, c64, c65, c66, c67, c68, u69, u70, u71, u72, u73, u74, u75, u76, u77, u78, u79, u80, u81, u82, u83, u84, u85, u86, u87, u88, u89, u90, u91, u92, u93, u94, u95, u96, c97, c98, c99, c100, c101, c102], []⟩ w')
    (hf : ∀ (w' : World) (v8 v9 v15 u16 u69 u70 u71 u72 u73 u74 u75 u76 u77 u78 u79 u80 u81 u82 u83 u84 u85 u86 u87 u88 u89 u90 u91 u92 u93 u94 u95 u96 : Value), O = none → Below w.heap.size w w' → Q .ret ⟨#[c0, c1, .pointer (some ⟨w.heap.size, 0, none⟩), c3, .slice none 0 0, .int .i64 3, c6, c7, v8, v9, c10, .pointer (some ⟨bp, 0, none⟩), .pointer (some ⟨bq, 0, none⟩), .int .i64 L, .int .i64 S, v15, u16, c17, c18, c19, c20, c21, c22, c23, c24, c25, c26, c27, c28, c29, c30, c31, c32, c33, c34, c35, c36, c37, c38, c39, c40, c41, c42, c43, c44, c45, c46, c47, c48, c49, c50, c51, c52, c53, c54, c55, c56, c57, c58, c59, c60, c61, c62, c63, c64, c65, c66, c67, c68, u69, u70, u71, u72, u73, u74, u75, u76, u77, u78, u79, u80, u81, u82, u83, u84, u85, u86, u87, u88, u89, u90, u91, u92, u93, u94, u95, u96, c97, c98, c99, c100, c101, c102], []⟩ w') :
    Code.wp Tryz.prog dabsInner Q ⟨#[c0, c1, .pointer (some ⟨w.heap.size, 0, none⟩), c3, c4, c5, c6, c7, .slice aw out.length cw, .int .i64 z, c10, .pointer (some ⟨bp, 0, none⟩), .pointer (some ⟨bq, 0, none⟩), .int .i64 L, .int .i64 S, .int .i64 0, c16, c17, c18, c19, c20, c21, c22, c23, c24, c25, c26, c27, c28, c29, c30, c31, c32, c33, c34, c35, c36, c37, c38, c39, c40, c41, c42, c43, c44, c45, c46, c47, c48, c49, c50, c51, c52, c53, c54, c55, c56, c57, c58, c59, c60, c61, c62, c63, c64, c65, c66, c67, c68, c69, c70, c71, c72, c73, c74, c75, c76, c77, c78, c79, c80, c81, c82, c83, c84, c85, c86, c87, c88, c89, c90, c91, c92, c93, c94, c95, c96, c97, c98, c99, c100, c101, c102], []⟩ wr := by
  have HD := Lib.hid hD
  have HSI := Lib.hid si
  have RF := Lib.hid rf
  have RN := Lib.hid rn
  have RD := Lib.hid rd
  have HR := Lib.hid hr
  have HX := Lib.hid hx
  have HF := Lib.hid hf
  have HM := Lib.hid hm
  have DO := Lib.hid (fun s speed index w h hx hy => dabOf_any B (.slice au B.ds.length capu) s speed index w h hB hx hy)
  have SP := Lib.hid (fun d w h hz => spacing_any B (.slice au B.ds.length capu) d w h hB hz)
  rw [hm] at DO SP
  have SZ := Lib.hid (dabOf_sz hB)
  have BS := Lib.hid (fun z hz => bspc_bd B z hz hB.sp)
  have SD : Hid (∀ w, Calls Tryz.prog 100 #[svx p, svx q] w fun e w' => e = .returned (.int .i64 S) ∧ Below w.heap.size w w') := fun w => by rw [← eS]; exact speed_any _ _ _ _ _ _ _ _ _ _ w
  clear hD si rf rn rd hr hx hf hm hB eS
  conv => arg 2; whnf
  go_wp2_with fail
  go_loopw [8, 9, 15] (fun v r d wr => ∃ (z dd : Int) (out : List Dab), r = .int .i64 z ∧ d = .int .i64 dd ∧ (1 ≤ z ∧ z ≤ 163840) ∧ (0 ≤ dd ∧ dd ≤ L) ∧ out.length ≤ 1024 ∧ Hid (O = R dd z out) ∧ wr.ownsRow w.heap.size 64 5 v out.length (dcs out) ∧ Blk wr w.heap.size (.cells #[.int .i64 B.sz, .int .i64 B.hd, .int .i64 B.rn, .int .i64 B.fl, .int .i64 B.op, .int .i64 B.sp, .int .i64 B.an, .int .i64 B.sc, .int .i64 B.md, .int .i64 B.r, .int .i64 B.g, .int .i64 B.b, .int .i64 B.a, .int .i64 B.sd, .slice au nd capu, .bool B.er] 29 (0, 0)) ∧ Blk wr bp (.cells #[.int .i64 p.x, .int .i64 p.y, .int .i64 p.p, .int .i64 p.t, .int .i64 p.m] 94 (0, 0)) ∧ Blk wr bq (.cells #[.int .i64 q.x, .int .i64 q.y, .int .i64 q.p, .int .i64 q.t, .int .i64 q.m] 94 (0, 0)) ∧ Below w.heap.size w wr) (fun _ _ d _ => (L - intOf d).toNat)
  case atStart => exact ⟨z, 0, out, rfl, rfl, hz, by omega, hol, HR, own, k0, kp, kq, hb⟩
  case round =>
    clear HR own k0 kp kq hb hz hol
    obtain ⟨z, dd, out, rfl, rfl, hz, hd, hol, HR, own, k0, kp, kq, hb⟩ := hrel
    obtain ⟨aw, cw, rfl⟩ := own_slice5 own
    by_cases hc : z ≤ L - dd
    · by_cases hf : out.length = 1024
      · have HE : Hid (O = none) := by show _ = _; rw [HR.out]; exact RF.out dd z out hc hf
        have gl : ((out.length : Int) == 1024) = true := by simp; omega
        clear hf RF RN RD own HX
        generalize out.length = nl at *
        go_wp2_with fail
        exact HF.out _ _ _ _ _ _ _ _ _ _ _ _ _ _ _ _ _ _ _ _ _ _ _ _ _ _ _ _ _ _ _ _ _ HE.out hb
      · have gl : ((out.length : Int) == 1024) = false := by simp; omega
        clear HX HF
        have BT := Lib.hid (fun w => between_any p q (dd + z) L w HSI.out (by omega) (by omega))
        have bxy := btw_xy HSI.out (dd + z) L (by omega) (by omega)
        obtain ⟨x, hx⟩ : ∃ x, x = dabOf B (btw p q (dd + z) L) S out.length := ⟨_, rfl⟩
        have DN := Lib.hid (fun w h => DO.out (btw p q (dd + z) L) S out.length w h bxy.1 bxy.2)
        have zx := SZ.out (btw p q (dd + z) L) S out.length
        rw [← hx] at DN zx
        have HR2 : Hid (O = R (dd + z) (bspc B x.sz) (out ++ [x])) := by show _ = _; rw [HR.out]; exact RN.out dd z out x hc (by omega) hx
        clear hx bxy HR
        have SX := Lib.hid (fun w h => SP.out x w h zx)
        have bz := BS.out _ zx
        clear zx
        generalize bspc B x.sz = zz at *
        generalize btw p q (dd + z) L = bs at *
        have l0 := k0.lt
        have lp := kp.lt
        have lq := kq.lt
        have lo := own.lt
        have i1 : IntKind.i64.wrap (dd + z) = dd + z := IntWalk.i64_in _ (by omega)
        have HO := Lib.hid own
        clear own
        go_upto_region 20 with (fail)
        refine wp_region_make 11 (by kernel_rfl) (by kernel_rfl) ?_
        simp only [makeOrder, numbered, mkB, List.take_succ_cons, List.take_zero, List.drop_succ_cons, List.drop_zero, List.filter_cons, List.filter_nil, Bool.not_true, Bool.not_false, Bool.false_eq_true, List.cons_append, List.nil_append, ↓reduceIte]
        repeat (first | (apply wpN_on; rfl; rfl; (intro w' hS K hK; have hc0 := (k0.kept hS).c16; have hc1 := (kp.kept hS).c5; have hc2 := (kq.kept hS).c5; go_simp; (first | exact hK.out _ (Below.refl _ _) | (go_at_call 101; (with_reducible refine (BT.out _).mono ?_); rintro e w'' ⟨rfl, hbb⟩; exact ⟨_, rfl, hK.out _ hbb⟩) | (go_at_call 97; (with_reducible refine (DN.out _ (HD.out.kept (hb.trans (hS.mono hb.size)))).mono ?_); rintro e w'' ⟨rfl, hbb⟩; exact ⟨_, rfl, hK.out _ hbb⟩))); simp only [Act.put, List.setIfInBounds_toArray, List.set_cons_succ, List.set_cons_zero]) | (apply wpN_off; rfl; rfl; simp only [Act.put, List.setIfInBounds_toArray, List.set_cons_succ, List.set_cons_zero]))
        apply wpN_new
        rfl
        rfl
        · intro w' hS K hK; have hc0 := (k0.kept hS).c16; have hc1 := (kp.kept hS).c5; have hc2 := (kq.kept hS).c5; go_simp; exact hK.out
        intro x10 hx10 nx10
        simp only [Act.put, mkOf, List.setIfInBounds_toArray, List.set_cons_succ, List.set_cons_zero]
        apply wpN_nil
        rintro W5 hS ⟨-, kx10⟩
        replace k0 := k0.kept hS
        replace kp := kp.kept hS
        replace kq := kq.kept hS
        replace hb := hb.trans (hS.mono hb.size)
        have own := ownsKept HO.out hS
        clear hS nx10 BT DN i1 gl HO
        have cx0 := kx10.c5
        go_upto_region 21 with (fail)
        clear cx0
        refine mid5 hb kx10 (by omega) (fun W6 kx hk hb => ?_)
        replace k0 := hk _ _ (by omega) k0
        replace kp := hk _ _ (by omega) kp
        replace kq := hk _ _ (by omega) kq
        have nkx : (Value.slice aw out.length cw).ownBlock ≠ some x10 := fun h => by have := (lo _ h).2; omega
        replace own := ownsOther own hk nkx
        clear hk l0 lp lq lo hx10 kx10
        have cx := kx.c5
        obtain ⟨i0, hi, hz0, hz1, hz2⟩ := info_parts infoDabZ
        have hbs := (show w.heap.size ≤ (W6.alloc (.cells #[.int .i64 x.x, .int .i64 x.y, .int .i64 x.sz, .int .i64 x.fl, .int .i64 x.an] 64 (0, 0))).heap.size by have := hb.size; simp; omega)
        go_wp2_with (at_builtin; refine wpList_append_own _ rfl _ _ 48 rfl w.heap.size 64 i0 (.agg #[.int .i64 0, .int .i64 0, .int .i64 0, .int .i64 0, .int .i64 0]) 5 40 Tryz.underlying48 hi hz0 hz1 hz2 rfl (by decide) _ _ _ rfl (own.alloc _) ⟨World.heap W6 |>.size, 0, none⟩ 1 1 [.int .i64 x.x, .int .i64 x.y, .int .i64 x.sz, .int .i64 x.fl, .int .i64 x.an] rfl rfl ?ca1 ?ca2 ?ca3 ?ca4 ?ca5 ?_)
        case ca1 => exact World.news_of_block (cs := #[.int .i64 x.x, .int .i64 x.y, .int .i64 x.sz, .int .i64 x.fl, .int .i64 x.an]) (t := 64) (fr := (0, 0)) (heap_alloc_new W6 _)
        case ca2 => simp [Value.oneCell']
        case ca3 => unfold maxLen; omega
        case ca4 => omega
        case ca5 => exact hbs
        intro v' W7 own' grow' _
        have nk0 := own_ne own k0 (by decide)
        have nkp := own_ne own kp (by decide)
        have nkq := own_ne own kq (by decide)
        replace k0 := (k0.alloc _).grown grow' nk0
        replace kp := (kp.alloc _).grown grow' nkp
        replace kq := (kq.alloc _).grown grow' nkq
        replace kx := (kx.alloc _).grown grow' nkx
        replace hb : Below w.heap.size w W7 := (hb.alloc hb.size _).grown grow' (by simp; have := hb.size; omega) (fun b hb' => by have := (own.lt _ hb').1; omega)
        have ho2 : W7.ownsRow w.heap.size 64 5 v' (out ++ [x]).length (dcs (out ++ [x])) := by
          rw [dcs_snoc, List.length_append]
          exact own'
        have HO2 := Lib.hid ho2
        obtain ⟨av', cv', rfl⟩ := own_slice5 own'
        clear own own' grow' nk0 nkp nkq nkx hi hz0 hz1 hz2 hbs ho2 cx
        have c0 := k0.c16
        have cx := kx.c5
        go_wp2_with fail
        clear c0 cx
        refine (SX.out _ (HD.out.kept hb)).mono ?_
        rintro e W8 ⟨rfl, hS⟩
        replace HO2 := Lib.hid (ownsKept HO2.out hS)
        replace k0 := k0.kept hS
        replace kp := kp.kept hS
        replace kq := kq.kept hS
        replace hb := hb.trans (hS.mono hb.size)
        clear hS kx SX
        go_wp2_with fail
        go_roundw
        case rel => exact ⟨zz, dd + z, out ++ [x], rfl, rfl, by omega, by omega, by rw [List.length_append, List.length_singleton]; omega, HR2, HO2.out, k0, kp, kq, hb⟩
        case measure => simp [intOf]; omega
    · have HD2 : Hid (O = F (z - (L - dd)) out) := by show _ = _; rw [HR.out, RD.out dd z out (by omega) hol]
      have OW := Lib.hid own
      clear own HF
      go_wp2_with fail
      exact HX.out z dd out _ _ _ _ _ _ _ _ _ _ _ _ _ _ _ _ _ _ _ _ _ _ _ _ _ _ _ _ _ _ _ _ _ _ hz hd (by omega) hol HD2.out OW.out k0 hb

end Go.Proofs.YtieacbccadbdbaaGreatDoor

