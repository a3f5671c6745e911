/- The coverage of a stroke, by the reference (printed by genstroker.py). -/
import Derived.Test.YtieacbccadbdbaaGreatDoorLCovR
import Derived.Test.YtieacbccadbdbaaGreatDoorBrDabsR
import Derived.Test.YtieacbccadbdbaaGreatDoorLDabR
import Derived.Test.YtieacbccadbdbaaGreatDoorLNum
import Derived.Test.YtieacbccadbdbaaGreatDoorLRow
import Derived.Test.YtieacbccadbdbaaGreatDoorLKit
import Derived.Deep.Cut
namespace Go.Proofs.YtieacbccadbdbaaGreatDoor
open Go.RowKit
set_option linter.unusedVariables false
attribute [local go_sem] Oper.gAt gUponK Oper.sAt stilK



set_option maxHeartbeats 16000000 in
set_option maxRecDepth 20000 in
theorem refStroke_good (B : Bru) (u v : Value) (ls : List Smp) (W H : Nat) (w : World) (hD : Dn w u B.ds) (hL : Sm w v ls) (hE : (dabs B ls).2 = 0) (hW : 1 ≤ W ∧ W ≤ 256) (hH : 1 ≤ H ∧ H ≤ 256) :
    Calls Tryz.prog 23 #[brv B u, v, .int .i64 W, .int .i64 H] w fun e w' => ∃ q, e = .returned (.tuple #[.agg #[.int .i64 W, .int .i64 H, q], .int .i64 0]) ∧ Nn w' q (couts B (dabs B ls).1 W H) ∧ Below w.heap.size w w' := by
  have HD := Lib.hid hD
  have HL := Lib.hid hL
  obtain ⟨_, _, _, l1, l2, _⟩ := dabs_ok hE
  obtain ⟨a, cap, rfl⟩ := Qn.slice hL
  obtain ⟨au, capu, rfl, _, _⟩ := hD
  have DB := Lib.hid (fun w h h' => refDabs_any B (.slice au B.ds.length capu) (.slice a ls.length cap) ls w h h')
  rw [hE] at DB
  clear hL hE
  generalize (dabs B ls).1 = ds at *
  have CV := Lib.hid (fun d x y w h => refCover_any B d x y (.slice au B.ds.length capu) w h)
  obtain ⟨cf, hcf⟩ : ∃ cf : Nat → Int → Int → Int, cf = fun i x y => cfold B (ds.take i) x y 0 := ⟨_, rfl⟩
  have CF0 : Hid (∀ x y, cf 0 x y = 0) := fun x y => by rw [hcf]; rfl
  have CFS : Hid (∀ i x y, i < ds.length → cf (i + 1) x y = cst (cf i x y) (dcov B (dbAt ds i) x y)) := fun i x y hi => by rw [hcf]; exact cf_succ B ds x y i hi
  have CFB : Hid (∀ i x y, 0 ≤ cf i x y ∧ cf i x y ≤ 65535) := fun i x y => by rw [hcf]; exact cf_bd B ds x y i
  have CFE : Hid (∀ k j : Nat, j < W → cout B ds W (k * W + j) = dv (cl (cf ds.length (j : Int) (k : Int)) * cl B.op) 65535) := fun k j hj => by rw [hcf, cout_eq B ds W k j hj, ← cf_end]
  have OL := Lib.hid (couts_len B ds W H)
  have OA := Lib.hid (couts_at B ds W H)
  clear hcf
  have hWH : W * H ≤ 65536 := Nat.mul_le_mul hW.2 hH.2
  obtain ⟨n0, hn0⟩ : ∃ n0, W * H = n0 := ⟨_, rfl⟩
  rw [hn0] at hWH OL OA
  have HN0 := Lib.hid hn0
  clear hn0
  generalize couts B ds W H = out at *
  generalize cout B ds W = res at *
  generalize ls.length = nl at *
  generalize B.ds.length = nd at *
  go_enter Tryz.func23, Tryz.ntmps23
  go_upto_region 1 with (fail)
  refine name2 (fun W0 kb km hb => ?_)
  have c0 := kb.c16
  go_wp2_with fail
  clear c0
  refine (DB.out _ (HD.out.kept hb) (HL.out.kept hb)).mono ?_
  rintro e W1 ⟨q1, rfl, h1, hS⟩
  replace kb := kb.kept hS
  replace km := km.kept hS
  replace hb := hb.trans (hS.mono hb.size)
  clear hS
  obtain ⟨a1, p1, rfl⟩ := Qn.slice h1
  obtain ⟨bl, off, rfl, hbl, hall⟩ := Qn.all h1 (by omega)
  have HALL : Hid (∀ i, i < ds.length → ∀ w', Below W1.heap.size W1 w' → At5 w' bl (off + i * 5) (d5 (dbAt ds i))) := hall
  clear h1 hall
  generalize hmd : ds.length = md at *
  clear hmd
  have w1 : ¬ (W : Int) < 1 := by omega
  have w2 : ¬ (256 : Int) < (W : Int) := by omega
  have w3 : ¬ (H : Int) < 1 := by omega
  have w4 : ¬ (256 : Int) < (H : Int) := by omega
  have hl4 := km.lt
  go_upto_region 7 with (fail)
  clear w1 w2 w3 w4
  have h1b := hb
  clear hb
  refine name1 (fun W6 ko hb => ?_)
  replace kb := kb.kept hb
  replace km := km.kept hb
  obtain ⟨x, hx0⟩ : ∃ x, x = W1.heap.size := ⟨_, rfl⟩
  rw [← hx0] at ko ⊢
  have hx1 : W1.heap.size ≤ x := by omega
  have hl5 : w.heap.size + 1 < x := by omega
  clear DB hx0
  have ox := ko.lt
  obtain ⟨base, hbase⟩ : ∃ base, base = W6.heap.size := ⟨_, rfl⟩
  have own := own_nilI W6 base 3 res
  have hbs : base ≤ W6.heap.size := by omega
  rw [← hbase] at ox
  clear hbase
  go_wp2_with fail
  go_loopw [13] (fun i wr => ∃ (k : Nat) (q : Value), k ≤ H ∧ i = .int .i64 k ∧ wr.ownsRow base 3 1 q (k * W) (icF res (k * W)) ∧ base ≤ wr.heap.size ∧ Blk wr x (.cells #[.int .i64 W, .int .i64 H, q] 35 (0, 0)) ∧ Blk wr w.heap.size (.cells #[.int .i64 B.sz, .int .i64 B.hd, .int .i64 B.rn, .int .i64 B.fl, .int .i64 B.op, .int .i64 B.sp, .int .i64 B.an, .int .i64 B.sc, .int .i64 B.md, .int .i64 B.r, .int .i64 B.g, .int .i64 B.b, .int .i64 B.a, .int .i64 B.sd, .slice au nd capu, .bool B.er] 29 (0, 0)) ∧ Blk wr (w.heap.size + 1) (.cells #[.int .i64 0, .int .i64 0, .slice none 0 0] 35 (0, 0)) ∧ Below W1.heap.size W1 wr) (fun i _ => H - (intOf i).toNat)
  case atStart => exact ⟨0, _, Nat.zero_le _, rfl, by rw [Nat.zero_mul]; exact own, hbs, ko, kb, km, hb⟩
  case round =>
    clear own ko kb km hb hbs
    obtain ⟨k, q, hk, rfl, own, hbs, ko, kb, km, hb⟩ := hrel
    by_cases hlt : k < H
    · have hkW : k * W + W ≤ n0 := by
        have := Nat.mul_le_mul_right W (show k + 1 ≤ H by omega)
        rw [Nat.add_mul, Nat.one_mul, Nat.mul_comm H W, HN0.out] at this
        exact this
      have HOW := Lib.hid own
      clear own
      go_wp2_with fail
      go_loopw [14] (fun i wr => ∃ (j : Nat) (q : Value), j ≤ W ∧ i = .int .i64 j ∧ Hid (wr.ownsRow base 3 1 q (k * W + j) (icF res (k * W + j))) ∧ base ≤ wr.heap.size ∧ Blk wr x (.cells #[.int .i64 W, .int .i64 H, q] 35 (0, 0)) ∧ Blk wr w.heap.size (.cells #[.int .i64 B.sz, .int .i64 B.hd, .int .i64 B.rn, .int .i64 B.fl, .int .i64 B.op, .int .i64 B.sp, .int .i64 B.an, .int .i64 B.sc, .int .i64 B.md, .int .i64 B.r, .int .i64 B.g, .int .i64 B.b, .int .i64 B.a, .int .i64 B.sd, .slice au nd capu, .bool B.er] 29 (0, 0)) ∧ Blk wr (w.heap.size + 1) (.cells #[.int .i64 0, .int .i64 0, .slice none 0 0] 35 (0, 0)) ∧ Below W1.heap.size W1 wr) (fun i _ => W - (intOf i).toNat)
      case atStart => exact ⟨0, _, Nat.zero_le _, rfl, HOW, hbs, ko, kb, km, hb⟩
      case round =>
        clear HOW ko kb km hb hbs
        obtain ⟨j, q, hj, rfl, HO, hbs, ko, kb, km, hb⟩ := hrel
        by_cases hjl : j < W
        · obtain ⟨idx, hie⟩ : ∃ idx, k * W + j = idx := ⟨_, rfl⟩
          have HP := Lib.hid (CFE.out k j hjl)
          rw [hie] at HP HO
          have hidx : idx < n0 := by omega
          have HIE := Lib.hid hie
          clear hie hkW
          obtain ⟨aq0, cq0, rfl⟩ := own_sliceI HO.out
          have C0 := Lib.hid (CF0.out (j : Int) (k : Int))
          go_wp2_with fail
          go_loopw [15, 16] (fun c i wr => ∃ (n : Nat), n ≤ md ∧ i = .int .i64 n ∧ c = .int .i64 (cf n (j : Int) (k : Int)) ∧ Hid (wr.ownsRow base 3 1 (.slice aq0 idx cq0) idx (icF res idx)) ∧ base ≤ wr.heap.size ∧ Blk wr x (.cells #[.int .i64 W, .int .i64 H, .slice aq0 idx cq0] 35 (0, 0)) ∧ Blk wr w.heap.size (.cells #[.int .i64 B.sz, .int .i64 B.hd, .int .i64 B.rn, .int .i64 B.fl, .int .i64 B.op, .int .i64 B.sp, .int .i64 B.an, .int .i64 B.sc, .int .i64 B.md, .int .i64 B.r, .int .i64 B.g, .int .i64 B.b, .int .i64 B.a, .int .i64 B.sd, .slice au nd capu, .bool B.er] 29 (0, 0)) ∧ Blk wr (w.heap.size + 1) (.cells #[.int .i64 0, .int .i64 0, .slice none 0 0] 35 (0, 0)) ∧ Below W1.heap.size W1 wr) (fun _ i _ => md - (intOf i).toNat)
          case atStart => exact ⟨0, Nat.zero_le _, rfl, by rw [C0.out], HO, hbs, ko, kb, km, hb⟩
          case round =>
            clear HO ko kb km hb hbs
            obtain ⟨n, hn, rfl, rfl, HO, hbs, ko, kb, km, hb⟩ := hrel
            by_cases hnl : n < md
            · have HC := Lib.hid (fun w' h => HALL.out n hnl w' h)
              unfold At5 d5 at HC
              simp only at HC
              have S1 := Lib.hid (CFS.out n (j : Int) (k : Int) hnl)
              have C1 := Lib.hid (fun w h => CV.out (dbAt ds n) (j : Int) (k : Int) w h)
              have hfb := CFB.out n (j : Int) (k : Int)
              generalize hnv : cf (n + 1) (j : Int) (k : Int) = nv at *
              have HNV := Lib.hid hnv
              clear hnv
              generalize cf n (j : Int) (k : Int) = fc at *
              generalize dcov B (dbAt ds n) (j : Int) (k : Int) = T at *
              generalize dbAt ds n = d at *
              have S2 : nv = fc + dv (cl (65535 - fc) * cl T) 65535 := S1.out
              have hub := mulU_bd' (65535 - fc) T
              have MU := Lib.hid (fun w => refMul_any (65535 - fc) T w)
              generalize dv (cl (65535 - fc) * cl T) 65535 = mv at *
              have f1 : IntKind.i64.wrap (65535 - fc) = 65535 - fc := IntWalk.i64_in _ (by omega)
              have f2 : IntKind.i64.wrap (fc + mv) = nv := by rw [S2]; exact IntWalk.i64_in _ (by omega)
              clear S1
              have i1 : (0 : Int) ≤ (n : Int) := by omega
              have i2 : (n : Int) < (md : Int) := by omega
              go_upto_region 17 with (fail)
              refine wp_region_grow 14 (fun w' => Below (World.heap wr).size wr w') (by kernel_rfl) (by kernel_rfl) (Below.refl _ _).drew ?_
              simp only [List.take_succ_cons, List.take_zero, List.drop_succ_cons, List.drop_zero]
              repeat (first | (apply wpG_on; rfl; (intro w' hS K hK; have hc0 := (kb.kept hS).c16; have hc1 := (ko.kept hS).lt; have hc2 := (km.kept hS).lt; have hr0 := HC.out _ (hb.trans (hS.mono hb.size)); go_simp; (first | exact hK.out _ hS | (go_at_call 37; (with_reducible refine (C1.out _ (HD.out.kept (h1b.trans ((hb.trans (hS.mono hb.size)).mono h1b.size)))).mono ?_); rintro e w'' ⟨rfl, hbb⟩; exact ⟨_, rfl, hK.out _ (hS.trans (hbb.mono hS.size))⟩) | (go_at_call 24; (with_reducible refine (MU.out _).mono ?_); rintro e w'' ⟨rfl, nn, rfl⟩; exact ⟨_, rfl, hK.out _ (belowN hS nn)⟩))); simp only [Act.put, List.setIfInBounds_toArray, List.set_cons_succ, List.set_cons_zero]) | (apply wpG_off; rfl; simp only [Act.put, List.setIfInBounds_toArray, List.set_cons_succ, List.set_cons_zero]))
              apply wpG_nil
              intro W7 hS
              replace kb := kb.kept hS
              replace ko := ko.kept hS
              replace km := km.kept hS
              replace hb := hb.trans (hS.mono hb.size)
              have HO2 := Lib.hid (ownsKept HO.out hS)
              replace hbs : base ≤ W7.heap.size := Nat.le_trans hbs hS.size
              clear hS HO
              go_wp2_with fail
              go_roundw
              case rel => exact ⟨n + 1, by omega, by go_num, by rw [HNV.out, S2], HO2, hbs, ko, kb, km, hb⟩
              case measure => simp only [intOf]; omega
            · obtain rfl : n = md := by omega
              have PS := Lib.hid (icF_succ res idx)
              rw [HP.out] at PS
              have MU := Lib.hid (fun w => refMul_any (cf n (j : Int) (k : Int)) B.op w)
              generalize dv (cl (cf n (j : Int) (k : Int)) * cl B.op) 65535 = T at *
              go_upto_region 18 with (fail)
              refine wp_region_ord [] [0, 1, 2, 3, 4, 5, 6] [7, 8, 9] (fun h => absurd rfl h) (by kernel_rfl) (by kernel_rfl) ?_
              simp only [picked, opsAt, List.getElem?_cons_succ, List.getElem?_cons_zero]
              apply wpFl_nil
              repeat (first | (apply wpN_on; rfl; rfl; (intro w' hS K hK; have hc0 := (ko.kept hS).c3; have hc1 := (kb.kept hS).c16; have hc2 := (km.kept hS).c3; go_simp; (first | exact hK.out _ (Below.refl _ _) | (go_at_call 24; (with_reducible refine (MU.out _).mono ?_); rintro e w'' ⟨rfl, nn, rfl⟩; exact ⟨_, rfl, hK.out _ (belowN (Below.refl _ _) nn)⟩))); simp only [Act.put, List.setIfInBounds_toArray, List.set_cons_succ, List.set_cons_zero]) | (apply wpN_off; rfl; rfl; simp only [Act.put, List.setIfInBounds_toArray, List.set_cons_succ, List.set_cons_zero]))
              apply wpN_new
              rfl
              rfl
              · intro w' hS K hK; have hc0 := (ko.kept hS).c3; have hc1 := (kb.kept hS).c16; have hc2 := (km.kept hS).c3; go_simp; exact hK.out
              intro x7 hx7 nx7
              simp only [Act.put, mkOf, List.setIfInBounds_toArray, List.set_cons_succ, List.set_cons_zero]
              apply wpN_nil
              rintro W7 hS ⟨-, kx7⟩
              replace ko := ko.kept hS
              replace kb := kb.kept hS
              replace km := km.kept hS
              replace hb := hb.trans (hS.mono hb.size)
              have own := ownsKept HO.out hS
              replace hbs : base ≤ W7.heap.size := Nat.le_trans hbs hS.size
              clear hS nx7
              obtain ⟨i0, hi, hz0, hz1, hz2⟩ := info_parts infoInt
              go_wp2_with (at_builtin; refine wpList_append_own _ rfl _ _ 33 rfl base 3 i0 (.int .i64 0) 1 8 Tryz.underlying33 hi hz0 hz1 hz2 rfl (by decide) _ _ _ rfl own ⟨x7, 0, none⟩ 1 1 [.int .i64 T] rfl rfl ?ca1 ?ca2 ?ca3 ?ca4 ?ca5 ?_)
              case ca1 => exact World.news_of_block (cs := #[.int .i64 T]) (t := 3) (fr := (0, 0)) kx7
              case ca2 => simp [Value.oneCell']
              case ca3 => unfold maxLen; omega
              case ca4 => omega
              case ca5 => exact hbs
              intro v' w7 own' grow' _
              have hno : ∀ b, b < base → (Value.slice aq0 idx cq0).ownBlock ≠ some b := fun b hb' h => by have := (own.lt _ h).1; omega
              have hW7 := hb.size
              replace ko := ko.grown grow' (hno _ (by omega))
              replace kb := kb.grown grow' (hno _ (by omega))
              replace km := km.grown grow' (hno _ (by omega))
              replace hb : Below W1.heap.size W1 w7 := hb.grown grow' (by omega) (fun b hb' => by have := (own.lt _ hb').1; omega)
              have hb7 : base ≤ w7.heap.size := Nat.le_trans hbs grow'.size
              obtain ⟨av', cv', rfl⟩ := own_sliceI own'
              have co := ko.c3
              go_wp2_with fail
              go_roundw
              case rel =>
                refine ⟨j + 1, _, by omega, by go_num, ?_, by simpa using hb7, ko.set1 2 _ (by simp) rfl, kb.other (by simp; omega) _, km.other (by simp; omega) _, hb.setCell (by simp; omega) _⟩
                rw [← Nat.add_assoc, HIE.out, PS.out]
                exact own'.kept (row := some x) ⟨rfl, rfl, rfl, by simp, fun j hj hne => Below.heap_setCell _ _ _ _ (fun h => hne (by rw [h]))⟩ (.inr (fun h => by have := (own'.lt _ h).1; omega))
              case measure => simp only [intOf]; omega
        · obtain rfl : j = W := by omega
          go_wp2_with fail
          go_roundw
          case rel => exact ⟨k + 1, q, by omega, by go_num, by rw [Nat.add_mul, Nat.one_mul]; exact HO.out, hbs, ko, kb, km, hb⟩
          case measure => simp only [intOf]; omega
    · obtain rfl : k = H := by omega
      obtain ⟨av, cv, rfl⟩ := own_sliceI own
      have co := ko.c3
      have c4 := km.c3
      replace hb := h1b.trans (hb.mono h1b.size)
      go_wp2_with fail
      clear co
      have ekw : k * W = n0 := by rw [Nat.mul_comm]; exact HN0.out
      rw [ekw] at own
      have PN : Hid (∀ w', w'.ownsRow base 3 1 (.slice av n0 cv) n0 (icF res n0) → Nn w' (.slice av n0 cv) out) := fun w' h => nn_of_own h OL.out (by omega) (fun i hi => OA.out i hi)
      have KK : ∀ (w' : World) (j : Nat) (u : Value), w'.ownsRow base 3 1 (.slice av n0 cv) n0 (icF res n0) → (w'.setCell ⟨w.heap.size + 1, j, none⟩ u).ownsRow base 3 1 (.slice av n0 cv) n0 (icF res n0) := fun w' j u h =>
        h.kept (row := some (w.heap.size + 1)) ⟨rfl, rfl, rfl, by simp, fun j hj hne => Below.heap_setCell _ _ _ _ (fun h => hne (by rw [h]))⟩ (.inr (fun h' => by have := (h.lt _ h').1; omega))
      rw [ekw]
      refine bodyPost_ret (v := .tuple #[.agg #[.int .i64 W, .int .i64 k, .slice av n0 cv], .int .i64 0]) (by simp [results, Tryz.results23, go_sem, c4]) rfl ⟨_, rfl, PN.out _ (KK _ _ _ (KK _ _ _ (KK _ _ _ own))), ((hb.setCell (by simp) _).setCell (by simp) _).setCell (by simp) _⟩

end Go.Proofs.YtieacbccadbdbaaGreatDoor

