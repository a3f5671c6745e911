/- The walks of pixel.digit, Print and Parse. -/
import Derived.Test.YtmkieeaikhndcaaPix2
import Derived.Test.YtmkieeaikhndcaaPixTextPlain
import Derived.Deep.RegionHeld3
import Derived.Deep.AppendLies
namespace Go.Proofs.Ytmkieeaikhndcaa
open Go.RowKit
set_option linter.unusedVariables false
attribute [local go_sem] Oper.gAt gUponK

theorem ret_ib {k : IntKind} {a b : Int} {t : Bool} (h : a = b) : Ending.returned (.tuple #[.int k a, .bool t]) = .returned (.tuple #[.int k b, .bool t]) := by rw [h]

set_option maxHeartbeats 400000 in
theorem digit_yes (c : Int) (w : World) (h0 : 0 ≤ c) (h1 : c ≤ 255) (h : 0 ≤ dg c) :
    Calls Try.prog 49 #[.int .u8 c] w fun e w' => e = .returned (.tuple #[.int .i64 (dg c), .bool true]) ∧ w = w' := by
  have H : 48 ≤ c ∧ c ≤ 57 ∧ dg c = c - 48 ∨ 65 ≤ c ∧ c ≤ 70 ∧ dg c = c - 55 ∨ 97 ≤ c ∧ c ≤ 102 ∧ dg c = c - 87 := by
    revert h
    unfold dg
    repeat' split
    all_goals omega
  clear h
  rcases H with ⟨a1, a2, e⟩ | ⟨a1, a2, e⟩ | ⟨a1, a2, e⟩
  · have E := Lib.hid e
    clear e
    go_enter Try.func49, Try.ntmps49
    go_wp2
    go_ret2
    exact ⟨ret_ib (by rw [E.out]), rfl⟩
  · have E := Lib.hid e
    clear e
    go_enter Try.func49, Try.ntmps49
    go_wp2
    go_ret2
    exact ⟨ret_ib (by rw [E.out]; omega), rfl⟩
  · have E := Lib.hid e
    clear e
    go_enter Try.func49, Try.ntmps49
    go_wp2
    go_ret2
    exact ⟨ret_ib (by rw [E.out]; omega), rfl⟩

set_option maxHeartbeats 400000 in
theorem digit_no (c : Int) (w : World) (h0 : 0 ≤ c) (h1 : c ≤ 255) (h : dg c < 0) :
    Calls Try.prog 49 #[.int .u8 c] w fun e w' => e = .returned (.tuple #[.int .i64 0, .bool false]) ∧ w = w' := by
  have H : c < 48 ∨ 57 < c ∧ c < 65 ∨ 70 < c ∧ c < 97 ∨ 102 < c := by
    revert h
    unfold dg
    repeat' split
    all_goals omega
  clear h
  rcases H with a1 | ⟨a1, a2⟩ | ⟨a1, a2⟩ | a1
  · go_enter Try.func49, Try.ntmps49
    go_wp2
    go_ret2
    exact ⟨rfl, rfl⟩
  · go_enter Try.func49, Try.ntmps49
    go_wp2
    go_ret2
    exact ⟨rfl, rfl⟩
  · go_enter Try.func49, Try.ntmps49
    go_wp2
    go_ret2
    exact ⟨rfl, rfl⟩
  · go_enter Try.func49, Try.ntmps49
    go_wp2
    go_ret2
    exact ⟨rfl, rfl⟩

/-- A lower-case hexadecimal digit. -/
def hx (n : Int) : UInt8 := #[48, 49, 50, 51, 52, 53, 54, 55, 56, 57, 97, 98, 99, 100, 101, 102].getD n.toNat 0
def hx2 (n : Int) : List UInt8 := [hx (n / 16), hx (n % 16)]
def prt (r g b a : Int) : List UInt8 := [35] ++ hx2 (dv (cl r) 257) ++ hx2 (dv (cl g) 257) ++ hx2 (dv (cl b) 257) ++ hx2 (dv (cl a) 257)

def bv (l : List UInt8) : List Value := l.map fun c => .int .u8 c.toNat
/-- Bytes that the call owns, as cells. -/
theorem ownsBytes {w : World} {base : Nat} {e : TypeId} {v : Value} {n : Nat} {l : List UInt8} (h : w.ownsRow base e 1 v (n + 1) (bv l)) (hl : l.length = n + 1) :
    ∃ g cap, v = .slice (some ⟨g, 0, none⟩) (n + 1) cap ∧ ∀ j (hj : j < l.length), w.cell? ((⟨g, 0, none⟩ : Addr).add j) = some (.int .u8 (l[j].toNat : Int)) := by
  have h' := h
  obtain ⟨h1, h2⟩ := h
  rcases h2 with ⟨_, h2⟩ | ⟨g, cap, cur, hv, _⟩
  · omega
  · refine ⟨g, cap, hv, fun j hj => ?_⟩
    have hc := h'.cells (g := g) (by rw [hv]; rfl) j (.int .u8 (l[j].toNat : Int)) (by simp [bv, hj])
    exact hc
theorem dv_bd8 (x : Int) : 0 ≤ dv (cl x) 257 ∧ dv (cl x) 257 ≤ 255 := by
  have h := cl_bd x
  exact ⟨dv_nonneg _ _ (by omega) h.1, dv_le _ _ _ (by omega) (by omega)⟩

theorem idx4 (x0 x1 x2 x3 : Int) (w : World) :
    (Instr.index 47 (.agg #[.int .i64 x0, .int .i64 x1, .int .i64 x2, .int .i64 x3]) (.int .i64 0)).run Try.prog w = .ok (.int .i64 x0) w ∧
    (Instr.index 47 (.agg #[.int .i64 x0, .int .i64 x1, .int .i64 x2, .int .i64 x3]) (.int .i64 1)).run Try.prog w = .ok (.int .i64 x1) w ∧
    (Instr.index 47 (.agg #[.int .i64 x0, .int .i64 x1, .int .i64 x2, .int .i64 x3]) (.int .i64 2)).run Try.prog w = .ok (.int .i64 x2) w ∧
    (Instr.index 47 (.agg #[.int .i64 x0, .int .i64 x1, .int .i64 x2, .int .i64 x3]) (.int .i64 3)).run Try.prog w = .ok (.int .i64 x3) w := by
  refine ⟨?_, ?_, ?_, ?_⟩ <;> kernel_rfl

theorem idxHex (m : Int) (h0 : 0 ≤ m) (h1 : m < 16) (w : World) :
    (Instr.index 9 (.string ⟨#[48, 49, 50, 51, 52, 53, 54, 55, 56, 57, 97, 98, 99, 100, 101, 102]⟩) (.int .i64 m)).run Try.prog w = .ok (.int .u8 (hx m).toNat) w := by
  have h : m = 0 ∨ m = 1 ∨ m = 2 ∨ m = 3 ∨ m = 4 ∨ m = 5 ∨ m = 6 ∨ m = 7 ∨ m = 8 ∨ m = 9 ∨ m = 10 ∨ m = 11 ∨ m = 12 ∨ m = 13 ∨ m = 14 ∨ m = 15 := by omega
  rcases h with rfl | rfl | rfl | rfl | rfl | rfl | rfl | rfl | rfl | rfl | rfl | rfl | rfl | rfl | rfl | rfl <;> (show _ = _; kernel_rfl)
theorem infoU8 : (Try.prog.info? 5).map (fun i => (i.zero, i.size, i.bytes)) = some (some (.int .u8 0), 1, 1) := by kernel_rfl

set_option maxHeartbeats 400000 in
theorem print_any (r g b a : Int) (w : World) :
    Calls Try.prog 34 #[pv r g b a] w fun e w' => e = .returned (.string ⟨(prt r g b a).toArray⟩) ∧ Below w.heap.size w w' := by
  go_enter Try.func34, Try.ntmps34
  go_wp2
  refine name2 (fun W k1 k2 hb => ?_)
  have own0 : W.ownsRow (w.heap.size + 1) 5 1 (.slice (some ⟨w.heap.size + 1, 0, none⟩) 1 1) 1 [.int .u8 35] :=
    ⟨rfl, .inr ⟨_, 1, #[.int .u8 35], rfl, Nat.le_refl _, k2, Nat.le_refl _, by decide, rfl, rfl⟩⟩
  clear k1 k2
  go_loopw [3, 17] (fun v i wr => ∃ k : Nat, k ≤ 4 ∧ i = .int .i64 k ∧ wr.ownsRow (w.heap.size + 1) 5 1 v (1 + 2 * k) (bv ((prt r g b a).take (1 + 2 * k))) ∧ Below w.heap.size w wr) (fun _ i _ => 4 - (intOf i).toNat)
  case atStart => exact ⟨0, by omega, rfl, own0, hb⟩
  case round =>
    obtain ⟨k, hk, rfl, hown, hb⟩ := hrel
    clear own0
    rename_i wr
    obtain rfl | rfl | rfl | rfl | rfl : k = 0 ∨ k = 1 ∨ k = 2 ∨ k = 3 ∨ k = 4 := by omega
    · have ix := idx4 r g b a wr
      have hn := dv_bd8 r
      have HP : Hid (bv ((prt r g b a).take (1 + 2 * 1)) = bv ((prt r g b a).take (1 + 2 * 0)) ++ [.int .u8 (hx (dv (cl r) 257 / 16)).toNat, .int .u8 (hx (dv (cl r) 257 % 16)).toNat]) := by
        show _ = _
        simp [prt, hx2, bv]
      generalize hnn : dv (cl r) 257 = n at hn HP
      have HN := Lib.hid hnn
      clear hnn
      go_wp2_with fail
      refine (to8_any _ _).mono ?_
      rintro e w' ⟨rfl, rfl⟩
      rw [HN.out]
      go_wp2_with fail
      have e1 : IntKind.i64.wrap (n.tdiv 16) = n / 16 := by rw [Int.tdiv_eq_ediv_of_nonneg hn.1]; exact IntWalk.i64_in _ (by omega)
      have e2 : n.tmod 16 = n % 16 := Int.tmod_eq_emod_of_nonneg hn.1
      have e3 := fun w => idxHex (n / 16) (by omega) (by omega) w
      have e4 := fun w => idxHex (n % 16) (by omega) (by omega) w
      clear ix
      obtain ⟨i0, hi, hz0, hz1, hz2⟩ := info_parts infoU8
      have hbz := hb.size
      go_region_held3 (fun _ => True) (trivial)
        ((refine step_append_lies _ (by rfl) _ _ _ (by rfl) (w.heap.size + 1) 5 i0 _ 1 1 Try.underlying49 hi hz0 hz1 hz2 rfl (by omega) _ _ _ (by rfl) ((hown.alloc _).drew) ⟨wr.heap.size, 0, none⟩ 2 2 [.int .u8 (hx (n / 16)).toNat, .int .u8 (hx (n % 16)).toNat] (by rfl) (by rfl) (World.news_of_block (cs := #[.int .u8 (hx (n / 16)).toNat, .int .u8 (hx (n % 16)).toNat]) (t := 5) (fr := (0, 0)) (heap_alloc_new wr _)) (by simp [Value.oneCell']) (by omega) (by decide) (by decide) (by simp; omega) (wr.heap.size + 1) (by simp) ?_; intro gg cap w1 hown1 hgrow hat hlt))
      clear e1 e2 e3 e4
      all_goals go_wp2
      all_goals refine ⟨⟨1, by omega, rfl, ?_, ?_⟩, by simp [intOf]⟩
      all_goals first
        | exact ((hb.alloc (by omega) _).drew).grown hgrow (by simp; omega) (fun k hk => by have := (hown.lt k hk).1; omega)
        | (rw [HP.out]; exact hown1)
    · have ix := idx4 r g b a wr
      have hn := dv_bd8 g
      have HP : Hid (bv ((prt r g b a).take (1 + 2 * 2)) = bv ((prt r g b a).take (1 + 2 * 1)) ++ [.int .u8 (hx (dv (cl g) 257 / 16)).toNat, .int .u8 (hx (dv (cl g) 257 % 16)).toNat]) := by
        show _ = _
        simp [prt, hx2, bv]
      generalize hnn : dv (cl g) 257 = n at hn HP
      have HN := Lib.hid hnn
      clear hnn
      go_wp2_with fail
      refine (to8_any _ _).mono ?_
      rintro e w' ⟨rfl, rfl⟩
      rw [HN.out]
      go_wp2_with fail
      have e1 : IntKind.i64.wrap (n.tdiv 16) = n / 16 := by rw [Int.tdiv_eq_ediv_of_nonneg hn.1]; exact IntWalk.i64_in _ (by omega)
      have e2 : n.tmod 16 = n % 16 := Int.tmod_eq_emod_of_nonneg hn.1
      have e3 := fun w => idxHex (n / 16) (by omega) (by omega) w
      have e4 := fun w => idxHex (n % 16) (by omega) (by omega) w
      clear ix
      obtain ⟨i0, hi, hz0, hz1, hz2⟩ := info_parts infoU8
      have hbz := hb.size
      go_region_held3 (fun _ => True) (trivial)
        ((refine step_append_lies _ (by rfl) _ _ _ (by rfl) (w.heap.size + 1) 5 i0 _ 1 1 Try.underlying49 hi hz0 hz1 hz2 rfl (by omega) _ _ _ (by rfl) ((hown.alloc _).drew) ⟨wr.heap.size, 0, none⟩ 2 2 [.int .u8 (hx (n / 16)).toNat, .int .u8 (hx (n % 16)).toNat] (by rfl) (by rfl) (World.news_of_block (cs := #[.int .u8 (hx (n / 16)).toNat, .int .u8 (hx (n % 16)).toNat]) (t := 5) (fr := (0, 0)) (heap_alloc_new wr _)) (by simp [Value.oneCell']) (by omega) (by decide) (by decide) (by simp; omega) (wr.heap.size + 1) (by simp) ?_; intro gg cap w1 hown1 hgrow hat hlt))
      clear e1 e2 e3 e4
      all_goals go_wp2
      all_goals refine ⟨⟨2, by omega, rfl, ?_, ?_⟩, by simp [intOf]⟩
      all_goals first
        | exact ((hb.alloc (by omega) _).drew).grown hgrow (by simp; omega) (fun k hk => by have := (hown.lt k hk).1; omega)
        | (rw [HP.out]; exact hown1)
    · have ix := idx4 r g b a wr
      have hn := dv_bd8 b
      have HP : Hid (bv ((prt r g b a).take (1 + 2 * 3)) = bv ((prt r g b a).take (1 + 2 * 2)) ++ [.int .u8 (hx (dv (cl b) 257 / 16)).toNat, .int .u8 (hx (dv (cl b) 257 % 16)).toNat]) := by
        show _ = _
        simp [prt, hx2, bv]
      generalize hnn : dv (cl b) 257 = n at hn HP
      have HN := Lib.hid hnn
      clear hnn
      go_wp2_with fail
      refine (to8_any _ _).mono ?_
      rintro e w' ⟨rfl, rfl⟩
      rw [HN.out]
      go_wp2_with fail
      have e1 : IntKind.i64.wrap (n.tdiv 16) = n / 16 := by rw [Int.tdiv_eq_ediv_of_nonneg hn.1]; exact IntWalk.i64_in _ (by omega)
      have e2 : n.tmod 16 = n % 16 := Int.tmod_eq_emod_of_nonneg hn.1
      have e3 := fun w => idxHex (n / 16) (by omega) (by omega) w
      have e4 := fun w => idxHex (n % 16) (by omega) (by omega) w
      clear ix
      obtain ⟨i0, hi, hz0, hz1, hz2⟩ := info_parts infoU8
      have hbz := hb.size
      go_region_held3 (fun _ => True) (trivial)
        ((refine step_append_lies _ (by rfl) _ _ _ (by rfl) (w.heap.size + 1) 5 i0 _ 1 1 Try.underlying49 hi hz0 hz1 hz2 rfl (by omega) _ _ _ (by rfl) ((hown.alloc _).drew) ⟨wr.heap.size, 0, none⟩ 2 2 [.int .u8 (hx (n / 16)).toNat, .int .u8 (hx (n % 16)).toNat] (by rfl) (by rfl) (World.news_of_block (cs := #[.int .u8 (hx (n / 16)).toNat, .int .u8 (hx (n % 16)).toNat]) (t := 5) (fr := (0, 0)) (heap_alloc_new wr _)) (by simp [Value.oneCell']) (by omega) (by decide) (by decide) (by simp; omega) (wr.heap.size + 1) (by simp) ?_; intro gg cap w1 hown1 hgrow hat hlt))
      clear e1 e2 e3 e4
      all_goals go_wp2
      all_goals refine ⟨⟨3, by omega, rfl, ?_, ?_⟩, by simp [intOf]⟩
      all_goals first
        | exact ((hb.alloc (by omega) _).drew).grown hgrow (by simp; omega) (fun k hk => by have := (hown.lt k hk).1; omega)
        | (rw [HP.out]; exact hown1)
    · have ix := idx4 r g b a wr
      have hn := dv_bd8 a
      have HP : Hid (bv ((prt r g b a).take (1 + 2 * 4)) = bv ((prt r g b a).take (1 + 2 * 3)) ++ [.int .u8 (hx (dv (cl a) 257 / 16)).toNat, .int .u8 (hx (dv (cl a) 257 % 16)).toNat]) := by
        show _ = _
        simp [prt, hx2, bv]
      generalize hnn : dv (cl a) 257 = n at hn HP
      have HN := Lib.hid hnn
      clear hnn
      go_wp2_with fail
      refine (to8_any _ _).mono ?_
      rintro e w' ⟨rfl, rfl⟩
      rw [HN.out]
      go_wp2_with fail
      have e1 : IntKind.i64.wrap (n.tdiv 16) = n / 16 := by rw [Int.tdiv_eq_ediv_of_nonneg hn.1]; exact IntWalk.i64_in _ (by omega)
      have e2 : n.tmod 16 = n % 16 := Int.tmod_eq_emod_of_nonneg hn.1
      have e3 := fun w => idxHex (n / 16) (by omega) (by omega) w
      have e4 := fun w => idxHex (n % 16) (by omega) (by omega) w
      clear ix
      obtain ⟨i0, hi, hz0, hz1, hz2⟩ := info_parts infoU8
      have hbz := hb.size
      go_region_held3 (fun _ => True) (trivial)
        ((refine step_append_lies _ (by rfl) _ _ _ (by rfl) (w.heap.size + 1) 5 i0 _ 1 1 Try.underlying49 hi hz0 hz1 hz2 rfl (by omega) _ _ _ (by rfl) ((hown.alloc _).drew) ⟨wr.heap.size, 0, none⟩ 2 2 [.int .u8 (hx (n / 16)).toNat, .int .u8 (hx (n % 16)).toNat] (by rfl) (by rfl) (World.news_of_block (cs := #[.int .u8 (hx (n / 16)).toNat, .int .u8 (hx (n % 16)).toNat]) (t := 5) (fr := (0, 0)) (heap_alloc_new wr _)) (by simp [Value.oneCell']) (by omega) (by decide) (by decide) (by simp; omega) (wr.heap.size + 1) (by simp) ?_; intro gg cap w1 hown1 hgrow hat hlt))
      clear e1 e2 e3 e4
      all_goals go_wp2
      all_goals refine ⟨⟨4, by omega, rfl, ?_, ?_⟩, by simp [intOf]⟩
      all_goals first
        | exact ((hb.alloc (by omega) _).drew).grown hgrow (by simp; omega) (fun k hk => by have := (hown.lt k hk).1; omega)
        | (rw [HP.out]; exact hown1)
    · have hfull : (prt r g b a).take (1 + 2 * 4) = prt r g b a := by simp [prt, hx2]
      have hlen : (prt r g b a).length = 9 := by simp [prt, hx2]
      rw [hfull] at hown
      obtain ⟨gg, cap, hv, hc⟩ := ownsBytes hown hlen
      clear hown hfull
      subst hv
      have hcv := run_convert_bytes_back (P := Try.prog) wr 49 9 5 ⟨gg, 0, none⟩ cap (prt r g b a) Try.underlying49 Try.underlying5 Try.underlying9 hc
      rw [hlen] at hcv
      clear hc hlen
      go_wp2
      go_ret
      exact ⟨rfl, hb⟩
end Go.Proofs.Ytmkieeaikhndcaa
