/- The walks of num.Hypot and of its reference. -/
import Derived.Test.YtflegfoalkkkdaaDoorNumRef
import Derived.Test.YtflegfoalkkkdaaDoorHypPlain
import Derived.Laws.Bits64b
import Derived.Laws.Externs
import Derived.Lib.Mul64
namespace Go.Proofs.YtflegfoalkkkdaaDoor
open Go.RowKit
set_option linter.unusedVariables false

theorem mag_u64 (a : Int) (h0 : a < 0) (h1 : -9223372036854775808 ≤ a) : IntKind.u64.wrap (-IntKind.u64.wrap a) = (a.natAbs : Nat) := by
  rw [IntKind.wrap_u64, IntKind.wrap_u64]; omega

set_option maxHeartbeats 400000 in
theorem mag_any (a : Int) (w : World) (h1 : -9223372036854775808 ≤ a) (h2 : a ≤ 9223372036854775807) :
    Calls Tryd.prog 60 #[.int .i64 a] w fun e w' => e = .returned (.int .u64 (a.natAbs : Nat)) ∧ w = w' := by
  by_cases h0 : a < 0
  · go_enter Tryd.func60, Tryd.ntmps60
    go_wp2
    go_ret
    exact ⟨ret_int (mag_u64 a h0 h1), rfl⟩
  · go_enter Tryd.func60, Tryd.ntmps60
    go_wp2
    go_ret
    exact ⟨ret_int (by omega), rfl⟩

set_option maxHeartbeats 400000 in
theorem refAbs_any (a : Int) (w : World) (h1 : -9223372036854775808 ≤ a) (h2 : a ≤ 9223372036854775807) :
    Calls Tryd.prog 52 #[.int .i64 a] w fun e w' => e = .returned (.int .u64 (a.natAbs : Nat)) ∧ w = w' := by
  by_cases h0 : a < 0
  · go_enter Tryd.func52, Tryd.ntmps52
    go_wp2
    go_ret
    exact ⟨ret_int (by have := mag_u64 a h0 h1; simpa using this), rfl⟩
  · go_enter Tryd.func52, Tryd.ntmps52
    go_wp2
    go_ret
    exact ⟨ret_int (by omega), rfl⟩

theorem maskN (a : Nat) (ha : a < 18446744073709551616) : bits .and .u64 (a : Int) 4294967295 = ((a % 4294967296 : Nat) : Int) := by
  have h := bits_and_u64_nat a 4294967295 ha (by omega)
  have e : a &&& 4294967295 = a % 4294967296 := Nat.and_two_pow_sub_one_eq_mod a 32
  rw [e] at h
  exact h
theorem divN (a : Nat) : (a : Int) / 4294967296 = ((a / 4294967296 : Nat) : Int) := by omega
theorem mulN (a b : Nat) : (a : Int) * (b : Int) = ((a * b : Nat) : Int) := (Int.natCast_mul a b).symm
theorem addN (a b : Nat) : (a : Int) + (b : Int) = ((a + b : Nat) : Int) := (Int.natCast_add a b).symm
theorem wrapN (a : Nat) (ha : a < 18446744073709551616) : IntKind.u64.wrap (a : Int) = (a : Int) := by rw [IntKind.wrap_u64]; omega
theorem wrapM (a : Nat) : IntKind.u64.wrap (a : Int) = ((a % 18446744073709551616 : Nat) : Int) := by rw [IntKind.wrap_u64]; omega

set_option maxHeartbeats 1000000 in
theorem mul64_any (x y : Nat) (w : World) (hx : x < 18446744073709551616) (hy : y < 18446744073709551616) :
    Calls Tryd.prog 59 #[.int .u64 x, .int .u64 y] w fun e w' => e = .returned (.tuple #[.int .u64 ((x * y / 18446744073709551616 : Nat) : Int), .int .u64 ((x * y % 18446744073709551616 : Nat) : Int)]) ∧ w = w' := by
  obtain ⟨bd, bt, bw, hhi⟩ := Lib.mul64_hi x y hx hy
  have ba := Lib.half_mul_le (a := x / 4294967296) (b := y / 4294967296) (by omega) (by omega)
  have bb := Lib.half_mul_le (a := x / 4294967296) (b := y % 4294967296) (by omega) (by omega)
  have bc := Lib.half_mul_le (a := x % 4294967296) (b := y / 4294967296) (by omega) (by omega)
  have ba' : x / 4294967296 * (y / 4294967296) < 18446744073709551616 := by omega
  have bb' : x / 4294967296 * (y % 4294967296) < 18446744073709551616 := by omega
  have bc' : x % 4294967296 * (y / 4294967296) < 18446744073709551616 := by omega
  have bh1 : x / 4294967296 * (y / 4294967296) + (x / 4294967296 * (y % 4294967296) + x % 4294967296 * (y % 4294967296) / 4294967296) / 4294967296 < 18446744073709551616 := by omega
  have bh : x / 4294967296 * (y / 4294967296) + (x / 4294967296 * (y % 4294967296) + x % 4294967296 * (y % 4294967296) / 4294967296) / 4294967296 + ((x / 4294967296 * (y % 4294967296) + x % 4294967296 * (y % 4294967296) / 4294967296) % 4294967296 + x % 4294967296 * (y / 4294967296)) / 4294967296 < 18446744073709551616 := by omega
  have HH := Lib.hid hhi
  clear hhi
  go_enter Tryd.func59, Tryd.ntmps59
  go_wp2
  simp only [maskN x hx, maskN y hy, divN, mulN, addN, wrapN _ bd, wrapN _ bb', wrapN _ bt, maskN _ bt, wrapN _ bc', wrapN _ bw, wrapN _ ba', wrapN _ bh1, wrapN _ bh, wrapM (x * y)]
  rw [HH.out]
  go_ret2
  exact ⟨rfl, rfl⟩

set_option maxHeartbeats 1000000 in
theorem product_any (x y : Nat) (w : World) (hx : x < 18446744073709551616) (hy : y < 18446744073709551616) :
    Calls Tryd.prog 53 #[.int .u64 x, .int .u64 y] w fun e w' => e = .returned (.tuple #[.int .u64 ((x * y / 18446744073709551616 : Nat) : Int), .int .u64 ((x * y % 18446744073709551616 : Nat) : Int)]) ∧ w = w' := by
  obtain ⟨bd, bt, bw, hhi⟩ := Lib.mul64_hi x y hx hy
  rw [Nat.add_comm (_ % 4294967296) (x % 4294967296 * (y / 4294967296))] at bw hhi
  have ba := Lib.half_mul_le (a := x / 4294967296) (b := y / 4294967296) (by omega) (by omega)
  have bb := Lib.half_mul_le (a := x / 4294967296) (b := y % 4294967296) (by omega) (by omega)
  have bc := Lib.half_mul_le (a := x % 4294967296) (b := y / 4294967296) (by omega) (by omega)
  have ba' : x / 4294967296 * (y / 4294967296) < 18446744073709551616 := by omega
  have bb' : x / 4294967296 * (y % 4294967296) < 18446744073709551616 := by omega
  have bc' : x % 4294967296 * (y / 4294967296) < 18446744073709551616 := by omega
  have bh1 : x / 4294967296 * (y / 4294967296) + (x / 4294967296 * (y % 4294967296) + x % 4294967296 * (y % 4294967296) / 4294967296) / 4294967296 < 18446744073709551616 := by omega
  have bh : x / 4294967296 * (y / 4294967296) + (x / 4294967296 * (y % 4294967296) + x % 4294967296 * (y % 4294967296) / 4294967296) / 4294967296 + (x % 4294967296 * (y / 4294967296) + (x / 4294967296 * (y % 4294967296) + x % 4294967296 * (y % 4294967296) / 4294967296) % 4294967296) / 4294967296 < 18446744073709551616 := by omega
  have HH := Lib.hid hhi
  clear hhi
  go_enter Tryd.func53, Tryd.ntmps53
  go_wp2
  simp only [maskN x hx, maskN y hy, divN, mulN, addN, wrapN _ bd, wrapN _ bb', wrapN _ bt, maskN _ bt, wrapN _ bc', wrapN _ bw, wrapN _ ba', wrapN _ bh1, wrapN _ bh, wrapM (x * y)]
  rw [HH.out]
  go_ret2
  exact ⟨rfl, rfl⟩

theorem add64_0 (x y : Int) (hx : 0 ≤ x) (hy : 0 ≤ y) (h : x + y < 18446744073709551616) (w : World) :
    (callFunc 61 #[.int .u64 x, .int .u64 y, .int .u64 0]).run Tryd.prog w = .ok (.value (.tuple #[.int .u64 (x + y), .int .u64 0])) w := by
  rw [run_callFunc_extern Tryd.func61 (by kernel_rfl) (by kernel_rfl) (by kernel_rfl) (e := add64Entry) (by kernel_rfl), run_add64 x y 0 hx hy (by omega) (by omega)]
  have e1 : (x + y + 0) % 18446744073709551616 = x + y := by omega
  have e2 : (x + y + 0) / 18446744073709551616 = 0 := by omega
  rw [e1, e2]
  rfl

theorem sq_bd (n : Nat) (h : n ≤ 1073741824) : n * n ≤ 1152921504606846976 := by
  have := Nat.mul_le_mul h h
  omega
theorem natAbs_sq (x : Int) : ((x.natAbs * x.natAbs : Nat) : Int) = x * x := by
  rw [Int.natCast_mul]
  rcases Int.natAbs_eq x with h | h
  · rw [← h]
  · rw [h, Int.natAbs_neg, Int.natAbs_natCast, Int.neg_mul_neg]

/-- What a round of the root comes to: the 128-bit square held against N. -/
theorem round_lt (c N : Nat) (hN : N ≤ 2305843009213693952) : (c * c / 18446744073709551616 = 0 → (c * c ≤ N ↔ c * c % 18446744073709551616 ≤ N)) ∧ (c * c / 18446744073709551616 ≠ 0 → ¬ c * c ≤ N) := by
  generalize c * c = q
  omega

theorem hyp_lt31 (N : Nat) (hN : N ≤ 2305843009213693952) : hyp N 64 < 2147483648 := by
  have h := hyp_sq N 64
  rcases Nat.lt_or_ge (hyp N 64) 2147483648 with h1 | h1
  · exact h1
  · have := Nat.mul_le_mul h1 h1
    omega

set_option maxRecDepth 100000 in
set_option maxHeartbeats 1000000 in
theorem hypot_any (x y : Int) (w : World) (hx1 : -1073741824 ≤ x) (hx2 : x ≤ 1073741824) (hy1 : -1073741824 ≤ y) (hy2 : y ≤ 1073741824) :
    Calls Tryd.prog 50 #[.int .i64 x, .int .i64 y] w fun e w' => e = .returned (.int .i64 (hypot x y)) ∧ w = w' := by
  have sx := sq_bd x.natAbs (by omega)
  have sy := sq_bd y.natAbs (by omega)
  have HN : Hid ((x * x + y * y).toNat = x.natAbs * x.natAbs + y.natAbs * y.natAbs) := by
    show _ = _
    rw [← natAbs_sq x, ← natAbs_sq y]; omega
  have HQ : Hid (hypot x y = (hyp (x.natAbs * x.natAbs + y.natAbs * y.natAbs) 64 : Nat)) := by
    show _ = _
    unfold hypot; rw [HN.out]
  have hxn : x.natAbs < 18446744073709551616 := by omega
  have hyn : y.natAbs < 18446744073709551616 := by omega
  clear HN
  go_enter Tryd.func50, Tryd.ntmps50
  go_wp2_with fail
  refine (mag_any _ _ (by omega) (by omega)).mono ?_
  rintro e w' ⟨rfl, rfl⟩
  go_wp2_with fail
  refine (mag_any _ _ (by omega) (by omega)).mono ?_
  rintro e w' ⟨rfl, rfl⟩
  go_wp2_with fail
  refine (mul64_any _ _ _ hxn hxn).mono ?_
  rintro e w' ⟨rfl, rfl⟩
  rw [Nat.div_eq_of_lt (show x.natAbs * x.natAbs < 18446744073709551616 by omega), Nat.mod_eq_of_lt (show x.natAbs * x.natAbs < 18446744073709551616 by omega)]
  generalize x.natAbs * x.natAbs = X at *
  go_wp2_with fail
  refine (mag_any _ _ (by omega) (by omega)).mono ?_
  rintro e w' ⟨rfl, rfl⟩
  go_wp2_with fail
  refine (mag_any _ _ (by omega) (by omega)).mono ?_
  rintro e w' ⟨rfl, rfl⟩
  go_wp2_with fail
  refine (mul64_any _ _ _ hyn hyn).mono ?_
  rintro e w' ⟨rfl, rfl⟩
  rw [Nat.div_eq_of_lt (show y.natAbs * y.natAbs < 18446744073709551616 by omega), Nat.mod_eq_of_lt (show y.natAbs * y.natAbs < 18446744073709551616 by omega)]
  generalize y.natAbs * y.natAbs = Y at *
  have HA := Lib.hid (add64_0 (X : Int) (Y : Int) (by omega) (by omega) (by omega))
  have HZ := Lib.hid (add64_0 0 0 (by omega) (by omega) (by omega))
  go_wp2_with (first | simp only [HA.out] | simp only [HZ.out])
  clear HA HZ
  go_loop [7, 8, 10, 11, 12] (fun _ _ r b _ => ∃ k : Nat, k ≤ 64 ∧ b = .int .u64 (bitAt k : Nat) ∧ r = .int .u64 (hyp (X + Y) k : Nat)) (fun _ _ _ b _ => (intOf b).toNat)
  case atStart => exact ⟨0, by omega, rfl, rfl⟩
  case round =>
    obtain ⟨k, hk, rfl, rfl⟩ := hrel
    by_cases hlt : k < 64
    · have hp := bitAt_pos k hlt
      have hl := hyp_lt (X + Y) k hlt
      have hor := hyp_or (X + Y) k hlt
      have ho : bits .or .u64 (hyp (X + Y) k : Int) (bitAt k : Int) = ((hyp (X + Y) k + bitAt k : Nat) : Int) := by
        rw [bits_or_u64_nat _ _ (by omega) (by omega), hor]
      have HS : Hid (hyp (X + Y) (k + 1) = if (hyp (X + Y) k + bitAt k) * (hyp (X + Y) k + bitAt k) ≤ X + Y then hyp (X + Y) k + bitAt k else hyp (X + Y) k) := hyp_succ _ _
      have HB := Lib.hid (bitAt_succ k)
      have hrd := round_lt (hyp (X + Y) k + bitAt k) (X + Y) (by omega)
      have hnz : (((bitAt k : Nat) : Int) != 0) = true := by rw [bne_iff_ne]; omega
      clear hor
      generalize hyp (X + Y) k = r at *
      generalize bitAt k = b at *
      have hm : (((r + b) * (r + b) / 18446744073709551616 : Nat) : Int) < 18446744073709551616 := by
        have := Nat.mul_lt_mul'' hl hl
        omega
      rcases Nat.eq_zero_or_pos ((r + b) * (r + b) / 18446744073709551616) with hq | hq
      · have hrd' := hrd.1 hq
        have hz1 : ((((r + b) * (r + b) / 18446744073709551616 : Nat) : Int) == 0) = true := by rw [beq_iff_eq]; omega
        have HT := Lib.hid hrd'
        have HZ := Lib.hid hq
        clear hrd hrd' hq hm hz1
        go_wp2_with fail
        rw [addN]
        refine (mul64_any _ _ _ hl hl).mono ?_
        rintro e w' ⟨rfl, rfl⟩
        rw [HZ.out]
        generalize (r + b) * (r + b) = c at *
        have hmod := Nat.mod_lt c (show 0 < 18446744073709551616 by omega)
        generalize c % 18446744073709551616 = m at *
        by_cases hc : m ≤ X + Y
        · go_wp2_with fail
          go_round
          case rel => exact ⟨k + 1, by omega, by rw [HB.out]; go_num, by rw [HS.out, if_pos (HT.out.2 hc)]; go_num⟩
          case measure => simp [intOf]; omega
        · go_wp2_with fail
          go_round
          case rel => exact ⟨k + 1, by omega, by rw [HB.out]; go_num, by rw [HS.out, if_neg (fun h => hc (HT.out.1 h))]⟩
          case measure => simp [intOf]; omega
      · have hrd' := hrd.2 (by omega)
        have hz1 : ((((r + b) * (r + b) / 18446744073709551616 : Nat) : Int) == 0) = false := by rw [beq_eq_false_iff_ne]; omega
        have HT := Lib.hid hrd'
        clear hrd hrd'
        go_wp2_with fail
        rw [addN]
        refine (mul64_any _ _ _ hl hl).mono ?_
        rintro e w' ⟨rfl, rfl⟩
        generalize hgd : (r + b) * (r + b) / 18446744073709551616 = d at *
        have HD := Lib.hid hgd
        clear hgd hm
        generalize (r + b) * (r + b) % 18446744073709551616 = m at *
        have hd0 : decide ((d : Int) < 0) = false := by simp
        go_wp2_with fail
        go_round
        case rel => exact ⟨k + 1, by omega, by rw [HB.out]; go_num, by rw [HS.out, if_neg HT.out]⟩
        case measure => simp [intOf]; omega
    · obtain rfl : k = 64 := by omega
      rw [bitAt_end]
      have hsq := hyp_lt31 (X + Y) (by omega)
      generalize hyp (X + Y) 64 = r at *
      go_wp2
      go_ret
      exact ⟨ret_int (by rw [HQ.out]), rfl⟩
set_option maxHeartbeats 400000 in
theorem signed_pos (r : Nat) (w : World) (h : r ≤ 9223372036854775807) :
    Calls Tryd.prog 54 #[.int .u64 0, .int .u64 r, .bool false] w fun e w' => e = .returned (.int .i64 r) ∧ w = w' := by
  go_enter Tryd.func54, Tryd.ntmps54
  go_wp2
  go_ret
  exact ⟨rfl, rfl⟩

set_option maxRecDepth 100000 in
set_option maxHeartbeats 1000000 in
theorem refHypot_any (x y : Int) (w : World) (hx1 : -1073741824 ≤ x) (hx2 : x ≤ 1073741824) (hy1 : -1073741824 ≤ y) (hy2 : y ≤ 1073741824) :
    Calls Tryd.prog 42 #[.int .i64 x, .int .i64 y] w fun e w' => e = .returned (.int .i64 (hypot x y)) ∧ w = w' := by
  have sx := sq_bd x.natAbs (by omega)
  have sy := sq_bd y.natAbs (by omega)
  have HN : Hid ((x * x + y * y).toNat = x.natAbs * x.natAbs + y.natAbs * y.natAbs) := by
    show _ = _
    rw [← natAbs_sq x, ← natAbs_sq y]; omega
  have HQ : Hid (hypot x y = (hyp (x.natAbs * x.natAbs + y.natAbs * y.natAbs) 64 : Nat)) := by
    show _ = _
    unfold hypot; rw [HN.out]
  have hxn : x.natAbs < 18446744073709551616 := by omega
  have hyn : y.natAbs < 18446744073709551616 := by omega
  clear HN
  go_enter Tryd.func42, Tryd.ntmps42
  go_wp2_with fail
  refine (refAbs_any _ _ (by omega) (by omega)).mono ?_
  rintro e w' ⟨rfl, rfl⟩
  go_wp2_with fail
  refine (refAbs_any _ _ (by omega) (by omega)).mono ?_
  rintro e w' ⟨rfl, rfl⟩
  go_wp2_with fail
  refine (product_any _ _ _ hxn hxn).mono ?_
  rintro e w' ⟨rfl, rfl⟩
  rw [Nat.div_eq_of_lt (show x.natAbs * x.natAbs < 18446744073709551616 by omega), Nat.mod_eq_of_lt (show x.natAbs * x.natAbs < 18446744073709551616 by omega)]
  generalize x.natAbs * x.natAbs = X at *
  go_wp2_with fail
  refine (refAbs_any _ _ (by omega) (by omega)).mono ?_
  rintro e w' ⟨rfl, rfl⟩
  go_wp2_with fail
  refine (refAbs_any _ _ (by omega) (by omega)).mono ?_
  rintro e w' ⟨rfl, rfl⟩
  go_wp2_with fail
  refine (product_any _ _ _ hyn hyn).mono ?_
  rintro e w' ⟨rfl, rfl⟩
  rw [Nat.div_eq_of_lt (show y.natAbs * y.natAbs < 18446744073709551616 by omega), Nat.mod_eq_of_lt (show y.natAbs * y.natAbs < 18446744073709551616 by omega)]
  generalize y.natAbs * y.natAbs = Y at *
  have dl : decide ((X : Int) + (Y : Int) < (X : Int)) = false := by simp; omega
  go_wp2_with fail
  clear dl
  go_loop [11, 12, 13, 14] (fun r b _ _ => ∃ k : Nat, k ≤ 64 ∧ b = .int .u64 (bitAt k : Nat) ∧ r = .int .u64 (hyp (X + Y) k : Nat)) (fun _ b _ _ => (intOf b).toNat)
  case atStart => exact ⟨0, by omega, rfl, rfl⟩
  case round =>
    obtain ⟨k, hk, rfl, rfl⟩ := hrel
    by_cases hlt : k < 64
    · have hp := bitAt_pos k hlt
      have hl := hyp_lt (X + Y) k hlt
      have hor := hyp_or (X + Y) k hlt
      have ho : bits .or .u64 (hyp (X + Y) k : Int) (bitAt k : Int) = ((hyp (X + Y) k + bitAt k : Nat) : Int) := by
        rw [bits_or_u64_nat _ _ (by omega) (by omega), hor]
      have HS : Hid (hyp (X + Y) (k + 1) = if (hyp (X + Y) k + bitAt k) * (hyp (X + Y) k + bitAt k) ≤ X + Y then hyp (X + Y) k + bitAt k else hyp (X + Y) k) := hyp_succ _ _
      have HB := Lib.hid (bitAt_succ k)
      have hrd := round_lt (hyp (X + Y) k + bitAt k) (X + Y) (by omega)
      have hnz : decide (((bitAt k : Nat) : Int) > 0) = true := by simp; omega
      clear hor
      generalize hyp (X + Y) k = r at *
      generalize bitAt k = b at *
      have hm : (((r + b) * (r + b) / 18446744073709551616 : Nat) : Int) < 18446744073709551616 := by
        have := Nat.mul_lt_mul'' hl hl
        omega
      rcases Nat.eq_zero_or_pos ((r + b) * (r + b) / 18446744073709551616) with hq | hq
      · have hrd' := hrd.1 hq
        have hz1 : ((((r + b) * (r + b) / 18446744073709551616 : Nat) : Int) == 0) = true := by rw [beq_iff_eq]; omega
        have HT := Lib.hid hrd'
        have HZ := Lib.hid hq
        clear hrd hrd' hq hm hz1
        go_wp2_with fail
        rw [addN]
        refine (product_any _ _ _ hl hl).mono ?_
        rintro e w' ⟨rfl, rfl⟩
        rw [HZ.out]
        generalize (r + b) * (r + b) = c at *
        have hmod := Nat.mod_lt c (show 0 < 18446744073709551616 by omega)
        generalize c % 18446744073709551616 = m at *
        by_cases hc : m ≤ X + Y
        · go_wp2_with fail
          go_round
          case rel => exact ⟨k + 1, by omega, by rw [HB.out]; go_num, by rw [HS.out, if_pos (HT.out.2 hc)]; go_num⟩
          case measure => simp [intOf]; omega
        · go_wp2_with fail
          go_round
          case rel => exact ⟨k + 1, by omega, by rw [HB.out]; go_num, by rw [HS.out, if_neg (fun h => hc (HT.out.1 h))]⟩
          case measure => simp [intOf]; omega
      · have hrd' := hrd.2 (by omega)
        have hz1 : ((((r + b) * (r + b) / 18446744073709551616 : Nat) : Int) == 0) = false := by rw [beq_eq_false_iff_ne]; omega
        have HT := Lib.hid hrd'
        clear hrd hrd'
        go_wp2_with fail
        rw [addN]
        refine (product_any _ _ _ hl hl).mono ?_
        rintro e w' ⟨rfl, rfl⟩
        generalize hgd : (r + b) * (r + b) / 18446744073709551616 = d at *
        have HD := Lib.hid hgd
        clear hgd hm
        generalize (r + b) * (r + b) % 18446744073709551616 = m at *
        have hd0 : decide ((d : Int) < 0) = false := by simp
        go_wp2_with fail
        go_round
        case rel => exact ⟨k + 1, by omega, by rw [HB.out]; go_num, by rw [HS.out, if_neg HT.out]⟩
        case measure => simp [intOf]; omega
    · obtain rfl : k = 64 := by omega
      rw [bitAt_end]
      have hsq := hyp_lt31 (X + Y) (by omega)
      generalize hyp (X + Y) 64 = r at *
      go_wp2_with fail
      refine (signed_pos _ _ (by omega)).mono ?_
      rintro e w' ⟨rfl, rfl⟩
      go_wp2_with fail
      go_ret
      exact ⟨ret_int (by rw [HQ.out]), rfl⟩
end Go.Proofs.YtflegfoalkkkdaaDoor
