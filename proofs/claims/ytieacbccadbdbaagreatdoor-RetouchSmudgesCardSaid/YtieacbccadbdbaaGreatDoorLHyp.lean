/- Several texts in one: Hyp, HypW. -/
import Derived.Test.YtieacbccadbdbaaGreatDoorLNum
import Derived.Test.YtieacbccadbdbaaGreatDoorLPlain
import Derived.Laws.Bits64b
import Derived.Laws.Externs
import Derived.Lib.Mul64

/- The walks of num.Hypot and of its reference. -/
namespace Go.Proofs.YtieacbccadbdbaaGreatDoor
open Go.RowKit
set_option linter.unusedVariables false

theorem mag_u64 (a : Int) (h0 : a < 0) (h1 : -9223372036854775808 ≤ a) : IntKind.u64.wrap (-IntKind.u64.wrap a) = (a.natAbs : Nat) := by
  rw [IntKind.wrap_u64, IntKind.wrap_u64]; omega

set_option maxHeartbeats 400000 in
theorem mag_any (a : Int) (w : World) (h1 : -9223372036854775808 ≤ a) (h2 : a ≤ 9223372036854775807) :
    Calls Tryz.prog 131 #[.int .i64 a] w fun e w' => e = .returned (.int .u64 (a.natAbs : Nat)) ∧ w = w' := by
  by_cases h0 : a < 0
  · go_enter Tryz.func131, Tryz.ntmps131
    go_wp2
    go_ret
    exact ⟨ret_int (mag_u64 a h0 h1), rfl⟩
  · go_enter Tryz.func131, Tryz.ntmps131
    go_wp2
    go_ret
    exact ⟨ret_int (by omega), rfl⟩

set_option maxHeartbeats 400000 in
theorem refAbs_any (a : Int) (w : World) (h1 : -9223372036854775808 ≤ a) (h2 : a ≤ 9223372036854775807) :
    Calls Tryz.prog 108 #[.int .i64 a] w fun e w' => e = .returned (.int .u64 (a.natAbs : Nat)) ∧ w = w' := by
  by_cases h0 : a < 0
  · go_enter Tryz.func108, Tryz.ntmps108
    go_wp2
    go_ret
    exact ⟨ret_int (by have := mag_u64 a h0 h1; simpa using this), rfl⟩
  · go_enter Tryz.func108, Tryz.ntmps108
    go_wp2
    go_ret
    exact ⟨ret_int (by omega), rfl⟩

theorem maskN (a : Nat) (ha : a < 18446744073709551616) : bits .and .u64 (a : Int) 4294967295 = ((a % 4294967296 : Nat) : Int) := by
  have h := bits_and_u64_nat a 4294967295 ha (by omega)
  have e : a &&& 4294967295 = a % 4294967296 := Nat.and_two_pow_sub_one_eq_mod a 32
  rw [e] at h
  exact h
theorem divN (a : Nat) : (a : Int) / 4294967296 = ((a / 4294967296 : Nat) : Int) := by omega
theorem mulN (a b : Nat) : (a : Int) * (b : Int) = ((a * b : Nat) : Int) := (Int.natCast_mul a b).symm
theorem addN (a b : Nat) : (a : Int) + (b : Int) = ((a + b : Nat) : Int) := (Int.natCast_add a b).symm
theorem wrapN (a : Nat) (ha : a < 18446744073709551616) : IntKind.u64.wrap (a : Int) = (a : Int) := by rw [IntKind.wrap_u64]; omega
theorem wrapM (a : Nat) : IntKind.u64.wrap (a : Int) = ((a % 18446744073709551616 : Nat) : Int) := by rw [IntKind.wrap_u64]; omega

set_option maxHeartbeats 1000000 in
theorem mul64_any (x y : Nat) (w : World) (hx : x < 18446744073709551616) (hy : y < 18446744073709551616) :
    Calls Tryz.prog 130 #[.int .u64 x, .int .u64 y] w fun e w' => e = .returned (.tuple #[.int .u64 ((x * y / 18446744073709551616 : Nat) : Int), .int .u64 ((x * y % 18446744073709551616 : Nat) : Int)]) ∧ w = w' := by
  obtain ⟨bd, bt, bw, hhi⟩ := Lib.mul64_hi x y hx hy
  have ba := Lib.half_mul_le (a := x / 4294967296) (b := y / 4294967296) (by omega) (by omega)
  have bb := Lib.half_mul_le (a := x / 4294967296) (b := y % 4294967296) (by omega) (by omega)
  have bc := Lib.half_mul_le (a := x % 4294967296) (b := y / 4294967296) (by omega) (by omega)
  have ba' : x / 4294967296 * (y / 4294967296) < 18446744073709551616 := by omega
  have bb' : x / 4294967296 * (y % 4294967296) < 18446744073709551616 := by omega
  have bc' : x % 4294967296 * (y / 4294967296) < 18446744073709551616 := by omega
  have bh1 : x / 4294967296 * (y / 4294967296) + (x / 4294967296 * (y % 4294967296) + x % 4294967296 * (y % 4294967296) / 4294967296) / 4294967296 < 18446744073709551616 := by omega
  have bh : x / 4294967296 * (y / 4294967296) + (x / 4294967296 * (y % 4294967296) + x % 4294967296 * (y % 4294967296) / 4294967296) / 4294967296 + ((x / 4294967296 * (y % 4294967296) + x % 4294967296 * (y % 4294967296) / 4294967296) % 4294967296 + x % 4294967296 * (y / 4294967296)) / 4294967296 < 18446744073709551616 := by omega
  have HH := Lib.hid hhi
  clear hhi
  go_enter Tryz.func130, Tryz.ntmps130
  go_wp2
  simp only [maskN x hx, maskN y hy, divN, mulN, addN, wrapN _ bd, wrapN _ bb', wrapN _ bt, maskN _ bt, wrapN _ bc', wrapN _ bw, wrapN _ ba', wrapN _ bh1, wrapN _ bh, wrapM (x * y)]
  rw [HH.out]
  go_ret2
  exact ⟨rfl, rfl⟩

set_option maxHeartbeats 1000000 in
theorem product_any (x y : Nat) (w : World) (hx : x < 18446744073709551616) (hy : y < 18446744073709551616) :
    Calls Tryz.prog 122 #[.int .u64 x, .int .u64 y] w fun e w' => e = .returned (.tuple #[.int .u64 ((x * y / 18446744073709551616 : Nat) : Int), .int .u64 ((x * y % 18446744073709551616 : Nat) : Int)]) ∧ w = w' := by
  obtain ⟨bd, bt, bw, hhi⟩ := Lib.mul64_hi x y hx hy
  rw [Nat.add_comm (_ % 4294967296) (x % 4294967296 * (y / 4294967296))] at bw hhi
  have ba := Lib.half_mul_le (a := x / 4294967296) (b := y / 4294967296) (by omega) (by omega)
  have bb := Lib.half_mul_le (a := x / 4294967296) (b := y % 4294967296) (by omega) (by omega)
  have bc := Lib.half_mul_le (a := x % 4294967296) (b := y / 4294967296) (by omega) (by omega)
  have ba' : x / 4294967296 * (y / 4294967296) < 18446744073709551616 := by omega
  have bb' : x / 4294967296 * (y % 4294967296) < 18446744073709551616 := by omega
  have bc' : x % 4294967296 * (y / 4294967296) < 18446744073709551616 := by omega
  have bh1 : x / 4294967296 * (y / 4294967296) + (x / 4294967296 * (y % 4294967296) + x % 4294967296 * (y % 4294967296) / 4294967296) / 4294967296 < 18446744073709551616 := by omega
  have bh : x / 4294967296 * (y / 4294967296) + (x / 4294967296 * (y % 4294967296) + x % 4294967296 * (y % 4294967296) / 4294967296) / 4294967296 + (x % 4294967296 * (y / 4294967296) + (x / 4294967296 * (y % 4294967296) + x % 4294967296 * (y % 4294967296) / 4294967296) % 4294967296) / 4294967296 < 18446744073709551616 := by omega
  have HH := Lib.hid hhi
  clear hhi
  go_enter Tryz.func122, Tryz.ntmps122
  go_wp2
  simp only [maskN x hx, maskN y hy, divN, mulN, addN, wrapN _ bd, wrapN _ bb', wrapN _ bt, maskN _ bt, wrapN _ bc', wrapN _ bw, wrapN _ ba', wrapN _ bh1, wrapN _ bh, wrapM (x * y)]
  rw [HH.out]
  go_ret2
  exact ⟨rfl, rfl⟩

theorem add64_0 (x y : Int) (hx : 0 ≤ x) (hy : 0 ≤ y) (h : x + y < 18446744073709551616) (w : World) :
    (callFunc 132 #[.int .u64 x, .int .u64 y, .int .u64 0]).run Tryz.prog w = .ok (.value (.tuple #[.int .u64 (x + y), .int .u64 0])) w := by
  rw [run_callFunc_extern Tryz.func132 (by kernel_rfl) (by kernel_rfl) (by kernel_rfl) (e := add64Entry) (by kernel_rfl), run_add64 x y 0 hx hy (by omega) (by omega)]
  have e1 : (x + y + 0) % 18446744073709551616 = x + y := by omega
  have e2 : (x + y + 0) / 18446744073709551616 = 0 := by omega
  rw [e1, e2]
  rfl

theorem sq_bd (n : Nat) (h : n ≤ 1073741824) : n * n ≤ 1152921504606846976 := by
  have := Nat.mul_le_mul h h
  omega
theorem natAbs_sq (x : Int) : ((x.natAbs * x.natAbs : Nat) : Int) = x * x := by
  rw [Int.natCast_mul]
  rcases Int.natAbs_eq x with h | h
  · rw [← h]
  · rw [h, Int.natAbs_neg, Int.natAbs_natCast, Int.neg_mul_neg]

/-- What a round of the root comes to: the 128-bit square held against N. -/
theorem round_lt (c N : Nat) (hN : N ≤ 2305843009213693952) : (c * c / 18446744073709551616 = 0 → (c * c ≤ N ↔ c * c % 18446744073709551616 ≤ N)) ∧ (c * c / 18446744073709551616 ≠ 0 → ¬ c * c ≤ N) := by
  generalize c * c = q
  omega

theorem hyp_lt31 (N : Nat) (hN : N ≤ 2305843009213693952) : hyp N 64 < 2147483648 := by
  have h := hyp_sq N 64
  rcases Nat.lt_or_ge (hyp N 64) 2147483648 with h1 | h1
  · exact h1
  · have := Nat.mul_le_mul h1 h1
    omega

set_option maxRecDepth 100000 in
set_option maxHeartbeats 1000000 in
theorem hypot_any (x y : Int) (w : World) (hx1 : -1073741824 ≤ x) (hx2 : x ≤ 1073741824) (hy1 : -1073741824 ≤ y) (hy2 : y ≤ 1073741824) :
    Calls Tryz.prog 99 #[.int .i64 x, .int .i64 y] w fun e w' => e = .returned (.int .i64 (hypot x y)) ∧ w = w' := by
  have sx := sq_bd x.natAbs (by omega)
  have sy := sq_bd y.natAbs (by omega)
  have HN : Hid ((x * x + y * y).toNat = x.natAbs * x.natAbs + y.natAbs * y.natAbs) := by
    show _ = _
    rw [← natAbs_sq x, ← natAbs_sq y]; omega
  have HQ : Hid (hypot x y = (hyp (x.natAbs * x.natAbs + y.natAbs * y.natAbs) 64 : Nat)) := by
    show _ = _
    unfold hypot; rw [HN.out]
  have hxn : x.natAbs < 18446744073709551616 := by omega
  have hyn : y.natAbs < 18446744073709551616 := by omega
  clear HN
  go_enter Tryz.func99, Tryz.ntmps99
  go_wp2_with fail
  refine (mag_any _ _ (by omega) (by omega)).mono ?_
  rintro e w' ⟨rfl, rfl⟩
  go_wp2_with fail
  refine (mag_any _ _ (by omega) (by omega)).mono ?_
  rintro e w' ⟨rfl, rfl⟩
  go_wp2_with fail
  refine (mul64_any _ _ _ hxn hxn).mono ?_
  rintro e w' ⟨rfl, rfl⟩
  rw [Nat.div_eq_of_lt (show x.natAbs * x.natAbs < 18446744073709551616 by omega), Nat.mod_eq_of_lt (show x.natAbs * x.natAbs < 18446744073709551616 by omega)]
  generalize x.natAbs * x.natAbs = X at *
  go_wp2_with fail
  refine (mag_any _ _ (by omega) (by omega)).mono ?_
  rintro e w' ⟨rfl, rfl⟩
  go_wp2_with fail
  refine (mag_any _ _ (by omega) (by omega)).mono ?_
  rintro e w' ⟨rfl, rfl⟩
  go_wp2_with fail
  refine (mul64_any _ _ _ hyn hyn).mono ?_
  rintro e w' ⟨rfl, rfl⟩
  rw [Nat.div_eq_of_lt (show y.natAbs * y.natAbs < 18446744073709551616 by omega), Nat.mod_eq_of_lt (show y.natAbs * y.natAbs < 18446744073709551616 by omega)]
  generalize y.natAbs * y.natAbs = Y at *
  have HA := Lib.hid (add64_0 (X : Int) (Y : Int) (by omega) (by omega) (by omega))
  have HZ := Lib.hid (add64_0 0 0 (by omega) (by omega) (by omega))
  go_wp2_with (first | simp only [HA.out] | simp only [HZ.out])
  clear HA HZ
  go_loop [7, 8, 10, 11, 12] (fun _ _ r b _ => ∃ k : Nat, k ≤ 64 ∧ b = .int .u64 (bitAt k : Nat) ∧ r = .int .u64 (hyp (X + Y) k : Nat)) (fun _ _ _ b _ => (intOf b).toNat)
  case atStart => exact ⟨0, by omega, rfl, rfl⟩
  case round =>
    obtain ⟨k, hk, rfl, rfl⟩ := hrel
    by_cases hlt : k < 64
    · have hp := bitAt_pos k hlt
      have hl := hyp_lt (X + Y) k hlt
      have hor := hyp_or (X + Y) k hlt
      have ho : bits .or .u64 (hyp (X + Y) k : Int) (bitAt k : Int) = ((hyp (X + Y) k + bitAt k : Nat) : Int) := by
        rw [bits_or_u64_nat _ _ (by omega) (by omega), hor]
      have HS : Hid (hyp (X + Y) (k + 1) = if (hyp (X + Y) k + bitAt k) * (hyp (X + Y) k + bitAt k) ≤ X + Y then hyp (X + Y) k + bitAt k else hyp (X + Y) k) := hyp_succ _ _
      have HB := Lib.hid (bitAt_succ k)
      have hrd := round_lt (hyp (X + Y) k + bitAt k) (X + Y) (by omega)
      have hnz : (((bitAt k : Nat) : Int) != 0) = true := by rw [bne_iff_ne]; omega
      clear hor
      generalize hyp (X + Y) k = r at *
      generalize bitAt k = b at *
      have hm : (((r + b) * (r + b) / 18446744073709551616 : Nat) : Int) < 18446744073709551616 := by
        have := Nat.mul_lt_mul'' hl hl
        omega
      rcases Nat.eq_zero_or_pos ((r + b) * (r + b) / 18446744073709551616) with hq | hq
      · have hrd' := hrd.1 hq
        have hz1 : ((((r + b) * (r + b) / 18446744073709551616 : Nat) : Int) == 0) = true := by rw [beq_iff_eq]; omega
        have HT := Lib.hid hrd'
        have HZ := Lib.hid hq
        clear hrd hrd' hq hm hz1
        go_wp2_with fail
        rw [addN]
        refine (mul64_any _ _ _ hl hl).mono ?_
        rintro e w' ⟨rfl, rfl⟩
        rw [HZ.out]
        generalize (r + b) * (r + b) = c at *
        have hmod := Nat.mod_lt c (show 0 < 18446744073709551616 by omega)
        generalize c % 18446744073709551616 = m at *
        by_cases hc : m ≤ X + Y
        · go_wp2_with fail
          go_round
          case rel => exact ⟨k + 1, by omega, by rw [HB.out]; go_num, by rw [HS.out, if_pos (HT.out.2 hc)]; go_num⟩
          case measure => simp [intOf]; omega
        · go_wp2_with fail
          go_round
          case rel => exact ⟨k + 1, by omega, by rw [HB.out]; go_num, by rw [HS.out, if_neg (fun h => hc (HT.out.1 h))]⟩
          case measure => simp [intOf]; omega
      · have hrd' := hrd.2 (by omega)
        have hz1 : ((((r + b) * (r + b) / 18446744073709551616 : Nat) : Int) == 0) = false := by rw [beq_eq_false_iff_ne]; omega
        have HT := Lib.hid hrd'
        clear hrd hrd'
        go_wp2_with fail
        rw [addN]
        refine (mul64_any _ _ _ hl hl).mono ?_
        rintro e w' ⟨rfl, rfl⟩
        generalize hgd : (r + b) * (r + b) / 18446744073709551616 = d at *
        have HD := Lib.hid hgd
        clear hgd hm
        generalize (r + b) * (r + b) % 18446744073709551616 = m at *
        have hd0 : decide ((d : Int) < 0) = false := by simp
        go_wp2_with fail
        go_round
        case rel => exact ⟨k + 1, by omega, by rw [HB.out]; go_num, by rw [HS.out, if_neg HT.out]⟩
        case measure => simp [intOf]; omega
    · obtain rfl : k = 64 := by omega
      rw [bitAt_end]
      have hsq := hyp_lt31 (X + Y) (by omega)
      generalize hyp (X + Y) 64 = r at *
      go_wp2
      go_ret
      exact ⟨ret_int (by rw [HQ.out]), rfl⟩
set_option maxHeartbeats 400000 in
theorem signed_pos (r : Nat) (w : World) (h : r ≤ 9223372036854775807) :
    Calls Tryz.prog 123 #[.int .u64 0, .int .u64 r, .bool false] w fun e w' => e = .returned (.int .i64 r) ∧ w = w' := by
  go_enter Tryz.func123, Tryz.ntmps123
  go_wp2
  go_ret
  exact ⟨rfl, rfl⟩

set_option maxRecDepth 100000 in
set_option maxHeartbeats 1000000 in
theorem refHypot_any (x y : Int) (w : World) (hx1 : -1073741824 ≤ x) (hx2 : x ≤ 1073741824) (hy1 : -1073741824 ≤ y) (hy2 : y ≤ 1073741824) :
    Calls Tryz.prog 85 #[.int .i64 x, .int .i64 y] w fun e w' => e = .returned (.int .i64 (hypot x y)) ∧ w = w' := by
  have sx := sq_bd x.natAbs (by omega)
  have sy := sq_bd y.natAbs (by omega)
  have HN : Hid ((x * x + y * y).toNat = x.natAbs * x.natAbs + y.natAbs * y.natAbs) := by
    show _ = _
    rw [← natAbs_sq x, ← natAbs_sq y]; omega
  have HQ : Hid (hypot x y = (hyp (x.natAbs * x.natAbs + y.natAbs * y.natAbs) 64 : Nat)) := by
    show _ = _
    unfold hypot; rw [HN.out]
  have hxn : x.natAbs < 18446744073709551616 := by omega
  have hyn : y.natAbs < 18446744073709551616 := by omega
  clear HN
  go_enter Tryz.func85, Tryz.ntmps85
  go_wp2_with fail
  refine (refAbs_any _ _ (by omega) (by omega)).mono ?_
  rintro e w' ⟨rfl, rfl⟩
  go_wp2_with fail
  refine (refAbs_any _ _ (by omega) (by omega)).mono ?_
  rintro e w' ⟨rfl, rfl⟩
  go_wp2_with fail
  refine (product_any _ _ _ hxn hxn).mono ?_
  rintro e w' ⟨rfl, rfl⟩
  rw [Nat.div_eq_of_lt (show x.natAbs * x.natAbs < 18446744073709551616 by omega), Nat.mod_eq_of_lt (show x.natAbs * x.natAbs < 18446744073709551616 by omega)]
  generalize x.natAbs * x.natAbs = X at *
  go_wp2_with fail
  refine (refAbs_any _ _ (by omega) (by omega)).mono ?_
  rintro e w' ⟨rfl, rfl⟩
  go_wp2_with fail
  refine (refAbs_any _ _ (by omega) (by omega)).mono ?_
  rintro e w' ⟨rfl, rfl⟩
  go_wp2_with fail
  refine (product_any _ _ _ hyn hyn).mono ?_
  rintro e w' ⟨rfl, rfl⟩
  rw [Nat.div_eq_of_lt (show y.natAbs * y.natAbs < 18446744073709551616 by omega), Nat.mod_eq_of_lt (show y.natAbs * y.natAbs < 18446744073709551616 by omega)]
  generalize y.natAbs * y.natAbs = Y at *
  have dl : decide ((X : Int) + (Y : Int) < (X : Int)) = false := by simp; omega
  go_wp2_with fail
  clear dl
  go_loop [11, 12, 13, 14] (fun r b _ _ => ∃ k : Nat, k ≤ 64 ∧ b = .int .u64 (bitAt k : Nat) ∧ r = .int .u64 (hyp (X + Y) k : Nat)) (fun _ b _ _ => (intOf b).toNat)
  case atStart => exact ⟨0, by omega, rfl, rfl⟩
  case round =>
    obtain ⟨k, hk, rfl, rfl⟩ := hrel
    by_cases hlt : k < 64
    · have hp := bitAt_pos k hlt
      have hl := hyp_lt (X + Y) k hlt
      have hor := hyp_or (X + Y) k hlt
      have ho : bits .or .u64 (hyp (X + Y) k : Int) (bitAt k : Int) = ((hyp (X + Y) k + bitAt k : Nat) : Int) := by
        rw [bits_or_u64_nat _ _ (by omega) (by omega), hor]
      have HS : Hid (hyp (X + Y) (k + 1) = if (hyp (X + Y) k + bitAt k) * (hyp (X + Y) k + bitAt k) ≤ X + Y then hyp (X + Y) k + bitAt k else hyp (X + Y) k) := hyp_succ _ _
      have HB := Lib.hid (bitAt_succ k)
      have hrd := round_lt (hyp (X + Y) k + bitAt k) (X + Y) (by omega)
      have hnz : decide (((bitAt k : Nat) : Int) > 0) = true := by simp; omega
      clear hor
      generalize hyp (X + Y) k = r at *
      generalize bitAt k = b at *
      have hm : (((r + b) * (r + b) / 18446744073709551616 : Nat) : Int) < 18446744073709551616 := by
        have := Nat.mul_lt_mul'' hl hl
        omega
      rcases Nat.eq_zero_or_pos ((r + b) * (r + b) / 18446744073709551616) with hq | hq
      · have hrd' := hrd.1 hq
        have hz1 : ((((r + b) * (r + b) / 18446744073709551616 : Nat) : Int) == 0) = true := by rw [beq_iff_eq]; omega
        have HT := Lib.hid hrd'
        have HZ := Lib.hid hq
        clear hrd hrd' hq hm hz1
        go_wp2_with fail
        rw [addN]
        refine (product_any _ _ _ hl hl).mono ?_
        rintro e w' ⟨rfl, rfl⟩
        rw [HZ.out]
        generalize (r + b) * (r + b) = c at *
        have hmod := Nat.mod_lt c (show 0 < 18446744073709551616 by omega)
        generalize c % 18446744073709551616 = m at *
        by_cases hc : m ≤ X + Y
        · go_wp2_with fail
          go_round
          case rel => exact ⟨k + 1, by omega, by rw [HB.out]; go_num, by rw [HS.out, if_pos (HT.out.2 hc)]; go_num⟩
          case measure => simp [intOf]; omega
        · go_wp2_with fail
          go_round
          case rel => exact ⟨k + 1, by omega, by rw [HB.out]; go_num, by rw [HS.out, if_neg (fun h => hc (HT.out.1 h))]⟩
          case measure => simp [intOf]; omega
      · have hrd' := hrd.2 (by omega)
        have hz1 : ((((r + b) * (r + b) / 18446744073709551616 : Nat) : Int) == 0) = false := by rw [beq_eq_false_iff_ne]; omega
        have HT := Lib.hid hrd'
        clear hrd hrd'
        go_wp2_with fail
        rw [addN]
        refine (product_any _ _ _ hl hl).mono ?_
        rintro e w' ⟨rfl, rfl⟩
        generalize hgd : (r + b) * (r + b) / 18446744073709551616 = d at *
        have HD := Lib.hid hgd
        clear hgd hm
        generalize (r + b) * (r + b) % 18446744073709551616 = m at *
        have hd0 : decide ((d : Int) < 0) = false := by simp
        go_wp2_with fail
        go_round
        case rel => exact ⟨k + 1, by omega, by rw [HB.out]; go_num, by rw [HS.out, if_neg HT.out]⟩
        case measure => simp [intOf]; omega
    · obtain rfl : k = 64 := by omega
      rw [bitAt_end]
      have hsq := hyp_lt31 (X + Y) (by omega)
      generalize hyp (X + Y) 64 = r at *
      go_wp2_with fail
      refine (signed_pos _ _ (by omega)).mono ?_
      rintro e w' ⟨rfl, rfl⟩
      go_wp2_with fail
      go_ret
      exact ⟨ret_int (by rw [HQ.out]), rfl⟩
end Go.Proofs.YtieacbccadbdbaaGreatDoor


/- The length of a vector, for numbers of up to 62 bits: by the program, by the reference (printed by genhypw.py). -/
namespace Go.Proofs.YtieacbccadbdbaaGreatDoor
open Go.RowKit
set_option linter.unusedVariables false

theorem add64_g (x y c : Nat) (hx : x < 18446744073709551616) (hy : y < 18446744073709551616) (hc : c ≤ 1) (w : World) :
    (callFunc 132 #[.int .u64 x, .int .u64 y, .int .u64 c]).run Tryz.prog w = .ok (.value (.tuple #[.int .u64 (((x + y + c) % 18446744073709551616 : Nat) : Int), .int .u64 (((x + y + c) / 18446744073709551616 : Nat) : Int)])) w := by
  rw [run_callFunc_extern Tryz.func132 (by kernel_rfl) (by kernel_rfl) (by kernel_rfl) (e := add64Entry) (by kernel_rfl), run_add64 x y c (by omega) (by omega) (by omega) (by omega)]
  have e1 : ((x : Int) + y + c) % 18446744073709551616 = (((x + y + c) % 18446744073709551616 : Nat) : Int) := by omega
  have e2 : ((x : Int) + y + c) / 18446744073709551616 = (((x + y + c) / 18446744073709551616 : Nat) : Int) := by omega
  rw [e1, e2]
  rfl
theorem sq_bdw (n : Nat) (h : n ≤ 4611686018427387904) : n * n ≤ 21267647932558653966460912964485513216 := by
  have := Nat.mul_le_mul h h
  omega
/-- A 128-bit square held against N, by halves. -/
theorem round_w (q N : Nat) : q ≤ N ↔ (q / 18446744073709551616 < N / 18446744073709551616 ∨ (q / 18446744073709551616 = N / 18446744073709551616 ∧ q % 18446744073709551616 ≤ N % 18446744073709551616)) := by omega
theorem hyp_lt63 (N : Nat) (hN : N ≤ 42535295865117307932921825928971026432) : hyp N 64 ≤ 9223372036854775807 := by
  have h := hyp_sq N 64
  rcases Nat.lt_or_ge (hyp N 64) 9223372036854775808 with h1 | h1
  · omega
  · have := Nat.mul_le_mul h1 h1
    omega

set_option maxRecDepth 100000 in
set_option maxHeartbeats 4000000 in
theorem hypotw_any (x y : Int) (w : World) (hx1 : -4611686018427387904 ≤ x) (hx2 : x ≤ 4611686018427387904) (hy1 : -4611686018427387904 ≤ y) (hy2 : y ≤ 4611686018427387904) :
    Calls Tryz.prog 99 #[.int .i64 x, .int .i64 y] w fun e w' => e = .returned (.int .i64 (hypot x y)) ∧ w = w' := by
  have sx := sq_bdw x.natAbs (by omega)
  have sy := sq_bdw y.natAbs (by omega)
  have HN : Hid ((x * x + y * y).toNat = x.natAbs * x.natAbs + y.natAbs * y.natAbs) := by
    show _ = _
    rw [← natAbs_sq x, ← natAbs_sq y]; omega
  have HQ : Hid (hypot x y = (hyp (x.natAbs * x.natAbs + y.natAbs * y.natAbs) 64 : Nat)) := by
    show _ = _
    unfold hypot; rw [HN.out]
  have hxn : x.natAbs < 18446744073709551616 := by omega
  have hyn : y.natAbs < 18446744073709551616 := by omega
  clear HN
  have x1b : x.natAbs * x.natAbs / 18446744073709551616 ≤ 1152921504606846976 := by omega
  have y1b : y.natAbs * y.natAbs / 18446744073709551616 ≤ 1152921504606846976 := by omega
  have x0b : x.natAbs * x.natAbs % 18446744073709551616 < 18446744073709551616 := by omega
  have y0b : y.natAbs * y.natAbs % 18446744073709551616 < 18446744073709551616 := by omega
  obtain ⟨N, hNe⟩ : ∃ N, x.natAbs * x.natAbs + y.natAbs * y.natAbs = N := ⟨_, rfl⟩
  have hN : N ≤ 42535295865117307932921825928971026432 := by omega
  have n0 : (x.natAbs * x.natAbs % 18446744073709551616 + y.natAbs * y.natAbs % 18446744073709551616) % 18446744073709551616 = N % 18446744073709551616 := by omega
  have n1 : x.natAbs * x.natAbs / 18446744073709551616 + y.natAbs * y.natAbs / 18446744073709551616 + (x.natAbs * x.natAbs % 18446744073709551616 + y.natAbs * y.natAbs % 18446744073709551616) / 18446744073709551616 = N / 18446744073709551616 := by omega
  have nb0 : N % 18446744073709551616 < 18446744073709551616 := by omega
  have nb1 : N / 18446744073709551616 ≤ 2305843009213693952 := by omega
  rw [hNe] at HQ
  have MX := Lib.hid (fun w => mul64_any x.natAbs x.natAbs w hxn hxn)
  have MY := Lib.hid (fun w => mul64_any y.natAbs y.natAbs w hyn hyn)
  clear sx sy hNe
  generalize x.natAbs * x.natAbs / 18446744073709551616 = X1 at *
  generalize x.natAbs * x.natAbs % 18446744073709551616 = X0 at *
  generalize y.natAbs * y.natAbs / 18446744073709551616 = Y1 at *
  generalize y.natAbs * y.natAbs % 18446744073709551616 = Y0 at *
  obtain ⟨N1, hN1⟩ : ∃ N1, N / 18446744073709551616 = N1 := ⟨_, rfl⟩
  obtain ⟨N0, hN0⟩ : ∃ N0, N % 18446744073709551616 = N0 := ⟨_, rfl⟩
  rw [hN1] at n1 nb1
  rw [hN0] at n0 nb0
  have HN1 := Lib.hid hN1
  have HN0 := Lib.hid hN0
  clear hN1 hN0 hxn hyn
  have G0 := Lib.hid n0
  have G1 := Lib.hid n1
  clear n0 n1
  go_enter Tryz.func99, Tryz.ntmps99
  go_wp2_with fail
  refine (mag_any _ _ (by omega) (by omega)).mono ?_
  rintro e w' ⟨rfl, rfl⟩
  go_wp2_with fail
  refine (mag_any _ _ (by omega) (by omega)).mono ?_
  rintro e w' ⟨rfl, rfl⟩
  go_wp2_with fail
  refine (MX.out _).mono ?_
  rintro e w' ⟨rfl, rfl⟩
  go_wp2_with fail
  refine (mag_any _ _ (by omega) (by omega)).mono ?_
  rintro e w' ⟨rfl, rfl⟩
  go_wp2_with fail
  refine (mag_any _ _ (by omega) (by omega)).mono ?_
  rintro e w' ⟨rfl, rfl⟩
  go_wp2_with fail
  refine (MY.out _).mono ?_
  rintro e w' ⟨rfl, rfl⟩
  have n0 := G0.out
  have n1 := G1.out
  clear G0 G1 hx1 hx2 hy1 hy2 MX MY
  have HA := Lib.hid (add64_g X0 Y0 0 (by omega) (by omega) (by omega))
  obtain ⟨c, hce⟩ : ∃ c, (X0 + Y0 + 0) / 18446744073709551616 = c := ⟨_, rfl⟩
  have e0 : (X0 + Y0 + 0) % 18446744073709551616 = N0 := by omega
  have c1 : c ≤ 1 := by omega
  have HZ := Lib.hid (add64_g X1 Y1 c (by omega) (by omega) (by omega))
  have e1 : (X1 + Y1 + c) % 18446744073709551616 = N1 := by omega
  rw [e0, hce] at HA
  rw [e1] at HZ
  clear e0 e1 hce n0 n1
  replace HA : Hid (∀ w : World, (callFunc 132 #[.int .u64 X0, .int .u64 Y0, .int .u64 0]).run Tryz.prog w = .ok (.value (.tuple #[.int .u64 N0, .int .u64 c])) w) := HA
  go_wp2_with (first | simp only [HA.out] | simp only [HZ.out])
  clear HA HZ
  go_loop [7, 8, 10, 11, 12] (fun _ _ r b _ => ∃ k : Nat, k ≤ 64 ∧ b = .int .u64 (bitAt k : Nat) ∧ r = .int .u64 (hyp N k : Nat)) (fun _ _ _ b _ => (intOf b).toNat)
  case atStart => exact ⟨0, by omega, rfl, rfl⟩
  case round =>
    obtain ⟨k, hk, rfl, rfl⟩ := hrel
    by_cases hlt : k < 64
    · have hp := bitAt_pos k hlt
      have hl := hyp_lt N k hlt
      have hor := hyp_or N k hlt
      have ho : bits .or .u64 (hyp N k : Int) (bitAt k : Int) = ((hyp N k + bitAt k : Nat) : Int) := by
        rw [bits_or_u64_nat _ _ (by omega) (by omega), hor]
      have HS : Hid (hyp N (k + 1) = if (hyp N k + bitAt k) * (hyp N k + bitAt k) ≤ N then hyp N k + bitAt k else hyp N k) := hyp_succ _ _
      have HB := Lib.hid (bitAt_succ k)
      have HT := Lib.hid (round_w ((hyp N k + bitAt k) * (hyp N k + bitAt k)) N)
      rw [HN1.out, HN0.out] at HT
      have hnz : (((bitAt k : Nat) : Int) != 0) = true := by rw [bne_iff_ne]; omega
      clear hor
      generalize hyp N k = r at *
      generalize bitAt k = b at *
      have hm : (r + b) * (r + b) / 18446744073709551616 < 18446744073709551616 := by
        have := Nat.mul_lt_mul'' hl hl
        omega
      have hm0 := Nat.mod_lt ((r + b) * (r + b)) (show 0 < 18446744073709551616 by omega)
      go_wp2_with fail
      rw [addN]
      refine (mul64_any _ _ _ hl hl).mono ?_
      rintro e w' ⟨rfl, rfl⟩
      generalize (r + b) * (r + b) / 18446744073709551616 = d at *
      generalize (r + b) * (r + b) % 18446744073709551616 = m at *
      rcases Nat.lt_trichotomy d N1 with hd | hd | hd
      · have b1 : decide ((d : Int) < (N1 : Int)) = true := by simp; omega
        go_wp2_with fail
        go_round
        case rel => exact ⟨k + 1, by omega, by rw [HB.out]; go_num, by rw [HS.out, if_pos (HT.out.2 (by first | omega | (simp; omega)))]; go_num⟩
        case measure => simp [intOf]; omega
      · subst hd
        have b2 : ((d : Int) == (d : Int)) = true := by simp
        by_cases hc : m ≤ N0
        · have b3 : decide ((m : Int) ≤ (N0 : Int)) = true := by simp; omega
          go_wp2_with fail
          go_round
          case rel => exact ⟨k + 1, by omega, by rw [HB.out]; go_num, by rw [HS.out, if_pos (HT.out.2 (by first | omega | (simp; omega)))]; go_num⟩
          case measure => simp [intOf]; omega
        · have b3 : decide ((m : Int) ≤ (N0 : Int)) = false := by simp; omega
          go_wp2_with fail
          go_round
          case rel => exact ⟨k + 1, by omega, by rw [HB.out]; go_num, by rw [HS.out, if_neg (fun h => absurd (HT.out.1 h) (by first | omega | (simp; omega)))]⟩
          case measure => simp [intOf]; omega
      · have b1 : decide ((d : Int) < (N1 : Int)) = false := by simp; omega
        have b2 : ((d : Int) == (N1 : Int)) = false := by rw [beq_eq_false_iff_ne]; omega
        go_wp2_with fail
        go_round
        case rel => exact ⟨k + 1, by omega, by rw [HB.out]; go_num, by rw [HS.out, if_neg (fun h => absurd (HT.out.1 h) (by first | omega | (simp; omega)))]⟩
        case measure => simp [intOf]; omega
    · obtain rfl : k = 64 := by omega
      rw [bitAt_end]
      have hsq := hyp_lt63 N hN
      generalize hyp N 64 = r at *
      have hs1 : ¬ (9223372036854775807 : Int) < (r : Int) := by omega
      go_wp2
      go_ret
      exact ⟨ret_int (by rw [HQ.out]), rfl⟩

set_option maxRecDepth 100000 in
set_option maxHeartbeats 4000000 in
theorem refHypotw_any (x y : Int) (w : World) (hx1 : -4611686018427387904 ≤ x) (hx2 : x ≤ 4611686018427387904) (hy1 : -4611686018427387904 ≤ y) (hy2 : y ≤ 4611686018427387904) :
    Calls Tryz.prog 85 #[.int .i64 x, .int .i64 y] w fun e w' => e = .returned (.int .i64 (hypot x y)) ∧ w = w' := by
  have sx := sq_bdw x.natAbs (by omega)
  have sy := sq_bdw y.natAbs (by omega)
  have HN : Hid ((x * x + y * y).toNat = x.natAbs * x.natAbs + y.natAbs * y.natAbs) := by
    show _ = _
    rw [← natAbs_sq x, ← natAbs_sq y]; omega
  have HQ : Hid (hypot x y = (hyp (x.natAbs * x.natAbs + y.natAbs * y.natAbs) 64 : Nat)) := by
    show _ = _
    unfold hypot; rw [HN.out]
  have hxn : x.natAbs < 18446744073709551616 := by omega
  have hyn : y.natAbs < 18446744073709551616 := by omega
  clear HN
  have x1b : x.natAbs * x.natAbs / 18446744073709551616 ≤ 1152921504606846976 := by omega
  have y1b : y.natAbs * y.natAbs / 18446744073709551616 ≤ 1152921504606846976 := by omega
  have x0b : x.natAbs * x.natAbs % 18446744073709551616 < 18446744073709551616 := by omega
  have y0b : y.natAbs * y.natAbs % 18446744073709551616 < 18446744073709551616 := by omega
  obtain ⟨N, hNe⟩ : ∃ N, x.natAbs * x.natAbs + y.natAbs * y.natAbs = N := ⟨_, rfl⟩
  have hN : N ≤ 42535295865117307932921825928971026432 := by omega
  have n0 : (x.natAbs * x.natAbs % 18446744073709551616 + y.natAbs * y.natAbs % 18446744073709551616) % 18446744073709551616 = N % 18446744073709551616 := by omega
  have n1 : x.natAbs * x.natAbs / 18446744073709551616 + y.natAbs * y.natAbs / 18446744073709551616 + (x.natAbs * x.natAbs % 18446744073709551616 + y.natAbs * y.natAbs % 18446744073709551616) / 18446744073709551616 = N / 18446744073709551616 := by omega
  have nb0 : N % 18446744073709551616 < 18446744073709551616 := by omega
  have nb1 : N / 18446744073709551616 ≤ 2305843009213693952 := by omega
  rw [hNe] at HQ
  have MX := Lib.hid (fun w => product_any x.natAbs x.natAbs w hxn hxn)
  have MY := Lib.hid (fun w => product_any y.natAbs y.natAbs w hyn hyn)
  clear sx sy hNe
  generalize x.natAbs * x.natAbs / 18446744073709551616 = X1 at *
  generalize x.natAbs * x.natAbs % 18446744073709551616 = X0 at *
  generalize y.natAbs * y.natAbs / 18446744073709551616 = Y1 at *
  generalize y.natAbs * y.natAbs % 18446744073709551616 = Y0 at *
  obtain ⟨N1, hN1⟩ : ∃ N1, N / 18446744073709551616 = N1 := ⟨_, rfl⟩
  obtain ⟨N0, hN0⟩ : ∃ N0, N % 18446744073709551616 = N0 := ⟨_, rfl⟩
  rw [hN1] at n1 nb1
  rw [hN0] at n0 nb0
  have HN1 := Lib.hid hN1
  have HN0 := Lib.hid hN0
  clear hN1 hN0 hxn hyn
  have G0 := Lib.hid n0
  have G1 := Lib.hid n1
  clear n0 n1
  go_enter Tryz.func85, Tryz.ntmps85
  go_wp2_with fail
  refine (refAbs_any _ _ (by omega) (by omega)).mono ?_
  rintro e w' ⟨rfl, rfl⟩
  go_wp2_with fail
  refine (refAbs_any _ _ (by omega) (by omega)).mono ?_
  rintro e w' ⟨rfl, rfl⟩
  go_wp2_with fail
  refine (MX.out _).mono ?_
  rintro e w' ⟨rfl, rfl⟩
  go_wp2_with fail
  refine (refAbs_any _ _ (by omega) (by omega)).mono ?_
  rintro e w' ⟨rfl, rfl⟩
  go_wp2_with fail
  refine (refAbs_any _ _ (by omega) (by omega)).mono ?_
  rintro e w' ⟨rfl, rfl⟩
  go_wp2_with fail
  refine (MY.out _).mono ?_
  rintro e w' ⟨rfl, rfl⟩
  have n0 := G0.out
  have n1 := G1.out
  clear G0 G1 hx1 hx2 hy1 hy2 MX MY
  by_cases hc : X0 + Y0 < 18446744073709551616
  · have a1 : IntKind.u64.wrap ((X0 : Int) + (Y0 : Int)) = (N0 : Int) := by rw [IntKind.wrap_u64]; omega
    have a2 : IntKind.u64.wrap ((X1 : Int) + (Y1 : Int)) = (N1 : Int) := by rw [IntKind.wrap_u64]; omega
    have dl : ¬ N0 < X0 := by omega
    clear hc n0 n1
    go_wp2_with fail
    clear dl a1 a2
    go_loop [11, 12, 13, 14] (fun r b _ _ => ∃ k : Nat, k ≤ 64 ∧ b = .int .u64 (bitAt k : Nat) ∧ r = .int .u64 (hyp N k : Nat)) (fun _ b _ _ => (intOf b).toNat)
    case atStart => exact ⟨0, by omega, rfl, rfl⟩
    case round =>
      obtain ⟨k, hk, rfl, rfl⟩ := hrel
      by_cases hlt : k < 64
      · have hp := bitAt_pos k hlt
        have hl := hyp_lt N k hlt
        have hor := hyp_or N k hlt
        have ho : bits .or .u64 (hyp N k : Int) (bitAt k : Int) = ((hyp N k + bitAt k : Nat) : Int) := by
          rw [bits_or_u64_nat _ _ (by omega) (by omega), hor]
        have HS : Hid (hyp N (k + 1) = if (hyp N k + bitAt k) * (hyp N k + bitAt k) ≤ N then hyp N k + bitAt k else hyp N k) := hyp_succ _ _
        have HB := Lib.hid (bitAt_succ k)
        have HT := Lib.hid (round_w ((hyp N k + bitAt k) * (hyp N k + bitAt k)) N)
        rw [HN1.out, HN0.out] at HT
        have hnz : decide (((bitAt k : Nat) : Int) > 0) = true := by simp; omega
        clear hor
        generalize hyp N k = r at *
        generalize bitAt k = b at *
        have hm : (r + b) * (r + b) / 18446744073709551616 < 18446744073709551616 := by
          have := Nat.mul_lt_mul'' hl hl
          omega
        have hm0 := Nat.mod_lt ((r + b) * (r + b)) (show 0 < 18446744073709551616 by omega)
        go_wp2_with fail
        rw [addN]
        refine (product_any _ _ _ hl hl).mono ?_
        rintro e w' ⟨rfl, rfl⟩
        generalize (r + b) * (r + b) / 18446744073709551616 = d at *
        generalize (r + b) * (r + b) % 18446744073709551616 = m at *
        rcases Nat.lt_trichotomy d N1 with hd | hd | hd
        · have b1 : decide ((d : Int) < (N1 : Int)) = true := by simp; omega
          go_wp2_with fail
          go_round
          case rel => exact ⟨k + 1, by omega, by rw [HB.out]; go_num, by rw [HS.out, if_pos (HT.out.2 (by first | omega | (simp; omega)))]; go_num⟩
          case measure => simp [intOf]; omega
        · subst hd
          have b2 : ((d : Int) == (d : Int)) = true := by simp
          by_cases hc : m ≤ N0
          · have b3 : decide ((m : Int) ≤ (N0 : Int)) = true := by simp; omega
            go_wp2_with fail
            go_round
            case rel => exact ⟨k + 1, by omega, by rw [HB.out]; go_num, by rw [HS.out, if_pos (HT.out.2 (by first | omega | (simp; omega)))]; go_num⟩
            case measure => simp [intOf]; omega
          · have b3 : decide ((m : Int) ≤ (N0 : Int)) = false := by simp; omega
            go_wp2_with fail
            go_round
            case rel => exact ⟨k + 1, by omega, by rw [HB.out]; go_num, by rw [HS.out, if_neg (fun h => absurd (HT.out.1 h) (by first | omega | (simp; omega)))]⟩
            case measure => simp [intOf]; omega
        · have b1 : decide ((d : Int) < (N1 : Int)) = false := by simp; omega
          have b2 : ((d : Int) == (N1 : Int)) = false := by rw [beq_eq_false_iff_ne]; omega
          go_wp2_with fail
          go_round
          case rel => exact ⟨k + 1, by omega, by rw [HB.out]; go_num, by rw [HS.out, if_neg (fun h => absurd (HT.out.1 h) (by first | omega | (simp; omega)))]⟩
          case measure => simp [intOf]; omega
      · obtain rfl : k = 64 := by omega
        rw [bitAt_end]
        have hsq := hyp_lt63 N hN
        generalize hyp N 64 = r at *
        go_wp2_with fail
        refine (signed_pos _ _ hsq).mono ?_
        rintro e w' ⟨rfl, rfl⟩
        go_wp2_with fail
        go_ret
        exact ⟨ret_int (by rw [HQ.out]), rfl⟩
  · have a1 : IntKind.u64.wrap ((X0 : Int) + (Y0 : Int)) = (N0 : Int) := by rw [IntKind.wrap_u64]; omega
    obtain ⟨M, hM⟩ : ∃ M, X1 + Y1 = M := ⟨_, rfl⟩
    have a2 : IntKind.u64.wrap ((X1 : Int) + (Y1 : Int)) = (M : Int) := by rw [IntKind.wrap_u64]; omega
    have a3 : IntKind.u64.wrap ((M : Int) + 1) = (N1 : Int) := by rw [IntKind.wrap_u64]; omega
    have dl : N0 < X0 := by omega
    clear hc n0 n1 hM
    go_wp2_with fail
    clear dl a1 a2 a3
    go_loop [11, 12, 13, 14] (fun r b _ _ => ∃ k : Nat, k ≤ 64 ∧ b = .int .u64 (bitAt k : Nat) ∧ r = .int .u64 (hyp N k : Nat)) (fun _ b _ _ => (intOf b).toNat)
    case atStart => exact ⟨0, by omega, rfl, rfl⟩
    case round =>
      obtain ⟨k, hk, rfl, rfl⟩ := hrel
      by_cases hlt : k < 64
      · have hp := bitAt_pos k hlt
        have hl := hyp_lt N k hlt
        have hor := hyp_or N k hlt
        have ho : bits .or .u64 (hyp N k : Int) (bitAt k : Int) = ((hyp N k + bitAt k : Nat) : Int) := by
          rw [bits_or_u64_nat _ _ (by omega) (by omega), hor]
        have HS : Hid (hyp N (k + 1) = if (hyp N k + bitAt k) * (hyp N k + bitAt k) ≤ N then hyp N k + bitAt k else hyp N k) := hyp_succ _ _
        have HB := Lib.hid (bitAt_succ k)
        have HT := Lib.hid (round_w ((hyp N k + bitAt k) * (hyp N k + bitAt k)) N)
        rw [HN1.out, HN0.out] at HT
        have hnz : decide (((bitAt k : Nat) : Int) > 0) = true := by simp; omega
        clear hor
        generalize hyp N k = r at *
        generalize bitAt k = b at *
        have hm : (r + b) * (r + b) / 18446744073709551616 < 18446744073709551616 := by
          have := Nat.mul_lt_mul'' hl hl
          omega
        have hm0 := Nat.mod_lt ((r + b) * (r + b)) (show 0 < 18446744073709551616 by omega)
        go_wp2_with fail
        rw [addN]
        refine (product_any _ _ _ hl hl).mono ?_
        rintro e w' ⟨rfl, rfl⟩
        generalize (r + b) * (r + b) / 18446744073709551616 = d at *
        generalize (r + b) * (r + b) % 18446744073709551616 = m at *
        rcases Nat.lt_trichotomy d N1 with hd | hd | hd
        · have b1 : decide ((d : Int) < (N1 : Int)) = true := by simp; omega
          go_wp2_with fail
          go_round
          case rel => exact ⟨k + 1, by omega, by rw [HB.out]; go_num, by rw [HS.out, if_pos (HT.out.2 (by first | omega | (simp; omega)))]; go_num⟩
          case measure => simp [intOf]; omega
        · subst hd
          have b2 : ((d : Int) == (d : Int)) = true := by simp
          by_cases hc : m ≤ N0
          · have b3 : decide ((m : Int) ≤ (N0 : Int)) = true := by simp; omega
            go_wp2_with fail
            go_round
            case rel => exact ⟨k + 1, by omega, by rw [HB.out]; go_num, by rw [HS.out, if_pos (HT.out.2 (by first | omega | (simp; omega)))]; go_num⟩
            case measure => simp [intOf]; omega
          · have b3 : decide ((m : Int) ≤ (N0 : Int)) = false := by simp; omega
            go_wp2_with fail
            go_round
            case rel => exact ⟨k + 1, by omega, by rw [HB.out]; go_num, by rw [HS.out, if_neg (fun h => absurd (HT.out.1 h) (by first | omega | (simp; omega)))]⟩
            case measure => simp [intOf]; omega
        · have b1 : decide ((d : Int) < (N1 : Int)) = false := by simp; omega
          have b2 : ((d : Int) == (N1 : Int)) = false := by rw [beq_eq_false_iff_ne]; omega
          go_wp2_with fail
          go_round
          case rel => exact ⟨k + 1, by omega, by rw [HB.out]; go_num, by rw [HS.out, if_neg (fun h => absurd (HT.out.1 h) (by first | omega | (simp; omega)))]⟩
          case measure => simp [intOf]; omega
      · obtain rfl : k = 64 := by omega
        rw [bitAt_end]
        have hsq := hyp_lt63 N hN
        generalize hyp N 64 = r at *
        go_wp2_with fail
        refine (signed_pos _ _ hsq).mono ?_
        rintro e w' ⟨rfl, rfl⟩
        go_wp2_with fail
        go_ret
        exact ⟨ret_int (by rw [HQ.out]), rfl⟩
end Go.Proofs.YtieacbccadbdbaaGreatDoor

