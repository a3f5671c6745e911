/- GradientMoves, where a number is too great. -/
import Derived.Test.YtmejdhgknebbbaaGMovesP
namespace Go.Proofs.Ytmejdhgknebbbaa.gradientMoves
open Go.ChangeShapes Go.WideShapes Go.ChangeAt Go.RowKit
set_option linter.unusedVariables false
attribute [local go_sem] Oper.gAt gUponK Oper.sAt stilK Oper.vAt valK


set_option maxRecDepth 20000 in
set_option maxHeartbeats 4000000 in
theorem bad8 (kind s x y a b : Int) (ad : Option Addr) (n cap : Nat) (w : World) (hlen : n ≤ 9223372036854775807) (hl3 : ¬ (n : Int) < 3) (c0 : ¬ (a < -1048576)) (c1 : ¬ (1048576 < a)) (c2 : ¬ (b < -1048576)) (c3 : ¬ (1048576 < b)) (c4 : ¬ (x < -1048576)) (c5 : ¬ (1048576 < x)) (c6 : ¬ (y < -1048576)) (c7 : ¬ (1048576 < y)) (c8 : x + a < -1048576) :
    Calls Try.prog 7 #[.int .i64 kind, .slice ad n cap, .int .i64 s, .int .i64 x, .int .i64 y, .int .i64 a, .int .i64 b] w fun e w' => e = .returned (.bool true) ∧ Below w.heap.size w w' := by
  go_enter Try.func7, Try.ntmps7
  go_wp2_with fail
  refine (awake_any _).mono ?_
  rintro e W1 ⟨rfl, hb⟩
  go_wp2_with fail
  go_ret
  exact ⟨rfl, hb⟩

set_option maxRecDepth 20000 in
set_option maxHeartbeats 4000000 in
theorem bad9 (kind s x y a b : Int) (ad : Option Addr) (n cap : Nat) (w : World) (hlen : n ≤ 9223372036854775807) (hl3 : ¬ (n : Int) < 3) (c0 : ¬ (a < -1048576)) (c1 : ¬ (1048576 < a)) (c2 : ¬ (b < -1048576)) (c3 : ¬ (1048576 < b)) (c4 : ¬ (x < -1048576)) (c5 : ¬ (1048576 < x)) (c6 : ¬ (y < -1048576)) (c7 : ¬ (1048576 < y)) (c8 : ¬ (x + a < -1048576)) (c9 : 1048576 < x + a) :
    Calls Try.prog 7 #[.int .i64 kind, .slice ad n cap, .int .i64 s, .int .i64 x, .int .i64 y, .int .i64 a, .int .i64 b] w fun e w' => e = .returned (.bool true) ∧ Below w.heap.size w w' := by
  go_enter Try.func7, Try.ntmps7
  go_wp2_with fail
  refine (awake_any _).mono ?_
  rintro e W1 ⟨rfl, hb⟩
  go_wp2_with fail
  go_ret
  exact ⟨rfl, hb⟩

set_option maxRecDepth 20000 in
set_option maxHeartbeats 4000000 in
theorem bad10 (kind s x y a b : Int) (ad : Option Addr) (n cap : Nat) (w : World) (hlen : n ≤ 9223372036854775807) (hl3 : ¬ (n : Int) < 3) (c0 : ¬ (a < -1048576)) (c1 : ¬ (1048576 < a)) (c2 : ¬ (b < -1048576)) (c3 : ¬ (1048576 < b)) (c4 : ¬ (x < -1048576)) (c5 : ¬ (1048576 < x)) (c6 : ¬ (y < -1048576)) (c7 : ¬ (1048576 < y)) (c8 : ¬ (x + a < -1048576)) (c9 : ¬ (1048576 < x + a)) (c10 : y + b < -1048576) :
    Calls Try.prog 7 #[.int .i64 kind, .slice ad n cap, .int .i64 s, .int .i64 x, .int .i64 y, .int .i64 a, .int .i64 b] w fun e w' => e = .returned (.bool true) ∧ Below w.heap.size w w' := by
  go_enter Try.func7, Try.ntmps7
  go_wp2_with fail
  refine (awake_any _).mono ?_
  rintro e W1 ⟨rfl, hb⟩
  go_wp2_with fail
  go_ret
  exact ⟨rfl, hb⟩

set_option maxRecDepth 20000 in
set_option maxHeartbeats 4000000 in
theorem bad11 (kind s x y a b : Int) (ad : Option Addr) (n cap : Nat) (w : World) (hlen : n ≤ 9223372036854775807) (hl3 : ¬ (n : Int) < 3) (c0 : ¬ (a < -1048576)) (c1 : ¬ (1048576 < a)) (c2 : ¬ (b < -1048576)) (c3 : ¬ (1048576 < b)) (c4 : ¬ (x < -1048576)) (c5 : ¬ (1048576 < x)) (c6 : ¬ (y < -1048576)) (c7 : ¬ (1048576 < y)) (c8 : ¬ (x + a < -1048576)) (c9 : ¬ (1048576 < x + a)) (c10 : ¬ (y + b < -1048576)) (c11 : 1048576 < y + b) :
    Calls Try.prog 7 #[.int .i64 kind, .slice ad n cap, .int .i64 s, .int .i64 x, .int .i64 y, .int .i64 a, .int .i64 b] w fun e w' => e = .returned (.bool true) ∧ Below w.heap.size w w' := by
  go_enter Try.func7, Try.ntmps7
  go_wp2_with fail
  refine (awake_any _).mono ?_
  rintro e W1 ⟨rfl, hb⟩
  go_wp2_with fail
  go_ret
  exact ⟨rfl, hb⟩
end Go.Proofs.Ytmejdhgknebbbaa.gradientMoves
