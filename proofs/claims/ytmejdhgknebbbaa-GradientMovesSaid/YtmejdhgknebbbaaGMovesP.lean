/- GradientMoves: the plain law. -/
import Derived.Test.YtmejdhgknebbbaaFrame
import Derived.Test.YtmejdhgknebbbaaGAwake
import Derived.Test.YtmejdhgknebbbaaGOpen
import Derived.Test.YtmejdhgknebbbaaRowI
import Derived.Test.YtmejdhgknebbbaaOrd
import Derived.Test.YtmejdhgknebbbaaFlow
import Derived.Deep.Cut
import Derived.Deep.AppendLies
import Derived.Deep.RegionHeld3
namespace Go.Proofs.Ytmejdhgknebbbaa.gradientMoves
open Go.ChangeShapes Go.WideShapes Go.ChangeAt Go.RowKit
set_option linter.unusedVariables false
attribute [local go_sem] Oper.gAt gUponK Oper.sAt stilK Oper.vAt valK

/-- The position depends on the place relative to the gradient alone. -/
theorem cc_id' (x : Int) (h : -1048576 ≤ x ∧ x ≤ 1048576) : cc x = x := by unfold cc; omega
theorem move3 (kind p0 p1 p2 s x y a b : Int) (hk : kind = 2 ∨ kind = 3 ∨ kind = 4) (h1 : gOk kind [p0, p1, p2] s = true) (h2 : gOk kind [p0 + 16 * a, p1 + 16 * b, p2] s = true) (hx : -1048576 ≤ x ∧ x ≤ 1048576) (hy : -1048576 ≤ y ∧ y ≤ 1048576) (hxa : -1048576 ≤ x + a ∧ x + a ≤ 1048576) (hyb : -1048576 ≤ y + b ∧ y + b ≤ 1048576) :
    gPlace kind [p0 + 16 * a, p1 + 16 * b, p2] s (x + a) (y + b) = gPlace kind [p0, p1, p2] s x y := by
  unfold gPlace
  rw [if_pos h1, if_pos h2, cc_id' _ hx, cc_id' _ hy, cc_id' _ hxa, cc_id' _ hyb]
  show fol s (plc kind (p0 + 16 * a) (p1 + 16 * b) p2 0 (16 * (x + a) + 8 - (p0 + 16 * a)) (16 * (y + b) + 8 - (p1 + 16 * b))) = fol s (plc kind p0 p1 p2 0 (16 * x + 8 - p0) (16 * y + 8 - p1))
  rw [show 16 * (x + a) + 8 - (p0 + 16 * a) = 16 * x + 8 - p0 by omega, show 16 * (y + b) + 8 - (p1 + 16 * b) = 16 * y + 8 - p1 by omega]
  unfold plc
  rcases hk with rfl | rfl | rfl <;> simp
theorem move4 (p0 p1 p2 p3 s x y a b : Int) (h1 : gOk 1 [p0, p1, p2, p3] s = true) (h2 : gOk 1 [p0 + 16 * a, p1 + 16 * b, p2 + 16 * a, p3 + 16 * b] s = true) (hx : -1048576 ≤ x ∧ x ≤ 1048576) (hy : -1048576 ≤ y ∧ y ≤ 1048576) (hxa : -1048576 ≤ x + a ∧ x + a ≤ 1048576) (hyb : -1048576 ≤ y + b ∧ y + b ≤ 1048576) :
    gPlace 1 [p0 + 16 * a, p1 + 16 * b, p2 + 16 * a, p3 + 16 * b] s (x + a) (y + b) = gPlace 1 [p0, p1, p2, p3] s x y := by
  unfold gPlace
  rw [if_pos h1, if_pos h2, cc_id' _ hx, cc_id' _ hy, cc_id' _ hxa, cc_id' _ hyb]
  show fol s (plc 1 (p0 + 16 * a) (p1 + 16 * b) (p2 + 16 * a) (p3 + 16 * b) (16 * (x + a) + 8 - (p0 + 16 * a)) (16 * (y + b) + 8 - (p1 + 16 * b))) = fol s (plc 1 p0 p1 p2 p3 (16 * x + 8 - p0) (16 * y + 8 - p1))
  rw [show 16 * (x + a) + 8 - (p0 + 16 * a) = 16 * x + 8 - p0 by omega, show 16 * (y + b) + 8 - (p1 + 16 * b) = 16 * y + 8 - p1 by omega]
  unfold plc
  simp only [if_true]
  rw [show p2 + 16 * a - (p0 + 16 * a) = p2 - p0 by omega, show p3 + 16 * b - (p1 + 16 * b) = p3 - p1 by omega]
theorem Nn_lt {w : World} {bl off n cap : Nat} {zs : List Int} (h : Nn w (.slice (some ⟨bl, off, none⟩) n cap) zs) (hn : 0 < n) : bl < w.heap.size := by
  obtain ⟨a', cap', hv, hl, hr⟩ := h
  simp only [Value.slice.injEq] at hv
  obtain ⟨rfl, rfl, rfl⟩ := hv
  rcases hr with h0 | ⟨b, off, ha, hlt, hc⟩
  · omega
  · simp only [Option.some.injEq, Addr.mk.injEq] at ha
    obtain ⟨rfl, _⟩ := ha
    exact hlt
theorem cell_far {w : World} {p q : Addr} {u : Value} (hne : p.block ≠ q.block) : (w.setCell q u).cell? p = w.cell? p := by
  unfold World.cell?
  rw [Below.heap_setCell _ _ _ _ hne]
theorem nn_mv3 {w : World} {g cap : Nat} {p0 p1 p2 x y : Int} (h : RowI w g 3 (fun i => ([p0, p1, p2] : List Int).getD i 0)) :
    Nn ((w.setCell ⟨g, 0, none⟩ (.int .i64 x)).setCell ⟨g, 1, none⟩ (.int .i64 y)) (.slice (some ⟨g, 0, none⟩) 3 cap) [x, y, p2] :=
  ((h.set 0 (by omega) x).set 1 (by omega) y).nn rfl (by omega) fun i hi => by
    obtain rfl | rfl | rfl : i = 0 ∨ i = 1 ∨ i = 2 := by omega
    all_goals rfl
theorem nn_mv4 {w : World} {g cap : Nat} {p0 p1 p2 p3 x y z u : Int} (h : RowI w g 4 (fun i => ([p0, p1, p2, p3] : List Int).getD i 0)) :
    Nn ((((w.setCell ⟨g, 0, none⟩ (.int .i64 x)).setCell ⟨g, 1, none⟩ (.int .i64 y)).setCell ⟨g, 2, none⟩ (.int .i64 z)).setCell ⟨g, 3, none⟩ (.int .i64 u)) (.slice (some ⟨g, 0, none⟩) 4 cap) [x, y, z, u] :=
  ((((h.set 0 (by omega) x).set 1 (by omega) y).set 2 (by omega) z).set 3 (by omega) u).nn rfl (by omega) fun i hi => by
    obtain rfl | rfl | rfl | rfl : i = 0 ∨ i = 1 ∨ i = 2 ∨ i = 3 := by omega
    all_goals rfl
end Go.Proofs.Ytmejdhgknebbbaa.gradientMoves
