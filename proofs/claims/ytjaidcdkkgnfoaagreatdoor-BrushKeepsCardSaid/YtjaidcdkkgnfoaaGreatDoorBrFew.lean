/- few answers: whether a stroke is small enough to be looked at; which answer it is does not matter. -/
import Derived.Test.YtjaidcdkkgnfoaaGreatDoorBrDabsR
namespace Go.Proofs.YtjaidcdkkgnfoaaGreatDoor
open Go.RowKit
set_option linter.unusedVariables false
attribute [local go_sem] Oper.gAt gUponK Oper.sAt stilK

set_option maxHeartbeats 4000000 in
theorem few_any (B : Bru) (u v : Value) (ls : List Smp) (W H : Int) (w : World) (hD : Dn w u B.ds) (hL : Sm w v ls) :
    Calls Tryz.prog 6 #[brv B u, v, .int .i64 W, .int .i64 H] w fun e w' => ∃ b, e = .returned (.bool b) ∧ Below w.heap.size w w' := by
  have HD := Lib.hid hD
  have HL := Lib.hid hL
  obtain ⟨a, cap, rfl⟩ := Qn.slice hL
  obtain ⟨au, capu, rfl, _, _⟩ := hD
  have D2 := Lib.hid (fun w h h' => refDabs_any B (.slice au B.ds.length capu) (.slice a ls.length cap) ls w h h')
  clear hL
  generalize (dabs B ls).2 = E at *
  generalize (dabs B ls).1 = ds at *
  generalize ls.length = n at *
  generalize B.ds.length = nd at *
  have c : W < 1 ∨ (¬ W < 1 ∧ H < 1) ∨ (¬ W < 1 ∧ ¬ H < 1 ∧ 256 < W) ∨ (¬ W < 1 ∧ ¬ H < 1 ∧ ¬ 256 < W ∧ 256 < H) ∨ (¬ W < 1 ∧ ¬ H < 1 ∧ ¬ 256 < W ∧ ¬ 256 < H) := by omega
  rcases c with c1 | ⟨c1, c2⟩ | ⟨c1, c2, c3⟩ | ⟨c1, c2, c3, c4⟩ | ⟨c1, c2, c3, c4⟩
  · go_enter Tryz.func6, Tryz.ntmps6
    go_upto_region 1 with (fail)
    refine name1 (fun W0 k0 hb => ?_)
    go_wp2_with fail
    go_ret
    simpa using hb
  · go_enter Tryz.func6, Tryz.ntmps6
    go_upto_region 1 with (fail)
    refine name1 (fun W0 k0 hb => ?_)
    go_wp2_with fail
    go_ret
    simpa using hb
  · go_enter Tryz.func6, Tryz.ntmps6
    go_upto_region 1 with (fail)
    refine name1 (fun W0 k0 hb => ?_)
    go_wp2_with fail
    go_ret
    simpa using hb
  · go_enter Tryz.func6, Tryz.ntmps6
    go_upto_region 1 with (fail)
    refine name1 (fun W0 k0 hb => ?_)
    go_wp2_with fail
    go_ret
    simpa using hb
  · go_enter Tryz.func6, Tryz.ntmps6
    go_upto_region 1 with (fail)
    refine name1 (fun W0 k0 hb => ?_)
    have c0 := k0.c16
    go_wp2_with fail
    clear c0
    refine (D2.out _ (HD.out.kept hb) (HL.out.kept hb)).mono ?_
    rintro e W1 ⟨q1, rfl, h1, hS⟩
    replace hb := hb.trans (hS.mono hb.size)
    clear hS
    obtain ⟨a1, p1, rfl⟩ := Qn.slice h1
    clear h1
    generalize ds.length = m at *
    go_wp2_with fail
    go_ret
    exact ⟨_, rfl, hb⟩
end Go.Proofs.YtjaidcdkkgnfoaaGreatDoor

