/- BlendChannels: the walk. -/
import Derived.Test.YtfgkgibomgcmpaaDoorFrame
import Derived.Test.YtfgkgibomgcmpaaDoorBlendEx
import Derived.Test.YtfgkgibomgcmpaaDoorRefOver
namespace Go.Proofs.YtfgkgibomgcmpaaDoor.blendChannels
open Go.ChangeShapes Go.WideShapes Go.ChangeAt Go.RowKit
set_option linter.unusedVariables false

set_option maxHeartbeats 400000 in
theorem walk (m b s : Int) (w : World) (hN : Names w) :
    Calls Tryd.prog 3 #[.int .i64 m, .int .i64 b, .int .i64 s] w fun e w' => e = .returned (.bool true) ∧ Below w.heap.size w w' := by
  have HN := Lib.hid hN
  clear hN
  go_enter Tryd.func3, Tryd.ntmps3
  go_wp2_with fail
  refine (channel_any _ _ _ _).mono ?_
  rintro e w' ⟨rfl, rfl⟩
  go_wp2_with fail
  refine (refChannel_any _ _ _ _).mono ?_
  rintro e w1 ⟨rfl, hb⟩
  go_wp2_with fail
  refine (example_any _ (HN.out.kept hb)).mono ?_
  rintro e w2 ⟨rfl, hb2⟩
  go_wp2_with fail
  go_ret
  exact ⟨ret_bool (by simp), hb.trans (hb2.mono hb.size)⟩
end Go.Proofs.YtfgkgibomgcmpaaDoor.blendChannels
