/- law27.tip (printed by genawake27.py). -/
import Derived.Test.YtflegfoalkkkdaaDoorLDyn
import Derived.Test.YtflegfoalkkkdaaDoorDabCover
import Derived.Test.YtflegfoalkkkdaaDoorLKit
namespace Go.Proofs.YtflegfoalkkkdaaDoor
open Go.RowKit
set_option linter.unusedVariables false
attribute [local go_sem] Oper.gAt gUponK Oper.sAt stilK
abbrev tipB (sz hd rn : Int) : Bru := ⟨sz, hd, rn, 65535, 65535, 25, 0, 0, 0, 0, 0, 0, 0, 0, [], false⟩
set_option maxHeartbeats 4000000 in
theorem lawTip_any (sz hd rn : Int) (w : World) :
    Calls Tryd.prog 30 #[.int .i64 sz, .int .i64 hd, .int .i64 rn] w fun e w' => e = .returned (brv (tipB sz hd rn) (.slice none 0 0)) ∧ Below w.heap.size w w' := by
  go_enter Tryd.func30, Tryd.ntmps30
  go_upto_region 1 with (fail)
  refine name1 (fun W k1 hb => ?_)
  go_wp2_with (refine wpList_store_blk rfl _ _ _ rfl w.heap.size #[.int .i64 sz, .int .i64 hd, .int .i64 rn, .int .i64 65535, .int .i64 65535, .int .i64 25, .int .i64 0, .int .i64 0, .int .i64 0, .int .i64 0, .int .i64 0, .int .i64 0, .int .i64 0, .int .i64 0, .slice none 0 0, .bool false] rfl rfl k1 infoBr rfl (by simp [Value.oneCell']) (fun W2 k2 hk hb2 => ?_))
  have c2 := k2.c16
  refine bodyPost_ret (v := brv (tipB sz hd rn) (.slice none 0 0)) (by simp [results, Tryd.results30, go_sem, c2]) rfl ⟨rfl, hb.trans hb2⟩
end Go.Proofs.YtflegfoalkkkdaaDoor
