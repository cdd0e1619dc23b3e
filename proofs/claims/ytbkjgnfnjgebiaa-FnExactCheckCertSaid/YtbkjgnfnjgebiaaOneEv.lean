import Derived.Test.YtbkjgnfnjgebiaaF2
import Derived.Test.YtbkjgnfnjgebiaaF5
import Derived.Test.YtbkjgnfnjgebiaaGoodFlow
namespace Go.Proofs.Ytbkjgnfnjgebiaa.Lib
open Go.RowKit Go.Proofs.Ytbkjgnfnjgebiaa.F Go.Proofs.YtbkjgnfnjgebiaaW.PrintWords Go.Proofs.YtbkjgnfnjgebiaaW.PrintLast Go.Proofs.YtbkjgnfnjgebiaaW.PrintMore
theorem one_ev (p x:Int) (hp:p≤16) (h:0≤x∧x<p):spec_l3One.f p x=some ((List.replicate p.toNat 0).set x.toNat 1)∧impl_singleMark.f p x=some ((List.replicate p.toNat 0).set x.toNat 1):=by
  constructor
  · simp only [spec_l3One.f,Option.bind_some]
    rw [if_pos (by omega),if_pos (by omega),if_pos h.1,if_pos (by rw [List.length_replicate];omega)]
  · simp only [impl_singleMark.f,Option.bind_some]
    rw [if_pos (by omega),if_pos (by omega),if_pos h.1,if_pos (by rw [List.length_replicate];omega)]
end Go.Proofs.Ytbkjgnfnjgebiaa.Lib
