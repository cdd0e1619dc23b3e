/- The plain statement on GoodNet: what the program returns is what the reference returns. -/
import Derived.Test.YtdcbieganlmniaaF5
import Derived.Test.YtdcbieganlmniaaGood
namespace Go.Proofs.Ytdcbieganlmniaa.Pure
open Go.RowKit Go.Proofs.Ytdcbieganlmniaa.F Go.Proofs.Ytdcbieganlmniaa.Lib Go.Proofs.YtdcbieganlmniaaW.PrintWords Go.Proofs.YtdcbieganlmniaaW.PrintLast
theorem FnExactGoodNet : laws_FnExactGoodNet.Pure := by
  intro p l hw
  refine Evt.get ?_
  obtain ⟨r, hr, g⟩ := szNet_ex p l 1048576 (by omega) (by omega) hw.2.1 (fun t ht => ⟨(hw.2.2 t ht).1.1, (hw.2.2 t ht).2.1.1, (hw.2.2 t ht).2.2.1⟩)
  unfold laws_FnExactGoodNet.f
  refine Evt.bind hr ?_
  by_cases c : r < 0
  · exact Evt.pos c (Evt.ok _)
  have hs : SmallN (l.map toT) := (g (by omega)).2
  refine Evt.neg c (Evt.bind (toNet_ev p l hs) (Evt.bind (specGoodNet_ev p _ hs) (Evt.bind (toNet_ev p l hs) (Evt.bind (goodNet_ev p _ hs) ?_))))
  exact Evt.neg (by simp) (Evt.bind (toNet_ev p l hs) (Evt.bind (eqNet_same p _ hs) (Evt.pos rfl (Evt.ok _))))
end Go.Proofs.Ytdcbieganlmniaa.Pure
