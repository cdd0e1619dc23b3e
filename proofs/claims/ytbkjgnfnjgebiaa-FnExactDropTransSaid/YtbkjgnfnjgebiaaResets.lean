import Derived.Test.YtbkjgnfnjgebiaaF0
import Derived.Test.YtbkjgnfnjgebiaaF1
import Derived.Test.YtbkjgnfnjgebiaaF2
import Derived.Test.YtbkjgnfnjgebiaaGood
namespace Go.Proofs.Ytbkjgnfnjgebiaa.Lib
open Go.RowKit Go.Proofs.Ytbkjgnfnjgebiaa.F Go.Proofs.YtbkjgnfnjgebiaaW.PrintWords Go.Proofs.YtbkjgnfnjgebiaaW.PrintLast Go.Proofs.YtbkjgnfnjgebiaaW.PrintMore
def resetT (t : Tr) : Bool := decide ((t.f2.length : Int) > 0)
theorem l2Resets_ev (p : Int) (ts : List Tr) (h : SmallN ts) : Evt (fun k => spec_l2Resets.f k p ts) (ts.any resetT) := by
  have hl := h.1
  unfold spec_l2Resets.f
  refine loop_anyL (fun k i => spec_l2Resets.l0 k ts (ts.length : Int) (i : Int)) ts resetT ?_ ?_ ?_
  · simp only [spec_l2Resets.l0]
    exact Evt.neg (natNotLt _) (Evt.ok _)
  · intro i hi hp r hr
    have er : rd_T63 ts (i : Int) = ts[i] := rdG ts _ i hi
    simp only [spec_l2Resets.l0, er]
    rw [wrapN i _ hi (by omega)]
    exact Evt.pos (natLt _ _ hi) (Evt.pos (by omega) (Evt.pos (natLt _ _ hi) (Evt.neg (of_decide_eq_false hp) hr)))
  · intro i hi hp
    have er : rd_T63 ts (i : Int) = ts[i] := rdG ts _ i hi
    simp only [spec_l2Resets.l0, er]
    exact Evt.pos (natLt _ _ hi) (Evt.pos (by omega) (Evt.pos (natLt _ _ hi) (Evt.pos (of_decide_eq_true hp) (Evt.ok _))))
theorem hasResets_ev (p : Int) (ts : List Tr) (h : SmallN ts) : Evt (fun k => impl_hasResets.f k p ts) (ts.any resetT) := by
  unfold impl_hasResets.f
  refine Evt.bind (a := ts.any resetT) ?_ (Evt.ok _)
  refine containsFunc_gen (fun k (t : Tr) => impl_hasResets_1.f t.f0 t.f1 t.f2) resetT (rd_T63 ts) (fun k i => slices_IndexFunc_impl_Trans_impl_Trans_at_impl_hasResets_1.l0 k ts (ts.length : Int) i) _ ts ?_ ?_ ?_ ?_ h.short
  · intro k; rfl
  · intro k i; simp only [slices_IndexFunc_impl_Trans_impl_Trans_at_impl_hasResets_1.l0]
  · intro t ht; exact Evt.ok _
  · intro i hi; exact rdG ts _ i hi
end Go.Proofs.Ytbkjgnfnjgebiaa.Lib
