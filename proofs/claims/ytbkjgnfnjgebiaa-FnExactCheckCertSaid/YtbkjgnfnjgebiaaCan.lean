import Derived.Test.YtbkjgnfnjgebiaaF2
import Derived.Test.YtbkjgnfnjgebiaaF5
import Derived.Test.YtbkjgnfnjgebiaaInNet
namespace Go.Proofs.Ytbkjgnfnjgebiaa.Lib
open Go.RowKit Go.Proofs.Ytbkjgnfnjgebiaa.F Go.Proofs.YtbkjgnfnjgebiaaW.PrintWords Go.Proofs.YtbkjgnfnjgebiaaW.PrintLast Go.Proofs.YtbkjgnfnjgebiaaW.PrintMore
def can (t:Tr) (m:List Int):Bool:=t.f0.all fun q=>!decide (rd m q=0)
theorem l2Can_ev (t:Tr) (m:List Int) (ht:SmallT t) (hp:inNet m.length t):Evt (fun k=>spec_l2Can.f k t.f0 t.f1 t.f2 m) (can t m):=by
  have hl:=ht.1
  unfold spec_l2Can.f
  refine loop_allL (fun k i=>spec_l2Can.l0 k m t.f0 (t.f0.length:Int) (i:Int)) t.f0 (fun q=>!decide (rd m q=0)) ?_ ?_ ?_
  · simp only [spec_l2Can.l0]
    exact Evt.neg (natNotLt _) (Evt.ok _)
  · intro i hi hq r hr
    have hb:=hp.1 t.f0[i] (List.getElem_mem hi)
    simp only [spec_l2Can.l0]
    rw [wrapN i _ hi (by omega),rdN t.f0 i hi]
    refine Evt.pos (natLt _ _ hi) (Evt.pos (by omega) (Evt.pos (natLt _ _ hi) (Evt.pos hb.1 (Evt.pos hb.2 (Evt.neg ?_ hr)))))
    simpa using hq
  · intro i hi hq
    have hb:=hp.1 t.f0[i] (List.getElem_mem hi)
    simp only [spec_l2Can.l0]
    rw [rdN t.f0 i hi]
    refine Evt.pos (natLt _ _ hi) (Evt.pos (by omega) (Evt.pos (natLt _ _ hi) (Evt.pos hb.1 (Evt.pos hb.2 (Evt.pos ?_ (Evt.ok _))))))
    simpa using hq
theorem isEnabled_ev (t:Tr) (m:List Int) (ht:SmallT t) (hp:inNet m.length t):Evt (fun k=>impl_isEnabled.f k t.f0 t.f1 t.f2 m) (can t m):=by
  unfold impl_isEnabled.f
  refine Evt.bind (a:=t.f0.any fun q=>decide (rd m q=0)) ?_ ((Evt.ok _).cast ?_)
  · refine containsFunc_gen (fun k (x:Int)=>impl_isEnabled_1.f x m) (fun q=>decide (rd m q=0)) (rd t.f0) (fun k i=>slices_IndexFunc_int_int_at_impl_isEnabled_1.l0 k t.f0 (t.f0.length:Int) i m) _ t.f0 ?_ ?_ ?_ ?_ ht.s0
    · intro k;rfl
    · intro k i;simp only [slices_IndexFunc_int_int_at_impl_isEnabled_1.l0]
    · intro x hx
      have hb:=hp.1 x hx
      simp only [impl_isEnabled_1.f]
      refine Evt.pos hb.1 (Evt.pos hb.2 ((Evt.ok _).cast ?_))
      by_cases e:rd m x=0
      · simp [e]
      · simp [e]
    · intro i hi;exact rdN t.f0 i hi
  · rw [show can t m=t.f0.all (fun q=>!decide (rd m q=0)) from rfl,← any_not];simp
end Go.Proofs.Ytbkjgnfnjgebiaa.Lib
