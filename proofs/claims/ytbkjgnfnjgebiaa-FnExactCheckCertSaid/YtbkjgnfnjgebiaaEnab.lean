import Derived.Test.YtbkjgnfnjgebiaaF0
import Derived.Test.YtbkjgnfnjgebiaaF2
import Derived.Test.YtbkjgnfnjgebiaaF5
import Derived.Test.YtbkjgnfnjgebiaaCan
import Derived.Test.YtbkjgnfnjgebiaaFilter
namespace Go.Proofs.Ytbkjgnfnjgebiaa.Lib
open Go.RowKit Go.Proofs.Ytbkjgnfnjgebiaa.F Go.Proofs.YtbkjgnfnjgebiaaW.PrintWords Go.Proofs.YtbkjgnfnjgebiaaW.PrintLast Go.Proofs.YtbkjgnfnjgebiaaW.PrintMore
def enabledL (ts:List Tr) (m:List Int):List Int:=picks (fun i=>can (ts.getD i z63) m) 0 ts.length
theorem enabledL_length (ts:List Tr) (m:List Int):(enabledL ts m).length≤ts.length:=picks_length _ _ _
theorem l2Enabled_ev (p:Int) (ts:List Tr) (m:List Int) (h:SmallN ts) (hp:∀ t ∈ ts,inNet m.length t):Evt (fun k=>spec_l2Enabled.f k p ts m) (enabledL ts m):=by
  have hl:=h.1
  unfold spec_l2Enabled.f
  refine loop_picks (fun k s (i:Nat)=>spec_l2Enabled.l0 k m s ts (ts.length:Int) (i:Int)) (fun s=>s) ts.length _ ?_ ?_ ?_
  · intro s
    simp only [spec_l2Enabled.l0]
    exact Evt.neg (natNotLt _) (Evt.ok _)
  · intro i hi hT s hs r hr
    have hsm:SmallT ts[i]:=h.2 _ (List.getElem_mem hi)
    have er:rd_T63 ts (i:Int)=ts[i]:=rdG ts _ i hi
    rw [getDN ts _ i hi] at hT
    simp only [spec_l2Enabled.l0,er]
    rw [wrapN i _ hi (by omega)]
    exact Evt.pos (natLt _ _ hi) (Evt.pos (by omega) (Evt.pos (natLt _ _ hi) (Evt.bind ((l2Can_ev _ m hsm (hp _ (List.getElem_mem hi))).cast hT) (Evt.pos rfl (Evt.pos (by omega) hr)))))
  · intro i hi hT s r hr
    have hsm:SmallT ts[i]:=h.2 _ (List.getElem_mem hi)
    have er:rd_T63 ts (i:Int)=ts[i]:=rdG ts _ i hi
    rw [getDN ts _ i hi] at hT
    simp only [spec_l2Enabled.l0,er]
    rw [wrapN i _ hi (by omega)]
    exact Evt.pos (natLt _ _ hi) (Evt.pos (by omega) (Evt.pos (natLt _ _ hi) (Evt.bind ((l2Can_ev _ m hsm (hp _ (List.getElem_mem hi))).cast hT) (Evt.neg (by decide) hr))))
theorem enabled_ev (p:Int) (ts:List Tr) (m:List Int) (h:SmallN ts) (hp:∀ t ∈ ts,inNet m.length t):Evt (fun k=>impl_enabled.f k p ts m) (enabledL ts m):=by
  have hl:=h.1
  unfold impl_enabled.f
  refine loop_picks (fun k s (i:Nat)=>impl_enabled.l0 k m s ts (ts.length:Int) (i:Int)) (fun s=>s) ts.length _ ?_ ?_ ?_
  · intro s
    simp only [impl_enabled.l0]
    exact Evt.neg (natNotLt _) (Evt.ok _)
  · intro i hi hT s hs r hr
    have hsm:SmallT ts[i]:=h.2 _ (List.getElem_mem hi)
    have er:rd_T63 ts (i:Int)=ts[i]:=rdG ts _ i hi
    rw [getDN ts _ i hi] at hT
    simp only [impl_enabled.l0,er]
    rw [wrapN i _ hi (by omega)]
    exact Evt.pos (natLt _ _ hi) (Evt.pos (by omega) (Evt.pos (natLt _ _ hi) (Evt.bind ((isEnabled_ev _ m hsm (hp _ (List.getElem_mem hi))).cast hT) (Evt.pos rfl (Evt.pos (by omega) hr)))))
  · intro i hi hT s r hr
    have hsm:SmallT ts[i]:=h.2 _ (List.getElem_mem hi)
    have er:rd_T63 ts (i:Int)=ts[i]:=rdG ts _ i hi
    rw [getDN ts _ i hi] at hT
    simp only [impl_enabled.l0,er]
    rw [wrapN i _ hi (by omega)]
    exact Evt.pos (natLt _ _ hi) (Evt.pos (by omega) (Evt.pos (natLt _ _ hi) (Evt.bind ((isEnabled_ev _ m hsm (hp _ (List.getElem_mem hi))).cast hT) (Evt.neg (by decide) hr))))
end Go.Proofs.Ytbkjgnfnjgebiaa.Lib
