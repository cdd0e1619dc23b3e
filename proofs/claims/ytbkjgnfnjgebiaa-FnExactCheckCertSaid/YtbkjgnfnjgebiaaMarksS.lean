import Derived.Test.YtbkjgnfnjgebiaaF1
import Derived.Test.YtbkjgnfnjgebiaaF2
import Derived.Test.YtbkjgnfnjgebiaaAll
namespace Go.Proofs.Ytbkjgnfnjgebiaa.Lib
open Go.RowKit Go.Proofs.Ytbkjgnfnjgebiaa.F Go.Proofs.YtbkjgnfnjgebiaaW.PrintWords Go.Proofs.YtbkjgnfnjgebiaaW.PrintLast Go.Proofs.YtbkjgnfnjgebiaaW.PrintMore
def goodMark (p:Int) (l:List Int):Bool:=within p 1 16 && decide ((l.length:Int)=p) && allIn l 0 50
theorem specGoodMark_ev (p:Int) (l:List Int) (hl:Short l):Evt (fun k=>spec_GoodMark.f k p l) (goodMark p l):=by
  unfold spec_GoodMark.f spec_l1Places.f goodMark
  simp only [l1In_eq,Option.bind_some]
  cases h:within p 1 16 with
  | false=>exact Evt.neg (by decide) ((Evt.ok _).cast (by simp))
  | true =>
    refine Evt.pos rfl ?_
    by_cases h2:(l.length:Int)=p
    · refine Evt.pos h2 (Evt.bind (l1All_ev l 0 50 hl) ((Evt.ok _).cast ?_))
      simp [h2]
    · refine Evt.neg h2 ((Evt.ok _).cast ?_)
      simp [h2]
theorem goodMark_bounds {p:Int} {l:List Int} (h:goodMark p l=true):1≤p∧p≤16∧(l.length:Int)=p ∧ ∀ x ∈ l,0≤x∧x≤50:=by
  simp only [goodMark,within,allIn,Bool.and_eq_true,decide_eq_true_eq,List.all_eq_true] at h
  exact ⟨h.1.1.1,h.1.1.2,h.1.2,h.2⟩
end Go.Proofs.Ytbkjgnfnjgebiaa.Lib
