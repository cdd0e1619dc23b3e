import Derived.Test.YtbkjgnfnjgebiaaF2
import Derived.Test.YtbkjgnfnjgebiaaIn
namespace Go.Proofs.Ytbkjgnfnjgebiaa.Lib
open Go.RowKit Go.Proofs.Ytbkjgnfnjgebiaa.F Go.Proofs.YtbkjgnfnjgebiaaW.PrintWords Go.Proofs.YtbkjgnfnjgebiaaW.PrintLast Go.Proofs.YtbkjgnfnjgebiaaW.PrintMore
theorem l1All_ev (l:List Int) (lo hi:Int) (hl:Short l):Evt (fun k=>spec_l1All.f k l lo hi) (allIn l lo hi):=by
  have hl' : l.length≤17592186044415:=hl
  have key:∀ i,i≤l.length → ∀ s:Unit,Evt (fun k=>spec_l1All.l0 k lo hi l (l.length:Int) i) (allIn (l.drop i) lo hi):=by
    refine down (P:=fun i _=>Evt (fun k=>spec_l1All.l0 k lo hi l (l.length:Int) i) (allIn (l.drop i) lo hi)) ?_ ?_
    · intro _
      refine Evt.step ?_
      simp only [spec_l1All.l0]
      refine Evt.neg (natNotLt _) ?_
      rw [List.drop_length];exact Evt.ok _
    · intro i hi_ ih _
      refine Evt.step ?_
      simp only [spec_l1All.l0]
      refine Evt.pos (natLt _ _ hi_) (Evt.pos (by omega) (Evt.pos (natLt _ _ hi_) ?_))
      rw [rdN l i hi_,wrapN i _ hi_ (by omega),dropN l i hi_]
      refine Evt.bind0 (l1In_eq _ _ _) ?_
      cases h:within l[i] lo hi with
      | true =>
        exact Evt.pos rfl ((ih ()).cast (by rw [allIn_cons,h,Bool.true_and]))
      | false =>
        exact Evt.neg (by decide) ((Evt.ok _).cast (by rw [allIn_cons,h,Bool.false_and]))
  unfold spec_l1All.f
  exact key 0 (Nat.zero_le _) ()
end Go.Proofs.Ytbkjgnfnjgebiaa.Lib
