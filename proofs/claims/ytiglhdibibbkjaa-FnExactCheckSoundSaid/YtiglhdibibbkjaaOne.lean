import Derived.Test.YtiglhdibibbkjaaMarksS
namespace Go.Proofs.Ytiglhdibibbkjaa.Lib
open Go.RowKit Go.Proofs.Ytiglhdibibbkjaa.F Go.Proofs.YtiglhdibibbkjaaW.PrintWords Go.Proofs.YtiglhdibibbkjaaW.PrintLast Go.Proofs.YtiglhdibibbkjaaW.PrintMore
theorem one_good (p x:Int) (hp:1≤p∧p≤16) (h:0≤x∧x<p):goodMark p ((List.replicate p.toNat 0).set x.toNat 1)=true:=by
  have hlen:((((List.replicate p.toNat (0:Int)).set x.toNat 1).length:Nat):Int)=p:=by rw [List.length_set,List.length_replicate];omega
  have hw:within p 1 16=true:=decide_eq_true hp
  have ha:allIn ((List.replicate p.toNat (0:Int)).set x.toNat 1) 0 50=true:=by
    refine List.all_eq_true.2 fun y hy=>?_
    rcases List.mem_or_eq_of_mem_set hy with h' | h'
    · rw [List.eq_of_mem_replicate h'];decide
    · rw [h'];decide
  unfold goodMark
  rw [hw,ha,hlen]
  simp
end Go.Proofs.Ytiglhdibibbkjaa.Lib
