import Derived.Test.YtbkjgnfnjgebiaaF0
import Derived.Test.YtbkjgnfnjgebiaaInts
namespace Go.Proofs.Ytbkjgnfnjgebiaa.Lib
open Go.RowKit Go.Proofs.Ytbkjgnfnjgebiaa.F Go.Proofs.YtbkjgnfnjgebiaaW.PrintWords Go.Proofs.YtbkjgnfnjgebiaaW.PrintLast Go.Proofs.YtbkjgnfnjgebiaaW.PrintMore
def tot (L:List (List Int)):Nat:=(L.map List.length).sum
theorem tot_cons (x:List Int) (L:List (List Int)):tot (x :: L)=x.length+tot L:=by simp [tot]
theorem tot_mem {L:List (List Int)} {x:List Int} (h:x ∈ L):x.length≤tot L:=by
  induction L with
  | nil=>cases h
  | cons y L ih =>
    rw [tot_cons]
    rcases List.mem_cons.1 h with rfl|h
    · omega
    · have:=ih h;omega
theorem rdLL (l:List (List Int)) (i:Nat) (h:i<l.length):rd_L1 l (i:Int)=l[i]:=by
  unfold rd_L1;rw [Int.toNat_natCast];simp [List.getD_eq_getElem?_getD,List.getElem?_eq_getElem h]
end Go.Proofs.Ytbkjgnfnjgebiaa.Lib
