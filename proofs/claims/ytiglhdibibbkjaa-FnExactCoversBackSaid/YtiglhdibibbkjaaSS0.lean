import Derived.Test.YtiglhdibibbkjaaF0
import Derived.Test.YtiglhdibibbkjaaInts
namespace Go.Proofs.Ytiglhdibibbkjaa.Lib
open Go.RowKit Go.Proofs.Ytiglhdibibbkjaa.F Go.Proofs.YtiglhdibibbkjaaW.PrintWords Go.Proofs.YtiglhdibibbkjaaW.PrintLast Go.Proofs.YtiglhdibibbkjaaW.PrintMore
def tot (L : List (List Int)) : Nat := (L.map List.length).sum
theorem tot_cons (x : List Int) (L : List (List Int)) : tot (x :: L) = x.length + tot L := by simp [tot]
theorem tot_mem {L : List (List Int)} {x : List Int} (h : x ∈ L) : x.length ≤ tot L := by
  induction L with
  | nil => cases h
  | cons y L ih =>
    rw [tot_cons]
    rcases List.mem_cons.1 h with rfl | h
    · omega
    · have := ih h; omega
theorem rdLL (l : List (List Int)) (i : Nat) (h : i < l.length) : rd_L1 l (i : Int) = l[i] := by
  unfold rd_L1; rw [Int.toNat_natCast]; simp [List.getD_eq_getElem?_getD, List.getElem?_eq_getElem h]
theorem tot_le (n : Nat) : ∀ L : List (List Int), (∀ x ∈ L, x.length ≤ n) → tot L ≤ n * L.length
  | [], _ => by simp [tot]
  | x :: L, h => by
    rw [tot_cons, List.length_cons, Nat.mul_succ]
    have := h x (List.mem_cons_self ..)
    have := tot_le n L (fun y hy => h y (List.mem_cons_of_mem _ hy))
    omega
end Go.Proofs.Ytiglhdibibbkjaa.Lib
