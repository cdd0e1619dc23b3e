import Derived.Test.YtbkjgnfnjgebiaaF0
import Derived.Test.YtbkjgnfnjgebiaaF3
import Derived.Test.YtbkjgnfnjgebiaaGood
namespace Go.Proofs.Ytbkjgnfnjgebiaa.Lib
open Go.RowKit Go.Proofs.Ytbkjgnfnjgebiaa.F Go.Proofs.YtbkjgnfnjgebiaaW.PrintWords Go.Proofs.YtbkjgnfnjgebiaaW.PrintLast Go.Proofs.YtbkjgnfnjgebiaaW.PrintMore
theorem clone_same (l : List Int) (h : Short l) : slices_Clone_int_int.f l = some l := by
  have h' : l.length ≤ 17592186044415 := h
  simp only [slices_Clone_int_int.f, Option.bind_some, List.nil_append, List.length_nil, Nat.zero_add]
  exact if_pos (by omega)
theorem takeT (ts : List Tr) (i : Nat) (h : i < ts.length) : ts.take i ++ [⟨ts[i].f0, ts[i].f1, ts[i].f2⟩] = ts.take (i + 1) := by
  rw [List.take_succ_eq_append_getElem h]
theorem cloneNet_ev (p : Int) (ts : List Tr) (hs : SmallN ts) : Evt (fun k => impl_cloneNet.f k p ts) (p, ts) := by
  have hl := hs.1
  have key : ∀ i, i ≤ ts.length → ∀ s : List Tr, s = ts.take i → Evt (fun k => impl_cloneNet.l0 k ts (ts.length : Int) (i : Int) p s) (p, ts) := by
    refine down (P := fun i (s : List Tr) => s = ts.take i → Evt (fun k => impl_cloneNet.l0 k ts (ts.length : Int) (i : Int) p s) (p, ts)) ?_ ?_
    · intro s hs'
      refine Evt.step ?_
      simp only [impl_cloneNet.l0]
      exact Evt.neg (natNotLt _) ((Evt.ok _).cast (by rw [hs', List.take_length]))
    · intro i hi ih s hs'
      have hsm : SmallT ts[i] := hs.2 _ (List.getElem_mem hi)
      have er : rd_T63 ts (i : Int) = ts[i] := rdG ts _ i hi
      have hsl : s.length ≤ ts.length := by rw [hs', List.length_take]; omega
      refine Evt.step ?_
      simp only [impl_cloneNet.l0, er, clone_same _ hsm.s0, clone_same _ hsm.s1, clone_same _ hsm.s2, Option.bind_some]
      rw [wrapN i _ hi (by omega)]
      exact Evt.pos (natLt _ _ hi) (Evt.pos (by omega) (Evt.pos (natLt _ _ hi) (Evt.pos (by omega) (ih _ (by rw [hs']; exact takeT ts i hi)))))
  exact key 0 (Nat.zero_le _) [] (by simp)
end Go.Proofs.Ytbkjgnfnjgebiaa.Lib
