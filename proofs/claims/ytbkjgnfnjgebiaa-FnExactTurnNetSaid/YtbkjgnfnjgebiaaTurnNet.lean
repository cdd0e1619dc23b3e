import Derived.Test.YtbkjgnfnjgebiaaF0
import Derived.Test.YtbkjgnfnjgebiaaF1
import Derived.Test.YtbkjgnfnjgebiaaCloneNet
import Derived.Test.YtbkjgnfnjgebiaaResets
namespace Go.Proofs.Ytbkjgnfnjgebiaa.Lib
open Go.RowKit Go.Proofs.Ytbkjgnfnjgebiaa.F Go.Proofs.YtbkjgnfnjgebiaaW.PrintWords Go.Proofs.YtbkjgnfnjgebiaaW.PrintLast Go.Proofs.YtbkjgnfnjgebiaaW.PrintMore
def turnT (t : Tr) : Tr := ⟨t.f1, t.f0, []⟩
theorem turn_small {ts : List Tr} (hs : SmallN ts) : SmallN (ts.map turnT) := by
  refine ⟨by rw [List.length_map]; exact hs.1, fun t ht => ?_⟩
  obtain ⟨s, h1, rfl⟩ := List.mem_map.1 ht
  exact ⟨(hs.2 s h1).2.1, (hs.2 s h1).1, by simp [turnT]⟩
def turned (p : Int) (ts : List Tr) : Int × List Tr × Bool := if goodNet p (ts.map turnT) = true then (p, ts.map turnT, true) else (0, [], false)
theorem specTurn_loop (p : Int) (ts : List Tr) (hs : SmallN ts) : Evt (fun k => spec_TurnNet.l0 k ts (ts.length : Int) 0 p []) (turned p ts) := by
  have hl := hs.1
  have key : ∀ i, i ≤ ts.length → ∀ s : List Tr, s = (ts.take i).map turnT → Evt (fun k => spec_TurnNet.l0 k ts (ts.length : Int) (i : Int) p s) (turned p ts) := by
    refine down (P := fun i (s : List Tr) => s = (ts.take i).map turnT → Evt (fun k => spec_TurnNet.l0 k ts (ts.length : Int) (i : Int) p s) (turned p ts)) ?_ ?_
    · intro s hs'
      rw [List.take_length] at hs'
      subst hs'
      refine Evt.step ?_
      simp only [spec_TurnNet.l0]
      refine Evt.neg (natNotLt _) ?_
      unfold turned
      cases hq : goodNet p (ts.map turnT) with
      | true => exact Evt.bind ((specGoodNet_ev p _ (turn_small hs)).cast hq) (Evt.pos rfl (Evt.ok _))
      | false => exact Evt.bind ((specGoodNet_ev p _ (turn_small hs)).cast hq) (Evt.neg (by decide) (Evt.ok _))
    · intro i hi ih s hs'
      have hsm : SmallT ts[i] := hs.2 _ (List.getElem_mem hi)
      have er : rd_T63 ts (i : Int) = ts[i] := rdG ts _ i hi
      have hsl : s.length ≤ ts.length := by rw [hs', List.length_map, List.length_take]; omega
      refine Evt.step ?_
      simp only [spec_TurnNet.l0, er, l1Own_same _ hsm.s0, l1Own_same _ hsm.s1, Option.bind_some]
      rw [wrapN i _ hi (by omega)]
      exact Evt.pos (natLt _ _ hi) (Evt.pos (by omega) (Evt.pos (natLt _ _ hi) (Evt.pos (by omega) (ih _ (by rw [hs', List.take_succ_eq_append_getElem hi, List.map_append]; rfl)))))
  exact key 0 (Nat.zero_le _) [] (by simp)
theorem specTurn_ev (p : Int) (ts : List Tr) (hs : SmallN ts) : Evt (fun k => spec_TurnNet.f k p ts) (if (goodNet p ts && !ts.any resetT) = true then turned p ts else (0, [], false)) := by
  have no : Evt (fun k => spec_TurnNet.j0 k true p ts) (0, [], false) := by
    refine Evt.step ?_
    simp only [spec_TurnNet.j0]
    exact Evt.pos (by first | rfl | trivial) (Evt.ok _)
  unfold spec_TurnNet.f
  cases hg : goodNet p ts with
  | false => exact Evt.bind ((specGoodNet_ev p ts hs).cast hg) (Evt.neg (by decide) no)
  | true =>
    cases hr : ts.any resetT with
    | true => exact Evt.bind ((specGoodNet_ev p ts hs).cast hg) (Evt.pos rfl (Evt.bind ((l2Resets_ev p ts hs).cast hr) no))
    | false =>
      refine Evt.bind ((specGoodNet_ev p ts hs).cast hg) (Evt.pos rfl (Evt.bind ((l2Resets_ev p ts hs).cast hr) (Evt.step ?_)))
      simp only [spec_TurnNet.j0]
      exact Evt.neg (by decide) (specTurn_loop p ts hs)
end Go.Proofs.Ytbkjgnfnjgebiaa.Lib
