import Derived.Test.YtffdacmdgfpnmaaF0
import Derived.Test.YtffdacmdgfpnmaaF3
import Derived.Test.YtffdacmdgfpnmaaBig
namespace Go.Proofs.Ytffdacmdgfpnmaa.Lib
open Go.RowKit Go.Proofs.Ytffdacmdgfpnmaa.F Go.Proofs.YtffdacmdgfpnmaaW.PrintWords Go.Proofs.YtffdacmdgfpnmaaW.PrintLast Go.Proofs.YtffdacmdgfpnmaaW.PrintMore
theorem l8LoopBigSiphon_ev (p : Int) (ts : List Tr) (l : List Int) (h : SmallN ts) (hl : Short l) : Evt (fun k => spec_l8Siphon.f k p ts l) (ts.all (keepsT true l)) := by
  have hn := h.1
  unfold spec_l8Siphon.f
  refine loop_allL (fun k i => spec_l8Siphon.l0 k l ts (ts.length : Int) (i : Int)) ts (keepsT true l) ?_ ?_ ?_
  · simp only [spec_l8Siphon.l0]
    exact Evt.neg (natNotLt _) (Evt.ok _)
  · intro i hi hp r hr
    have hsm : SmallT ts[i] := h.2 _ (List.getElem_mem hi)
    have er : rd_T63 ts (i : Int) = ts[i] := rdG ts _ i hi
    simp only [spec_l8Siphon.l0, er]
    rw [wrapN i _ hi (by omega)]
    refine Evt.pos (natLt _ _ hi) (Evt.pos (by omega) (Evt.pos (natLt _ _ hi) ?_))
    cases h1 : meet ts[i].f1 l with
    | false => exact Evt.bind ((l2Meet_ev _ _ hsm.s1 hl).cast h1) (Evt.neg (by decide) hr)
    | true =>
      have h2 : meet ts[i].f0 l = true := by simpa [keepsT, sideA, sideB, h1] using hp
      exact Evt.bind ((l2Meet_ev _ _ hsm.s1 hl).cast h1) (Evt.pos rfl (Evt.bind ((l2Meet_ev _ _ hsm.s0 hl).cast h2) (Evt.pos rfl hr)))
  · intro i hi hp
    have hsm : SmallT ts[i] := h.2 _ (List.getElem_mem hi)
    have er : rd_T63 ts (i : Int) = ts[i] := rdG ts _ i hi
    have h12 : meet ts[i].f1 l = true ∧ meet ts[i].f0 l = false := by simpa [keepsT, sideA, sideB] using hp
    simp only [spec_l8Siphon.l0, er]
    exact Evt.pos (natLt _ _ hi) (Evt.pos (by omega) (Evt.pos (natLt _ _ hi) (Evt.bind ((l2Meet_ev _ _ hsm.s1 hl).cast h12.1) (Evt.pos rfl (Evt.bind ((l2Meet_ev _ _ hsm.s0 hl).cast h12.2) (Evt.neg (by decide) (Evt.ok _)))))))
end Go.Proofs.Ytffdacmdgfpnmaa.Lib
