import Derived.Test.YtffdacmdgfpnmaaF0
import Derived.Test.YtffdacmdgfpnmaaF5
import Derived.Test.YtffdacmdgfpnmaaBig
namespace Go.Proofs.Ytffdacmdgfpnmaa.Lib
open Go.RowKit Go.Proofs.Ytffdacmdgfpnmaa.F Go.Proofs.YtffdacmdgfpnmaaW.PrintWords Go.Proofs.YtffdacmdgfpnmaaW.PrintLast Go.Proofs.YtffdacmdgfpnmaaW.PrintMore
theorem l8LoopBigTrap_ev (p : Int) (ts : List Tr) (l : List Int) (h : SmallN ts) (hl : Short l) : Evt (fun k => spec_l8Trap.f k p ts l) (ts.all (keepsT false l)) := by
  have hn := h.1
  unfold spec_l8Trap.f
  refine loop_allL (fun k i => spec_l8Trap.l0 k l ts (ts.length : Int) (i : Int)) ts (keepsT false l) ?_ ?_ ?_
  · simp only [spec_l8Trap.l0]
    exact Evt.neg (natNotLt _) (Evt.ok _)
  · intro i hi hp r hr
    have hsm : SmallT ts[i] := h.2 _ (List.getElem_mem hi)
    have er : rd_T63 ts (i : Int) = ts[i] := rdG ts _ i hi
    simp only [spec_l8Trap.l0, er]
    rw [wrapN i _ hi (by omega)]
    refine Evt.pos (natLt _ _ hi) (Evt.pos (by omega) (Evt.pos (natLt _ _ hi) ?_))
    cases h1 : meet ts[i].f0 l with
    | false => exact Evt.bind ((l2Meet_ev _ _ hsm.s0 hl).cast h1) (Evt.neg (by decide) hr)
    | true =>
      have h2 : meet ts[i].f1 l = true := by simpa [keepsT, sideA, sideB, h1] using hp
      exact Evt.bind ((l2Meet_ev _ _ hsm.s0 hl).cast h1) (Evt.pos rfl (Evt.bind ((l2Meet_ev _ _ hsm.s1 hl).cast h2) (Evt.pos rfl hr)))
  · intro i hi hp
    have hsm : SmallT ts[i] := h.2 _ (List.getElem_mem hi)
    have er : rd_T63 ts (i : Int) = ts[i] := rdG ts _ i hi
    have h12 : meet ts[i].f0 l = true ∧ meet ts[i].f1 l = false := by simpa [keepsT, sideA, sideB] using hp
    simp only [spec_l8Trap.l0, er]
    exact Evt.pos (natLt _ _ hi) (Evt.pos (by omega) (Evt.pos (natLt _ _ hi) (Evt.bind ((l2Meet_ev _ _ hsm.s0 hl).cast h12.1) (Evt.pos rfl (Evt.bind ((l2Meet_ev _ _ hsm.s1 hl).cast h12.2) (Evt.neg (by decide) (Evt.ok _)))))))
theorem bigBigTrap_ex (p : Int) (ts : List Tr) (l : List Int) (h : SmallN ts) (hl : Short l) (hp : ∀ t ∈ ts, inPlaces t) (hb : ∀ q ∈ l, 0 ≤ q ∧ q < 16) : ∃ y, Evt (fun k => spec_l8BigTrap.l0 k l p ts) ((fun y => y) y) ∧ List.Sublist y l ∧ isBig false ts (mask l) (mask y) := by
  have hn := h.1
  have hl' : l.length ≤ 17592186044415 := hl
  have hsh : ∀ x, List.Sublist x l → Short x := fun x hx => by have := hx.length_le; show x.length ≤ _; omega
  refine big_gen false ts hp l hb (fun k x => spec_l8BigTrap.l0 k x p ts) (fun k x i => spec_l8BigTrap.l1 k x ts (ts.length : Int) (i : Int) p ts) (fun y => y) ?_ ?_ ?_ ?_ ?_ l.length l rfl (List.Sublist.refl l)
  · intro x hx ha
    simp only [spec_l8BigTrap.l0]
    exact Evt.bind ((l8LoopBigTrap_ev p ts x h (hsh x hx)).cast ha) (Evt.pos rfl (Evt.ok _))
  · intro x hx ha r hr
    simp only [spec_l8BigTrap.l0]
    exact Evt.bind ((l8LoopBigTrap_ev p ts x h (hsh x hx)).cast ha) (Evt.neg (by decide) hr)
  · intro x r hr
    simp only [spec_l8BigTrap.l1]
    exact Evt.neg (natNotLt _) hr
  · intro x hx i hi hk r hr
    have hsm : SmallT ts[i] := h.2 _ (List.getElem_mem hi)
    have er : rd_T63 ts (i : Int) = ts[i] := rdG ts _ i hi
    simp only [spec_l8BigTrap.l1, er]
    rw [wrapN i _ hi (by omega)]
    refine Evt.pos (natLt _ _ hi) (Evt.pos (by omega) (Evt.pos (natLt _ _ hi) ?_))
    cases h1 : meet ts[i].f0 x with
    | false => exact Evt.bind ((l2Meet_ev _ _ hsm.s0 (hsh x hx)).cast h1) (Evt.neg (by decide) hr)
    | true =>
      have h2 : meet ts[i].f1 x = true := by simpa [keepsT, sideA, sideB, h1] using hk
      exact Evt.bind ((l2Meet_ev _ _ hsm.s0 (hsh x hx)).cast h1) (Evt.pos rfl (Evt.bind ((l2Meet_ev _ _ hsm.s1 (hsh x hx)).cast h2) (Evt.pos rfl hr)))
  · intro x hx i hi hk r hr
    have hsm : SmallT ts[i] := h.2 _ (List.getElem_mem hi)
    have er : rd_T63 ts (i : Int) = ts[i] := rdG ts _ i hi
    have h12 : meet ts[i].f0 x = true ∧ meet ts[i].f1 x = false := by simpa [keepsT, sideA, sideB] using hk
    simp only [spec_l8BigTrap.l1, er]
    rw [wrapN i _ hi (by omega)]
    exact Evt.pos (natLt _ _ hi) (Evt.pos (by omega) (Evt.pos (natLt _ _ hi) (Evt.bind ((l2Meet_ev _ _ hsm.s0 (hsh x hx)).cast h12.1) (Evt.pos rfl (Evt.bind ((l2Meet_ev _ _ hsm.s1 (hsh x hx)).cast h12.2) (Evt.neg (by decide) (Evt.bind (l8Without_ev x _ (hsh x hx) hsm.s0) hr)))))))
end Go.Proofs.Ytffdacmdgfpnmaa.Lib
