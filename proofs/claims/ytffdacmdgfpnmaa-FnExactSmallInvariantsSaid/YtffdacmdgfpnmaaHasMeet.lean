import Derived.Test.YtffdacmdgfpnmaaF3
import Derived.Test.YtffdacmdgfpnmaaHasOf
namespace Go.Proofs.Ytffdacmdgfpnmaa.Lib
open Go.RowKit Go.Proofs.Ytffdacmdgfpnmaa.F Go.Proofs.YtffdacmdgfpnmaaW.PrintWords Go.Proofs.YtffdacmdgfpnmaaW.PrintLast Go.Proofs.YtffdacmdgfpnmaaW.PrintMore
def meet (a b : List Int) : Bool := a.any fun x => has b x
theorem meet_iff (a b : List Int) : meet a b = true ↔ ∃ x, x ∈ a ∧ x ∈ b := by
  simp only [meet, has, List.any_eq_true, decide_eq_true_eq]
  constructor
  · rintro ⟨x, hx, y, hy, rfl⟩; exact ⟨_, hx, hy⟩
  · rintro ⟨x, hx, hy⟩; exact ⟨x, hx, x, hy, rfl⟩
theorem l2Meet_ev (a b : List Int) (ha : Short a) (hb : Short b) : Evt (fun k => spec_l2Meet.f k a b) (meet a b) := by
  have ha' : a.length ≤ 17592186044415 := ha
  unfold spec_l2Meet.f
  refine loop_anyL (fun k i => spec_l2Meet.l0 k b a (a.length : Int) (i : Int)) a (fun x => has b x) ?_ ?_ ?_
  · simp only [spec_l2Meet.l0]
    exact Evt.neg (natNotLt _) (Evt.ok _)
  · intro i hi hp r hr
    simp only [spec_l2Meet.l0]
    rw [wrapN i _ hi (by omega), rdN a i hi]
    exact Evt.pos (natLt _ _ hi) (Evt.pos (by omega) (Evt.pos (natLt _ _ hi) (Evt.bind ((l1Has_ev b _ hb).cast hp) (Evt.neg (by decide) hr))))
  · intro i hi hp
    simp only [spec_l2Meet.l0]
    rw [rdN a i hi]
    exact Evt.pos (natLt _ _ hi) (Evt.pos (by omega) (Evt.pos (natLt _ _ hi) (Evt.bind ((l1Has_ev b _ hb).cast hp) (Evt.pos rfl (Evt.ok _)))))
end Go.Proofs.Ytffdacmdgfpnmaa.Lib
