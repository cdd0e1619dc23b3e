/- The change that counts of firings make, handed back. -/
import Derived.Test.YtffdacmdgfpnmaaF13
import Derived.Test.YtffdacmdgfpnmaaF14
import Derived.Test.YtffdacmdgfpnmaaChange
namespace Go.Proofs.Ytffdacmdgfpnmaa.Lib
open Go.RowKit Go.Proofs.Ytffdacmdgfpnmaa.F Go.Proofs.YtffdacmdgfpnmaaW.PrintWords Go.Proofs.YtffdacmdgfpnmaaW.PrintLast Go.Proofs.YtffdacmdgfpnmaaW.PrintMore
set_option linter.unusedVariables false
set_option linter.unusedSimpArgs false
theorem core_ChangeBy (p : Int) (ts : List Tr) (x1 : List Int) (hs : SmallN ts) (h1 : Short x1) : ∃ x : List Int × Bool, Evt (fun k => spec_ChangeBy.f k p ts x1) x ∧ Evt (fun k => impl_ChangeBy.f k p ts x1) x ∧ Short x.1 := by
  unfold spec_ChangeBy.f impl_ChangeBy.f
  cases hg : counts p ts x1 with
  | false => exact ⟨([], false), Evt.bind ((l7Counts_ev p _ x1 hs h1).cast hg) (Evt.neg (by decide) (Evt.ok _)), Evt.bind ((areCounts_ev p _ x1 hs h1).cast hg) (Evt.neg (by decide) (Evt.ok _)), by show 0 ≤ _; omega⟩
  | true =>
    have hf := counts_facts hg
    obtain ⟨n, e, hn, hp⟩ := change_places hf.1
    exact ⟨(_, true), Evt.bind ((l7Counts_ev p _ x1 hs h1).cast hg) (Evt.pos rfl (Evt.bind (l7Change_ev p _ x1 n e hn hs (by omega) hp) (Evt.ok _))), Evt.bind ((areCounts_ev p _ x1 hs h1).cast hg) (Evt.pos rfl (Evt.bind (changeBy_ev p _ x1 n e hn hs (by omega) hp) (Evt.ok _))), by show (vec n _).length ≤ _; rw [vec_length]; omega⟩
end Go.Proofs.Ytffdacmdgfpnmaa.Lib
