/- A flow of one transition. -/
import Derived.Test.YtaadkpbpkeckdaaF10
import Derived.Test.YtaadkpbpkeckdaaGoodFlow
import Derived.Test.YtaadkpbpkeckdaaResets
namespace Go.Proofs.Ytaadkpbpkeckdaa.Lib
open Go.RowKit Go.Proofs.Ytaadkpbpkeckdaa.F Go.Proofs.YtaadkpbpkeckdaaW.PrintWords Go.Proofs.YtaadkpbpkeckdaaW.PrintLast Go.Proofs.YtaadkpbpkeckdaaW.PrintMore
set_option linter.unusedVariables false
set_option linter.unusedSimpArgs false
theorem core_IsPoint (p : Int) (ts : List Tr) (u v : Int) (hs : SmallN ts) : ∃ x : Bool × Bool, Evt (fun k => spec_IsPoint.f k p ts u v) x ∧ Evt (fun k => impl_IsPoint.f k p ts u v) x := by
  obtain ⟨b, h1, h2, h3⟩ := goodFlow_ex p ts u v hs
  unfold spec_IsPoint.f impl_IsPoint.f spec_l10Asked.f impl_isReducible.f
  cases b with
  | false => exact ⟨(false, false), Evt.bind (Evt.bind h1 (Evt.neg (by decide) (Evt.ok false))) (Evt.neg (by decide) (Evt.ok _)), Evt.bind (Evt.bind h2 (Evt.neg (by decide) (Evt.ok false))) (Evt.neg (by decide) (Evt.ok _))⟩
  | true =>
    have e1 := l2Resets_ev p ts hs
    have e2 := hasResets_ev p ts hs
    cases hr : ts.any resetT with
    | true => exact ⟨(false, false), Evt.bind (Evt.bind h1 (Evt.pos rfl (Evt.bind (e1.cast hr) (Evt.ok false)))) (Evt.neg (by decide) (Evt.ok _)), Evt.bind (Evt.bind h2 (Evt.pos rfl (Evt.bind (e2.cast hr) (Evt.ok false)))) (Evt.neg (by decide) (Evt.ok _))⟩
    | false =>
      have g1 := Evt.bind (g := fun k t => if t = true then ((spec_l2Resets.f k p ts).bind fun t453 => (some (!t453))) else (some false)) h1 (Evt.pos rfl (Evt.bind (e1.cast hr) (Evt.ok true)))
      have g2 := Evt.bind (g := fun k t => if t = true then ((impl_hasResets.f k p ts).bind fun t464 => (some (!t464))) else (some false)) h2 (Evt.pos rfl (Evt.bind (e2.cast hr) (Evt.ok true)))
      by_cases h : p = 2
      · exact ⟨(((ts.length : Int) == 1), true), Evt.bind g1 (Evt.pos rfl (Evt.pos h (Evt.ok _))), Evt.bind g2 (Evt.pos rfl (Evt.pos h (Evt.ok _)))⟩
      · exact ⟨(false, true), Evt.bind g1 (Evt.pos rfl (Evt.neg h (Evt.ok _))), Evt.bind g2 (Evt.pos rfl (Evt.neg h (Evt.ok _)))⟩
end Go.Proofs.Ytaadkpbpkeckdaa.Lib
