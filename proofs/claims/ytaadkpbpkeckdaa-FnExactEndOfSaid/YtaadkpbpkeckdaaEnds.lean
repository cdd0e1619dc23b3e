/- A flow's first and last marking. -/
import Derived.Test.YtaadkpbpkeckdaaF8
import Derived.Test.YtaadkpbpkeckdaaF11
import Derived.Test.YtaadkpbpkeckdaaGoodFlow
namespace Go.Proofs.Ytaadkpbpkeckdaa.Lib
open Go.RowKit Go.Proofs.Ytaadkpbpkeckdaa.F Go.Proofs.YtaadkpbpkeckdaaW.PrintWords Go.Proofs.YtaadkpbpkeckdaaW.PrintLast Go.Proofs.YtaadkpbpkeckdaaW.PrintMore
set_option linter.unusedVariables false
set_option linter.unusedSimpArgs false
theorem core_StartOf (p : Int) (ts : List Tr) (u v : Int) (hs : SmallN ts) : ∃ x : List Int × Bool, Evt (fun k => spec_StartOf.f k p ts u v) x ∧ Evt (fun k => impl_StartOf.f k p ts u v) x ∧ Short x.1 := by
  obtain ⟨b, h1, h2, h3⟩ := goodFlow_ex p ts u v hs
  unfold spec_StartOf.f impl_StartOf.f
  cases b with
  | false => exact ⟨([], false), Evt.bind h1 (Evt.neg (by decide) (Evt.ok _)), Evt.bind h2 (Evt.neg (by decide) (Evt.ok _)), by show 0 ≤ _; omega⟩
  | true =>
    have h := h3 rfl
    have hf := goodNet_facts h.1
    have e := one_ev p u hf.2.1 h.2.1
    exact ⟨(_, true), Evt.bind h1 (Evt.pos rfl (Evt.bind0 e.1 (Evt.ok _))), Evt.bind h2 (Evt.pos rfl (Evt.bind0 e.2 (Evt.ok _))), by show ((List.replicate p.toNat (0 : Int)).set u.toNat 1).length ≤ _; rw [List.length_set, List.length_replicate]; omega⟩
theorem core_EndOf (p : Int) (ts : List Tr) (u v : Int) (hs : SmallN ts) : ∃ x : List Int × Bool, Evt (fun k => spec_EndOf.f k p ts u v) x ∧ Evt (fun k => impl_EndOf.f k p ts u v) x ∧ Short x.1 := by
  obtain ⟨b, h1, h2, h3⟩ := goodFlow_ex p ts u v hs
  unfold spec_EndOf.f impl_EndOf.f
  cases b with
  | false => exact ⟨([], false), Evt.bind h1 (Evt.neg (by decide) (Evt.ok _)), Evt.bind h2 (Evt.neg (by decide) (Evt.ok _)), by show 0 ≤ _; omega⟩
  | true =>
    have h := h3 rfl
    have hf := goodNet_facts h.1
    have e := one_ev p v hf.2.1 h.2.2
    exact ⟨(_, true), Evt.bind h1 (Evt.pos rfl (Evt.bind0 e.1 (Evt.ok _))), Evt.bind h2 (Evt.pos rfl (Evt.bind0 e.2 (Evt.ok _))), by show ((List.replicate p.toNat (0 : Int)).set v.toNat 1).length ≤ _; rw [List.length_set, List.length_replicate]; omega⟩
end Go.Proofs.Ytaadkpbpkeckdaa.Lib
