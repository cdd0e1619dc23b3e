import Derived.Test.YtbkjgnfnjgebiaaDoorF1
import Derived.Test.YtbkjgnfnjgebiaaDoorMarkText
namespace Go.Proofs.YtbkjgnfnjgebiaaDoor.Pure
open Go.RowKit Go.Proofs.YtbkjgnfnjgebiaaDoor.F Go.Proofs.YtbkjgnfnjgebiaaDoor.Lib Go.Proofs.YtbkjgnfnjgebiaaDoorW.PrintWords Go.Proofs.YtbkjgnfnjgebiaaDoorW.PrintLast
theorem FnExactMarkText : laws_FnExactMarkText.Pure := by
  intro p l _ _ _ _
  refine Evt.get ?_
  unfold laws_FnExactMarkText.f
  by_cases c : (l.length : Int) > 1048576
  · exact Evt.pos c (Evt.ok _)
  have hl : Short l := by show l.length ≤ _; omega
  obtain ⟨⟨s, b⟩, hx, hy⟩ := core_MarkText p l hl
  have ht := toIntS_ev l hl
  exact Evt.neg c (Evt.bind ht (Evt.bind hx (Evt.bind ht (Evt.bind hy (Evt.pos rfl (Evt.neg (by simp) (Evt.bind ht (Evt.bind (eqIntS_same l hl) (Evt.pos rfl (Evt.ok _))))))))))
end Go.Proofs.YtbkjgnfnjgebiaaDoor.Pure
