import Derived.Test.YtbkjgnfnjgebiaaDoorF3
import Derived.Test.YtbkjgnfnjgebiaaDoorReadCore
import Derived.Test.YtbkjgnfnjgebiaaDoorHeld
namespace Go.Proofs.YtbkjgnfnjgebiaaDoor.Pure
open Go.RowKit Go.Proofs.YtbkjgnfnjgebiaaDoor.F Go.Proofs.YtbkjgnfnjgebiaaDoor.Lib Go.Proofs.YtbkjgnfnjgebiaaDoorW.PrintWords Go.Proofs.YtbkjgnfnjgebiaaDoorW.PrintLast
theorem FnExactReadMark : laws_FnExactReadMark.Pure := by
  intro p s _ _
  refine Evt.get ?_
  unfold laws_FnExactReadMark.f
  by_cases c : (s.size : Int) > 1048576
  · exact Evt.pos c (Evt.ok _)
  obtain ⟨⟨g, b⟩, hx, hy, hl⟩ := core_ReadMark p s
  have hl' : g.length ≤ 16 := hl
  have hg : Short g := by show g.length ≤ _; omega
  have he := eqIntS_same g hg
  have hm := markIntS_ev g 1 (by omega)
  have hh := heldIntS_ev 1 g.length (by omega)
  refine Evt.neg c (Evt.bind hx (Evt.bind hy (Evt.bind he (Evt.pos rfl (Evt.neg (by simp) (Evt.bind hm (Evt.bind hh (Evt.neg (by omega) (Evt.pos rfl ?_)))))))))
  exact Evt.bind hy (Evt.bind he (Evt.pos rfl (Evt.neg (by simp) (Evt.bind hh (Evt.neg (by omega) (Evt.pos rfl (Evt.ok _)))))))
end Go.Proofs.YtbkjgnfnjgebiaaDoor.Pure
