import Derived.Test.YtiglhdibibbkjaaF2
import Derived.Test.YtiglhdibibbkjaaLeastMarks
namespace Go.Proofs.Ytiglhdibibbkjaa.Pure
open Go.RowKit Go.Proofs.Ytiglhdibibbkjaa.F Go.Proofs.Ytiglhdibibbkjaa.Lib Go.Proofs.YtiglhdibibbkjaaW.PrintWords Go.Proofs.YtiglhdibibbkjaaW.PrintLast
theorem FnExactLeastMarks : laws_FnExactLeastMarks.Pure := by
  intro p l _ hw
  refine Evt.get ?_
  obtain ⟨r, hr, gr⟩ := szSS_ex l 1048576 (by omega) (by omega) hw.1 (fun x hx => (hw.2 x hx).1)
  unfold laws_FnExactLeastMarks.f
  refine Evt.bind hr ?_
  by_cases c : r < 0
  · exact Evt.pos c (Evt.ok _)
  have hg := gr (by omega)
  have hl : l.length ≤ 1048576 := by omega
  have hs : ∀ x ∈ l, Short x := fun x hx => by have := tot_mem hx; show x.length ≤ _; omega
  obtain ⟨⟨M, b⟩, hx, hy, hM, hm⟩ := core_LeastMarks p l hl hs
  have hM' : M.length ≤ 400 := hM
  have hsh : ∀ m ∈ M, Short m := fun m h => by have : m.length ≤ 16 := hm m h; show m.length ≤ _; omega
  have ht := tot_le 16 M hm
  obtain ⟨R1, m1, _⟩ := markSS_ex l 1 (by omega) (by omega)
  obtain ⟨R2, m2, d2⟩ := markSS_ex M 1 (by omega) (by omega)
  have eqs := eqSS_same M (by omega) hsh
  have toL := toSS_ev l hl hs
  refine Evt.neg c (Evt.bind toL (Evt.bind hx (Evt.bind toL (Evt.bind hy (Evt.bind eqs (Evt.pos rfl (Evt.neg (by simp) ?_)))))))
  refine Evt.bind toL (Evt.bind (eqSS_same l hl hs) (Evt.pos rfl (Evt.bind m1 (Evt.neg (by show ¬ (((1 + tot l : Nat) : Int) < 0); omega) (Evt.bind eqs (Evt.pos rfl ?_))))))
  refine Evt.bind m2 (Evt.bind d2 (Evt.neg (by omega) (Evt.pos rfl ?_)))
  refine Evt.bind toL (Evt.bind hy (Evt.bind eqs (Evt.pos rfl (Evt.neg (by simp) ?_))))
  exact Evt.bind d2 (Evt.neg (by omega) (Evt.pos rfl (Evt.ok _)))
end Go.Proofs.Ytiglhdibibbkjaa.Pure
