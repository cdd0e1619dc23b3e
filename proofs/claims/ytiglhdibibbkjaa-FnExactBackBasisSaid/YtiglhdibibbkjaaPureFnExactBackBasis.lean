import Derived.Test.YtiglhdibibbkjaaF6
import Derived.Test.YtiglhdibibbkjaaBackLaws
import Derived.Test.YtiglhdibibbkjaaNetMark
import Derived.Test.YtiglhdibibbkjaaSSM
namespace Go.Proofs.Ytiglhdibibbkjaa.Pure
open Go.RowKit Go.Proofs.Ytiglhdibibbkjaa.F Go.Proofs.Ytiglhdibibbkjaa.Lib Go.Proofs.YtiglhdibibbkjaaW.PrintWords Go.Proofs.YtiglhdibibbkjaaW.PrintLast
theorem FnExactBackBasis : laws_FnExactBackBasis.Pure := by
  intro p l x1 x2 hw _ _
  refine Evt.get ?_
  obtain ⟨r, hr, gr⟩ := szNet_ex p l 1048576 (by omega) (by omega) hw.2.1 (fun t ht => ⟨(hw.2.2 t ht).1.1, (hw.2.2 t ht).2.1.1, (hw.2.2 t ht).2.2.1⟩)
  unfold laws_FnExactBackBasis.f
  by_cases hb1 : (x1.length : Int) > 1048576
  · exact Evt.pos hb1 (Evt.ok _)
  have h1 : Short x1 := by show x1.length ≤ _; omega
  refine Evt.neg hb1 (Evt.bind hr ?_)
  by_cases c : r < 0
  · exact Evt.pos c (Evt.ok _)
  have hs : SmallN (l.map toT) := (gr (by omega)).2
  obtain ⟨⟨M, b⟩, hx, hy, hM, hm, _⟩ := core_BackBasis p (l.map toT) x1 x2 hs h1
  have hM' : M.length ≤ 60 := hM
  have hsh : ∀ m ∈ M, Short m := fun m h => by have : m.length ≤ 16 := hm m h; show m.length ≤ _; omega
  have ht := tot_le 16 M hm
  obtain ⟨n, hn, hn'⟩ := markNet_ev p (l.map toT) hs 1 (by omega)
  obtain ⟨R2, m2, d2⟩ := markSS_ex M 1 (by omega) (by omega)
  have eqs := eqSS_same M (by omega) hsh
  have tn := toNet_ev p l hs
  have t1 := toIntS_ev x1 h1
  refine Evt.neg c (Evt.bind tn (Evt.bind t1 (Evt.bind hx (Evt.bind tn (Evt.bind t1 (Evt.bind hy (Evt.bind eqs (Evt.pos rfl (Evt.neg (by simp) ?_)))))))))
  refine Evt.bind tn (Evt.bind (eqNet_same p _ hs) (Evt.pos rfl (Evt.bind t1 (Evt.bind (eqIntS_same x1 h1) (Evt.pos rfl ?_)))))
  refine Evt.bind hn (Evt.bind (markIntS_ev x1 n (by omega)) (Evt.neg (by omega) (Evt.bind eqs (Evt.pos rfl ?_))))
  refine Evt.bind m2 (Evt.bind d2 (Evt.neg (by omega) (Evt.pos rfl ?_)))
  refine Evt.bind tn (Evt.bind t1 (Evt.bind hy (Evt.bind eqs (Evt.pos rfl (Evt.neg (by simp) ?_)))))
  exact Evt.bind d2 (Evt.neg (by omega) (Evt.pos rfl (Evt.ok _)))
end Go.Proofs.Ytiglhdibibbkjaa.Pure
