import Derived.Test.YtpaecplanjnaeaaF2
import Derived.Test.YtpaecplanjnaeaaDropMark
namespace Go.Proofs.Ytpaecplanjnaeaa.Pure
open Go.RowKit Go.Proofs.Ytpaecplanjnaeaa.F Go.Proofs.Ytpaecplanjnaeaa.Lib Go.Proofs.YtpaecplanjnaeaaW.PrintWords Go.Proofs.YtpaecplanjnaeaaW.PrintLast
theorem FnExactDropMark : laws_FnExactDropMark.Pure := by
  intro M S R x hw _
  refine Evt.get ?_
  obtain ⟨r, hr, gr⟩ := szCert_ex M S R hw.1.1 (fun y hy => (hw.1.2 y hy).1) hw.2.1.1 hw.2.2.1
  unfold laws_FnExactDropMark.f
  refine Evt.bind hr ?_
  by_cases c : r < 0
  · exact Evt.pos c (Evt.ok _)
  have hs := gr (by omega)
  obtain ⟨⟨M2, S2, R2, b⟩, hx, hy, hz⟩ := core_DropMark M S R x hs
  have hz' : SmallCert M2 S2 R2 := hz
  obtain ⟨a0, M0, S0, R0, k0, _⟩ := markCert_ex M S R hs
  obtain ⟨a, M', S', R', k1, k2⟩ := markCert_ex M2 S2 R2 hz'
  have ht := toCert_ev M S R hs
  have he := eqCert_same M2 S2 R2 hz'
  refine Evt.neg c (Evt.bind ht (Evt.bind hx (Evt.bind ht (Evt.bind hy (Evt.bind he (Evt.pos rfl (Evt.neg (by simp) ?_)))))))
  refine Evt.bind ht (Evt.bind (eqCert_same M S R hs) (Evt.pos rfl (Evt.bind k0 (Evt.neg (by omega) (Evt.bind he (Evt.pos rfl ?_))))))
  refine Evt.bind k1 (Evt.bind k2 (Evt.neg (by omega) (Evt.pos rfl ?_)))
  exact Evt.bind ht (Evt.bind hy (Evt.bind he (Evt.pos rfl (Evt.neg (by simp) (Evt.bind k2 (Evt.neg (by omega) (Evt.pos rfl (Evt.ok _))))))))
end Go.Proofs.Ytpaecplanjnaeaa.Pure
