import Derived.Test.YthkmdanahoongaaF3
import Derived.Test.YthkmdanahoongaaNodeMark
namespace Go.Proofs.Ythkmdanahoongaa.Pure
open Go.RowKit Go.Proofs.Ythkmdanahoongaa.F Go.Proofs.Ythkmdanahoongaa.Lib Go.Proofs.YthkmdanahoongaaW.PrintWords Go.Proofs.YthkmdanahoongaaW.PrintLast
theorem FnExactCoverTree : laws_FnExactCoverTree.Pure := by
  intro p l x1 x2 hw _ _
  refine Evt.get ?_
  obtain ⟨r, hr, gr⟩ := szNet_ex p l 1048576 (by omega) (by omega) hw.2.1 (fun t ht => ⟨(hw.2.2 t ht).1.1, (hw.2.2 t ht).2.1.1, (hw.2.2 t ht).2.2.1⟩)
  unfold laws_FnExactCoverTree.f
  by_cases hb1 : (x1.length : Int) > 1048576
  · exact Evt.pos hb1 (Evt.ok _)
  have h1 : Short x1 := by show x1.length ≤ _; omega
  refine Evt.neg hb1 (Evt.bind hr ?_)
  by_cases c : r < 0
  · exact Evt.pos c (Evt.ok _)
  have hs : SmallN (l.map toT) := (gr (by omega)).2
  obtain ⟨⟨L, b0⟩, hx, hy, hsp⟩ := core_CoverTree p (l.map toT) x1 x2 hs h1
  have hsp' : SmallC L := hsp
  have he := eqCoverNodeS_same L hsp'
  obtain ⟨m, hm, hm'⟩ := markNet_ev p (l.map toT) hs 1 (by omega)
  obtain ⟨a, L', k1, k2⟩ := markCover_ex L hsp'
  refine Evt.neg c (Evt.bind (toNet_ev p l hs) (Evt.bind (toIntS_ev x1 h1) (Evt.bind hx (Evt.bind (toNet_ev p l hs) (Evt.bind (toIntS_ev x1 h1) (Evt.bind hy (Evt.bind he (?_))))))))
  refine Evt.pos rfl (Evt.neg (by simp) (Evt.bind (toNet_ev p l hs) (Evt.bind (eqNet_same p _ hs) (Evt.pos rfl (Evt.bind (toIntS_ev x1 h1) (Evt.bind (eqIntS_same x1 h1) (?_)))))))
  refine Evt.pos rfl (Evt.bind hm (Evt.bind (markIntS_ev x1 (m) (by omega)) (Evt.neg (by omega) (Evt.bind he (Evt.pos rfl (Evt.bind k1 (Evt.bind k2 (?_))))))))
  refine Evt.neg (by omega) (Evt.pos rfl (Evt.bind (toNet_ev p l hs) (Evt.bind (toIntS_ev x1 h1) (Evt.bind hy (Evt.bind he (Evt.pos rfl (?_)))))))
  exact Evt.neg (by simp) (Evt.bind k2 (Evt.neg (by omega) (Evt.pos rfl (Evt.ok _))))
end Go.Proofs.Ythkmdanahoongaa.Pure
