import Derived.Test.YtffdacmdgfpnmaaF4
import Derived.Test.YtffdacmdgfpnmaaF8
import Derived.Test.YtffdacmdgfpnmaaSmallInvs
import Derived.Test.YtffdacmdgfpnmaaSetsMark
namespace Go.Proofs.Ytffdacmdgfpnmaa.Pure
open Go.RowKit Go.Proofs.Ytffdacmdgfpnmaa.F Go.Proofs.Ytffdacmdgfpnmaa.Lib Go.Proofs.YtffdacmdgfpnmaaW.PrintWords Go.Proofs.YtffdacmdgfpnmaaW.PrintLast
theorem FnExactSmallInvariants : laws_FnExactSmallInvariants.Pure := by
  intro p l hw
  refine Evt.get ?_
  obtain ⟨r, hr, gr⟩ := szNet_ex p l 1048576 (by omega) (by omega) hw.2.1 (fun t ht => ⟨(hw.2.2 t ht).1.1, (hw.2.2 t ht).2.1.1, (hw.2.2 t ht).2.2.1⟩)
  unfold laws_FnExactSmallInvariants.f
  refine Evt.bind hr ?_
  by_cases c : r < 0
  · exact Evt.pos c (Evt.ok _)
  have hs : SmallN (l.map toT) := (gr (by omega)).2
  obtain ⟨⟨M, b⟩, hx, hy, hM, hm⟩ := core_SmallInvariants p (l.map toT) hs
  have hM' : M.length ≤ 4000 := Nat.le_trans hM (by decide)
  have hsh : ∀ m ∈ M, Short m := fun m h => by have : m.length ≤ 16 := hm m h; show m.length ≤ _; omega
  obtain ⟨n, hn, hn'⟩ := markNet_ev p (l.map toT) hs 1 (by omega)
  obtain ⟨a, R, e1, e2, e3, e4⟩ := markIntSS_go M [] 1 (by decide) (by rw [List.length_nil]; omega) hm
  have e5 := heldIntSS_go R [] 1 a e2 (by decide) (by rw [List.length_nil]; omega)
  have mk : Evt (fun k => laws_markIntSS.f k M 1) ((a : Int), R) := by unfold laws_markIntSS.f; exact e1
  have hd : Evt (fun k => laws_heldIntSS.f k R 1) (a : Int) := by unfold laws_heldIntSS.f; exact e5
  have eqs := eqIntSS_same M hM' hsh
  refine Evt.neg c (Evt.bind (toNet_ev p l hs) (Evt.bind hx (Evt.bind (toNet_ev p l hs) (Evt.bind hy (Evt.bind eqs (Evt.pos rfl (Evt.neg (by simp) ?_)))))))
  refine Evt.bind (toNet_ev p l hs) (Evt.bind (eqNet_same p _ hs) (Evt.pos rfl (Evt.bind hn (Evt.neg (by omega) (Evt.bind eqs (Evt.pos rfl ?_))))))
  refine Evt.bind mk (Evt.bind hd (Evt.neg (by omega) (Evt.pos rfl ?_)))
  refine Evt.bind (toNet_ev p l hs) (Evt.bind hy (Evt.bind eqs (Evt.pos rfl (Evt.neg (by simp) ?_))))
  exact Evt.bind hd (Evt.neg (by omega) (Evt.pos rfl (Evt.ok _)))
end Go.Proofs.Ytffdacmdgfpnmaa.Pure
