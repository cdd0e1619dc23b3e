/- The plain statement on IsCycle: what the program returns is what the reference returns. -/
import Derived.Test.YtffdacmdgfpnmaaF3
import Derived.Test.YtffdacmdgfpnmaaF6
import Derived.Test.YtffdacmdgfpnmaaF7
import Derived.Test.YtffdacmdgfpnmaaF8
import Derived.Test.YtffdacmdgfpnmaaChange
namespace Go.Proofs.Ytffdacmdgfpnmaa.Pure
open Go.RowKit Go.Proofs.Ytffdacmdgfpnmaa.F Go.Proofs.Ytffdacmdgfpnmaa.Lib Go.Proofs.YtffdacmdgfpnmaaW.PrintWords Go.Proofs.YtffdacmdgfpnmaaW.PrintLast
theorem anyNonzero_ev (l : List Int) (hl : Short l) : Evt (fun k => slices_ContainsFunc_int_int_at_impl_IsCycle_1.f k l) (l.any fun x => x != 0) := by
  refine containsFunc_gen (fun k (x : Int) => impl_IsCycle_1.f x) (fun x => x != 0) (rd l) (fun k i => slices_IndexFunc_int_int_at_impl_IsCycle_1.l0 k l (l.length : Int) i) _ l ?_ ?_ ?_ ?_ hl
  · intro k; rfl
  · intro k i; simp only [slices_IndexFunc_int_int_at_impl_IsCycle_1.l0]
  · intro x hx; exact Evt.ok _
  · intro i hi; exact rdN l i hi
theorem FnExactIsCycle : laws_FnExactIsCycle.Pure := by
  intro p l l1 hw _
  refine Evt.get ?_
  obtain ⟨r, hr, g⟩ := szNet_ex p l 1048576 (by omega) (by omega) hw.2.1 (fun t ht => ⟨(hw.2.2 t ht).1.1, (hw.2.2 t ht).2.1.1, (hw.2.2 t ht).2.2.1⟩)
  unfold laws_FnExactIsCycle.f
  by_cases hb1 : (l1.length : Int) > 1048576
  · exact Evt.pos hb1 (Evt.ok _)
  have h1 : Short l1 := by show l1.length ≤ _; omega
  refine Evt.neg hb1 (Evt.bind hr ?_)
  by_cases c : r < 0
  · exact Evt.pos c (Evt.ok _)
  have hs : SmallN (l.map toT) := (g (by omega)).2
  have hb : ∃ x, Evt (fun k => spec_IsCycle.f k p (l.map toT) l1) x ∧ Evt (fun k => impl_IsCycle.f k p (l.map toT) l1) x := by
    unfold spec_IsCycle.f impl_IsCycle.f
    cases hg : counts p (l.map toT) l1 with
    | false => exact ⟨_, Evt.bind ((l7Counts_ev p _ l1 hs h1).cast hg) (Evt.neg (by decide) (Evt.ok _)), Evt.bind ((areCounts_ev p _ l1 hs h1).cast hg) (Evt.neg (by decide) (Evt.ok _))⟩
    | true =>
      have hf := counts_facts hg
      obtain ⟨n, e, hn, hp⟩ := change_places hf.1
      have hv : ∀ V, Short (vec n V) := fun V => by show (vec n V).length ≤ _; rw [vec_length]; omega
      refine ⟨_, Evt.bind ((l7Counts_ev p _ l1 hs h1).cast hg) (Evt.pos rfl (Evt.bind (l7Change_ev p _ l1 n e hn hs (by omega) hp) (Evt.bind (l1All_ev _ 0 0 (hv _)) (Evt.ok _)))), Evt.bind ((areCounts_ev p _ l1 hs h1).cast hg) (Evt.pos rfl (Evt.bind (changeBy_ev p _ l1 n e hn hs (by omega) hp) (Evt.bind (anyNonzero_ev _ (hv _)) ((Evt.ok _).cast ?_))))⟩
      congr 1
      refine Eq.trans ?_ (any_not _ fun x => within x 0 0)
      congr 2
      funext x
      simp only [within]
      by_cases hx : x = 0
      · subst hx; rfl
      · rw [decide_eq_false (by omega), bne_iff_ne.2 hx]; rfl
  obtain ⟨⟨x1, x2⟩, hx, hy⟩ := hb
  refine Evt.neg c (Evt.bind (toNet_ev p l hs) (Evt.bind (toIntS_ev l1 h1) (Evt.bind hx (Evt.bind (toNet_ev p l hs) (Evt.bind (toIntS_ev l1 h1) (Evt.bind hy ?_))))))
  refine Evt.neg (by simp) (Evt.step ?_)
  simp only [laws_FnExactIsCycle.j0]
  exact Evt.neg (by simp) (Evt.bind (toNet_ev p l hs) (Evt.bind (eqNet_same p _ hs) (Evt.pos rfl (Evt.bind (toIntS_ev l1 h1) (Evt.bind (eqIntS_same l1 h1) (Evt.pos rfl (Evt.ok _)))))))
end Go.Proofs.Ytffdacmdgfpnmaa.Pure
