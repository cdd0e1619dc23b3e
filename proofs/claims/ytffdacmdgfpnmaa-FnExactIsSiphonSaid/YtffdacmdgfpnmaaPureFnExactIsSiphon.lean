/- The plain statement on IsSiphon: what the program returns is what the reference returns. -/
import Derived.Test.YtffdacmdgfpnmaaF0
import Derived.Test.YtffdacmdgfpnmaaF15
import Derived.Test.YtffdacmdgfpnmaaF16
import Derived.Test.YtffdacmdgfpnmaaAsked
namespace Go.Proofs.Ytffdacmdgfpnmaa.Pure
open Go.RowKit Go.Proofs.Ytffdacmdgfpnmaa.F Go.Proofs.Ytffdacmdgfpnmaa.Lib Go.Proofs.YtffdacmdgfpnmaaW.PrintWords Go.Proofs.YtffdacmdgfpnmaaW.PrintLast
theorem l8Loop_ev (p : Int) (ts : List Tr) (l : List Int) (h : SmallN ts) (hl : Short l) : Evt (fun k => spec_l8Siphon.f k p ts l) (ts.all (keepsT true l)) := by
  have hn := h.1
  unfold spec_l8Siphon.f
  refine loop_allL (fun k i => spec_l8Siphon.l0 k l ts (ts.length : Int) (i : Int)) ts (keepsT true l) ?_ ?_ ?_
  · simp only [spec_l8Siphon.l0]
    exact Evt.neg (natNotLt _) (Evt.ok _)
  · intro i hi hp r hr
    have hsm : SmallT ts[i] := h.2 _ (List.getElem_mem hi)
    have er : rd_T63 ts (i : Int) = ts[i] := rdG ts _ i hi
    simp only [spec_l8Siphon.l0, er]
    rw [wrapN i _ hi (by omega)]
    refine Evt.pos (natLt _ _ hi) (Evt.pos (by omega) (Evt.pos (natLt _ _ hi) ?_))
    cases h1 : meet ts[i].f1 l with
    | false => exact Evt.bind ((l2Meet_ev _ _ hsm.s1 hl).cast h1) (Evt.neg (by decide) hr)
    | true =>
      have h2 : meet ts[i].f0 l = true := by simpa [keepsT, sideA, sideB, h1] using hp
      exact Evt.bind ((l2Meet_ev _ _ hsm.s1 hl).cast h1) (Evt.pos rfl (Evt.bind ((l2Meet_ev _ _ hsm.s0 hl).cast h2) (Evt.pos rfl hr)))
  · intro i hi hp
    have hsm : SmallT ts[i] := h.2 _ (List.getElem_mem hi)
    have er : rd_T63 ts (i : Int) = ts[i] := rdG ts _ i hi
    have h12 : meet ts[i].f1 l = true ∧ meet ts[i].f0 l = false := by simpa [keepsT, sideA, sideB] using hp
    simp only [spec_l8Siphon.l0, er]
    exact Evt.pos (natLt _ _ hi) (Evt.pos (by omega) (Evt.pos (natLt _ _ hi) (Evt.bind ((l2Meet_ev _ _ hsm.s1 hl).cast h12.1) (Evt.pos rfl (Evt.bind ((l2Meet_ev _ _ hsm.s0 hl).cast h12.2) (Evt.neg (by decide) (Evt.ok _)))))))
theorem FnExactIsSiphon : laws_FnExactIsSiphon.Pure := by
  intro p l l1 hw _
  refine Evt.get ?_
  obtain ⟨r, hr, g⟩ := szNet_ex p l 1048576 (by omega) (by omega) hw.2.1 (fun t ht => ⟨(hw.2.2 t ht).1.1, (hw.2.2 t ht).2.1.1, (hw.2.2 t ht).2.2.1⟩)
  unfold laws_FnExactIsSiphon.f
  by_cases hb1 : (l1.length : Int) > 1048576
  · exact Evt.pos hb1 (Evt.ok _)
  have h1 : Short l1 := by show l1.length ≤ _; omega
  refine Evt.neg hb1 (Evt.bind hr ?_)
  by_cases c : r < 0
  · exact Evt.pos c (Evt.ok _)
  have hs : SmallN (l.map toT) := (g (by omega)).2
  have hb : ∃ x, Evt (fun k => spec_IsSiphon.f k p (l.map toT) l1) x ∧ Evt (fun k => impl_IsSiphon.f k p (l.map toT) l1) x := by
    unfold spec_IsSiphon.f impl_IsSiphon.f
    cases hpl : plain p (l.map toT) with
    | false =>
      have ha : asked p (l.map toT) l1 = false := by simp [asked, hpl]
      refine ⟨(false, false), Evt.bind ((l8Asked_ev p _ l1 hs h1).cast ha) (Evt.neg (by decide) (Evt.ok _)), Evt.bind ((isPlain_ev p _ hs).cast hpl) (Evt.neg (by decide) (Evt.step ?_))⟩
      simp only [impl_IsSiphon.j0]
      exact Evt.pos (by trivial) (Evt.ok _)
    | true =>
      cases hri : rising l1 0 (wrap64 (p - 1)) with
      | false =>
        have ha : asked p (l.map toT) l1 = false := by simp [asked, hri]
        refine ⟨(false, false), Evt.bind ((l8Asked_ev p _ l1 hs h1).cast ha) (Evt.neg (by decide) (Evt.ok _)), Evt.bind ((isPlain_ev p _ hs).cast hpl) (Evt.pos rfl (Evt.bind ((arePlaces_ev p _ l1 h1).cast hri) (Evt.step ?_)))⟩
        simp only [impl_IsSiphon.j0]
        exact Evt.pos (by trivial) (Evt.ok _)
      | true =>
        have ha : asked p (l.map toT) l1 = true := by simp [asked, hpl, hri]
        have hf := asked_facts ha
        refine ⟨((l.map toT).all (keepsT true l1), true), Evt.bind ((l8Asked_ev p _ l1 hs h1).cast ha) (Evt.pos rfl (Evt.bind (l8Loop_ev p _ l1 hs h1) (Evt.ok _))), Evt.bind ((isPlain_ev p _ hs).cast hpl) (Evt.pos rfl (Evt.bind ((arePlaces_ev p _ l1 h1).cast hri) (Evt.step ?_)))⟩
        · skip
          simp only [impl_IsSiphon.j0]
          obtain ⟨y, hy, _, hbig⟩ := bigTrap_ex true p (l.map toT) hs (good_inPlaces hf.1) (mask l1) (mask_lt l1 hf.2.2.2)
          refine Evt.neg (by simp) (Evt.bind (maskOf_ev l1 h1 hf.2.2.2) (Evt.bind (a := ((y : Int) == (mask l1 : Int))) (by unfold impl_isSiphon.f; exact Evt.bind hy (Evt.ok _)) ((Evt.ok _).cast ?_)))
          congr 1
          have hy2 := big_self hbig
          rw [okSet_all true _ l1 (good_inPlaces hf.1) (fun q hq => (hf.2.2.2 q hq).1)] at hy2
          refine Bool.eq_iff_iff.2 ?_
          rw [← hy2, beq_iff_eq]
          omega
  obtain ⟨⟨x1, x2⟩, hx, hy⟩ := hb
  refine Evt.neg c (Evt.bind (toNet_ev p l hs) (Evt.bind (toIntS_ev l1 h1) (Evt.bind hx (Evt.bind (toNet_ev p l hs) (Evt.bind (toIntS_ev l1 h1) (Evt.bind hy ?_))))))
  refine Evt.neg (by simp) (Evt.step ?_)
  simp only [laws_FnExactIsSiphon.j0]
  exact Evt.neg (by simp) (Evt.bind (toNet_ev p l hs) (Evt.bind (eqNet_same p _ hs) (Evt.pos rfl (Evt.bind (toIntS_ev l1 h1) (Evt.bind (eqIntS_same l1 h1) (Evt.pos rfl (Evt.ok _)))))))
end Go.Proofs.Ytffdacmdgfpnmaa.Pure
