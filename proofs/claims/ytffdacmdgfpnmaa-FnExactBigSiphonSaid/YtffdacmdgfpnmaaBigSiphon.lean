/- The greatest siphon within a set of places. -/
import Derived.Test.YtffdacmdgfpnmaaF0
import Derived.Test.YtffdacmdgfpnmaaF6
import Derived.Test.YtffdacmdgfpnmaaF9
import Derived.Test.YtffdacmdgfpnmaaBig
namespace Go.Proofs.Ytffdacmdgfpnmaa.Lib
open Go.RowKit Go.Proofs.Ytffdacmdgfpnmaa.F Go.Proofs.YtffdacmdgfpnmaaW.PrintWords Go.Proofs.YtffdacmdgfpnmaaW.PrintLast Go.Proofs.YtffdacmdgfpnmaaW.PrintMore
set_option linter.unusedVariables false
set_option linter.unusedSimpArgs false
theorem l8LoopBigSiphon_ev (p : Int) (ts : List Tr) (l : List Int) (h : SmallN ts) (hl : Short l) : Evt (fun k => spec_l8Siphon.f k p ts l) (ts.all (keepsT true l)) := by
  have hn := h.1
  unfold spec_l8Siphon.f
  refine loop_allL (fun k i => spec_l8Siphon.l0 k l ts (ts.length : Int) (i : Int)) ts (keepsT true l) ?_ ?_ ?_
  · simp only [spec_l8Siphon.l0]
    exact Evt.neg (natNotLt _) (Evt.ok _)
  · intro i hi hp r hr
    have hsm : SmallT ts[i] := h.2 _ (List.getElem_mem hi)
    have er : rd_T63 ts (i : Int) = ts[i] := rdG ts _ i hi
    simp only [spec_l8Siphon.l0, er]
    rw [wrapN i _ hi (by omega)]
    refine Evt.pos (natLt _ _ hi) (Evt.pos (by omega) (Evt.pos (natLt _ _ hi) ?_))
    cases h1 : meet ts[i].f1 l with
    | false => exact Evt.bind ((l2Meet_ev _ _ hsm.s1 hl).cast h1) (Evt.neg (by decide) hr)
    | true =>
      have h2 : meet ts[i].f0 l = true := by simpa [keepsT, sideA, sideB, h1] using hp
      exact Evt.bind ((l2Meet_ev _ _ hsm.s1 hl).cast h1) (Evt.pos rfl (Evt.bind ((l2Meet_ev _ _ hsm.s0 hl).cast h2) (Evt.pos rfl hr)))
  · intro i hi hp
    have hsm : SmallT ts[i] := h.2 _ (List.getElem_mem hi)
    have er : rd_T63 ts (i : Int) = ts[i] := rdG ts _ i hi
    have h12 : meet ts[i].f1 l = true ∧ meet ts[i].f0 l = false := by simpa [keepsT, sideA, sideB] using hp
    simp only [spec_l8Siphon.l0, er]
    exact Evt.pos (natLt _ _ hi) (Evt.pos (by omega) (Evt.pos (natLt _ _ hi) (Evt.bind ((l2Meet_ev _ _ hsm.s1 hl).cast h12.1) (Evt.pos rfl (Evt.bind ((l2Meet_ev _ _ hsm.s0 hl).cast h12.2) (Evt.neg (by decide) (Evt.ok _)))))))
theorem bigBigSiphon_ex (p : Int) (ts : List Tr) (l : List Int) (h : SmallN ts) (hl : Short l) (hp : ∀ t ∈ ts, inPlaces t) (hb : ∀ q ∈ l, 0 ≤ q ∧ q < 16) : ∃ y, Evt (fun k => spec_BigSiphon.l0 k l p ts) ((fun y => (y, true)) y) ∧ List.Sublist y l ∧ isBig true ts (mask l) (mask y) := by
  have hn := h.1
  have hl' : l.length ≤ 17592186044415 := hl
  have hsh : ∀ x, List.Sublist x l → Short x := fun x hx => by have := hx.length_le; show x.length ≤ _; omega
  refine big_gen true ts hp l hb (fun k x => spec_BigSiphon.l0 k x p ts) (fun k x i => spec_BigSiphon.l1 k x ts (ts.length : Int) (i : Int) p ts) (fun y => (y, true)) ?_ ?_ ?_ ?_ ?_ l.length l rfl (List.Sublist.refl l)
  · intro x hx ha
    simp only [spec_BigSiphon.l0]
    exact Evt.bind ((l8LoopBigSiphon_ev p ts x h (hsh x hx)).cast ha) (Evt.pos rfl (Evt.ok _))
  · intro x hx ha r hr
    simp only [spec_BigSiphon.l0]
    exact Evt.bind ((l8LoopBigSiphon_ev p ts x h (hsh x hx)).cast ha) (Evt.neg (by decide) hr)
  · intro x r hr
    simp only [spec_BigSiphon.l1]
    exact Evt.neg (natNotLt _) hr
  · intro x hx i hi hk r hr
    have hsm : SmallT ts[i] := h.2 _ (List.getElem_mem hi)
    have er : rd_T63 ts (i : Int) = ts[i] := rdG ts _ i hi
    simp only [spec_BigSiphon.l1, er]
    rw [wrapN i _ hi (by omega)]
    refine Evt.pos (natLt _ _ hi) (Evt.pos (by omega) (Evt.pos (natLt _ _ hi) ?_))
    cases h1 : meet ts[i].f1 x with
    | false => exact Evt.bind ((l2Meet_ev _ _ hsm.s1 (hsh x hx)).cast h1) (Evt.neg (by decide) hr)
    | true =>
      have h2 : meet ts[i].f0 x = true := by simpa [keepsT, sideA, sideB, h1] using hk
      exact Evt.bind ((l2Meet_ev _ _ hsm.s1 (hsh x hx)).cast h1) (Evt.pos rfl (Evt.bind ((l2Meet_ev _ _ hsm.s0 (hsh x hx)).cast h2) (Evt.pos rfl hr)))
  · intro x hx i hi hk r hr
    have hsm : SmallT ts[i] := h.2 _ (List.getElem_mem hi)
    have er : rd_T63 ts (i : Int) = ts[i] := rdG ts _ i hi
    have h12 : meet ts[i].f1 x = true ∧ meet ts[i].f0 x = false := by simpa [keepsT, sideA, sideB] using hk
    simp only [spec_BigSiphon.l1, er]
    rw [wrapN i _ hi (by omega)]
    exact Evt.pos (natLt _ _ hi) (Evt.pos (by omega) (Evt.pos (natLt _ _ hi) (Evt.bind ((l2Meet_ev _ _ hsm.s1 (hsh x hx)).cast h12.1) (Evt.pos rfl (Evt.bind ((l2Meet_ev _ _ hsm.s0 (hsh x hx)).cast h12.2) (Evt.neg (by decide) (Evt.bind (l8Without_ev x _ (hsh x hx) hsm.s1) hr)))))))
theorem core_BigSiphon (p : Int) (ts : List Tr) (x1 : List Int) (hs : SmallN ts) (h1 : Short x1) : ∃ x : List Int × Bool, Evt (fun k => spec_BigSiphon.f k p ts x1) x ∧ Evt (fun k => impl_BigSiphon.f k p ts x1) x ∧ Short x.1 := by
  have h1' : x1.length ≤ 17592186044415 := h1
  have hz : Short ([] : List Int) := by show 0 ≤ _; omega
  have hn2 : ∀ c : Bool, c = true → Evt (fun k => impl_BigSiphon.j0 k x1 c p ts) ([], false) := by
    intro c hc
    refine Evt.step ?_
    simp only [impl_BigSiphon.j0]
    exact Evt.pos hc (Evt.ok _)
  have hown : spec_l1Own.f x1 = some x1 := by
    simp only [spec_l1Own.f, Option.bind_some, List.nil_append, List.length_nil, Nat.zero_add]
    exact if_pos (by omega)
  unfold spec_BigSiphon.f impl_BigSiphon.f
  cases hpl : plain p ts with
  | false =>
    have ha : asked p ts x1 = false := by simp [asked, hpl]
    exact ⟨([], false), Evt.bind ((l8Asked_ev p _ x1 hs h1).cast ha) (Evt.neg (by decide) (Evt.ok _)), Evt.bind ((isPlain_ev p _ hs).cast hpl) (Evt.neg (by decide) (hn2 true rfl)), hz⟩
  | true =>
    cases hri : rising x1 0 (wrap64 (p - 1)) with
    | false =>
      have ha : asked p ts x1 = false := by simp [asked, hri]
      exact ⟨([], false), Evt.bind ((l8Asked_ev p _ x1 hs h1).cast ha) (Evt.neg (by decide) (Evt.ok _)), Evt.bind ((isPlain_ev p _ hs).cast hpl) (Evt.pos rfl (Evt.bind ((arePlaces_ev p _ x1 h1).cast hri) (hn2 _ rfl))), hz⟩
    | true =>
      have ha : asked p ts x1 = true := by simp [asked, hpl, hri]
      have hf := asked_facts ha
      obtain ⟨y, hy, hsub, hbig⟩ := bigBigSiphon_ex p ts x1 hs h1 (good_inPlaces hf.1) hf.2.2.2
      obtain ⟨Y, hY, _, hbig'⟩ := bigTrap_ex true p ts hs (good_inPlaces hf.1) (mask x1) (mask_lt x1 hf.2.2.2)
      have e := isBig_unique hbig hbig'
      have hyb : ∀ q ∈ y, 0 ≤ q ∧ q < 16 := fun q hq => hf.2.2.2 q (hsub.subset hq)
      have hyr : y.Pairwise (· < ·) := (rising_pairwise hri).sublist hsub
      refine ⟨(y, true), Evt.bind ((l8Asked_ev p _ x1 hs h1).cast ha) (Evt.pos rfl (Evt.bind0 (a := x1) hown hy)), Evt.bind ((isPlain_ev p _ hs).cast hpl) (Evt.pos rfl (Evt.bind ((arePlaces_ev p _ x1 h1).cast hri) (Evt.step ?_))), ?_⟩
      · simp only [impl_BigSiphon.j0]
        refine Evt.neg (by simp) (Evt.bind (maskOf_ev x1 h1 hf.2.2.2) (Evt.bind hY (Evt.bind (a := y) ?_ (Evt.ok _))))
        rw [← e]
        exact (setOf_ev (mask y) (mask_lt y hyb)).cast (picks_mask y hyb hyr)
      · have := hsub.length_le
        show y.length ≤ _
        omega
end Go.Proofs.Ytffdacmdgfpnmaa.Lib
