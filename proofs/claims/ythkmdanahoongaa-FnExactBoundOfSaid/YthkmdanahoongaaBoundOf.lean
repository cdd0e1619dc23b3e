/- The most that a place can hold. -/
import Derived.Test.YthkmdanahoongaaF0
import Derived.Test.YthkmdanahoongaaF9
import Derived.Test.YthkmdanahoongaaSpace
namespace Go.Proofs.Ythkmdanahoongaa.Lib
open Go.RowKit Go.Proofs.Ythkmdanahoongaa.F Go.Proofs.YthkmdanahoongaaW.PrintWords Go.Proofs.YthkmdanahoongaaW.PrintLast Go.Proofs.YthkmdanahoongaaW.PrintMore
set_option linter.unusedVariables false
set_option linter.unusedSimpArgs false
theorem mostOf (a x : Int) : spec_l1Most.f a x = some (mx a x) := by
  unfold spec_l1Most.f mx
  by_cases h : a > x
  · rw [if_pos h, if_neg (by omega)]
  · rw [if_neg h]
    by_cases h2 : a < x
    · rw [if_pos h2]
    · rw [if_neg h2]; congr 1; omega
theorem bound_loop (M : List (List Int)) (q : Int) (hM : Short M) (hq : ∀ m ∈ M, 0 ≤ q ∧ q < (m.length : Int)) : ∃ r : Int, Evt (fun k => spec_BoundOf.l0 k q 0 M (M.length : Int) 0) (r, true) ∧ Evt (fun k => impl_BoundOf.l0 k q 0 M (M.length : Int) 0) (r, true) := by
  have hM' : M.length ≤ 17592186044415 := hM
  have key : ∀ i, i ≤ M.length → ∀ s : Int, ∃ r : Int, Evt (fun k => spec_BoundOf.l0 k q s M (M.length : Int) (i : Int)) (r, true) ∧ Evt (fun k => impl_BoundOf.l0 k q s M (M.length : Int) (i : Int)) (r, true) := by
    refine down (P := fun i (s : Int) => ∃ r : Int, Evt (fun k => spec_BoundOf.l0 k q s M (M.length : Int) (i : Int)) (r, true) ∧ Evt (fun k => impl_BoundOf.l0 k q s M (M.length : Int) (i : Int)) (r, true)) ?_ ?_
    · intro s
      refine ⟨s, Evt.step ?_, Evt.step ?_⟩
      · simp only [spec_BoundOf.l0]; exact Evt.neg (natNotLt _) (Evt.ok _)
      · simp only [impl_BoundOf.l0]; exact Evt.neg (natNotLt _) (Evt.ok _)
    · intro i hi ih s
      have hb := hq M[i] (List.getElem_mem hi)
      have er : rd_L1 M (i : Int) = M[i] := rdL M i hi
      obtain ⟨r, h1, h2⟩ := ih (mx s (rd M[i] q))
      refine ⟨r, Evt.step ?_, Evt.step ?_⟩
      · simp only [spec_BoundOf.l0, er]
        rw [wrapN i _ hi (by omega)]
        exact Evt.pos (natLt _ _ hi) (Evt.pos (by omega) (Evt.pos (natLt _ _ hi) (Evt.pos hb.1 (Evt.pos hb.2 (Evt.bind0 (mostOf _ _) h1)))))
      · simp only [impl_BoundOf.l0, er]
        rw [wrapN i _ hi (by omega)]
        exact Evt.pos (natLt _ _ hi) (Evt.pos (by omega) (Evt.pos (natLt _ _ hi) (Evt.pos hb.1 (Evt.pos hb.2 h2))))
  exact key 0 (Nat.zero_le _) 0
theorem core_BoundOf (p : Int) (ts : List Tr) (x1 : List Int) (x2 x3 : Int) (hs : SmallN ts) (h1 : Short x1) : ∃ x : Int × Bool, Evt (fun k => spec_BoundOf.f k p ts x1 x2 x3) x ∧ Evt (fun k => impl_BoundOf.f k p ts x1 x2 x3) x := by
  obtain ⟨⟨M, A, c⟩, e1, e2, e3⟩ := space_ex p ts x1 x2 hs h1
  have hS : ∀ c : Bool, c = true → Evt (fun k => spec_BoundOf.j0 k x3 c M A) (0, false) := by
    intro c hc
    refine Evt.step ?_
    simp only [spec_BoundOf.j0]
    exact Evt.pos hc (Evt.ok _)
  have hI : ∀ c : Bool, c = true → Evt (fun k => impl_BoundOf.j0 k x3 c M A) (0, false) := by
    intro c hc
    refine Evt.step ?_
    simp only [impl_BoundOf.j0]
    exact Evt.pos hc (Evt.ok _)
  unfold spec_BoundOf.f impl_BoundOf.f
  cases c with
  | false => exact ⟨(0, false), Evt.bind e1 (Evt.neg (by simp) (hS true rfl)), Evt.bind e2 (Evt.neg (by simp) (hI true rfl))⟩
  | true =>
    have hw := e3 rfl
    cases hb : within x3 0 (wrap64 (p - 1)) with
    | false => exact ⟨(0, false), Evt.bind e1 (Evt.pos rfl (Evt.bind0 ((l1In_eq _ _ _).trans (by rw [hb])) (hS _ rfl))), Evt.bind e2 (Evt.pos rfl (Evt.bind0 ((within_eq _ _ _).trans (by rw [hb])) (hI _ rfl)))⟩
    | true =>
      have hf := goodNet_facts hw.net
      have ew : wrap64 (p - 1) = p - 1 := wrap_id _ (by omega) (by omega)
      have hbb := within_bounds hb
      obtain ⟨r, g1, g2⟩ := bound_loop M x3 hw.shortM (fun m hm => by have := goodMark_bounds (hw.space.good m hm); omega)
      refine ⟨(r, true), Evt.bind e1 (Evt.pos rfl (Evt.bind0 ((l1In_eq _ _ _).trans (by rw [hb])) (Evt.step ?_))), Evt.bind e2 (Evt.pos rfl (Evt.bind0 ((within_eq _ _ _).trans (by rw [hb])) (Evt.step ?_)))⟩
      · simp only [spec_BoundOf.j0]; exact Evt.neg (by simp) g1
      · simp only [impl_BoundOf.j0]; exact Evt.neg (by simp) g2
end Go.Proofs.Ythkmdanahoongaa.Lib
