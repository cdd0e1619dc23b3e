import Derived.Test.YtiglhdibibbkjaaF15
import Derived.Test.YtiglhdibibbkjaaExplore
import Derived.Test.YtiglhdibibbkjaaMarked
namespace Go.Proofs.Ytiglhdibibbkjaa.Lib
open Go.RowKit Go.Proofs.Ytiglhdibibbkjaa.F Go.Proofs.YtiglhdibibbkjaaW.PrintWords Go.Proofs.YtiglhdibibbkjaaW.PrintLast Go.Proofs.YtiglhdibibbkjaaW.PrintMore
structure Whole (p : Int) (ts : List Tr) (m : List Int) (b : Int) (M : List (List Int)) (A : List ArcT) : Prop where
  space : SpaceOk p ts b M A
  few : A.length ≤ 9600
  net : goodNet p ts = true
  mark : goodMark p m = true
  budget : 1 ≤ b ∧ b ≤ 400
theorem Whole.shortM {p : Int} {ts : List Tr} {m : List Int} {b : Int} {M : List (List Int)} {A : List ArcT} (h : Whole p ts m b M A) : Short M := by
  have := h.space.most; have := h.budget; show M.length ≤ _; omega
theorem Whole.short {p : Int} {ts : List Tr} {m : List Int} {b : Int} {M : List (List Int)} {A : List ArcT} (h : Whole p ts m b M A) : ∀ x ∈ M, Short x := by
  intro x hx
  have := goodMark_bounds (h.space.good x hx)
  show x.length ≤ _
  omega
theorem space_ex (p : Int) (ts : List Tr) (m : List Int) (b : Int) (hs : SmallN ts) (hm : Short m) : ∃ r : List (List Int) × List ArcT × Bool, Evt (fun k => spec_l4All.f k p ts m b) r ∧ Evt (fun k => impl_wholeSpace.f k p ts m b) r ∧ (r.2.2 = true → Whole p ts m b r.1 r.2.1) := by
  have hS : ∀ r, Evt (fun k => spec_Explore.f k p ts m b) r → Evt (fun k => spec_l4All.f k p ts m b) (r.1, r.2.1, if r.2.2.2 = true then (r.2.2.1 == 1) else false) := by
    intro r hr
    unfold spec_l4All.f
    refine Evt.bind hr ?_
    cases h : r.2.2.2 with
    | true => exact Evt.pos rfl (Evt.ok _)
    | false => exact Evt.neg (by decide) (Evt.ok _)
  have hI : ∀ r, Evt (fun k => impl_Explore.f k p ts m b) r → Evt (fun k => impl_wholeSpace.f k p ts m b) (r.1, r.2.1, if r.2.2.2 = true then (r.2.2.1 == 1) else false) := by
    intro r hr
    unfold impl_wholeSpace.f
    refine Evt.bind hr ?_
    cases h : r.2.2.2 with
    | true => exact Evt.pos rfl (Evt.ok _)
    | false => exact Evt.neg (by decide) (Evt.ok _)
  cases hg : marked p ts m with
  | false =>
    refine ⟨([], [], false), hS ([], [], 0, false) ?_, hI ([], [], 0, false) ?_, fun h => by cases h⟩
    · unfold spec_Explore.f spec_l4Asked.f
      exact Evt.bind (a := false) (Evt.bind ((l2Marked_ev p ts m hs hm).cast hg) (Evt.neg (by decide) (Evt.ok _))) (Evt.neg (by decide) (Evt.ok _))
    · unfold impl_Explore.f
      exact Evt.bind ((isMarked_ev p ts m hs hm).cast hg) (Evt.neg (by decide) (Evt.ok _))
  | true =>
    have hf := marked_facts hg
    cases hw : within b 1 400 with
    | false =>
      refine ⟨([], [], false), hS ([], [], 0, false) ?_, hI ([], [], 0, false) ?_, fun h => by cases h⟩
      · unfold spec_Explore.f spec_l4Asked.f
        exact Evt.bind (a := false) (Evt.bind ((l2Marked_ev p ts m hs hm).cast hg) (Evt.pos rfl (Evt.bind0 ((l1In_eq _ _ _).trans (by rw [hw])) (Evt.ok _)))) (Evt.neg (by decide) (Evt.ok _))
      · unfold impl_Explore.f
        exact Evt.bind ((isMarked_ev p ts m hs hm).cast hg) (Evt.pos rfl (Evt.bind0 ((within_eq _ _ _).trans (by rw [hw])) (Evt.neg (by decide) (Evt.ok _))))
    | true =>
      have hb := within_bounds hw
      obtain ⟨⟨M, A, c⟩, e1, e2, e3⟩ := explore_ex p ts m b hs hf.1 hf.2 hb
      refine ⟨(M, A, (c == 1)), (hS (M, A, c, true) ?_).cast (by simp), (hI (M, A, c, true) ?_).cast (by simp), fun h => ?_⟩
      · unfold spec_Explore.f spec_l4Asked.f
        exact Evt.bind (a := true) (Evt.bind ((l2Marked_ev p ts m hs hm).cast hg) (Evt.pos rfl (Evt.bind0 ((l1In_eq _ _ _).trans (by rw [hw])) (Evt.ok _)))) (Evt.pos rfl (Evt.bind e1 (Evt.ok _)))
      · unfold impl_Explore.f
        exact Evt.bind ((isMarked_ev p ts m hs hm).cast hg) (Evt.pos rfl (Evt.bind0 ((within_eq _ _ _).trans (by rw [hw])) (Evt.pos rfl (Evt.bind e2 (Evt.ok _)))))
      · have := e3.1 (eq_of_beq h)
        exact ⟨this.1, this.2, hf.1, hf.2, hb⟩
end Go.Proofs.Ytiglhdibibbkjaa.Lib
