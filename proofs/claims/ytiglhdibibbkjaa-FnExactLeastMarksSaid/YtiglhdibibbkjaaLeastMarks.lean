import Derived.Test.YtiglhdibibbkjaaF1
import Derived.Test.YtiglhdibibbkjaaF2
import Derived.Test.YtiglhdibibbkjaaLst
import Derived.Test.YtiglhdibibbkjaaMarkLaws
namespace Go.Proofs.Ytiglhdibibbkjaa.Lib
open Go.RowKit Go.Proofs.Ytiglhdibibbkjaa.F Go.Proofs.YtiglhdibibbkjaaW.PrintWords Go.Proofs.YtiglhdibibbkjaaW.PrintLast Go.Proofs.YtiglhdibibbkjaaW.PrintMore
theorem tot_le (n : Nat) : ∀ L : List (List Int), (∀ x ∈ L, x.length ≤ n) → tot L ≤ n * L.length
  | [], _ => by simp [tot]
  | x :: L, h => by
    rw [tot_cons, List.length_cons, Nat.mul_succ]
    have := h x (List.mem_cons_self ..)
    have := tot_le n L (fun y hy => h y (List.mem_cons_of_mem _ hy))
    omega
theorem core_LeastMarks (p : Int) (l : List (List Int)) (hl : l.length ≤ 1048576) (hs : ∀ x ∈ l, Short x) :
    ∃ x : List (List Int) × Bool, Evt (fun k => spec_LeastMarks.f k p l) x ∧ Evt (fun k => impl_LeastMarks.f k p l) x ∧ x.1.length ≤ 400 ∧ ∀ m ∈ x.1, m.length ≤ 16 := by
  have hsl : Short l := by show l.length ≤ _; omega
  unfold spec_LeastMarks.f impl_LeastMarks.f spec_l1Places.f
  simp only [l1In_eq, Option.bind_some]
  have hw : impl_within.f p 1 16 = some (within p 1 16) := within_eq p 1 16
  cases c : within p 1 16 with
  | false => exact ⟨([], false), Evt.neg (by decide) (Evt.step (by simp only [spec_LeastMarks.j0]; exact Evt.pos trivial (Evt.ok _))), Evt.bind0 (hw.trans (by rw [c])) (Evt.neg (by decide) (Evt.ok _)), by simp, by simp⟩
  | true =>
    by_cases c2 : (l.length : Int) > 400
    · exact ⟨([], false), Evt.pos rfl (Evt.step (by simp only [spec_LeastMarks.j0]; exact Evt.pos (decide_eq_true c2) (Evt.ok _))), Evt.bind0 (hw.trans (by rw [c])) (Evt.pos rfl (Evt.pos c2 (Evt.ok _))), by simp, by simp⟩
    · have loop : ∀ r, (l.all (goodMark p) = true → Evt (fun k => (spec_l1LeastMarks.f k l).bind fun t => some (t, true)) r) → (l.all (goodMark p) = false → r = ([], false)) → Evt (fun k => spec_LeastMarks.l0 k p l l (l.length : Int) 0) r := by
        intro r h1 h2
        have key : ∀ i, i ≤ l.length → ∀ _ : Unit, ((l.take i).all (goodMark p) = true) → Evt (fun k => spec_LeastMarks.l0 k p l l (l.length : Int) (i : Int)) r := by
          refine down (P := fun i _ => ((l.take i).all (goodMark p) = true) → Evt (fun k => spec_LeastMarks.l0 k p l l (l.length : Int) (i : Int)) r) ?_ ?_
          · intro _ h
            refine Evt.step ?_
            simp only [spec_LeastMarks.l0]
            exact Evt.neg (natNotLt _) (h1 (by rw [List.take_length] at h; exact h))
          · intro i hi ih _ h
            refine Evt.step ?_
            simp only [spec_LeastMarks.l0, rdLL l i hi]
            rw [wrapN i _ hi (by omega)]
            refine Evt.pos (natLt _ _ hi) (Evt.pos (by omega) (Evt.pos (natLt _ _ hi) (Evt.bind (specGoodMark_ev p l[i] (hs _ (List.getElem_mem hi))) ?_)))
            cases g : goodMark p l[i] with
            | true => exact Evt.pos rfl (ih () (by rw [takeN l i hi, List.all_append, h]; simp [g]))
            | false => exact Evt.neg (by decide) ((Evt.ok _).cast (h2 (List.all_eq_false.2 ⟨l[i], List.getElem_mem hi, by rw [g]; decide⟩)).symm)
        exact key 0 (Nat.zero_le _) () (by simp)
      have sp : ∀ r, (l.all (goodMark p) = true → Evt (fun k => (spec_l1LeastMarks.f k l).bind fun t => some (t, true)) r) → (l.all (goodMark p) = false → r = ([], false)) → Evt (fun k => if true = true then spec_LeastMarks.j0 k p l (decide ((l.length : Int) > 400)) else spec_LeastMarks.j0 k p l true) r := by
        intro r h1 h2
        refine Evt.pos rfl (Evt.step ?_)
        simp only [spec_LeastMarks.j0]
        exact Evt.neg (by simpa using c2) (loop r h1 h2)
      have im := areMarks_ev p l hsl hs
      cases g : l.all (goodMark p) with
      | false => exact ⟨([], false), sp _ (fun h => by rw [g] at h; cases h) (fun _ => rfl), Evt.bind0 (hw.trans (by rw [c])) (Evt.pos rfl (Evt.neg c2 (Evt.bind (im.cast g) (Evt.neg (by decide) (Evt.ok _))))), by simp, by simp⟩
      | true =>
        have hall := List.all_eq_true.1 g
        have hb : 1 ≤ p ∧ p ≤ 16 := by unfold within at c; simpa using c
        obtain ⟨R, e1, e2, _, e4, e5⟩ := least_ex (n := p.toNat) (by omega) l (by omega) (fun m h => by have := (goodMark_bounds (hall m h)).2.2.1; omega)
        refine ⟨(R, true), sp _ (fun _ => Evt.bind e1 (Evt.ok _)) (fun h => by rw [g] at h; cases h), Evt.bind0 (hw.trans (by rw [c])) (Evt.pos rfl (Evt.neg c2 (Evt.bind (im.cast g) (Evt.pos rfl (Evt.bind e2 (Evt.ok _)))))), by show R.length ≤ _; omega, fun m hm => ?_⟩
        have := (goodMark_bounds (hall m ((e4 m).1 hm).1)).2.2.1
        omega
end Go.Proofs.Ytiglhdibibbkjaa.Lib
