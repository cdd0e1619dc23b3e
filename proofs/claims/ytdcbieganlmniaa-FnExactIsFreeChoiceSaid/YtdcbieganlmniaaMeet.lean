/- Members of lists, lists that meet, lists that are the same. -/
import Derived.Test.YtdcbieganlmniaaF6
import Derived.Test.YtdcbieganlmniaaF7
import Derived.Test.YtdcbieganlmniaaNetLib
namespace Go.Proofs.Ytdcbieganlmniaa.Lib
open Go.RowKit Go.Proofs.Ytdcbieganlmniaa.F Go.Proofs.YtdcbieganlmniaaW.PrintWords Go.Proofs.YtdcbieganlmniaaW.PrintLast Go.Proofs.YtdcbieganlmniaaW.PrintMore
set_option linter.unusedVariables false
set_option linter.unusedSimpArgs false
def has (l : List Int) (x : Int) : Bool := l.any fun y => decide (y = x)
theorem l1Has_ev (l : List Int) (x : Int) (hl : Short l) : Evt (fun k => spec_l1Has.f k l x) (has l x) := by
  have hl' : l.length ≤ 17592186044415 := hl
  unfold spec_l1Has.f
  refine loop_anyL (fun k i => spec_l1Has.l0 k x l (l.length : Int) (i : Int)) l (fun y => decide (y = x)) ?_ ?_ ?_
  · simp only [spec_l1Has.l0]
    exact Evt.neg (natNotLt _) (Evt.ok _)
  · intro i hi hp r hr
    simp only [spec_l1Has.l0]
    rw [wrapN i _ hi (by omega), rdN l i hi]
    exact Evt.pos (natLt _ _ hi) (Evt.pos (by omega) (Evt.pos (natLt _ _ hi) (Evt.neg (of_decide_eq_false hp) hr)))
  · intro i hi hp
    simp only [spec_l1Has.l0]
    rw [rdN l i hi]
    exact Evt.pos (natLt _ _ hi) (Evt.pos (by omega) (Evt.pos (natLt _ _ hi) (Evt.pos (of_decide_eq_true hp) (Evt.ok _))))
theorem index_ex (l : List Int) (x : Int) (hl : Short l) : ∃ r : Int, Evt (fun k => slices_Index_int_int.f k l x) r ∧ decide (r ≥ 0) = has l x ∧ (∀ (i : Nat), r = (i : Int) → ∃ h : i < l.length, decide (l[i] = x) = true ∧ ∀ j (hj : j < i), decide ((l[j]'(by omega)) = x) = false) ∧ (r < 0 → r = -1) := by
  unfold slices_Index_int_int.f
  refine indexFunc_gen (fun k y => some (decide (y = x))) (fun y => decide (y = x)) (rd l) (fun k i => slices_Index_int_int.l0 k l x (l.length : Int) i) l ?_ (fun y _ => Evt.ok _) (fun i hi => rdN l i hi) hl
  intro k i
  simp only [slices_Index_int_int.l0, Option.bind_some, decide_eq_true_eq, eq_comm (a := x)]
theorem contains_ev (l : List Int) (x : Int) (hl : Short l) : Evt (fun k => slices_Contains_int_int.f k l x) (has l x) := by
  obtain ⟨r, h, e, _⟩ := index_ex l x hl
  unfold slices_Contains_int_int.f
  exact Evt.bind h ((Evt.ok _).cast e)
end Go.Proofs.Ytdcbieganlmniaa.Lib
