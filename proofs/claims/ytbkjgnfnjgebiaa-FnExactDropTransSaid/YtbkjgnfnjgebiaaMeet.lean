import Derived.Test.YtbkjgnfnjgebiaaF2
import Derived.Test.YtbkjgnfnjgebiaaHas
namespace Go.Proofs.Ytbkjgnfnjgebiaa.Lib
open Go.RowKit Go.Proofs.Ytbkjgnfnjgebiaa.F Go.Proofs.YtbkjgnfnjgebiaaW.PrintWords Go.Proofs.YtbkjgnfnjgebiaaW.PrintLast Go.Proofs.YtbkjgnfnjgebiaaW.PrintMore
theorem index_ex (l : List Int) (x : Int) (hl : Short l) : ∃ r : Int, Evt (fun k => slices_Index_int_int.f k l x) r ∧ decide (r ≥ 0) = has l x ∧ (∀ (i : Nat), r = (i : Int) → ∃ h : i < l.length, decide (l[i] = x) = true ∧ ∀ j (hj : j < i), decide ((l[j]'(by omega)) = x) = false) ∧ (r < 0 → r = -1) := by
  unfold slices_Index_int_int.f
  refine indexFunc_gen (fun k y => some (decide (y = x))) (fun y => decide (y = x)) (rd l) (fun k i => slices_Index_int_int.l0 k l x (l.length : Int) i) l ?_ (fun y _ => Evt.ok _) (fun i hi => rdN l i hi) hl
  intro k i
  simp only [slices_Index_int_int.l0, Option.bind_some, decide_eq_true_eq, eq_comm (a := x)]
theorem contains_ev (l : List Int) (x : Int) (hl : Short l) : Evt (fun k => slices_Contains_int_int.f k l x) (has l x) := by
  obtain ⟨r, h, e, _⟩ := index_ex l x hl
  unfold slices_Contains_int_int.f
  exact Evt.bind h ((Evt.ok _).cast e)
end Go.Proofs.Ytbkjgnfnjgebiaa.Lib
