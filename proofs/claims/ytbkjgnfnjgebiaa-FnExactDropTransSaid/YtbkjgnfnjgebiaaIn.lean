import Derived.Test.YtbkjgnfnjgebiaaF1
import Derived.Test.YtbkjgnfnjgebiaaF2
import Derived.Test.YtbkjgnfnjgebiaaNetLib
namespace Go.Proofs.Ytbkjgnfnjgebiaa.Lib
open Go.RowKit Go.Proofs.Ytbkjgnfnjgebiaa.F Go.Proofs.YtbkjgnfnjgebiaaW.PrintWords Go.Proofs.YtbkjgnfnjgebiaaW.PrintLast Go.Proofs.YtbkjgnfnjgebiaaW.PrintMore
def within (x lo hi : Int) : Bool := decide (lo ≤ x ∧ x ≤ hi)
theorem l1In_eq (x lo hi : Int) : spec_l1In.f x lo hi = some (within x lo hi) := by
  unfold spec_l1In.f within
  by_cases h : x ≥ lo
  · rw [if_pos h]; congr 1; exact decide_eq_decide.2 ⟨fun h' => ⟨h, h'⟩, fun h' => h'.2⟩
  · rw [if_neg h]; congr 1; exact (decide_eq_false (fun h' => h h'.1)).symm
theorem within_eq (x lo hi : Int) : impl_within.f x lo hi = some (within x lo hi) := l1In_eq x lo hi
def allIn (l : List Int) (lo hi : Int) : Bool := l.all fun x => within x lo hi
theorem allWithin_ev (l : List Int) (lo hi : Int) (hl : Short l) : Evt (fun k => impl_allWithin.f k l lo hi) (allIn l lo hi) := by
  have hl' : l.length ≤ 17592186044415 := hl
  unfold impl_allWithin.f
  refine loop_allL (fun k i => impl_allWithin.l0 k lo hi l (l.length : Int) (i : Int)) l (fun x => within x lo hi) ?_ ?_ ?_
  · simp only [impl_allWithin.l0]
    exact Evt.neg (natNotLt _) (Evt.ok _)
  · intro i hi_ hp r hr
    simp only [impl_allWithin.l0]
    refine Evt.pos (natLt _ _ hi_) (Evt.pos (by omega) (Evt.pos (natLt _ _ hi_) ?_))
    rw [rdN l i hi_, wrapN i _ hi_ (by omega)]
    exact Evt.bind0 (within_eq _ _ _) (Evt.pos hp hr)
  · intro i hi_ hp
    simp only [impl_allWithin.l0]
    refine Evt.pos (natLt _ _ hi_) (Evt.pos (by omega) (Evt.pos (natLt _ _ hi_) ?_))
    rw [rdN l i hi_]
    exact Evt.bind0 (within_eq _ _ _) (Evt.neg (by rw [hp]; decide) (Evt.ok _))
theorem within_bounds {x lo hi : Int} (h : within x lo hi = true) : lo ≤ x ∧ x ≤ hi := of_decide_eq_true h
theorem allIn_cons (x : Int) (l : List Int) (lo hi : Int) : allIn (x :: l) lo hi = (within x lo hi && allIn l lo hi) := rfl
theorem allIn_le {l : List Int} {lo hi : Int} (h : allIn l lo hi = true) : ∀ x ∈ l, lo ≤ x ∧ x ≤ hi := by
  simp only [allIn, List.all_eq_true] at h
  exact fun x hx => within_bounds (h x hx)
end Go.Proofs.Ytbkjgnfnjgebiaa.Lib
