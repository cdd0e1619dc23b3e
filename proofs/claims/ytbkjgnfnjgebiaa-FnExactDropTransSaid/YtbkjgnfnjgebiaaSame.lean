import Derived.Test.YtbkjgnfnjgebiaaF2
import Derived.Test.YtbkjgnfnjgebiaaF4
import Derived.Test.YtbkjgnfnjgebiaaNetLib
namespace Go.Proofs.Ytbkjgnfnjgebiaa.Lib
open Go.RowKit Go.Proofs.Ytbkjgnfnjgebiaa.F Go.Proofs.YtbkjgnfnjgebiaaW.PrintWords Go.Proofs.YtbkjgnfnjgebiaaW.PrintLast Go.Proofs.YtbkjgnfnjgebiaaW.PrintMore
theorem l1Same_ev (a b : List Int) (ha : Short a) : Evt (fun k => spec_l1Same.f k a b) (decide (a = b)) := by
  have ha' : a.length ≤ 17592186044415 := ha
  unfold spec_l1Same.f
  by_cases hab : a.length = b.length
  · refine Evt.pos (by omega) ?_
    have h := loop_all (fun k i => spec_l1Same.l0 k a b (a.length : Int) (i : Int)) a.length (fun i => decide (a.getD i 0 = b.getD i 0)) ?_ ?_ ?_
    · refine h.cast (Bool.eq_iff_iff.2 ?_)
      simp only [List.all_eq_true, List.mem_range, decide_eq_true_eq]
      constructor
      · intro h
        refine List.ext_getElem hab fun i h1 h2 => ?_
        have := h i h1
        rwa [getDN a 0 i h1, getDN b 0 i h2] at this
      · intro e i hi; rw [e]
    · simp only [spec_l1Same.l0]
      exact Evt.neg (natNotLt _) (Evt.ok _)
    · intro i hi hp r hr
      simp only [spec_l1Same.l0]
      rw [wrapN i _ hi (by omega), rdD, rdD]
      exact Evt.pos (natLt _ _ hi) (Evt.pos (by omega) (Evt.pos (natLt _ _ hi) (Evt.pos (by omega) (Evt.pos (of_decide_eq_true hp) hr))))
    · intro i hi hp
      simp only [spec_l1Same.l0]
      rw [rdD, rdD]
      exact Evt.pos (natLt _ _ hi) (Evt.pos (by omega) (Evt.pos (natLt _ _ hi) (Evt.pos (by omega) (Evt.neg (of_decide_eq_false hp) (Evt.ok _)))))
  · exact Evt.neg (by omega) ((Evt.ok _).cast (decide_eq_false (fun e => hab (by rw [e]))).symm)
theorem sEqual_l0 (k : Nat) : ∀ a b n i, slices_Equal_int_int.l0 k a b n i = spec_l1Same.l0 k a b n i := by
  induction k with
  | zero => intros; rfl
  | succ k ih => intro a b n i; simp only [slices_Equal_int_int.l0, spec_l1Same.l0, ih]
theorem sEqual_ev (a b : List Int) (ha : Short a) : Evt (fun k => slices_Equal_int_int.f k a b) (decide (a = b)) :=
  (l1Same_ev a b ha).fn fun k => by simp only [slices_Equal_int_int.f, spec_l1Same.f, sEqual_l0]
end Go.Proofs.Ytbkjgnfnjgebiaa.Lib
