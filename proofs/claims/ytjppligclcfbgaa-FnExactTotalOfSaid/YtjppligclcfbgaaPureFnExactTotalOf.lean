/- The plain statement on TotalOf: what the program returns is what the reference returns. -/
import Derived.Test.YtjppligclcfbgaaF1
import Derived.Test.YtjppligclcfbgaaF2
import Derived.Test.YtjppligclcfbgaaMarkLaws
namespace Go.Proofs.Ytjppligclcfbgaa.Pure
open Go.RowKit Go.Proofs.Ytjppligclcfbgaa.F Go.Proofs.Ytjppligclcfbgaa.Lib Go.Proofs.YtjppligclcfbgaaW.PrintWords Go.Proofs.YtjppligclcfbgaaW.PrintLast
set_option linter.unusedVariables false
set_option linter.unusedSimpArgs false
def total (l : List Int) : Int := l.foldl (fun s x => wrap64 (s + x)) 0
theorem l1Total_ev (l : List Int) (hl : Short l) : Evt (fun k => spec_l1Total.f k l) (total l) := by
  have hl' : l.length ≤ 17592186044415 := hl
  have key : ∀ i, i ≤ l.length → ∀ s : Int, Evt (fun k => spec_l1Total.l0 k s l (l.length : Int) i) ((l.drop i).foldl (fun s x => wrap64 (s + x)) s) := by
    refine down ?_ ?_
    · intro s
      refine Evt.step ?_
      simp only [spec_l1Total.l0]
      exact Evt.neg (natNotLt _) ((Evt.ok _).cast (by rw [List.drop_length]; rfl))
    · intro i hi ih s
      refine Evt.step ?_
      simp only [spec_l1Total.l0]
      refine Evt.pos (natLt _ _ hi) (Evt.pos (by omega) (Evt.pos (natLt _ _ hi) ?_))
      rw [rdN l i hi, wrapN i _ hi (by omega), dropN l i hi, List.foldl_cons]
      exact ih _
  unfold spec_l1Total.f
  exact key 0 (Nat.zero_le _) 0
theorem sumOf_l0 (k : Nat) : ∀ s l n i, impl_sumOf.l0 k s l n i = spec_l1Total.l0 k s l n i := by
  induction k with
  | zero => intros; rfl
  | succ k ih => intro s l n i; simp only [impl_sumOf.l0, spec_l1Total.l0, ih]
theorem sumOf_ev (l : List Int) (hl : Short l) : Evt (fun k => impl_sumOf.f k l) (total l) := (l1Total_ev l hl).fn fun k => sumOf_l0 k 0 l _ _

theorem FnExactTotalOf : laws_FnExactTotalOf.Pure := by
  intro a0 l1 _ _ _ _
  refine Evt.get ?_
  unfold laws_FnExactTotalOf.f
  by_cases hbig : (l1.length : Int) > 1048576
  · exact Evt.pos hbig (Evt.ok _)
  have hl : Short l1 := by show l1.length ≤ _; omega
  refine Evt.neg hbig (Evt.bind (toIntS_ev l1 hl) ?_)
  unfold spec_TotalOf.f impl_TotalOf.f
  have hA : Evt (fun k => impl_areMarks.f k a0 [l1]) (goodMark a0 l1) := (areMarks_ev a0 [l1] (by show 1 ≤ _; omega) (by simpa using hl)).cast (by simp)
  cases hg : goodMark a0 l1 with
  | false =>
    rw [hg] at hA
    refine Evt.bind (a := (0, false)) (Evt.bind ((specGoodMark_ev a0 l1 hl).cast hg) (Evt.neg (by decide) (Evt.ok _))) (Evt.bind (toIntS_ev l1 hl) (Evt.bind (a := (0, false)) (Evt.bind hA (Evt.neg (by decide) (Evt.ok _))) ?_))
    refine Evt.pos rfl (Evt.step ?_)
    simp only [laws_FnExactTotalOf.j0]
    exact Evt.neg (by decide) (Evt.bind (toIntS_ev l1 hl) (Evt.bind (eqIntS_same l1 hl) (Evt.pos rfl (Evt.ok _))))
  | true =>
    rw [hg] at hA
    refine Evt.bind (a := (total l1, true)) (Evt.bind ((specGoodMark_ev a0 l1 hl).cast hg) (Evt.pos rfl (Evt.bind (l1Total_ev l1 hl) (Evt.ok _)))) (Evt.bind (toIntS_ev l1 hl) (Evt.bind (a := (total l1, true)) (Evt.bind hA (Evt.pos rfl (Evt.bind (sumOf_ev l1 hl) (Evt.ok _)))) ?_))
    refine Evt.pos rfl (Evt.step ?_)
    simp only [laws_FnExactTotalOf.j0]
    exact Evt.neg (by decide) (Evt.bind (toIntS_ev l1 hl) (Evt.bind (eqIntS_same l1 hl) (Evt.pos rfl (Evt.ok _))))
end Go.Proofs.Ytjppligclcfbgaa.Pure
