/- What the printed functions on lists of marks' numbers come to. -/
import Derived.Test.YtjppligclcfbgabF1
import Derived.Test.YtjppligclcfbgabInts
namespace Go.Proofs.Ytjppligclcfbgab.Lib
open Go.RowKit Go.Proofs.Ytjppligclcfbgab.F Go.Proofs.YtjppligclcfbgabW.PrintWords Go.Proofs.YtjppligclcfbgabW.PrintLast Go.Proofs.YtjppligclcfbgabW.PrintMore
set_option linter.unusedVariables false
set_option linter.unusedSimpArgs false

/-! ### bounds -/
def within (x lo hi : Int) : Bool := decide (lo ≤ x ∧ x ≤ hi)
theorem l1In_eq (x lo hi : Int) : spec_l1In.f x lo hi = some (within x lo hi) := by
  unfold spec_l1In.f within
  by_cases h : x ≥ lo
  · rw [if_pos h]; congr 1; exact decide_eq_decide.2 ⟨fun h' => ⟨h, h'⟩, fun h' => h'.2⟩
  · rw [if_neg h]; congr 1; exact (decide_eq_false (fun h' => h h'.1)).symm
theorem within_eq (x lo hi : Int) : impl_within.f x lo hi = some (within x lo hi) := l1In_eq x lo hi
def allIn (l : List Int) (lo hi : Int) : Bool := l.all fun x => within x lo hi
theorem allIn_cons (x : Int) (l : List Int) (lo hi : Int) : allIn (x :: l) lo hi = (within x lo hi && allIn l lo hi) := rfl
theorem l1All_ev (l : List Int) (lo hi : Int) (hl : Short l) : Evt (fun k => spec_l1All.f k l lo hi) (allIn l lo hi) := by
  have hl' : l.length ≤ 17592186044415 := hl
  have key : ∀ i, i ≤ l.length → ∀ s : Unit, Evt (fun k => spec_l1All.l0 k lo hi l (l.length : Int) i) (allIn (l.drop i) lo hi) := by
    refine down (P := fun i _ => Evt (fun k => spec_l1All.l0 k lo hi l (l.length : Int) i) (allIn (l.drop i) lo hi)) ?_ ?_
    · intro _
      refine Evt.step ?_
      simp only [spec_l1All.l0]
      refine Evt.neg (natNotLt _) ?_
      rw [List.drop_length]; exact Evt.ok _
    · intro i hi_ ih _
      refine Evt.step ?_
      simp only [spec_l1All.l0]
      refine Evt.pos (natLt _ _ hi_) (Evt.pos (by omega) (Evt.pos (natLt _ _ hi_) ?_))
      rw [rdN l i hi_, wrapN i _ hi_ (by omega), dropN l i hi_]
      refine Evt.bind0 (l1In_eq _ _ _) ?_
      cases h : within l[i] lo hi with
      | true =>
        exact Evt.pos rfl ((ih ()).cast (by rw [allIn_cons, h, Bool.true_and]))
      | false =>
        exact Evt.neg (by decide) ((Evt.ok _).cast (by rw [allIn_cons, h, Bool.false_and]))
  unfold spec_l1All.f
  exact key 0 (Nat.zero_le _) ()
theorem allWithin_l0 (k : Nat) : ∀ lo hi l n i, impl_allWithin.l0 k lo hi l n i = spec_l1All.l0 k lo hi l n i := by
  induction k with
  | zero => intros; rfl
  | succ k ih => intro lo hi l n i; simp only [impl_allWithin.l0, spec_l1All.l0, within_eq, l1In_eq, Option.bind_some, ih]
theorem allWithin_ev (l : List Int) (lo hi : Int) (hl : Short l) : Evt (fun k => impl_allWithin.f k l lo hi) (allIn l lo hi) :=
  (l1All_ev l lo hi hl).fn fun k => allWithin_l0 k lo hi l _ _
/-- A marking of p places. -/
def goodMark (p : Int) (l : List Int) : Bool := within p 1 16 && decide ((l.length : Int) = p) && allIn l 0 50
theorem specGoodMark_ev (p : Int) (l : List Int) (hl : Short l) : Evt (fun k => spec_GoodMark.f k p l) (goodMark p l) := by
  unfold spec_GoodMark.f spec_l1Places.f goodMark
  simp only [l1In_eq, Option.bind_some]
  cases h : within p 1 16 with
  | false => exact Evt.neg (by decide) ((Evt.ok _).cast (by simp))
  | true =>
    refine Evt.pos rfl ?_
    by_cases h2 : (l.length : Int) = p
    · refine Evt.pos h2 (Evt.bind (l1All_ev l 0 50 hl) ((Evt.ok _).cast ?_))
      simp [h2]
    · refine Evt.neg h2 ((Evt.ok _).cast ?_)
      simp [h2]
theorem goodMark_ev (p : Int) (l : List Int) (hl : Short l) : Evt (fun k => impl_GoodMark.f k p l) (goodMark p l) := by
  unfold impl_GoodMark.f goodMark
  simp only [within_eq, Option.bind_some]
  cases h : within p 1 16 with
  | false => exact Evt.neg (by decide) ((Evt.ok _).cast (by simp))
  | true =>
    refine Evt.pos rfl ?_
    by_cases h2 : (l.length : Int) = p
    · refine Evt.pos h2 (Evt.bind (allWithin_ev l 0 50 hl) ((Evt.ok _).cast ?_))
      simp [h2]
    · refine Evt.neg h2 ((Evt.ok _).cast ?_)
      simp [h2]
theorem goodMark_bounds {p : Int} {l : List Int} (h : goodMark p l = true) : 1 ≤ p ∧ p ≤ 16 ∧ (l.length : Int) = p ∧ ∀ x ∈ l, 0 ≤ x ∧ x ≤ 50 := by
  simp only [goodMark, within, allIn, Bool.and_eq_true, decide_eq_true_eq, List.all_eq_true] at h
  exact ⟨h.1.1.1, h.1.1.2, h.1.2, h.2⟩
end Go.Proofs.Ytjppligclcfbgab.Lib
