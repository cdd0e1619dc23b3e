import Derived.Test.YtbkjgnfnjgebiaaF1
import Derived.Test.YtbkjgnfnjgebiaaLib
namespace Go.Proofs.Ytbkjgnfnjgebiaa.Lib
open Go.RowKit Go.Proofs.Ytbkjgnfnjgebiaa.F Go.Proofs.YtbkjgnfnjgebiaaW.PrintWords Go.Proofs.YtbkjgnfnjgebiaaW.PrintLast Go.Proofs.YtbkjgnfnjgebiaaW.PrintMore

theorem toIntS_ev (l : List Int) (hl : Short l) : Evt (fun k => laws_toIntS.f k l) l := by
  have hl' : l.length ≤ 17592186044415 := hl
  have key : ∀ i, i ≤ l.length → ∀ s : List Int, s.length = l.length → s.take i = l.take i → Evt (fun k => laws_toIntS.l0 k l s i) l := by
    refine down (P := fun i s => s.length = l.length → s.take i = l.take i → Evt (fun k => laws_toIntS.l0 k l s i) l) ?_ ?_
    · intro s hs ht
      refine Evt.step ?_
      simp only [laws_toIntS.l0]
      refine Evt.neg (natNotLt _) ?_
      have e : s = l := by
        rw [List.take_of_length_le (by omega), List.take_of_length_le (Nat.le_refl _)] at ht
        exact ht
      rw [e]; exact Evt.ok _
    · intro i hi ih s hs ht
      refine Evt.step ?_
      simp only [laws_toIntS.l0]
      refine Evt.pos (natLt _ _ hi) (Evt.pos (by omega) (Evt.pos (by omega) ?_))
      rw [wrapN i _ hi (by omega)]
      refine ih _ (by simpa using hs) ?_
      rw [rdN l i hi, Int.toNat_natCast, takeN l i hi, takeN _ i (by simp; omega), List.take_set_of_le (Nat.le_refl i), ht]
      simp
  unfold laws_toIntS.f
  refine Evt.pos (by omega) (Evt.pos (by simp; omega) ?_)
  exact key 0 (Nat.zero_le _) _ (by simp) (by simp)

theorem eqIntS_ev (a b : List Int) (ha : Short a) : Evt (fun k => laws_eqIntS.f k a b) (decide (a = b)) := by
  have ha' : a.length ≤ 17592186044415 := ha
  unfold laws_eqIntS.f
  by_cases hab : a.length = b.length
  · refine Evt.pos (by omega) ?_
    have key : ∀ i, i ≤ a.length → Unit → a.take i = b.take i → Evt (fun k => laws_eqIntS.l0 k a b i) (decide (a = b)) := by
      refine down (P := fun i _ => a.take i = b.take i → Evt (fun k => laws_eqIntS.l0 k a b i) (decide (a = b))) ?_ ?_
      · intro _ ht
        refine Evt.step ?_
        simp only [laws_eqIntS.l0]
        refine Evt.neg (natNotLt _) ?_
        rw [List.take_of_length_le (Nat.le_refl _), List.take_of_length_le (by omega)] at ht
        rw [decide_eq_true ht]; exact Evt.ok _
      · intro i hi ih _ ht
        refine Evt.step ?_
        simp only [laws_eqIntS.l0]
        refine Evt.pos (natLt _ _ hi) (Evt.pos (by omega) (Evt.pos (by omega) ?_))
        rw [rdN a i hi, rdN b i (by omega)]
        by_cases he : a[i] = b[i]
        · refine Evt.pos he ?_
          rw [wrapN i _ hi (by omega)]
          exact ih () (by rw [takeN a i hi, takeN b i (by omega), ht, he])
        · refine Evt.neg he ?_
          rw [decide_eq_false (fun e => he (by subst e; rfl))]; exact Evt.ok _
    exact key 0 (Nat.zero_le _) () (by simp)
  · refine Evt.neg (by omega) ?_
    rw [decide_eq_false (fun e => hab (by rw [e]))]; exact Evt.ok _

theorem eqIntS_same (a : List Int) (ha : Short a) : Evt (fun k => laws_eqIntS.f k a a) true := (eqIntS_ev a a ha).cast (by simp)

end Go.Proofs.Ytbkjgnfnjgebiaa.Lib
