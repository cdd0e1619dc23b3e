/- Counts of firings. -/
import Derived.Test.YtffdacmdgfpnmaaF16
import Derived.Test.YtffdacmdgfpnmaaPlain
import Derived.Test.YtffdacmdgfpnmaaAll
namespace Go.Proofs.Ytffdacmdgfpnmaa.Lib
open Go.RowKit Go.Proofs.Ytffdacmdgfpnmaa.F Go.Proofs.YtffdacmdgfpnmaaW.PrintWords Go.Proofs.YtffdacmdgfpnmaaW.PrintLast Go.Proofs.YtffdacmdgfpnmaaW.PrintMore
set_option linter.unusedVariables false
set_option linter.unusedSimpArgs false
theorem countsLoop_l0 (k : Nat) : ∀ s l n i, impl_CountsOf.l0 k s l n i = spec_CountsOf.l0 k s l n i := by
  induction k with
  | zero => intros; simp only [impl_CountsOf.l0, spec_CountsOf.l0]
  | succ k ih => intro s l n i; simp only [impl_CountsOf.l0, spec_CountsOf.l0, ih]
theorem countsLoop_ex (l : List Int) (n : Nat) (hl : Short l) (hb : ∀ q ∈ l, 0 ≤ q ∧ q < (n : Int)) : ∀ s : List Int, s.length = n → ∃ r : List Int, Evt (fun k => spec_CountsOf.l0 k s l (l.length : Int) 0) (r, true) ∧ r.length = n := by
  have hl' : l.length ≤ 17592186044415 := hl
  have key : ∀ i, i ≤ l.length → ∀ s : List Int, s.length = n → ∃ r : List Int, Evt (fun k => spec_CountsOf.l0 k s l (l.length : Int) (i : Int)) (r, true) ∧ r.length = n := by
    refine down (P := fun i (s : List Int) => s.length = n → ∃ r : List Int, Evt (fun k => spec_CountsOf.l0 k s l (l.length : Int) (i : Int)) (r, true) ∧ r.length = n) ?_ ?_
    · intro s hs
      refine ⟨s, Evt.step ?_, hs⟩
      simp only [spec_CountsOf.l0]
      exact Evt.neg (natNotLt _) (Evt.ok _)
    · intro i hi ih s hs
      have hq := hb l[i] (List.getElem_mem hi)
      obtain ⟨r, h1, h2⟩ := ih (s.set l[i].toNat (wrap64 (rd s l[i] + 1))) (by simpa using hs)
      refine ⟨r, Evt.step ?_, h2⟩
      simp only [spec_CountsOf.l0]
      rw [rdN l i hi, wrapN i _ hi (by omega)]
      exact Evt.pos (natLt _ _ hi) (Evt.pos (by omega) (Evt.pos (natLt _ _ hi) (Evt.pos hq.1 (Evt.pos (by omega) h1))))
  exact key 0 (Nat.zero_le _)
theorem core_CountsOf (p : Int) (ts : List Tr) (x1 : List Int) (hs : SmallN ts) (h1 : Short x1) : ∃ x : List Int × Bool, Evt (fun k => spec_CountsOf.f k p ts x1) x ∧ Evt (fun k => impl_CountsOf.f k p ts x1) x ∧ Short x.1 := by
  have hl := hs.1
  have hz : Short ([] : List Int) := by show 0 ≤ _; omega
  have hn1 : ∀ c : Bool, c = true → Evt (fun k => spec_CountsOf.j0 k x1 c p ts) ([], false) := by
    intro c hc
    refine Evt.step ?_
    simp only [spec_CountsOf.j0]
    exact Evt.pos hc (Evt.ok _)
  have hn2 : ∀ c : Bool, c = true → Evt (fun k => impl_CountsOf.j0 k x1 c p ts) ([], false) := by
    intro c hc
    refine Evt.step ?_
    simp only [impl_CountsOf.j0]
    exact Evt.pos hc (Evt.ok _)
  have hat : Evt (fun k => impl_areTrans.f k p ts x1) (decide ((x1.length : Int) ≤ 60) && allIn x1 0 (wrap64 ((ts.length : Int) - 1))) := by
    unfold impl_areTrans.f
    by_cases hl : (x1.length : Int) ≤ 60
    · exact Evt.pos hl (Evt.bind (allWithin_ev x1 _ _ h1) ((Evt.ok _).cast (by rw [decide_eq_true hl]; simp)))
    · exact Evt.neg hl ((Evt.ok _).cast (by rw [decide_eq_false hl]; rfl))
  unfold spec_CountsOf.f impl_CountsOf.f
  cases hg : plain p ts with
  | false => exact ⟨([], false), Evt.bind ((l7Plain_ev p ts hs).cast hg) (Evt.neg (by decide) (hn1 true rfl)), Evt.bind ((isPlain_ev p ts hs).cast hg) (Evt.neg (by decide) (hn2 true rfl)), hz⟩
  | true =>
    by_cases hl2 : (x1.length : Int) > 60
    · have e : (decide ((x1.length : Int) ≤ 60) && allIn x1 0 (wrap64 ((ts.length : Int) - 1))) = false := by rw [decide_eq_false (by omega)]; rfl
      exact ⟨([], false), Evt.bind ((l7Plain_ev p ts hs).cast hg) (Evt.pos rfl (Evt.pos hl2 (hn1 true rfl))), Evt.bind ((isPlain_ev p ts hs).cast hg) (Evt.pos rfl (Evt.bind (hat.cast e) (hn2 _ rfl))), hz⟩
    · cases ha : allIn x1 0 (wrap64 ((ts.length : Int) - 1)) with
      | false =>
        have e : (decide ((x1.length : Int) ≤ 60) && allIn x1 0 (wrap64 ((ts.length : Int) - 1))) = false := by rw [ha]; simp
        exact ⟨([], false), Evt.bind ((l7Plain_ev p ts hs).cast hg) (Evt.pos rfl (Evt.neg hl2 (Evt.bind ((l1All_ev x1 _ _ h1).cast ha) (hn1 _ rfl)))), Evt.bind ((isPlain_ev p ts hs).cast hg) (Evt.pos rfl (Evt.bind (hat.cast e) (hn2 _ rfl))), hz⟩
      | true =>
        have e : (decide ((x1.length : Int) ≤ 60) && allIn x1 0 (wrap64 ((ts.length : Int) - 1))) = true := by rw [ha, decide_eq_true (by omega)]; rfl
        have hb : ∀ q ∈ x1, 0 ≤ q ∧ q < (ts.length : Int) := by
          intro q hq
          have := allIn_le ha q hq
          have e : wrap64 ((ts.length : Int) - 1) = (ts.length : Int) - 1 := wrap_id _ (by omega) (by omega)
          omega
        obtain ⟨r, e1, e2⟩ := countsLoop_ex x1 ts.length h1 hb (List.replicate ts.length 0) (by simp)
        refine ⟨(r, true), Evt.bind ((l7Plain_ev p ts hs).cast hg) (Evt.pos rfl (Evt.neg hl2 (Evt.bind ((l1All_ev x1 _ _ h1).cast ha) (Evt.step ?_)))), Evt.bind ((isPlain_ev p ts hs).cast hg) (Evt.pos rfl (Evt.bind (hat.cast e) (Evt.step ?_))), by show r.length ≤ _; omega⟩
        · simp only [spec_CountsOf.j0]
          refine Evt.neg (by simp) (Evt.pos (by omega) (Evt.pos (by rw [Int.toNat_natCast]; omega) ?_))
          rw [Int.toNat_natCast]; exact e1
        · simp only [impl_CountsOf.j0, countsLoop_l0]
          refine Evt.neg (by simp) (Evt.pos (by omega) (Evt.pos (by rw [Int.toNat_natCast]; omega) ?_))
          rw [Int.toNat_natCast]; exact e1
end Go.Proofs.Ytffdacmdgfpnmaa.Lib
