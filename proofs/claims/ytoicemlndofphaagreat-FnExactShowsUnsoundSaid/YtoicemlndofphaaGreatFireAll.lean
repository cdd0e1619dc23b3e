import Derived.Test.YtoicemlndofphaaGreatF2
import Derived.Test.YtoicemlndofphaaGreatF4
import Derived.Test.YtoicemlndofphaaGreatF7
import Derived.Test.YtoicemlndofphaaGreatF8
import Derived.Test.YtoicemlndofphaaGreatFireCore
namespace Go.Proofs.YtoicemlndofphaaGreat.Lib
open Go.RowKit Go.Proofs.YtoicemlndofphaaGreat.F Go.Proofs.YtoicemlndofphaaGreatW.PrintWords Go.Proofs.YtoicemlndofphaaGreatW.PrintLast Go.Proofs.YtoicemlndofphaaGreatW.PrintMore
theorem fireAll_loop (p : Int) (ts : List Tr) (xs : List Int) (hs : SmallN ts) (hx : Short xs) (m : List Int) (hm : Short m) : ∃ r : List Int × Int × Bool, Evt (fun k => spec_FireAll.l0 k xs m xs (xs.length : Int) 0 p ts) r ∧ Evt (fun k => impl_FireAll.l0 k m xs xs (xs.length : Int) 0 p ts) r ∧ Short r.1 ∧ r.1.length = m.length := by
  have hx' : xs.length ≤ 17592186044415 := hx
  have key : ∀ i, i ≤ xs.length → ∀ m : List Int, Short m → ∃ r : List Int × Int × Bool, Evt (fun k => spec_FireAll.l0 k xs m xs (xs.length : Int) (i : Int) p ts) r ∧ Evt (fun k => impl_FireAll.l0 k m xs xs (xs.length : Int) (i : Int) p ts) r ∧ Short r.1 ∧ r.1.length = m.length := by
    refine down (P := fun i (m : List Int) => Short m → ∃ r : List Int × Int × Bool, Evt (fun k => spec_FireAll.l0 k xs m xs (xs.length : Int) (i : Int) p ts) r ∧ Evt (fun k => impl_FireAll.l0 k m xs xs (xs.length : Int) (i : Int) p ts) r ∧ Short r.1 ∧ r.1.length = m.length) ?_ ?_
    · intro m hm
      refine ⟨(m, (xs.length : Int), true), Evt.step ?_, Evt.step ?_, hm, rfl⟩
      · simp only [spec_FireAll.l0]; exact Evt.neg (natNotLt _) (Evt.ok _)
      · simp only [impl_FireAll.l0]; exact Evt.neg (natNotLt _) (Evt.ok _)
    · intro i hi ih m hm
      obtain ⟨⟨g, b⟩, h1, h2, h3, h4⟩ := fire_ex p ts m xs[i] hs hm
      cases b with
      | true =>
        obtain ⟨r, e1, e2, e3, e4⟩ := ih g h3
        refine ⟨r, Evt.step ?_, Evt.step ?_, e3, e4.trans (h4 rfl)⟩
        · simp only [spec_FireAll.l0]
          rw [rdN xs i hi, wrapN i _ hi (by omega)]
          exact Evt.pos (natLt _ _ hi) (Evt.pos (by omega) (Evt.pos (natLt _ _ hi) (Evt.bind h1 (Evt.pos rfl e1))))
        · simp only [impl_FireAll.l0]
          rw [rdN xs i hi, wrapN i _ hi (by omega)]
          exact Evt.pos (natLt _ _ hi) (Evt.pos (by omega) (Evt.pos (natLt _ _ hi) (Evt.bind h2 (Evt.pos rfl e2))))
      | false =>
        refine ⟨(m, (i : Int), true), Evt.step ?_, Evt.step ?_, hm, rfl⟩
        · simp only [spec_FireAll.l0]
          rw [rdN xs i hi]
          exact Evt.pos (natLt _ _ hi) (Evt.pos (by omega) (Evt.pos (natLt _ _ hi) (Evt.bind h1 (Evt.neg (by simp) (Evt.ok _)))))
        · simp only [impl_FireAll.l0]
          rw [rdN xs i hi]
          exact Evt.pos (natLt _ _ hi) (Evt.pos (by omega) (Evt.pos (natLt _ _ hi) (Evt.bind h2 (Evt.neg (by simp) (Evt.ok _)))))
  exact key 0 (Nat.zero_le _) m hm
theorem fireAll_ex (p : Int) (ts : List Tr) (x1 x2 : List Int) (hs : SmallN ts) (h1 : Short x1) (h2 : Short x2) : ∃ x : List Int × Int × Bool, Evt (fun k => spec_FireAll.f k p ts x1 x2) x ∧ Evt (fun k => impl_FireAll.f k p ts x1 x2) x ∧ Short x.1 ∧ (x.2.2 = true → marked p ts x1 = true ∧ x.1.length = x1.length) := by
  have h1' : x1.length ≤ 17592186044415 := h1
  have hz : Short ([] : List Int) := by show 0 ≤ _; omega
  have hn1 : ∀ c : Bool, c = true → Evt (fun k => spec_FireAll.j0 k x1 x2 c p ts) ([], 0, false) := by
    intro c hc
    refine Evt.step ?_
    simp only [spec_FireAll.j0]
    exact Evt.pos hc (Evt.ok _)
  have hn2 : ∀ c : Bool, c = true → Evt (fun k => impl_FireAll.j0 k x1 x2 c p ts) ([], 0, false) := by
    intro c hc
    refine Evt.step ?_
    simp only [impl_FireAll.j0]
    exact Evt.pos hc (Evt.ok _)
  have hat : Evt (fun k => impl_areTrans.f k p ts x2) (decide ((x2.length : Int) ≤ 60) && allIn x2 0 (wrap64 ((ts.length : Int) - 1))) := by
    unfold impl_areTrans.f
    by_cases hl : (x2.length : Int) ≤ 60
    · exact Evt.pos hl (Evt.bind (allWithin_ev x2 _ _ h2) ((Evt.ok _).cast (by rw [decide_eq_true hl]; simp)))
    · exact Evt.neg hl ((Evt.ok _).cast (by rw [decide_eq_false hl]; rfl))
  unfold spec_FireAll.f impl_FireAll.f
  cases hg : marked p ts x1 with
  | false => exact ⟨([], 0, false), Evt.bind ((l2Marked_ev p ts x1 hs h1).cast hg) (Evt.neg (by decide) (hn1 true rfl)), Evt.bind ((isMarked_ev p ts x1 hs h1).cast hg) (Evt.neg (by decide) (hn2 true rfl)), hz, fun h => by cases h⟩
  | true =>
    by_cases hl : (x2.length : Int) > 60
    · have e : (decide ((x2.length : Int) ≤ 60) && allIn x2 0 (wrap64 ((ts.length : Int) - 1))) = false := by rw [decide_eq_false (by omega)]; rfl
      exact ⟨([], 0, false), Evt.bind ((l2Marked_ev p ts x1 hs h1).cast hg) (Evt.pos rfl (Evt.pos hl (hn1 true rfl))), Evt.bind ((isMarked_ev p ts x1 hs h1).cast hg) (Evt.pos rfl (Evt.bind (hat.cast e) (hn2 _ rfl))), hz, fun h => by cases h⟩
    · cases ha : allIn x2 0 (wrap64 ((ts.length : Int) - 1)) with
      | false =>
        have e : (decide ((x2.length : Int) ≤ 60) && allIn x2 0 (wrap64 ((ts.length : Int) - 1))) = false := by rw [ha]; simp
        exact ⟨([], 0, false), Evt.bind ((l2Marked_ev p ts x1 hs h1).cast hg) (Evt.pos rfl (Evt.neg hl (Evt.bind ((l1All_ev x2 _ _ h2).cast ha) (hn1 _ rfl)))), Evt.bind ((isMarked_ev p ts x1 hs h1).cast hg) (Evt.pos rfl (Evt.bind (hat.cast e) (hn2 _ rfl))), hz, fun h => by cases h⟩
      | true =>
        have e : (decide ((x2.length : Int) ≤ 60) && allIn x2 0 (wrap64 ((ts.length : Int) - 1))) = true := by rw [ha, decide_eq_true (by omega)]; rfl
        obtain ⟨r, e1, e2, e3, e4⟩ := fireAll_loop p ts x2 hs h2 x1 h1
        refine ⟨r, Evt.bind ((l2Marked_ev p ts x1 hs h1).cast hg) (Evt.pos rfl (Evt.neg hl (Evt.bind ((l1All_ev x2 _ _ h2).cast ha) (Evt.step ?_)))), Evt.bind ((isMarked_ev p ts x1 hs h1).cast hg) (Evt.pos rfl (Evt.bind (hat.cast e) (Evt.step ?_))), e3, fun _ => ⟨by first | exact hg | rfl, e4⟩⟩
        · simp only [spec_FireAll.j0, spec_l1Own.f, Option.bind_some, List.nil_append, List.length_nil, Nat.zero_add]
          refine Evt.neg (by simp) ?_
          rw [if_pos (by omega)]
          exact e1
        · simp only [impl_FireAll.j0, slices_Clone_int_int.f, Option.bind_some, List.nil_append, List.length_nil, Nat.zero_add]
          refine Evt.neg (by simp) ?_
          rw [if_pos (by omega)]
          exact e2
end Go.Proofs.YtoicemlndofphaaGreat.Lib
