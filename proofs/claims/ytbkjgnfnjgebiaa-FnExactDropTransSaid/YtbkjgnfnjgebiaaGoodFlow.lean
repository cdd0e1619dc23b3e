import Derived.Test.YtbkjgnfnjgebiaaF0
import Derived.Test.YtbkjgnfnjgebiaaF2
import Derived.Test.YtbkjgnfnjgebiaaF3
import Derived.Test.YtbkjgnfnjgebiaaOnWay
import Derived.Test.YtbkjgnfnjgebiaaMeet
import Derived.Test.YtbkjgnfnjgebiaaHasOf
namespace Go.Proofs.Ytbkjgnfnjgebiaa.Lib
open Go.RowKit Go.Proofs.Ytbkjgnfnjgebiaa.F Go.Proofs.YtbkjgnfnjgebiaaW.PrintWords Go.Proofs.YtbkjgnfnjgebiaaW.PrintLast Go.Proofs.YtbkjgnfnjgebiaaW.PrintMore
def flowT (u v : Int) (t : Tr) : Bool := !has t.f1 u && (!has t.f0 v && (!has t.f2 u && !has t.f2 v))
theorem flowLoop_ev (p : Int) (ts : List Tr) (u v : Int) (hs : SmallN ts) : Evt (fun k => spec_GoodFlow.l0 k ts (ts.length : Int) 0 p ts u v) (ts.all (flowT u v)) := by
  have hl := hs.1
  refine loop_allL (fun k i => spec_GoodFlow.l0 k ts (ts.length : Int) (i : Int) p ts u v) ts (flowT u v) ?_ ?_ ?_
  · simp only [spec_GoodFlow.l0]
    exact Evt.neg (natNotLt _) (Evt.ok _)
  · intro i hi hp r hr
    have hsm : SmallT ts[i] := hs.2 _ (List.getElem_mem hi)
    have er : rd_T63 ts (i : Int) = ts[i] := rdG ts _ i hi
    simp only [flowT, Bool.and_eq_true, Bool.not_eq_true'] at hp
    simp only [spec_GoodFlow.l0, er]
    rw [wrapN i _ hi (by omega)]
    exact Evt.pos (natLt _ _ hi) (Evt.pos (by omega) (Evt.pos (natLt _ _ hi) (Evt.bind ((l1Has_ev _ u hsm.s1).cast hp.1) (Evt.neg (by decide) (Evt.bind ((l1Has_ev _ v hsm.s0).cast hp.2.1) (Evt.neg (by decide) (Evt.bind ((l1Has_ev _ u hsm.s2).cast hp.2.2.1) (Evt.neg (by decide) (Evt.bind ((l1Has_ev _ v hsm.s2).cast hp.2.2.2) (Evt.neg (by decide) hr))))))))))
  · intro i hi hp
    have hsm : SmallT ts[i] := hs.2 _ (List.getElem_mem hi)
    have er : rd_T63 ts (i : Int) = ts[i] := rdG ts _ i hi
    simp only [spec_GoodFlow.l0, er]
    refine Evt.pos (natLt _ _ hi) (Evt.pos (by omega) (Evt.pos (natLt _ _ hi) (Evt.bind (l1Has_ev _ u hsm.s1) ?_)))
    cases h1 : has ts[i].f1 u with
    | true => exact Evt.pos (by first | rfl | trivial) (Evt.ok _)
    | false =>
    refine Evt.neg (by decide) (Evt.bind (l1Has_ev _ v hsm.s0) ?_)
    cases h2 : has ts[i].f0 v with
    | true => exact Evt.pos (by first | rfl | trivial) (Evt.ok _)
    | false =>
    refine Evt.neg (by decide) (Evt.bind (l1Has_ev _ u hsm.s2) ?_)
    cases h3 : has ts[i].f2 u with
    | true => exact Evt.pos (by first | rfl | trivial) (Evt.ok _)
    | false =>
    refine Evt.neg (by decide) (Evt.bind (l1Has_ev _ v hsm.s2) ?_)
    cases h4 : has ts[i].f2 v with
    | true => exact Evt.pos (by first | rfl | trivial) (Evt.ok _)
    | false => simp [flowT, h1, h2, h3, h4] at hp
theorem flowLoopI_ev (p : Int) (ts : List Tr) (u v : Int) (hs : SmallN ts) (e : Bool) (he : Evt (fun k => (impl_onWay.f k p ts u v).bind fun bt => (if (bt.1.length : Int) = p then (some ((bt.2.length : Int) == (ts.length : Int))) else (some false))) e) :
    Evt (fun k => impl_GoodFlow.l0 k ts (ts.length : Int) 0 p ts u v p ts) (ts.all (flowT u v) && e) := by
  have hl := hs.1
  have h : Evt (fun k => impl_GoodFlow.l0 k ts (ts.length : Int) ((0 : Nat) : Int) p ts u v p ts) ((ts.findSome? (fun t => if flowT u v t then none else some false)).getD e) := by
    refine loop_find (fun k i => impl_GoodFlow.l0 k ts (ts.length : Int) (i : Int) p ts u v p ts) ts _ e ?_ ?_ ?_
    · simp only [impl_GoodFlow.l0]
      exact Evt.neg (natNotLt _) he
    · intro i hi hq r hr
      have hp : flowT u v ts[i] = true := by
        cases hc : flowT u v ts[i] with
        | true => rfl
        | false => simp [hc] at hq
      have hsm : SmallT ts[i] := hs.2 _ (List.getElem_mem hi)
      have er : rd_T63 ts (i : Int) = ts[i] := rdG ts _ i hi
      simp only [flowT, Bool.and_eq_true, Bool.not_eq_true'] at hp
      simp only [impl_GoodFlow.l0, er]
      rw [wrapN i _ hi (by omega)]
      exact Evt.pos (natLt _ _ hi) (Evt.pos (by omega) (Evt.pos (natLt _ _ hi) (Evt.bind ((contains_ev _ u hsm.s1).cast hp.1) (Evt.neg (by decide) (Evt.bind ((contains_ev _ v hsm.s0).cast hp.2.1) (Evt.neg (by decide) (Evt.bind ((contains_ev _ u hsm.s2).cast hp.2.2.1) (Evt.neg (by decide) (Evt.bind ((contains_ev _ v hsm.s2).cast hp.2.2.2) (Evt.neg (by decide) hr))))))))))
    · intro i hi r hq
      have hp : flowT u v ts[i] = false ∧ r = false := by
        cases hc : flowT u v ts[i] with
        | true => simp [hc] at hq
        | false => simp [hc] at hq; exact ⟨rfl, hq⟩
      have hsm : SmallT ts[i] := hs.2 _ (List.getElem_mem hi)
      have er : rd_T63 ts (i : Int) = ts[i] := rdG ts _ i hi
      simp only [impl_GoodFlow.l0, er, hp.2]
      refine Evt.pos (natLt _ _ hi) (Evt.pos (by omega) (Evt.pos (natLt _ _ hi) (Evt.bind (contains_ev _ u hsm.s1) ?_)))
      have hp1 := hp.1
      cases h1 : has ts[i].f1 u with
      | true => exact Evt.pos (by first | rfl | trivial) (Evt.ok _)
      | false =>
      refine Evt.neg (by decide) (Evt.bind (contains_ev _ v hsm.s0) ?_)
      cases h2 : has ts[i].f0 v with
      | true => exact Evt.pos (by first | rfl | trivial) (Evt.ok _)
      | false =>
      refine Evt.neg (by decide) (Evt.bind (contains_ev _ u hsm.s2) ?_)
      cases h3 : has ts[i].f2 u with
      | true => exact Evt.pos (by first | rfl | trivial) (Evt.ok _)
      | false =>
      refine Evt.neg (by decide) (Evt.bind (contains_ev _ v hsm.s2) ?_)
      cases h4 : has ts[i].f2 v with
      | true => exact Evt.pos (by first | rfl | trivial) (Evt.ok _)
      | false => simp [flowT, h1, h2, h3, h4] at hp1
  refine h.cast ?_
  clear h he hs hl
  induction ts with
  | nil => simp
  | cons t ts ih =>
    cases hp : flowT u v t with
    | true => simp only [List.findSome?_cons, hp, if_true, List.all_cons, Bool.true_and]; exact ih
    | false => simp [List.findSome?_cons, hp]
theorem goodFlow_ex (p : Int) (ts : List Tr) (u v : Int) (hs : SmallN ts) : ∃ b : Bool, Evt (fun k => spec_GoodFlow.f k p ts u v) b ∧ Evt (fun k => impl_GoodFlow.f k p ts u v) b ∧ (b = true → goodNet p ts = true ∧ (0 ≤ u ∧ u < p) ∧ (0 ≤ v ∧ v < p)) := by
  have hnS : ∀ c : Bool, c = true → Evt (fun k => spec_GoodFlow.j0 k c p ts u v) false := by
    intro c hc
    refine Evt.step ?_
    simp only [spec_GoodFlow.j0]
    exact Evt.pos hc (Evt.ok _)
  have hnI : ∀ c : Bool, c = true → Evt (fun k => impl_GoodFlow.j0 k c p ts u v p ts) false := by
    intro c hc
    refine Evt.step ?_
    simp only [impl_GoodFlow.j0]
    exact Evt.pos hc (Evt.ok _)
  have hS : ∀ {g0 g1 : List Int} {c : Bool} {r : Bool}, Evt (fun k => spec_OnWay.f k p ts u v) (g0, g1, c) → Evt (fun k => if c = true then (if u = v then (spec_GoodFlow.j0 k true p ts u v) else (if (g0.length : Int) = p then (spec_GoodFlow.j0 k ((g1.length : Int) != (ts.length : Int)) p ts u v) else (spec_GoodFlow.j0 k true p ts u v))) else (spec_GoodFlow.j0 k true p ts u v)) r → Evt (fun k => spec_GoodFlow.f k p ts u v) r := by
    intro g0 g1 c r h1 h2
    unfold spec_GoodFlow.f
    exact Evt.bind h1 h2
  unfold impl_GoodFlow.f
  simp only [within_eq, Option.bind_some]
  have hO : ∀ r, Evt (fun k => spec_OnWay.f k p ts u v) r ↔ Evt (fun k => spec_OnWay.f k p ts u v) r := fun _ => Iff.rfl
  cases hg : goodNet p ts with
  | false =>
    have ho : Evt (fun k => spec_OnWay.f k p ts u v) ([], [], false) := by
      unfold spec_OnWay.f
      exact Evt.bind ((specGoodNet_ev p ts hs).cast hg) (Evt.neg (by decide) (onWay_no p ts u v true rfl))
    exact ⟨false, hS ho (Evt.neg (by decide) (hnS true rfl)), Evt.bind ((goodNet_ev p ts hs).cast hg) (Evt.neg (by decide) (hnI true rfl)), fun h => by cases h⟩
  | true =>
    cases h1 : within u 0 (wrap64 (p - 1)) with
    | false =>
      have ho : Evt (fun k => spec_OnWay.f k p ts u v) ([], [], false) := by
        unfold spec_OnWay.f
        simp only [l1In_eq, Option.bind_some, h1]
        exact Evt.bind ((specGoodNet_ev p ts hs).cast hg) (Evt.pos (by first | rfl | trivial) (Evt.neg (by decide) (onWay_no p ts u v true rfl)))
      exact ⟨false, hS ho (Evt.neg (by decide) (hnS true rfl)), Evt.bind ((goodNet_ev p ts hs).cast hg) (Evt.pos (by first | rfl | trivial) (Evt.neg (by decide) (hnI true rfl))), fun h => by cases h⟩
    | true =>
      cases h2 : within v 0 (wrap64 (p - 1)) with
      | false =>
        have ho : Evt (fun k => spec_OnWay.f k p ts u v) ([], [], false) := by
          unfold spec_OnWay.f
          simp only [l1In_eq, Option.bind_some, h1, h2]
          exact Evt.bind ((specGoodNet_ev p ts hs).cast hg) (Evt.pos (by first | rfl | trivial) (Evt.pos (by first | rfl | trivial) (onWay_no p ts u v _ rfl)))
        exact ⟨false, hS ho (Evt.neg (by decide) (hnS true rfl)), Evt.bind ((goodNet_ev p ts hs).cast hg) (Evt.pos (by first | rfl | trivial) (Evt.pos (by first | rfl | trivial) (Evt.neg (by decide) (hnI true rfl)))), fun h => by cases h⟩
      | true =>
        have hu := in_places hg h1
        have hv := in_places hg h2
        obtain ⟨g0, g1, e1, e2, _, _⟩ := onWay_ex p ts u v hs hg hu hv
        have ho : Evt (fun k => spec_OnWay.f k p ts u v) (g0, g1, true) := by
          unfold spec_OnWay.f
          simp only [l1In_eq, Option.bind_some, h1, h2]
          exact Evt.bind ((specGoodNet_ev p ts hs).cast hg) (Evt.pos (by first | rfl | trivial) (Evt.pos (by first | rfl | trivial) e2))
        by_cases huv : u = v
        · exact ⟨false, hS ho (Evt.pos (by first | rfl | trivial) (Evt.pos huv (hnS true rfl))), Evt.bind ((goodNet_ev p ts hs).cast hg) (Evt.pos (by first | rfl | trivial) (Evt.pos (by first | rfl | trivial) (Evt.pos (by first | rfl | trivial) (hnI _ (by rw [huv]; simp))))), fun h => by cases h⟩
        · have hI : ∀ e : Bool, Evt (fun k => (impl_onWay.f k p ts u v).bind fun bt => (if (bt.1.length : Int) = p then (some ((bt.2.length : Int) == (ts.length : Int))) else (some false))) e → Evt (fun k => impl_GoodFlow.j0 k (u == v) p ts u v p ts) (ts.all (flowT u v) && e) := by
            intro e he
            refine Evt.step ?_
            simp only [impl_GoodFlow.j0]
            exact Evt.neg (by simpa using huv) (flowLoopI_ev p ts u v hs e he)
          by_cases hl0 : (g0.length : Int) = p
          · by_cases hl1 : (g1.length : Int) = (ts.length : Int)
            · refine ⟨ts.all (flowT u v) && true, hS ho (Evt.pos (by first | rfl | trivial) (Evt.neg huv (Evt.pos hl0 (Evt.step ?_)))), Evt.bind ((goodNet_ev p ts hs).cast hg) (Evt.pos (by first | rfl | trivial) (Evt.pos (by first | rfl | trivial) (Evt.pos (by first | rfl | trivial) (hI true (Evt.bind e1 (Evt.pos hl0 ((Evt.ok _).cast (by simpa using hl1)))))))), fun _ => ⟨rfl, hu, hv⟩⟩
              simp only [spec_GoodFlow.j0]
              rw [Bool.and_true]
              exact Evt.neg (by simpa using hl1) (flowLoop_ev p ts u v hs)
            · exact ⟨false, hS ho (Evt.pos (by first | rfl | trivial) (Evt.neg huv (Evt.pos hl0 (hnS _ (by simpa using hl1))))), Evt.bind ((goodNet_ev p ts hs).cast hg) (Evt.pos (by first | rfl | trivial) (Evt.pos (by first | rfl | trivial) (Evt.pos (by first | rfl | trivial) ((hI false (Evt.bind e1 (Evt.pos hl0 ((Evt.ok _).cast (by simpa using hl1))))).cast (by simp))))), fun h => by cases h⟩
          · exact ⟨false, hS ho (Evt.pos (by first | rfl | trivial) (Evt.neg huv (Evt.neg hl0 (hnS true rfl)))), Evt.bind ((goodNet_ev p ts hs).cast hg) (Evt.pos (by first | rfl | trivial) (Evt.pos (by first | rfl | trivial) (Evt.pos (by first | rfl | trivial) ((hI false (Evt.bind e1 (Evt.neg hl0 (Evt.ok _)))).cast (by simp))))), fun h => by cases h⟩
theorem core_GoodFlow (p : Int) (ts : List Tr) (u v : Int) (hs : SmallN ts) : ∃ b : Bool, Evt (fun k => spec_GoodFlow.f k p ts u v) b ∧ Evt (fun k => impl_GoodFlow.f k p ts u v) b := by
  obtain ⟨b, h1, h2, _⟩ := goodFlow_ex p ts u v hs
  exact ⟨b, h1, h2⟩
end Go.Proofs.Ytbkjgnfnjgebiaa.Lib
