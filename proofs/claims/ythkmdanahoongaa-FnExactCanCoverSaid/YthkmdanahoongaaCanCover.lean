import Derived.Test.YthkmdanahoongaaF0
import Derived.Test.YthkmdanahoongaaF7
import Derived.Test.YthkmdanahoongaaCoverTree
namespace Go.Proofs.Ythkmdanahoongaa.Lib
open Go.RowKit Go.Proofs.Ythkmdanahoongaa.F Go.Proofs.YthkmdanahoongaaW.PrintWords Go.Proofs.YthkmdanahoongaaW.PrintLast Go.Proofs.YthkmdanahoongaaW.PrintMore
theorem core_CanCover (p : Int) (ts : List Tr) (x1 : List Int) (x2 : Int) (x3 : List Int) (hs : SmallN ts) (h1 : Short x1) (h3 : Short x3) : ∃ x : Bool × Bool, Evt (fun k => spec_CanCover.f k p ts x1 x2 x3) x ∧ Evt (fun k => impl_CanCover.f k p ts x1 x2 x3) x := by
  obtain ⟨⟨l, c⟩, e1, e2, e3, e4⟩ := tree_ex p ts x1 x2 hs h1
  have no1 : ∀ c : Bool, c = true → Evt (fun k => spec_CanCover.j0 k x3 l c) (false, false) := by
    intro c hc
    refine Evt.step ?_
    simp only [spec_CanCover.j0]
    exact Evt.pos hc (Evt.ok _)
  unfold spec_CanCover.f impl_CanCover.f
  cases c with
  | false => exact ⟨(false, false), Evt.bind e1 (Evt.neg (by simp) (no1 true rfl)), Evt.bind e2 (Evt.neg (by simp) (Evt.ok _))⟩
  | true =>
    have hp := e4 rfl
    obtain ⟨hlb, hln⟩ := e3.1 rfl
    have hlb' : (l.length : Int) ≤ x2 := hlb
    cases hm : goodMark p x3 with
    | false => exact ⟨(false, false), Evt.bind e1 (Evt.pos rfl (Evt.bind ((specGoodMark_ev p x3 h3).cast hm) (no1 _ rfl))), Evt.bind e2 (Evt.pos rfl (Evt.bind ((goodMark_ev p x3 h3).cast hm) (Evt.neg (by decide) (Evt.ok _))))⟩
    | true =>
      have hmb := goodMark_bounds hm
      have hlen : ∀ c ∈ l, c.f0.length = x3.length := fun c hc => by have : c.f0.length = p.toNat := hln c hc; omega
      have hsp : Evt (fun k => spec_CanCover.l0 k x3 l (l.length : Int) 0) (l.any (fun c => over x3.length c.f0 x3), true) := by
        refine (loop_find (fun k i => spec_CanCover.l0 k x3 l (l.length : Int) (i : Int)) l (fun c => if over x3.length c.f0 x3 = true then some (true, true) else none) (false, true) ?_ ?_ ?_).cast ?_
        · simp only [spec_CanCover.l0]
          exact Evt.neg (natNotLt _) (Evt.ok _)
        · intro i hi hq r hr
          have hc : over x3.length l[i].f0 x3 = false := by
            cases hc : over x3.length l[i].f0 x3 with
            | false => rfl
            | true => simp [hc] at hq
          have er : rd_T93 l (i : Int) = l[i] := rdG l _ i hi
          have hli := hlen l[i] (List.getElem_mem hi)
          simp only [spec_CanCover.l0, er]
          rw [wrapN i _ hi (by omega)]
          exact Evt.pos (natLt _ _ hi) (Evt.pos (by omega) (Evt.pos (natLt _ _ hi) (Evt.bind ((l1Covers_ev l[i].f0 x3 h3 (by omega)).cast hc) (Evt.neg (by decide) hr))))
        · intro i hi r hq
          have hc : over x3.length l[i].f0 x3 = true ∧ r = (true, true) := by
            cases hc : over x3.length l[i].f0 x3 with
            | false => simp [hc] at hq
            | true => simp [hc] at hq; exact ⟨rfl, hq.symm⟩
          have er : rd_T93 l (i : Int) = l[i] := rdG l _ i hi
          have hli := hlen l[i] (List.getElem_mem hi)
          simp only [spec_CanCover.l0, er, hc.2]
          exact Evt.pos (natLt _ _ hi) (Evt.pos (by omega) (Evt.pos (natLt _ _ hi) (Evt.bind ((l1Covers_ev l[i].f0 x3 h3 (by omega)).cast hc.1) (Evt.pos rfl (Evt.ok _)))))
        · clear e1 e2 e3 e4 hln hlen no1 hlb hlb'
          induction l with
          | nil => rfl
          | cons c l ih =>
            cases hc : over x3.length c.f0 x3 with
            | true => simp [List.findSome?_cons, hc]
            | false => simp only [List.findSome?_cons, hc, Bool.false_eq_true, if_false, List.any_cons, Bool.false_or]; exact ih
      have him : Evt (fun k => slices_ContainsFunc_impl_CoverNode_impl_CoverNode_at_impl_CanCover_1.f k l x3) (l.any (fun c => over x3.length c.f0 x3)) := by
        refine containsFunc_gen (fun k (c : Nd) => impl_CanCover_1.f k c.f0 c.f1 c.f2 c.f3 x3) (fun c => over x3.length c.f0 x3) (rd_T93 l) (fun k i => slices_IndexFunc_impl_CoverNode_impl_CoverNode_at_impl_CanCover_1.l0 k l (l.length : Int) i x3) _ l ?_ ?_ ?_ ?_ (by show _ ≤ _; omega)
        · intro k; rfl
        · intro k i; simp only [slices_IndexFunc_impl_CoverNode_impl_CoverNode_at_impl_CanCover_1.l0]
        · intro c hc
          have hlc := hlen c hc
          unfold impl_CanCover_1.f
          exact Evt.bind ((covers_ev c.f0 x3 (by show _ ≤ _; omega) (by omega)).cast (by rw [hlc])) (Evt.ok _)
        · intro i hi; exact rdG l _ i hi
      refine ⟨_, Evt.bind e1 (Evt.pos rfl (Evt.bind ((specGoodMark_ev p x3 h3).cast hm) (Evt.step ?_))), Evt.bind e2 (Evt.pos rfl (Evt.bind ((goodMark_ev p x3 h3).cast hm) (Evt.pos rfl (Evt.bind him (Evt.ok _)))))⟩
      simp only [spec_CanCover.j0]
      exact Evt.neg (by decide) hsp
end Go.Proofs.Ythkmdanahoongaa.Lib
