import Derived.Test.YthkmdanahoongaaF0
import Derived.Test.YthkmdanahoongaaF8
import Derived.Test.YthkmdanahoongaaUnlimited
import Derived.Test.YthkmdanahoongaaMeet
namespace Go.Proofs.Ythkmdanahoongaa.Lib
open Go.RowKit Go.Proofs.Ythkmdanahoongaa.F Go.Proofs.YthkmdanahoongaaW.PrintWords Go.Proofs.YthkmdanahoongaaW.PrintLast Go.Proofs.YthkmdanahoongaaW.PrintMore
theorem core_IsBounded (p : Int) (ts : List Tr) (x1 : List Int) (x2 : Int) (hs : SmallN ts) (h1 : Short x1) : ∃ x : Bool × Bool, Evt (fun k => spec_IsBounded.f k p ts x1 x2) x ∧ Evt (fun k => impl_IsBounded.f k p ts x1 x2) x := by
  obtain ⟨⟨l, c⟩, e1, e2, e3, e4⟩ := tree_ex p ts x1 x2 hs h1
  unfold spec_IsBounded.f impl_IsBounded.f
  cases c with
  | false =>
    have hsp := specUnl_ex p ts x1 x2 l false e1 (fun h => by cases h)
    rw [if_neg (by decide)] at hsp
    exact ⟨(false, false), Evt.bind hsp (Evt.neg (by simp) (Evt.ok _)), Evt.bind e2 (Evt.neg (by simp) (Evt.ok _))⟩
  | true =>
    have hp := e4 rfl
    obtain ⟨hlb, hln⟩ := e3.1 rfl
    have hlb' : (l.length : Int) ≤ x2 := hlb
    have hsp := specUnl_ex p ts x1 x2 l true e1 (fun _ => ⟨by omega, by omega, hln⟩)
    rw [if_pos rfl] at hsp
    have hlen : ∀ c ∈ l, c.f0.length = p.toNat := hln
    have hc : Evt (fun k => slices_ContainsFunc_impl_CoverNode_impl_CoverNode_at_impl_IsBounded_1.f k l) (l.any (fun c => has c.f0 99)) := by
      refine containsFunc_gen (fun k (c : Nd) => impl_IsBounded_1.f k c.f0 c.f1 c.f2 c.f3) (fun c => has c.f0 99) (rd_T93 l) (fun k j => slices_IndexFunc_impl_CoverNode_impl_CoverNode_at_impl_IsBounded_1.l0 k l (l.length : Int) j) _ l ?_ ?_ ?_ ?_ (by show _ ≤ _; omega)
      · intro k; rfl
      · intro k j; simp only [slices_IndexFunc_impl_CoverNode_impl_CoverNode_at_impl_IsBounded_1.l0]
      · intro c hc
        have := hlen c hc
        unfold impl_IsBounded_1.f
        exact Evt.bind (contains_ev c.f0 99 (by show _ ≤ _; omega)) (Evt.ok _)
      · intro j hj; exact rdG l _ j hj
    refine ⟨(!(l.any (fun c => has c.f0 99)), true), Evt.bind hsp (Evt.pos rfl ((Evt.ok _).cast ?_)), Evt.bind e2 (Evt.pos rfl (Evt.bind hc (Evt.ok _)))⟩
    refine Prod.ext ?_ rfl
    show (((picks (manyAt l) 0 p.toNat).length : Int) == 0) = !(l.any (fun c => has c.f0 99))
    rw [Bool.eq_iff_iff, beq_iff_eq, Bool.not_eq_true', List.any_eq_false]
    constructor
    · intro h0 c hc h9
      have hnil : picks (manyAt l) 0 p.toNat = [] := List.eq_nil_of_length_eq_zero (by omega)
      simp only [has, List.any_eq_true, decide_eq_true_eq] at h9
      obtain ⟨y, hy, rfl⟩ := h9
      obtain ⟨j, hj, ej⟩ := List.getElem_of_mem hy
      have hcn := hlen c hc
      have : (j : Int) ∈ picks (manyAt l) 0 p.toNat := by
        simp only [picks, List.mem_map, List.mem_filter, List.mem_range'_1]
        refine ⟨j, ⟨by omega, ?_⟩, rfl⟩
        refine List.any_eq_true.2 ⟨c, hc, ?_⟩
        rw [getDN c.f0 0 j hj, ej]; rfl
      rw [hnil] at this
      cases this
    · intro h
      have hnil : picks (manyAt l) 0 p.toNat = [] := by
        rcases hp' : picks (manyAt l) 0 p.toNat with _ | ⟨x, r⟩
        · rfl
        · exfalso
          have hx : x ∈ picks (manyAt l) 0 p.toNat := by rw [hp']; exact List.mem_cons_self ..
          obtain ⟨i, _, _, hi, hT⟩ := mem_picks _ _ _ _ hx
          obtain ⟨c, hc, h9⟩ := List.any_eq_true.1 hT
          have hcn := hlen c hc
          refine h c hc ?_
          have hi' : i < c.f0.length := by omega
          rw [getDN c.f0 0 i hi'] at h9
          exact List.any_eq_true.2 ⟨c.f0[i], List.getElem_mem hi', by simpa using h9⟩
      rw [hnil]; rfl
end Go.Proofs.Ythkmdanahoongaa.Lib
