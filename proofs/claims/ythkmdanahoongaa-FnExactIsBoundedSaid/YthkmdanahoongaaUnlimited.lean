import Derived.Test.YthkmdanahoongaaF0
import Derived.Test.YthkmdanahoongaaF3
import Derived.Test.YthkmdanahoongaaF6
import Derived.Test.YthkmdanahoongaaF9
import Derived.Test.YthkmdanahoongaaCoverTree
import Derived.Test.YthkmdanahoongaaPut
namespace Go.Proofs.Ythkmdanahoongaa.Lib
open Go.RowKit Go.Proofs.Ythkmdanahoongaa.F Go.Proofs.YthkmdanahoongaaW.PrintWords Go.Proofs.YthkmdanahoongaaW.PrintLast Go.Proofs.YthkmdanahoongaaW.PrintMore
def manyAt (l : List Nd) (q : Nat) : Bool := l.any fun c => c.f0.getD q 0 == 99
theorem specUnl_ev (l : List Nd) (n : Nat) (hn : n ≤ 1000) (hl : l.length ≤ 1000) (hln : ∀ c ∈ l, c.f0.length = n) : Evt (fun k => spec_Unlimited.l0 k [] l (l.length : Int) 0) (picks (manyAt l) 0 n, true) := by
  have key : ∀ i, i ≤ l.length → ∀ _ : Unit, Evt (fun k => spec_Unlimited.l0 k (picks (manyAt (l.take i)) 0 n) l (l.length : Int) (i : Int)) (picks (manyAt l) 0 n, true) := by
    refine down (P := fun i _ => Evt (fun k => spec_Unlimited.l0 k (picks (manyAt (l.take i)) 0 n) l (l.length : Int) (i : Int)) (picks (manyAt l) 0 n, true)) ?_ ?_
    · intro _
      rw [List.take_length]
      refine Evt.step ?_
      simp only [spec_Unlimited.l0]
      exact Evt.neg (natNotLt _) (Evt.ok _)
    · intro i hi ih _
      have er : rd_T93 l (i : Int) = l[i] := rdG l _ i hi
      have hx := hln l[i] (List.getElem_mem hi)
      generalize hxe : l[i].f0 = x at *
      have ih' := ih ()
      have inner : ∀ j, j ≤ n → ∀ _ : Unit, Evt (fun k => spec_Unlimited.l1 k (picks (fun q => manyAt (l.take i) q || (decide (q < j) && x.getD q 0 == 99)) 0 n) l (l.length : Int) (i : Int) x (n : Int) (j : Int)) (picks (manyAt l) 0 n, true) := by
        refine down (P := fun j _ => Evt (fun k => spec_Unlimited.l1 k (picks (fun q => manyAt (l.take i) q || (decide (q < j) && x.getD q 0 == 99)) 0 n) l (l.length : Int) (i : Int) x (n : Int) (j : Int)) (picks (manyAt l) 0 n, true)) ?_ ?_
        · intro _
          have e : picks (fun q => manyAt (l.take i) q || (decide (q < n) && x.getD q 0 == 99)) 0 n = picks (manyAt (l.take (i + 1))) 0 n := by
            refine picks_congr fun q _ hq => ?_
            have hq' : q < n := by omega
            rw [decide_eq_true hq', Bool.true_and]
            unfold manyAt
            rw [takeN l i hi, List.any_append, List.any_cons, List.any_nil, Bool.or_false, hxe]
          rw [e]
          refine Evt.step ?_
          simp only [spec_Unlimited.l1]
          rw [wrapN i _ hi (by omega)]
          exact Evt.neg (natNotLt _) ih'
        · intro j hj ihj _
          have ihj' := ihj ()
          refine Evt.step ?_
          simp only [spec_Unlimited.l1]
          rw [wrapN j _ hj (by omega), rdD]
          refine Evt.pos (natLt _ _ hj) (Evt.pos (by omega) (Evt.pos (by omega) ?_))
          by_cases h9 : x.getD j 0 = 99
          · refine Evt.pos h9 (Evt.bind (l1Put_ev _ j n hj hn) ?_)
            have e : picks (fun q => (manyAt (l.take i) q || (decide (q < j) && x.getD q 0 == 99)) || q == j) 0 n = picks (fun q => manyAt (l.take i) q || (decide (q < j + 1) && x.getD q 0 == 99)) 0 n := by
              refine picks_congr fun q _ hq => ?_
              by_cases e : q = j
              · subst e; rw [h9]; simp
              · have h1 : (q == j) = false := by simpa using e
                have h2 : decide (q < j + 1) = decide (q < j) := by rw [decide_eq_decide]; omega
                rw [h1, h2, Bool.or_false]
            rw [e]
            exact ihj'
          · refine Evt.neg h9 ?_
            have e : picks (fun q => manyAt (l.take i) q || (decide (q < j) && x.getD q 0 == 99)) 0 n = picks (fun q => manyAt (l.take i) q || (decide (q < j + 1) && x.getD q 0 == 99)) 0 n := by
              refine picks_congr fun q _ hq => ?_
              by_cases e : q = j
              · subst e
                have : (x.getD q 0 == 99) = false := by simpa using h9
                rw [this]; simp
              · have h2 : decide (q < j + 1) = decide (q < j) := by rw [decide_eq_decide]; omega
                rw [h2]
            rw [e]
            exact ihj'
      refine Evt.step ?_
      simp only [spec_Unlimited.l0, er, hxe]
      rw [hx]
      have h0 := inner 0 (Nat.zero_le _) ()
      have e : picks (fun q => manyAt (l.take i) q || (decide (q < 0) && x.getD q 0 == 99)) 0 n = picks (manyAt (l.take i)) 0 n := picks_congr fun q _ hq => by simp
      rw [e] at h0
      exact Evt.pos (natLt _ _ hi) (Evt.pos (by omega) (Evt.pos (natLt _ _ hi) h0))
  refine (key 0 (Nat.zero_le _) ()).fn fun k => ?_
  have e : picks (manyAt (l.take 0)) 0 n = [] := by
    have : picks (manyAt (l.take 0)) 0 n = picks (fun _ => false) 0 n := picks_congr fun q _ _ => by simp [manyAt]
    rw [this]; simp [picks]
  rw [e]; rfl
theorem specUnl_ex (p : Int) (ts : List Tr) (x1 : List Int) (x2 : Int) (l : List Nd) (c : Bool) (e1 : Evt (fun k => spec_CoverTree.f k p ts x1 x2) (l, c)) (hn : c = true → (l.length ≤ 1000 ∧ p.toNat ≤ 1000 ∧ ∀ c ∈ l, c.f0.length = p.toNat)) : Evt (fun k => spec_Unlimited.f k p ts x1 x2) (if c = true then (picks (manyAt l) 0 p.toNat, true) else ([], false)) := by
  unfold spec_Unlimited.f
  cases c with
  | false => exact Evt.bind e1 (Evt.neg (by simp) (Evt.ok _))
  | true =>
    obtain ⟨h1, h2, h3⟩ := hn rfl
    exact Evt.bind e1 (Evt.pos rfl ((specUnl_ev l p.toNat h2 h1 h3).cast (if_pos rfl).symm))
theorem core_Unlimited (p : Int) (ts : List Tr) (x1 : List Int) (x2 : Int) (hs : SmallN ts) (h1 : Short x1) : ∃ x : List Int × Bool, Evt (fun k => spec_Unlimited.f k p ts x1 x2) x ∧ Evt (fun k => impl_Unlimited.f k p ts x1 x2) x ∧ Short x.1 := by
  obtain ⟨⟨l, c⟩, e1, e2, e3, e4⟩ := tree_ex p ts x1 x2 hs h1
  cases c with
  | false =>
    refine ⟨([], false), specUnl_ex p ts x1 x2 l false e1 (fun h => by cases h), ?_, by show 0 ≤ _; omega⟩
    unfold impl_Unlimited.f
    exact Evt.bind e2 (Evt.neg (by simp) (Evt.ok _))
  | true =>
    have hp := e4 rfl
    obtain ⟨hlb, hln⟩ := e3.1 rfl
    have hlb' : (l.length : Int) ≤ x2 := hlb
    have hsp := specUnl_ex p ts x1 x2 l true e1 (fun _ => ⟨by omega, by omega, hln⟩)
    rw [if_pos rfl] at hsp
    refine ⟨_, hsp, ?_, by have := picks_length (manyAt l) 0 p.toNat; show (picks _ _ _).length ≤ _; omega⟩
    obtain ⟨n, rfl⟩ : ∃ n : Nat, p = (n : Int) := ⟨p.toNat, by omega⟩
    rw [Int.toNat_natCast]
    have hc : ∀ i : Nat, i < n → Evt (fun k => slices_ContainsFunc_impl_CoverNode_impl_CoverNode_at_impl_Unlimited_1.f k l (i : Int)) (manyAt l i) := by
      intro i hi
      refine containsFunc_gen (fun k (c : Nd) => impl_Unlimited_1.f c.f0 c.f1 c.f2 c.f3 (i : Int)) (fun c => c.f0.getD i 0 == 99) (rd_T93 l) (fun k j => slices_IndexFunc_impl_CoverNode_impl_CoverNode_at_impl_Unlimited_1.l0 k l (l.length : Int) j (i : Int)) _ l ?_ ?_ ?_ ?_ (by show _ ≤ _; omega)
      · intro k; rfl
      · intro k j; simp only [slices_IndexFunc_impl_CoverNode_impl_CoverNode_at_impl_Unlimited_1.l0]
      · intro c hc
        have hcn : c.f0.length = n := hln c hc
        unfold impl_Unlimited_1.f
        rw [rdD]
        exact Evt.pos (by omega) (Evt.pos (by omega) (Evt.ok _))
      · intro j hj; exact rdG l _ j hj
    unfold impl_Unlimited.f
    refine Evt.bind e2 (Evt.pos rfl ?_)
    refine loop_picks (fun k s (i : Nat) => impl_Unlimited.l0 k l s (n : Int) (i : Int)) (fun s => (s, true)) n (manyAt l) ?_ ?_ ?_
    · intro s
      simp only [impl_Unlimited.l0]
      exact Evt.neg (natNotLt _) (Evt.ok _)
    · intro i hi hT s hs r hr
      simp only [impl_Unlimited.l0]
      rw [wrapN i _ hi (by omega)]
      exact Evt.pos (natLt _ _ hi) (Evt.bind ((hc i hi).cast hT) (Evt.pos rfl (Evt.pos (by omega) hr)))
    · intro i hi hT s r hr
      simp only [impl_Unlimited.l0]
      rw [wrapN i _ hi (by omega)]
      exact Evt.pos (natLt _ _ hi) (Evt.bind ((hc i hi).cast hT) (Evt.neg (by decide) hr))
end Go.Proofs.Ythkmdanahoongaa.Lib
