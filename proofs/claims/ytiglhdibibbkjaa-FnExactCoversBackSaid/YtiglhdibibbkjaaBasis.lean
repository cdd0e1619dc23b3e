import Derived.Test.YtiglhdibibbkjaaF0
import Derived.Test.YtiglhdibibbkjaaF1
import Derived.Test.YtiglhdibibbkjaaF2
import Derived.Test.YtiglhdibibbkjaaF3
import Derived.Test.YtiglhdibibbkjaaF4
import Derived.Test.YtiglhdibibbkjaaBasisLib
import Derived.Test.YtiglhdibibbkjaaStepJoint
import Derived.Test.YtiglhdibibbkjaaMarkSame
namespace Go.Proofs.Ytiglhdibibbkjaa.Lib
open Go.RowKit Go.Proofs.Ytiglhdibibbkjaa.F Go.Proofs.YtiglhdibibbkjaaW.PrintWords Go.Proofs.YtiglhdibibbkjaaW.PrintLast Go.Proofs.YtiglhdibibbkjaaW.PrintMore
abbrev BR := List (List Int) × Int × Bool
theorem allIn_iff (l : List Int) (a b : Int) : allIn l a b = true ↔ ∀ x ∈ l, a ≤ x ∧ x ≤ b := by
  simp only [allIn, within, List.all_eq_true, decide_eq_true_eq]
theorem good_of_vm {p : Int} {m : List Int} (hp : 1 ≤ p ∧ p ≤ 16) (h : vm p.toNat m) : goodMark p m = true := by
  have h1 : within p 1 16 = true := by unfold within; exact decide_eq_true hp
  unfold goodMark
  rw [h1, decide_eq_true (show (m.length : Int) = p by have := h.1; omega), (allIn_iff m 0 50).2 h.2]; rfl
theorem vm_of_good {p : Int} {m : List Int} (h : goodMark p m = true) : vm p.toNat m := by
  have hb := goodMark_bounds h
  exact ⟨by omega, hb.2.2.2⟩
theorem l6Same_ev (a b : List (List Int)) (ha : a.length ≤ 1000000) (hs : ∀ x ∈ a, Short x) : Evt (fun k => spec_l6Same.f k a b) (decide (a = b)) := by
  unfold spec_l6Same.f
  by_cases hab : a.length = b.length
  · have h := loop_all (fun k i => spec_l6Same.l0 k a b (a.length : Int) (i : Int)) a.length (fun i => decide (a.getD i [] = b.getD i [])) ?_ ?_ ?_
    · refine Evt.pos (by omega) (h.cast (Bool.eq_iff_iff.2 ?_))
      simp only [List.all_eq_true, List.mem_range, decide_eq_true_eq]
      constructor
      · intro h
        refine List.ext_getElem hab fun i h1 h2 => ?_
        have := h i h1
        rwa [getDN a [] i h1, getDN b [] i h2] at this
      · intro e i hi; rw [e]
    · simp only [spec_l6Same.l0]
      exact Evt.neg (natNotLt _) (Evt.ok _)
    · intro i hi hp r hr
      have e := of_decide_eq_true hp
      rw [getDN a [] i hi, getDN b [] i (by omega)] at e
      simp only [spec_l6Same.l0, rdLL a i hi, rdLL b i (by omega)]
      rw [wrapN i _ hi (by omega)]
      exact Evt.pos (natLt _ _ hi) (Evt.pos (by omega) (Evt.pos (natLt _ _ hi) (Evt.pos (by omega) (Evt.bind (l1Same_ev _ _ (hs _ (List.getElem_mem hi))) (Evt.pos (decide_eq_true e) hr)))))
    · intro i hi hp
      have e := of_decide_eq_false hp
      rw [getDN a [] i hi, getDN b [] i (by omega)] at e
      simp only [spec_l6Same.l0, rdLL a i hi, rdLL b i (by omega)]
      exact Evt.pos (natLt _ _ hi) (Evt.pos (by omega) (Evt.pos (natLt _ _ hi) (Evt.pos (by omega) (Evt.bind (l1Same_ev _ _ (hs _ (List.getElem_mem hi))) (Evt.neg (by simpa using e) (Evt.ok _))))))
  · exact Evt.neg (by omega) ((Evt.ok _).cast (decide_eq_false (fun e => hab (by rw [e]))).symm)
theorem eqFunc_ev (a b : List (List Int)) (ha : a.length ≤ 1000000) (hs : ∀ x ∈ a, Short x) : Evt (fun k => slices_EqualFunc_int_int_int_int_at_slices_Equal_int_int.f k a b) (decide (a = b)) := by
  unfold slices_EqualFunc_int_int_int_int_at_slices_Equal_int_int.f
  by_cases hab : a.length = b.length
  · have h := loop_all (fun k i => slices_EqualFunc_int_int_int_int_at_slices_Equal_int_int.l0 k b a (a.length : Int) (i : Int)) a.length (fun i => decide (a.getD i [] = b.getD i [])) ?_ ?_ ?_
    · refine Evt.pos (by omega) (h.cast (Bool.eq_iff_iff.2 ?_))
      simp only [List.all_eq_true, List.mem_range, decide_eq_true_eq]
      constructor
      · intro h
        refine List.ext_getElem hab fun i h1 h2 => ?_
        have := h i h1
        rwa [getDN a [] i h1, getDN b [] i h2] at this
      · intro e i hi; rw [e]
    · simp only [slices_EqualFunc_int_int_int_int_at_slices_Equal_int_int.l0]
      exact Evt.neg (natNotLt _) (Evt.ok _)
    · intro i hi hp r hr
      have e := of_decide_eq_true hp
      rw [getDN a [] i hi, getDN b [] i (by omega)] at e
      simp only [slices_EqualFunc_int_int_int_int_at_slices_Equal_int_int.l0, rdLL a i hi, rdLL b i (by omega)]
      rw [wrapN i _ hi (by omega)]
      exact Evt.pos (natLt _ _ hi) (Evt.pos (by omega) (Evt.pos (natLt _ _ hi) (Evt.pos (by omega) (Evt.bind (sEqual_ev _ _ (hs _ (List.getElem_mem hi))) (Evt.pos (decide_eq_true e) hr)))))
    · intro i hi hp
      have e := of_decide_eq_false hp
      rw [getDN a [] i hi, getDN b [] i (by omega)] at e
      simp only [slices_EqualFunc_int_int_int_int_at_slices_Equal_int_int.l0, rdLL a i hi, rdLL b i (by omega)]
      exact Evt.pos (natLt _ _ hi) (Evt.pos (by omega) (Evt.pos (natLt _ _ hi) (Evt.pos (by omega) (Evt.bind (sEqual_ev _ _ (hs _ (List.getElem_mem hi))) (Evt.neg (by simpa using e) (Evt.ok _))))))
  · exact Evt.neg (by omega) ((Evt.ok _).cast (decide_eq_false (fun e => hab (by rw [e]))).symm)
theorem clone2_eq (l : List (List Int)) (h : l.length ≤ 1000000) : slices_Clone_int_int_77.f l = some l := by
  unfold slices_Clone_int_int_77.f
  simp only [Option.bind_some, List.length_nil, List.nil_append]
  rw [if_pos (by omega)]
theorem basis_l2 {p : Int} {ts : List Tr} (hp : 1 ≤ p ∧ p ≤ 16) (hs : SmallN ts) (ht : ts.length ≤ 24) (B : Int) (L : List (List Int)) (rd_ : Int) (x : List Int) (hx : vm p.toNat x) (j : Int) :
    ∀ i, i ≤ ts.length → ∀ all : List (List Int), all.length ≤ 1000000 + i → 
      (∃ new : List (List Int), new.length ≤ ts.length - i ∧ (∀ m ∈ new, vm p.toNat m) ∧ ∀ (r r' : BR),
        (Evt (fun k => spec_l6Basis.l1 k B L rd_ (all ++ new) L (L.length : Int) (wrap64 (j + 1)) p ts) r → Evt (fun k => spec_l6Basis.l2 k B L rd_ all x L (L.length : Int) j ts (ts.length : Int) (i : Int) p ts) r) ∧
        (Evt (fun k => impl_backBasis.l1 k B L rd_ (all ++ new) L (L.length : Int) (wrap64 (j + 1)) p ts) r' → Evt (fun k => impl_backBasis.l2 k B L rd_ all x L (L.length : Int) j ts (ts.length : Int) (i : Int) p ts) r')) ∨
      (Evt (fun k => spec_l6Basis.l2 k B L rd_ all x L (L.length : Int) j ts (ts.length : Int) (i : Int) p ts) ([], 0, false) ∧ Evt (fun k => impl_backBasis.l2 k B L rd_ all x L (L.length : Int) j ts (ts.length : Int) (i : Int) p ts) ([], 0, false)) := by
  have hsx : Short x := by have := hx.1; show x.length ≤ _; omega
  refine down (P := fun i (all : List (List Int)) => all.length ≤ 1000000 + i → 
      (∃ new : List (List Int), new.length ≤ ts.length - i ∧ (∀ m ∈ new, vm p.toNat m) ∧ ∀ (r r' : BR),
        (Evt (fun k => spec_l6Basis.l1 k B L rd_ (all ++ new) L (L.length : Int) (wrap64 (j + 1)) p ts) r → Evt (fun k => spec_l6Basis.l2 k B L rd_ all x L (L.length : Int) j ts (ts.length : Int) (i : Int) p ts) r) ∧
        (Evt (fun k => impl_backBasis.l1 k B L rd_ (all ++ new) L (L.length : Int) (wrap64 (j + 1)) p ts) r' → Evt (fun k => impl_backBasis.l2 k B L rd_ all x L (L.length : Int) j ts (ts.length : Int) (i : Int) p ts) r')) ∨
      (Evt (fun k => spec_l6Basis.l2 k B L rd_ all x L (L.length : Int) j ts (ts.length : Int) (i : Int) p ts) ([], 0, false) ∧ Evt (fun k => impl_backBasis.l2 k B L rd_ all x L (L.length : Int) j ts (ts.length : Int) (i : Int) p ts) ([], 0, false))) ?_ ?_
  · intro all _
    refine .inl ⟨[], by simp, by simp, fun r r' => ⟨fun h => Evt.step ?_, fun h => Evt.step ?_⟩⟩
    · simp only [spec_l6Basis.l2]
      rw [List.append_nil] at h
      exact Evt.neg (natNotLt _) h
    · simp only [impl_backBasis.l2]
      rw [List.append_nil] at h
      exact Evt.neg (natNotLt _) h
  · intro i hi ih all hal
    have er : rd_T105 ts (i : Int) = ts[i] := rdG ts _ i hi
    obtain ⟨⟨g, b⟩, e1, e2, e3⟩ := step_joint ts[i] x (hs.2 _ (List.getElem_mem hi)) hsx hx.2
    have w1 : wrap64 ((i : Int) + 1) = ((i + 1 : Nat) : Int) := wrapN i _ hi (by omega)
    -- to what stands behind the step
    have toS : ∀ r, Evt (fun k => if b = true then ((spec_GoodMark.f k p g).bind fun t => (spec_l6Basis.j3 k B L rd_ all x g b L (L.length : Int) j ts (ts.length : Int) (i : Int) (!t) p ts)) else (spec_l6Basis.j3 k B L rd_ all x g b L (L.length : Int) j ts (ts.length : Int) (i : Int) false p ts)) r → Evt (fun k => spec_l6Basis.l2 k B L rd_ all x L (L.length : Int) j ts (ts.length : Int) (i : Int) p ts) r := by
      intro r h
      refine Evt.step ?_
      simp only [spec_l6Basis.l2, er]
      exact Evt.pos (natLt _ _ hi) (Evt.pos (by omega) (Evt.pos (natLt _ _ hi) (Evt.bind e1 h)))
    have toI : ∀ r, Evt (fun k => if b = true then ((impl_allWithin.f k g 0 50).bind fun t => (if t = true then (if all.length < 5864062014805 then (impl_backBasis.l2 k B L rd_ (all ++ [g]) x L (L.length : Int) j ts (ts.length : Int) (wrap64 ((i : Int) + 1)) p ts) else (none)) else (some (([] : List (List Int)), 0, false)))) else (impl_backBasis.l2 k B L rd_ all x L (L.length : Int) j ts (ts.length : Int) (wrap64 ((i : Int) + 1)) p ts)) r → Evt (fun k => impl_backBasis.l2 k B L rd_ all x L (L.length : Int) j ts (ts.length : Int) (i : Int) p ts) r := by
      intro r h
      refine Evt.step ?_
      simp only [impl_backBasis.l2, er]
      exact Evt.pos (natLt _ _ hi) (Evt.pos (by omega) (Evt.pos (natLt _ _ hi) (Evt.bind e2 h)))
    cases b with
    | false =>
      rcases ih all (by omega) with ⟨new, n1, n2, n3⟩ | ⟨n1, n2⟩
      · refine .inl ⟨new, by omega, n2, fun r r' => ⟨fun h => toS r (Evt.neg (by decide) (Evt.step ?_)), fun h => toI r' (Evt.neg (by decide) ?_)⟩⟩
        · simp only [spec_l6Basis.j3]
          rw [w1]
          exact Evt.neg (by decide) (Evt.neg (by decide) ((n3 r r').1 h))
        · rw [w1]; exact (n3 r r').2 h
      · refine .inr ⟨toS _ (Evt.neg (by decide) (Evt.step ?_)), toI _ (Evt.neg (by decide) ?_)⟩
        · simp only [spec_l6Basis.j3]
          rw [w1]
          exact Evt.neg (by decide) (Evt.neg (by decide) n1)
        · rw [w1]; exact n2
    | true =>
      have hgl : g.length = x.length := e3 rfl
      have hgs : Short g := by have := hx.1; show g.length ≤ _; omega
      have he := goodMark_same (good_of_vm hp hx) hgl
      cases c : allIn g 0 50 with
      | false =>
        refine .inr ⟨toS _ (Evt.pos rfl (Evt.bind ((specGoodMark_ev p g hgs).cast (he.trans c)) (Evt.step ?_))), toI _ (Evt.pos rfl (Evt.bind ((allWithin_ev g 0 50 hgs).cast c) (Evt.neg (by decide) (Evt.ok _))))⟩
        simp only [spec_l6Basis.j3]
        exact Evt.pos rfl (Evt.ok _)
      | true =>
        have hv : vm p.toNat g := ⟨by have := hx.1; omega, (allIn_iff g 0 50).1 c⟩
        have goS : ∀ r, Evt (fun k => spec_l6Basis.l2 k B L rd_ (all ++ [g]) x L (L.length : Int) j ts (ts.length : Int) ((i + 1 : Nat) : Int) p ts) r → Evt (fun k => spec_l6Basis.l2 k B L rd_ all x L (L.length : Int) j ts (ts.length : Int) (i : Int) p ts) r := by
          intro r h
          refine toS r (Evt.pos rfl (Evt.bind ((specGoodMark_ev p g hgs).cast (he.trans c)) (Evt.step ?_)))
          simp only [spec_l6Basis.j3]
          rw [w1]
          exact Evt.neg (by decide) (Evt.pos trivial (Evt.pos (by omega) h))
        have goI : ∀ r, Evt (fun k => impl_backBasis.l2 k B L rd_ (all ++ [g]) x L (L.length : Int) j ts (ts.length : Int) ((i + 1 : Nat) : Int) p ts) r → Evt (fun k => impl_backBasis.l2 k B L rd_ all x L (L.length : Int) j ts (ts.length : Int) (i : Int) p ts) r := by
          intro r h
          refine toI r (Evt.pos rfl (Evt.bind ((allWithin_ev g 0 50 hgs).cast c) (Evt.pos rfl (Evt.pos (by omega) ?_))))
          rw [w1]; exact h
        rcases ih (all ++ [g]) (by simp; omega) with ⟨new, n1, n2, n3⟩ | ⟨n1, n2⟩
        · refine .inl ⟨g :: new, by simp; omega, fun m hm => ?_, fun r r' => ⟨fun h => goS r ((n3 r r').1 ?_), fun h => goI r' ((n3 r r').2 ?_)⟩⟩
          · rcases List.mem_cons.1 hm with e | hm
            · rw [e]; exact hv
            · exact n2 m hm
          · rw [List.append_assoc, List.singleton_append]; exact h
          · rw [List.append_assoc, List.singleton_append]; exact h
        · exact .inr ⟨goS _ n1, goI _ n2⟩
def endS (k : Nat) (B : Int) (L : List (List Int)) (rd_ : Int) (p : Int) (ts : List Tr) (all : List (List Int)) : Option BR := (spec_l1LeastMarks.f k all).bind fun t => (if (t.length : Int) > B then (some (([] : List (List Int)), 0, false)) else ((spec_l6Same.f k t L).bind fun t2 => (if t2 = true then (some (L, rd_, true)) else (spec_l6Basis.l0 k B t (wrap64 (rd_ + 1)) p ts))))
def endI (k : Nat) (B : Int) (L : List (List Int)) (rd_ : Int) (p : Int) (ts : List Tr) (all : List (List Int)) : Option BR := (impl_leastMarks.f k all).bind fun t => (if (t.length : Int) > B then (some (([] : List (List Int)), 0, false)) else ((slices_EqualFunc_int_int_int_int_at_slices_Equal_int_int.f k t L).bind fun t2 => (if t2 = true then (some (L, rd_, true)) else (impl_backBasis.l0 k B t (wrap64 (rd_ + 1)) p ts))))
theorem basis_l1 {p : Int} {ts : List Tr} (hp : 1 ≤ p ∧ p ≤ 16) (hs : SmallN ts) (ht : ts.length ≤ 24) (B : Int) (L : List (List Int)) (hL : L.length ≤ 60) (hv : ∀ m ∈ L, vm p.toNat m) (rd_ : Int) :
    ∀ j, j ≤ L.length → ∀ all : List (List Int), all.length ≤ 60 + 24 * j → 
      (∃ new : List (List Int), new.length ≤ 24 * (L.length - j) ∧ (∀ m ∈ new, vm p.toNat m) ∧ ∀ (r r' : BR),
        (Evt (fun k => endS k B L rd_ p ts (all ++ new)) r → Evt (fun k => spec_l6Basis.l1 k B L rd_ all L (L.length : Int) (j : Int) p ts) r) ∧
        (Evt (fun k => endI k B L rd_ p ts (all ++ new)) r' → Evt (fun k => impl_backBasis.l1 k B L rd_ all L (L.length : Int) (j : Int) p ts) r')) ∨
      (Evt (fun k => spec_l6Basis.l1 k B L rd_ all L (L.length : Int) (j : Int) p ts) ([], 0, false) ∧ Evt (fun k => impl_backBasis.l1 k B L rd_ all L (L.length : Int) (j : Int) p ts) ([], 0, false)) := by
  refine down (P := fun j (all : List (List Int)) => all.length ≤ 60 + 24 * j → 
      (∃ new : List (List Int), new.length ≤ 24 * (L.length - j) ∧ (∀ m ∈ new, vm p.toNat m) ∧ ∀ (r r' : BR),
        (Evt (fun k => endS k B L rd_ p ts (all ++ new)) r → Evt (fun k => spec_l6Basis.l1 k B L rd_ all L (L.length : Int) (j : Int) p ts) r) ∧
        (Evt (fun k => endI k B L rd_ p ts (all ++ new)) r' → Evt (fun k => impl_backBasis.l1 k B L rd_ all L (L.length : Int) (j : Int) p ts) r')) ∨
      (Evt (fun k => spec_l6Basis.l1 k B L rd_ all L (L.length : Int) (j : Int) p ts) ([], 0, false) ∧ Evt (fun k => impl_backBasis.l1 k B L rd_ all L (L.length : Int) (j : Int) p ts) ([], 0, false))) ?_ ?_
  · intro all _
    refine .inl ⟨[], by simp, by simp, fun r r' => ⟨fun h => Evt.step ?_, fun h => Evt.step ?_⟩⟩
    · simp only [spec_l6Basis.l1]
      rw [List.append_nil] at h
      exact Evt.neg (natNotLt _) h
    · simp only [impl_backBasis.l1]
      rw [List.append_nil] at h
      exact Evt.neg (natNotLt _) h
  · intro j hj ih all hal
    have toS : ∀ r, Evt (fun k => spec_l6Basis.l2 k B L rd_ all L[j] L (L.length : Int) (j : Int) ts (ts.length : Int) ((0 : Nat) : Int) p ts) r → Evt (fun k => spec_l6Basis.l1 k B L rd_ all L (L.length : Int) (j : Int) p ts) r := by
      intro r h
      refine Evt.step ?_
      simp only [spec_l6Basis.l1, rdLL L j hj]
      exact Evt.pos (natLt _ _ hj) (Evt.pos (by omega) (Evt.pos (natLt _ _ hj) h))
    have toI : ∀ r, Evt (fun k => impl_backBasis.l2 k B L rd_ all L[j] L (L.length : Int) (j : Int) ts (ts.length : Int) ((0 : Nat) : Int) p ts) r → Evt (fun k => impl_backBasis.l1 k B L rd_ all L (L.length : Int) (j : Int) p ts) r := by
      intro r h
      refine Evt.step ?_
      simp only [impl_backBasis.l1, rdLL L j hj]
      exact Evt.pos (natLt _ _ hj) (Evt.pos (by omega) (Evt.pos (natLt _ _ hj) h))
    rcases basis_l2 hp hs ht B L rd_ L[j] (hv _ (List.getElem_mem hj)) (j : Int) 0 (Nat.zero_le _) all (by omega) with ⟨new, n1, n2, n3⟩ | ⟨n1, n2⟩
    · rw [wrapN j _ hj (by omega)] at n3
      rcases ih (all ++ new) (by simp; omega) with ⟨new', m1, m2, m3⟩ | ⟨m1, m2⟩
      · refine .inl ⟨new ++ new', by rw [List.length_append]; omega, fun m hm => ?_, fun r r' => ⟨fun h => toS r ((n3 r r').1 ((m3 r r').1 ?_)), fun h => toI r' ((n3 r r').2 ((m3 r r').2 ?_))⟩⟩
        · rcases List.mem_append.1 hm with h | h
          · exact n2 m h
          · exact m2 m h
        · rw [List.append_assoc]; exact h
        · rw [List.append_assoc]; exact h
      · exact .inr ⟨toS _ ((n3 ([], 0, false) ([], 0, false)).1 m1), toI _ ((n3 ([], 0, false) ([], 0, false)).2 m2)⟩
    · exact .inr ⟨toS _ n1, toI _ n2⟩
structure IsBasis (n : Nat) (L : List (List Int)) : Prop where
  inc : Inc L
  anti : ∀ a ∈ L, ∀ b ∈ L, over n a b = true → a = b
  len : L.length ≤ 60
  ok : ∀ m ∈ L, vm n m
theorem basis_l0 {p : Int} {ts : List Tr} (hp : 1 ≤ p ∧ p ≤ 16) (hs : SmallN ts) (ht : ts.length ≤ 24) (B : Int) (hB : B ≤ 60) :
    ∀ d (L : List (List Int)) (rd_ : Int), left_ p.toNat L ≤ d → IsBasis p.toNat L → ∃ r : BR, Evt (fun k => spec_l6Basis.l0 k B L rd_ p ts) r ∧ Evt (fun k => impl_backBasis.l0 k B L rd_ p ts) r ∧ r.1.length ≤ 60 ∧ ∀ m ∈ r.1, vm p.toNat m := by
  intro d
  induction d using Nat.strongRecOn with
  | ind d ih =>
    intro L rd_ hd hb
    have toS : ∀ r, Evt (fun k => spec_l6Basis.l1 k B L rd_ L L (L.length : Int) ((0 : Nat) : Int) p ts) r → Evt (fun k => spec_l6Basis.l0 k B L rd_ p ts) r := by
      intro r h
      refine Evt.step ?_
      simp only [spec_l6Basis.l0, Option.bind_some, List.nil_append, List.length_nil]
      exact Evt.pos (by have := hb.len; omega) h
    have toI : ∀ r, Evt (fun k => impl_backBasis.l1 k B L rd_ L L (L.length : Int) ((0 : Nat) : Int) p ts) r → Evt (fun k => impl_backBasis.l0 k B L rd_ p ts) r := by
      intro r h
      refine Evt.step ?_
      simp only [impl_backBasis.l0]
      exact Evt.bind0 (clone2_eq L (by have := hb.len; omega)) h
    rcases basis_l1 hp hs ht B L hb.len hb.ok rd_ 0 (Nat.zero_le _) L (by have := hb.len; omega) with ⟨new, n1, n2, n3⟩ | ⟨n1, n2⟩
    · have hall : ∀ m ∈ L ++ new, vm p.toNat m := fun m hm => by
        rcases List.mem_append.1 hm with h | h
        · exact hb.ok m h
        · exact n2 m h
      have hbl := hb.len
      obtain ⟨R, e1, e2, e3, e4, e5⟩ := least_ex (n := p.toNat) (by omega) (L ++ new) (by rw [List.length_append]; omega) (fun m h => (hall m h).1)
      have hRs : ∀ x ∈ R, Short x := fun x hx => by have := (hall x ((e4 x).1 hx).1).1; show x.length ≤ _; omega
      rw [List.length_append] at e5
      by_cases c : (R.length : Int) > B
      · exact ⟨([], 0, false), toS _ ((n3 _ ([], 0, false)).1 (Evt.bind e1 (Evt.pos c (Evt.ok _)))), toI _ ((n3 ([], 0, false) _).2 (Evt.bind e2 (Evt.pos c (Evt.ok _)))), by simp, by simp⟩
      · by_cases c2 : R = L
        · have d2 : decide (R = L) = true := decide_eq_true c2
          exact ⟨(L, rd_, true), toS _ ((n3 _ (L, rd_, true)).1 (Evt.bind e1 (Evt.neg c (Evt.bind ((l6Same_ev R L (by omega) hRs).cast d2) (Evt.pos rfl (Evt.ok _)))))), toI _ ((n3 (L, rd_, true) _).2 (Evt.bind e2 (Evt.neg c (Evt.bind ((eqFunc_ev R L (by omega) hRs).cast d2) (Evt.pos rfl (Evt.ok _)))))), hb.len, hb.ok⟩
        · have d2 : decide (R = L) = false := decide_eq_false c2
          have hlt := left_lt hb.inc hb.anti hall (fun m h => List.mem_append_left _ h) e3 e4 c2
          obtain ⟨r, s1, s2, s3⟩ := ih (left_ p.toNat R) (by omega) R (wrap64 (rd_ + 1)) (Nat.le_refl _) ⟨e3, fun a ha b hb' ho => by
              have := List.all_eq_true.1 ((e4 a).1 ha).2 b ((e4 b).1 hb').1
              simpa [ho] using this, by omega, fun m hm => hall m ((e4 m).1 hm).1⟩
          exact ⟨r, toS _ ((n3 _ r).1 (Evt.bind e1 (Evt.neg c (Evt.bind ((l6Same_ev R L (by omega) hRs).cast d2) (Evt.neg (by decide) s1))))), toI _ ((n3 r _).2 (Evt.bind e2 (Evt.neg c (Evt.bind ((eqFunc_ev R L (by omega) hRs).cast d2) (Evt.neg (by decide) s2))))), s3⟩
    · exact ⟨([], 0, false), toS _ n1, toI _ n2, by simp, by simp⟩
theorem basis_ex (p : Int) (ts : List Tr) (m : List Int) (B : Int) (hs : SmallN ts) (hm : Short m) : ∃ a : Bool, Evt (fun k => spec_l6Asked.f k p ts m B) a ∧
    (a = false → Evt (fun k => impl_backBasis.f k p ts m B) ([], 0, false)) ∧
    (a = true → 1 ≤ p ∧ p ≤ 16 ∧ ∃ r : BR, Evt (fun k => spec_l6Basis.f k p ts m B) r ∧ Evt (fun k => impl_backBasis.f k p ts m B) r ∧ r.1.length ≤ 60 ∧ ∀ x ∈ r.1, vm p.toNat x) := by
  have w1 : impl_within.f B 1 60 = some (within B 1 60) := within_eq B 1 60
  unfold spec_l6Asked.f impl_backBasis.f spec_l6Basis.f
  simp only [l1In_eq, Option.bind_some, w1]
  cases hg : marked p ts m with
  | false =>
    refine ⟨false, Evt.bind ((l2Marked_ev p ts m hs hm).cast hg) (Evt.neg (by decide) (Evt.ok _)), fun _ => Evt.bind ((isMarked_ev p ts m hs hm).cast hg) (Evt.neg (by decide) (Evt.step ?_)), fun h => by cases h⟩
    simp only [impl_backBasis.j0]
    exact Evt.pos trivial (Evt.ok _)
  | true =>
    cases hw : within B 1 60 with
    | false =>
      refine ⟨false, Evt.bind ((l2Marked_ev p ts m hs hm).cast hg) (Evt.pos rfl (Evt.ok _)), fun _ => Evt.bind ((isMarked_ev p ts m hs hm).cast hg) (Evt.pos rfl (Evt.step ?_)), fun h => by cases h⟩
      simp only [impl_backBasis.j0]
      exact Evt.pos rfl (Evt.ok _)
    | true =>
      have hf := goodNet_facts (marked_facts hg).1
      have hv := vm_of_good (marked_facts hg).2
      have hp : 1 ≤ p ∧ p ≤ 16 := ⟨hf.1, hf.2.1⟩
      have hB := within_bounds hw
      have hml : m.length ≤ 1000000 := by have := hv.1; omega
      obtain ⟨r, e1, e2, e3⟩ := basis_l0 hp hs hf.2.2.1 B hB.2 _ [m] 0 (Nat.le_refl _) ⟨List.pairwise_singleton _ _, fun a ha b hb _ => by
          rw [List.mem_singleton] at ha hb; rw [ha, hb], by simp, fun x hx => by rw [List.mem_singleton] at hx; rw [hx]; exact hv⟩
      refine ⟨true, Evt.bind ((l2Marked_ev p ts m hs hm).cast hg) (Evt.pos rfl (Evt.ok _)), (fun h => by cases h), fun _ => ⟨hp.1, hp.2, r, Evt.bind0 (own_eq m hml) e1, Evt.bind ((isMarked_ev p ts m hs hm).cast hg) (Evt.pos rfl (Evt.step ?_)), e3⟩⟩
      simp only [impl_backBasis.j0]
      exact Evt.neg (by decide) (Evt.bind0 (clone1_eq m hml) e2)
end Go.Proofs.Ytiglhdibibbkjaa.Lib
