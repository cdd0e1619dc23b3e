import Derived.Test.YtiglhdibibbkjaaF1
import Derived.Test.YtiglhdibibbkjaaF3
import Derived.Test.YtiglhdibibbkjaaLx
import Derived.Test.YtiglhdibibbkjaaOver
import Derived.Test.YtiglhdibibbkjaaSame
import Derived.Test.YtiglhdibibbkjaaCmp
import Derived.Test.YtiglhdibibbkjaaSS0
namespace Go.Proofs.Ytiglhdibibbkjaa.Lib
open Go.RowKit Go.Proofs.Ytiglhdibibbkjaa.F Go.Proofs.YtiglhdibibbkjaaW.PrintWords Go.Proofs.YtiglhdibibbkjaaW.PrintLast Go.Proofs.YtiglhdibibbkjaaW.PrintMore
theorem lexL_eq : ∀ a b, lexL a b = Least.lexCmp a b
  | [], [] => rfl
  | [], _ :: _ => rfl
  | _ :: _, [] => rfl
  | x :: a, y :: b => by
    simp only [lexL, Least.lexCmp, lexL_eq a b]
theorem sCmp_ev (a b : List Int) (ha : Short a) (hab : a.length = b.length) : Evt (fun k => spec_l1Compare.f k a b) (Least.lexCmp a b) := (l1Compare_ev a b ha hab).cast (lexL_eq a b)
theorem own_eq (l : List Int) (h : l.length ≤ 1000000) : spec_l1Own.f l = some l := by
  unfold spec_l1Own.f
  simp only [Option.bind_some, List.length_nil, List.nil_append]
  rw [if_pos (by omega)]
theorem clone1_eq (l : List Int) (h : l.length ≤ 1000000) : slices_Clone_int_int_82.f l = some l := by
  unfold slices_Clone_int_int_82.f
  simp only [Option.bind_some, List.length_nil, List.nil_append]
  rw [if_pos (by omega)]
theorem inOrder_ev {n : Nat} (hn : n ≤ 16) (L : List (List Int)) (m : List Int) (hL : L.length ≤ 1000000) (hr : ∀ x ∈ L, x.length = n) (hm : m.length = n) (hi : Inc L) : Evt (fun k => spec_l1InOrder.f k L m) (ins m L) := by
  have hs : Short m := by show m.length ≤ _; omega
  have placed : ∀ i, i ≤ L.length → ∀ acc : List (List Int), acc.length = i + 1 → (∀ j (h : j < L.length), i ≤ j → Least.lexCmp m L[j] < 0) → Evt (fun k => spec_l1InOrder.l0 k L m acc true L (L.length : Int) (i : Int)) (acc ++ L.drop i) := by
    refine down (P := fun i (acc : List (List Int)) => acc.length = i + 1 → (∀ j (h : j < L.length), i ≤ j → Least.lexCmp m L[j] < 0) → Evt (fun k => spec_l1InOrder.l0 k L m acc true L (L.length : Int) (i : Int)) (acc ++ L.drop i)) ?_ ?_
    · intro acc _ _
      refine Evt.step ?_
      simp only [spec_l1InOrder.l0]
      exact Evt.neg (natNotLt _) (Evt.pos trivial ((Evt.ok _).cast (by simp)))
    · intro i hil ih acc ha hlt
      refine Evt.step ?_
      simp only [spec_l1InOrder.l0, rdLL L i hil]
      have hc := hlt i hil (Nat.le_refl _)
      refine Evt.pos (natLt _ _ hil) (Evt.pos (by omega) (Evt.pos (natLt _ _ hil) (Evt.bind (sCmp_ev m L[i] hs (by rw [hm, hr _ (List.getElem_mem hil)])) (Evt.neg (by omega) (Evt.pos hc (Evt.pos trivial (Evt.pos (by omega) ?_)))))))
      rw [wrapN i _ hil (by omega)]
      exact (ih (acc ++ [L[i]]) (by simp; omega) (fun j h hj => hlt j h (by omega))).cast (by rw [dropN L i hil]; simp)
  have free : ∀ i, i ≤ L.length → ∀ _ : Unit, (∀ j (h : j < L.length), j < i → 0 < Least.lexCmp m L[j]) → Evt (fun k => spec_l1InOrder.l0 k L m (L.take i) false L (L.length : Int) (i : Int)) (L.take i ++ ins m (L.drop i)) := by
    refine down (P := fun i _ => (∀ j (h : j < L.length), j < i → 0 < Least.lexCmp m L[j]) → Evt (fun k => spec_l1InOrder.l0 k L m (L.take i) false L (L.length : Int) (i : Int)) (L.take i ++ ins m (L.drop i))) ?_ ?_
    · intro _ _
      refine Evt.step ?_
      simp only [spec_l1InOrder.l0]
      refine Evt.neg (natNotLt _) (Evt.neg (by decide) (Evt.pos (by rw [List.take_length]; omega) ((Evt.ok _).cast ?_)))
      rw [List.drop_length]; simp [ins]
    · intro i hil ih _ hgt
      refine Evt.step ?_
      simp only [spec_l1InOrder.l0, rdLL L i hil]
      refine Evt.pos (natLt _ _ hil) (Evt.pos (by omega) (Evt.pos (natLt _ _ hil) (Evt.bind (sCmp_ev m L[i] hs (by rw [hm, hr _ (List.getElem_mem hil)])) ?_)))
      rw [dropN L i hil]
      simp only [ins]
      by_cases c : Least.lexCmp m L[i] = 0
      · rw [if_pos c]
        exact Evt.pos c ((Evt.ok _).cast (by rw [← dropN L i hil, List.take_append_drop]))
      · rw [if_neg c]
        refine Evt.neg c ?_
        by_cases c2 : Least.lexCmp m L[i] < 0
        · rw [if_pos c2]
          refine Evt.pos c2 (Evt.neg (by decide) (Evt.pos (by rw [List.length_take]; omega) (Evt.bind0 rfl (Evt.pos (by rw [List.length_append, List.length_take, List.length_singleton]; omega) ?_))))
          rw [wrapN i _ hil (by omega)]
          refine (placed (i + 1) (by omega) (L.take i ++ [m] ++ [L[i]]) (by simp; omega) (fun j h hj => ?_)).cast (by simp)
          have hp := List.pairwise_iff_getElem.1 hi i j hil h (by omega)
          exact (Least.lexCmp_trans m L[i] L[j] (by omega) (by omega)).2 (.inl c2)
        · rw [if_neg c2]
          refine Evt.neg c2 (Evt.pos (by rw [List.length_take]; omega) ?_)
          rw [wrapN i _ hil (by omega), ← takeN L i hil]
          refine (ih () (fun j h hj => ?_)).cast (by rw [takeN L i hil, List.append_assoc, List.singleton_append])
          by_cases e : j = i
          · subst e; omega
          · exact hgt j h (by omega)
  unfold spec_l1InOrder.f
  exact (free 0 (Nat.zero_le _) () (fun j _ h => by omega)).cast (by simp)
def leastIn (n : Nat) (l : List (List Int)) (m : List Int) : Bool := l.all fun x => !(over n m x) || decide (m = x)
theorem specLeast_ev {n : Nat} (hn : n ≤ 16) (l : List (List Int)) (hl : l.length ≤ 1000000) (hm : ∀ m ∈ l, m.length = n) :
    ∃ R, Evt (fun k => spec_l1LeastMarks.f k l) R ∧ Inc R ∧ ∀ m, m ∈ R ↔ m ∈ l ∧ leastIn n l m = true := by
  have inner : ∀ (m : List Int), m ∈ l → ∀ (out : List (List Int)) (i : Int) (r : List (List Int)), ∀ j, j ≤ l.length → ∀ b : Bool, Evt (fun k => if (b && (l.drop j).all fun x => !(over n m x) || decide (m = x)) = true then ((spec_l1Own.f m).bind fun t143 => ((spec_l1InOrder.f k out t143).bind fun t146 => (spec_l1LeastMarks.l0 k l t146 l (l.length : Int) (wrap64 (i + 1))))) else (spec_l1LeastMarks.l0 k l out l (l.length : Int) (wrap64 (i + 1)))) r →
      Evt (fun k => spec_l1LeastMarks.l1 k l out m b l (l.length : Int) i l (l.length : Int) (j : Int)) r := by
    intro m hml out i r
    have hs : Short m := by show m.length ≤ _; rw [hm m hml]; omega
    refine down (P := fun j (b : Bool) => Evt (fun k => if (b && (l.drop j).all fun x => !(over n m x) || decide (m = x)) = true then ((spec_l1Own.f m).bind fun t143 => ((spec_l1InOrder.f k out t143).bind fun t146 => (spec_l1LeastMarks.l0 k l t146 l (l.length : Int) (wrap64 (i + 1))))) else (spec_l1LeastMarks.l0 k l out l (l.length : Int) (wrap64 (i + 1)))) r →
      Evt (fun k => spec_l1LeastMarks.l1 k l out m b l (l.length : Int) i l (l.length : Int) (j : Int)) r) ?_ ?_
    · intro b h
      refine Evt.step ?_
      simp only [spec_l1LeastMarks.l1]
      refine Evt.neg (natNotLt _) ?_
      rw [List.drop_length] at h
      simpa using h
    · intro j hj ih b h
      have hx := hm _ (List.getElem_mem hj)
      have hmn := hm m hml
      have hsx : Short l[j] := by show l[j].length ≤ _; omega
      refine Evt.step ?_
      simp only [spec_l1LeastMarks.l1, rdLL l j hj]
      rw [wrapN j _ hj (by omega)]
      refine Evt.pos (natLt _ _ hj) (Evt.pos (by omega) (Evt.pos (natLt _ _ hj) ?_))
      rw [dropN l j hj, List.all_cons, ← Bool.and_assoc] at h
      cases b with
      | false => exact Evt.neg (by decide) (ih false (by simpa using h))
      | true =>
        refine Evt.pos rfl (Evt.bind ((l1Covers_ev m l[j] hsx (by omega)).cast (by rw [hx])) ?_)
        cases c : over n m l[j] with
        | false => exact Evt.neg (by decide) (ih true (by rw [c] at h; simpa using h))
        | true =>
          refine Evt.pos rfl (Evt.bind (l1Same_ev m l[j] hs) (ih _ ?_))
          rw [c] at h; simpa using h
  have outer : ∀ i, i ≤ l.length → ∀ out : List (List Int), Inc out → out.length ≤ i → (∀ x ∈ out, x.length = n) → (∀ m, m ∈ out ↔ m ∈ l.take i ∧ leastIn n l m = true) →
      ∃ R, Evt (fun k => spec_l1LeastMarks.l0 k l out l (l.length : Int) (i : Int)) R ∧ Inc R ∧ ∀ m, m ∈ R ↔ m ∈ l ∧ leastIn n l m = true := by
    refine down (P := fun i (out : List (List Int)) => Inc out → out.length ≤ i → (∀ x ∈ out, x.length = n) → (∀ m, m ∈ out ↔ m ∈ l.take i ∧ leastIn n l m = true) →
      ∃ R, Evt (fun k => spec_l1LeastMarks.l0 k l out l (l.length : Int) (i : Int)) R ∧ Inc R ∧ ∀ m, m ∈ R ↔ m ∈ l ∧ leastIn n l m = true) ?_ ?_
    · intro out h1 _ _ h2
      refine ⟨out, Evt.step ?_, h1, by rw [List.take_length] at h2; exact h2⟩
      simp only [spec_l1LeastMarks.l0]
      exact Evt.neg (natNotLt _) (Evt.ok _)
    · intro i hi ih out h1 hlen hr h2
      have hmem := List.getElem_mem hi
      cases c : leastIn n l l[i] with
      | true =>
        obtain ⟨R, e1, e2⟩ := ih (ins l[i] out) (ins_inc _ _ h1) (by have := ins_length l[i] out; omega) (fun x hx => by
            rcases (ins_mem _ _ x).1 hx with e | h
            · rw [e]; exact hm _ hmem
            · exact hr x h) (fun m => by
            rw [ins_mem, h2, takeN l i hi, List.mem_append, List.mem_singleton]
            constructor
            · rintro (e | h)
              · subst e; exact ⟨.inr rfl, c⟩
              · exact ⟨.inl h.1, h.2⟩
            · rintro ⟨h | e, h'⟩
              · exact .inr ⟨h, h'⟩
              · exact .inl e)
        refine ⟨R, Evt.step ?_, e2⟩
        simp only [spec_l1LeastMarks.l0, rdLL l i hi]
        refine Evt.pos (natLt _ _ hi) (Evt.pos (by omega) (Evt.pos (natLt _ _ hi) (inner l[i] hmem out i R 0 (Nat.zero_le _) true (Evt.pos (by simpa [leastIn] using c) (Evt.bind0 (own_eq _ (by rw [hm _ hmem]; omega)) (Evt.bind (inOrder_ev hn out l[i] (by omega) hr (hm _ hmem) h1) ?_))))))
        rw [wrapN i _ hi (by omega)]
        exact e1
      | false =>
        obtain ⟨R, e1, e2⟩ := ih out h1 (by omega) hr (fun m => by
            rw [h2, takeN l i hi, List.mem_append, List.mem_singleton]
            constructor
            · rintro ⟨h, h'⟩; exact ⟨.inl h, h'⟩
            · rintro ⟨h | e, h'⟩
              · exact ⟨h, h'⟩
              · subst e; rw [c] at h'; cases h')
        refine ⟨R, Evt.step ?_, e2⟩
        simp only [spec_l1LeastMarks.l0, rdLL l i hi]
        refine Evt.pos (natLt _ _ hi) (Evt.pos (by omega) (Evt.pos (natLt _ _ hi) (inner l[i] hmem out i R 0 (Nat.zero_le _) true (Evt.neg (by rw [Bool.not_eq_true]; simpa only [leastIn, List.drop_zero, Bool.true_and] using c) ?_))))
        rw [wrapN i _ hi (by omega)]
        exact e1
  unfold spec_l1LeastMarks.f
  exact outer 0 (Nat.zero_le _) [] List.Pairwise.nil (Nat.le_refl _) (fun x h => by cases h) (fun m => by simp)
theorem implLeast_ev {n : Nat} (hn : n ≤ 16) (l : List (List Int)) (hl : l.length ≤ 1000000) (hm : ∀ m ∈ l, m.length = n) :
    ∃ R, Evt (fun k => impl_leastMarks.f k l) R ∧ Inc R ∧ ∀ m, m ∈ R ↔ m ∈ l ∧ leastIn n l m = true := by
  obtain ⟨hS, hS2⟩ := compact_sort l
  have hSl := compact_length l
  unfold impl_leastMarks.f
  simp only [if_pos hl]
  unfold impl_leastMarks.t
  generalize Go.Lib.compact (Least.sortL l) = S at hS hS2 hSl ⊢
  have hmS : ∀ m ∈ S, m.length = n := fun m h => hm m ((hS2 m).1 h)
  have inner : ∀ (i : Nat) (hi : i < S.length) (out : List (List Int)) (r : List (List Int)), ∀ j, j ≤ S.length → ∀ b : Bool, Evt (fun k => if (b && (S.drop j).all fun x => decide (x = S[i]) || !(over n S[i] x)) = true then ((slices_Clone_int_int_82.f S[i]).bind fun t202 => (if out.length < 5864062014805 then (impl_leastMarks.l0 k S (out ++ [t202]) S (S.length : Int) (wrap64 ((i : Int) + 1))) else (none))) else (impl_leastMarks.l0 k S out S (S.length : Int) (wrap64 ((i : Int) + 1)))) r →
      Evt (fun k => impl_leastMarks.l1 k S out (i : Int) S[i] b S (S.length : Int) (i : Int) S (S.length : Int) (j : Int)) r := by
    intro i hi out r
    refine down (P := fun j (b : Bool) => Evt (fun k => if (b && (S.drop j).all fun x => decide (x = S[i]) || !(over n S[i] x)) = true then ((slices_Clone_int_int_82.f S[i]).bind fun t202 => (if out.length < 5864062014805 then (impl_leastMarks.l0 k S (out ++ [t202]) S (S.length : Int) (wrap64 ((i : Int) + 1))) else (none))) else (impl_leastMarks.l0 k S out S (S.length : Int) (wrap64 ((i : Int) + 1)))) r →
      Evt (fun k => impl_leastMarks.l1 k S out (i : Int) S[i] b S (S.length : Int) (i : Int) S (S.length : Int) (j : Int)) r) ?_ ?_
    · intro b h
      refine Evt.step ?_
      simp only [impl_leastMarks.l1]
      refine Evt.neg (natNotLt _) ?_
      rw [List.drop_length] at h
      simpa using h
    · intro j hj ih b h
      have hx := hmS _ (List.getElem_mem hj)
      have hy := hmS _ (List.getElem_mem hi)
      have hsy : Short S[i] := by show S[i].length ≤ _; omega
      refine Evt.step ?_
      simp only [impl_leastMarks.l1, rdLL S j hj]
      rw [wrapN j _ hj (by omega)]
      refine Evt.pos (natLt _ _ hj) (Evt.pos (by omega) (Evt.pos (natLt _ _ hj) ?_))
      rw [dropN S j hj, List.all_cons, ← Bool.and_assoc] at h
      cases b with
      | false => exact Evt.neg (by decide) (ih false (by simpa using h))
      | true =>
        refine Evt.pos rfl ?_
        by_cases c : i = j
        · subst c
          exact Evt.pos rfl (ih true (by simpa using h))
        · refine Evt.neg (by omega) (Evt.bind ((covers_ev S[i] S[j] hsy (by omega)).cast (by rw [hy])) (ih _ ?_))
          have hne : ¬ S[j] = S[i] := fun e => c (inc_nodup hS hj hi e).symm
          rw [decide_eq_false hne] at h
          simpa using h
  have outer : ∀ i, i ≤ S.length → ∀ out : List (List Int), out.length ≤ i → ∃ R, Evt (fun k => impl_leastMarks.l0 k S out S (S.length : Int) (i : Int)) R ∧ R = out ++ (S.drop i).filter (fun m => S.all fun x => decide (x = m) || !(over n m x)) := by
    refine down (P := fun i (out : List (List Int)) => out.length ≤ i → ∃ R, Evt (fun k => impl_leastMarks.l0 k S out S (S.length : Int) (i : Int)) R ∧ R = out ++ (S.drop i).filter (fun m => S.all fun x => decide (x = m) || !(over n m x))) ?_ ?_
    · intro out h1
      refine ⟨out, Evt.step ?_, by rw [List.drop_length]; simp⟩
      simp only [impl_leastMarks.l0]
      exact Evt.neg (natNotLt _) (Evt.ok _)
    · intro i hi ih out hlen
      have hmem := List.getElem_mem hi
      cases c : S.all fun x => decide (x = S[i]) || !(over n S[i] x) with
      | true =>
        obtain ⟨R, e1, e2⟩ := ih (out ++ [S[i]]) (by simp; omega)
        refine ⟨R, Evt.step ?_, by rw [e2, dropN S i hi, List.filter_cons, if_pos c]; simp⟩
        simp only [impl_leastMarks.l0, rdLL S i hi]
        refine Evt.pos (natLt _ _ hi) (Evt.pos (by omega) (Evt.pos (natLt _ _ hi) (inner i hi out R 0 (Nat.zero_le _) true (Evt.pos (by simpa using c) (Evt.bind0 (clone1_eq _ (by rw [hmS _ hmem]; omega)) (Evt.pos (by omega) ?_))))))
        rw [wrapN i _ hi (by omega)]
        exact e1
      | false =>
        obtain ⟨R, e1, e2⟩ := ih out (by omega)
        refine ⟨R, Evt.step ?_, by rw [e2, dropN S i hi, List.filter_cons, if_neg (by rw [c]; decide)]⟩
        simp only [impl_leastMarks.l0, rdLL S i hi]
        refine Evt.pos (natLt _ _ hi) (Evt.pos (by omega) (Evt.pos (natLt _ _ hi) (inner i hi out R 0 (Nat.zero_le _) true (Evt.neg (by rw [Bool.not_eq_true]; simpa only [List.drop_zero, Bool.true_and] using c) ?_))))
        rw [wrapN i _ hi (by omega)]
        exact e1
  obtain ⟨R, e1, e2⟩ := outer 0 (Nat.zero_le _) [] (Nat.le_refl _)
  refine ⟨R, e1, by rw [e2]; simpa using inc_filter hS _, fun m => ?_⟩
  rw [e2]
  simp only [List.drop_zero, List.nil_append, List.mem_filter, hS2, leastIn, List.all_eq_true, Bool.or_eq_true, Bool.not_eq_true', decide_eq_true_eq]
  refine and_congr_right fun _ => ⟨fun h x hx => ?_, fun h x hx => ?_⟩
  · rcases h x hx with e | e
    · exact .inr e.symm
    · exact .inl e
  · rcases h x hx with e | e
    · exact .inr e
    · exact .inl e.symm
theorem least_ex {n : Nat} (hn : n ≤ 16) (l : List (List Int)) (hl : l.length ≤ 1000000) (hm : ∀ m ∈ l, m.length = n) :
    ∃ R, Evt (fun k => spec_l1LeastMarks.f k l) R ∧ Evt (fun k => impl_leastMarks.f k l) R ∧ Inc R ∧ (∀ m, m ∈ R ↔ m ∈ l ∧ leastIn n l m = true) ∧ R.length ≤ l.length := by
  obtain ⟨R, a1, a2, a3⟩ := specLeast_ev hn l hl hm
  obtain ⟨R', b1, b2, b3⟩ := implLeast_ev hn l hl hm
  have e := inc_ext R R' a2 b2 (fun m => by rw [a3, b3])
  subst e
  refine ⟨R, a1, b1, a2, a3, ?_⟩
  have hnd : R.Nodup := by
    refine List.Pairwise.imp ?_ a2
    intro x y h e
    subst e
    have := Least.lexCmp_self x; omega
  exact hnd.length_le_of_subset (fun x hx => ((a3 x).1 hx).1)
end Go.Proofs.Ytiglhdibibbkjaa.Lib
