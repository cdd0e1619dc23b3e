import Derived.Test.YtiglhdibibbkjaaLeast
import Derived.Test.YtiglhdibibbkjaaLib
namespace Go.Proofs.Ytiglhdibibbkjaa.Lib
open Go.RowKit Go.Proofs.YtiglhdibibbkjaaW.PrintWords Go.Lib Go.Sort
def Inc (R : List (List Int)) : Prop := R.Pairwise (fun a b => Least.lexCmp a b < 0)
theorem lex_anti' {a b : List Int} (h1 : Least.lexCmp a b < 0) (h2 : Least.lexCmp b a < 0) : False := by
  have := Least.lexCmp_neg a b; omega
theorem inc_ext : ∀ R R' : List (List Int), Inc R → Inc R' → (∀ m, m ∈ R ↔ m ∈ R') → R = R'
  | [], [], _, _, _ => rfl
  | [], b :: R', _, _, h => by have := (h b).2 (List.mem_cons_self ..); cases this
  | a :: R, [], _, _, h => by have := (h a).1 (List.mem_cons_self ..); cases this
  | a :: R, b :: R', h1, h2, h => by
    have p1 := List.pairwise_cons.1 h1
    have p2 := List.pairwise_cons.1 h2
    have e : a = b := by
      rcases List.mem_cons.1 ((h a).1 (List.mem_cons_self ..)) with e | m1
      · exact e
      · rcases List.mem_cons.1 ((h b).2 (List.mem_cons_self ..)) with e | m2
        · exact e.symm
        · exact (lex_anti' (p1.1 b m2) (p2.1 a m1)).elim
    subst e
    rw [inc_ext R R' p1.2 p2.2 fun m => ⟨fun hm => ?_, fun hm => ?_⟩]
    · rcases List.mem_cons.1 ((h m).1 (List.mem_cons_of_mem _ hm)) with e | hm'
      · subst e; have := p1.1 m hm; have := Least.lexCmp_self m; omega
      · exact hm'
    · rcases List.mem_cons.1 ((h m).2 (List.mem_cons_of_mem _ hm)) with e | hm'
      · subst e; have := p2.1 m hm; have := Least.lexCmp_self m; omega
      · exact hm'
theorem inc_filter {R : List (List Int)} (h : Inc R) (p : List Int → Bool) : Inc (R.filter p) := List.Pairwise.filter p h
theorem inc_nodup {R : List (List Int)} (h : Inc R) {i j : Nat} (hi : i < R.length) (hj : j < R.length) (e : R[i] = R[j]) : i = j := by
  have hp := List.pairwise_iff_getElem.1 h
  rcases Nat.lt_trichotomy i j with c | c | c
  · have := hp i j hi hj c; rw [e, Least.lexCmp_self] at this; omega
  · exact c
  · have := hp j i hj hi c; rw [e, Least.lexCmp_self] at this; omega
theorem getBang (d : List (List Int)) (i : Nat) (h : i < d.length) : d.toArray[i]! = d[i] := by
  rw [getElem!_pos d.toArray i (by simpa using h)]; simp
theorem compact_inc (d : List (List Int)) (hs : ∀ i (h : i + 1 < d.length), Least.lexCmp d[i] d[i + 1] ≤ 0) : ∀ m, m ≤ d.length → Inc (compactUpTo d.toArray m) ∧ (∀ x, x ∈ compactUpTo d.toArray m ↔ x ∈ d.take m) ∧ (∀ j (h : j < d.length), j + 1 = m → ∀ x ∈ compactUpTo d.toArray m, Least.lexCmp x d[j] ≤ 0) := by
  intro m
  induction m with
  | zero => intro _; exact ⟨List.Pairwise.nil, fun x => by simp [compactUpTo], fun j _ h => by omega⟩
  | succ m ih =>
    intro hm
    obtain ⟨h1, h2, h3⟩ := ih (by omega)
    have hd := getBang d m (by omega)
    rw [compactUpTo_succ, hd]
    cases hk : keeps d.toArray m with
    | true =>
      have hlt : ∀ x ∈ compactUpTo d.toArray m, Least.lexCmp x d[m] < 0 := by
        intro x hx
        rcases Nat.eq_zero_or_pos m with h0 | h0
        · subst h0; simp [compactUpTo] at hx
        · obtain ⟨j, rfl⟩ : ∃ j, m = j + 1 := ⟨m - 1, by omega⟩
          have hle := h3 j (by omega) rfl x hx
          have hst := hs j (by omega)
          have hne : ¬ Least.lexCmp d[j] d[j + 1] = 0 := by
            intro e
            have e2 := Least.lexCmp_eq _ _ e
            have hkk := of_decide_eq_true hk
            rcases hkk with h0 | h0
            · omega
            · apply h0
              rw [hd, show j + 1 - 1 = j from rfl, getBang d j (by omega), e2]
          exact (Least.lexCmp_trans x d[j] d[j + 1] hle hst).2 (.inr (by omega))
      simp only [if_true]
      refine ⟨List.pairwise_append.2 ⟨h1, List.pairwise_singleton _ _, fun x hx y hy => ?_⟩, fun x => ?_, fun j hj e x hx => ?_⟩
      · rw [List.mem_singleton] at hy; subst hy; exact hlt x hx
      · rw [List.mem_append, h2, takeN d m (by omega), List.mem_append]
      · obtain rfl : j = m := by omega
        rcases List.mem_append.1 hx with hx | hx
        · have := hlt x hx; omega
        · rw [List.mem_singleton] at hx; subst hx; rw [Least.lexCmp_self]; omega
    | false =>
      simp only [Bool.false_eq_true, if_false, List.append_nil]
      have hkk := of_decide_eq_false hk
      have hm0 : m ≠ 0 := fun e => hkk (.inl e)
      obtain ⟨j, rfl⟩ : ∃ j, m = j + 1 := ⟨m - 1, by omega⟩
      have e : d[j + 1] = d[j] := by
        refine Classical.byContradiction fun hne => hkk (.inr ?_)
        rw [hd, show j + 1 - 1 = j from rfl, getBang d j (by omega)]; exact hne
      refine ⟨h1, fun x => ?_, fun i hi ei x hx => ?_⟩
      · rw [h2, takeN d (j + 1) (by omega), List.mem_append, List.mem_singleton]
        constructor
        · exact .inl
        · rintro (h | h)
          · exact h
          · subst h; rw [e, takeN d j (by omega)]; exact List.mem_append_right _ (List.mem_singleton.2 rfl)
      · obtain rfl : i = j + 1 := by omega
        rw [e]; exact h3 j (by omega) rfl x hx
theorem sortL_perm (l : List (List Int)) : (Least.sortL l).Perm l := List.mergeSort_perm _ _
theorem sortL_le (l : List (List Int)) (i : Nat) (h : i + 1 < (Least.sortL l).length) : Least.lexCmp (Least.sortL l)[i] (Least.sortL l)[i + 1] ≤ 0 := by
  have hp : (Least.sortL l).Pairwise (fun x y => (!(ltOf Least.lexCmp y x)) = true) := by
    refine List.pairwise_mergeSort ?_ ?_ l
    · intro a b c h1 h2
      simp only [ltOf, Bool.not_eq_true', decide_eq_false_iff_not] at *
      have e1 := Least.lexCmp_neg a b
      have e2 := Least.lexCmp_neg b c
      have e3 := Least.lexCmp_neg a c
      have := (Least.lexCmp_trans a b c (by omega) (by omega)).1
      omega
    · intro a b
      simp only [ltOf, Bool.or_eq_true, Bool.not_eq_true', decide_eq_false_iff_not]
      have e1 := Least.lexCmp_neg a b
      omega
  have := List.pairwise_iff_getElem.1 hp i (i + 1) (by omega) h (by omega)
  simp only [ltOf, Bool.not_eq_true', decide_eq_false_iff_not] at this
  have e1 := Least.lexCmp_neg (Least.sortL l)[i] (Least.sortL l)[i + 1]
  omega
theorem compact_sort (l : List (List Int)) : Inc (compact (Least.sortL l)) ∧ ∀ x, x ∈ compact (Least.sortL l) ↔ x ∈ l := by
  obtain ⟨h1, h2, _⟩ := compact_inc (Least.sortL l) (sortL_le l) (Least.sortL l).length (Nat.le_refl _)
  refine ⟨h1, fun x => ?_⟩
  unfold compact
  rw [h2, List.take_length]
  exact (sortL_perm l).mem_iff
theorem compactUpTo_length (d : Array (List Int)) : ∀ m, (compactUpTo d m).length ≤ m := by
  intro m
  unfold compactUpTo
  rw [List.length_map]
  exact Nat.le_trans (List.length_filter_le _ _) (by simp)
theorem compact_length (l : List (List Int)) : (compact (Least.sortL l)).length ≤ l.length := by
  have := compactUpTo_length (Least.sortL l).toArray (Least.sortL l).length
  unfold compact
  rw [← (sortL_perm l).length_eq]; exact this
def ins (m : List Int) : List (List Int) → List (List Int)
  | [] => [m]
  | e :: r => if Least.lexCmp m e = 0 then e :: r else if Least.lexCmp m e < 0 then m :: e :: r else e :: ins m r
theorem ins_mem (m : List Int) : ∀ L x, x ∈ ins m L ↔ x = m ∨ x ∈ L
  | [], x => by simp [ins]
  | e :: r, x => by
    unfold ins
    by_cases c : Least.lexCmp m e = 0
    · rw [if_pos c]
      have := Least.lexCmp_eq _ _ c
      subst this
      simp
    · rw [if_neg c]
      by_cases c2 : Least.lexCmp m e < 0
      · rw [if_pos c2]; simp
      · rw [if_neg c2, List.mem_cons, ins_mem m r x, List.mem_cons]
        constructor
        · rintro (h | h | h) <;> simp [h]
        · rintro (h | h | h) <;> simp [h]
theorem ins_inc (m : List Int) : ∀ L, Inc L → Inc (ins m L)
  | [], _ => List.pairwise_singleton _ _
  | e :: r, h => by
    have hp := List.pairwise_cons.1 h
    unfold ins
    by_cases c : Least.lexCmp m e = 0
    · rw [if_pos c]; exact h
    · rw [if_neg c]
      by_cases c2 : Least.lexCmp m e < 0
      · rw [if_pos c2]
        refine List.pairwise_cons.2 ⟨fun x hx => ?_, h⟩
        rcases List.mem_cons.1 hx with e1 | hx
        · subst e1; exact c2
        · have := hp.1 x hx
          exact (Least.lexCmp_trans m e x (by omega) (by omega)).2 (.inl c2)
      · rw [if_neg c2]
        refine List.pairwise_cons.2 ⟨fun x hx => ?_, ins_inc m r hp.2⟩
        rcases (ins_mem m r x).1 hx with e1 | hx
        · subst e1; have := Least.lexCmp_neg x e; omega
        · exact hp.1 x hx
theorem ins_length (m : List Int) : ∀ L, (ins m L).length ≤ L.length + 1
  | [] => by simp [ins]
  | e :: r => by
    unfold ins
    have := ins_length m r
    split
    · simp
    · split <;> simp <;> omega
end Go.Proofs.Ytiglhdibibbkjaa.Lib
