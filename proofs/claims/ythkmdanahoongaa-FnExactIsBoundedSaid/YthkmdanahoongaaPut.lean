import Derived.Test.YthkmdanahoongaaF6
import Derived.Test.YthkmdanahoongaaFilter
import Derived.Test.YthkmdanahoongaaNetLib
namespace Go.Proofs.Ythkmdanahoongaa.Lib
open Go.RowKit Go.Proofs.Ythkmdanahoongaa.F Go.Proofs.YthkmdanahoongaaW.PrintWords Go.Proofs.YthkmdanahoongaaW.PrintLast Go.Proofs.YthkmdanahoongaaW.PrintMore
theorem picks_congr {T T' : Nat → Bool} {a d : Nat} (h : ∀ i, a ≤ i → i < a + d → T i = T' i) : picks T a d = picks T' a d := by
  unfold picks
  congr 1
  refine List.filter_congr fun i hi => ?_
  have := List.mem_range'_1.1 hi
  exact h i this.1 this.2
theorem picks_split (T : Nat → Bool) (p n : Nat) (h : p < n) : picks T 0 n = picks T 0 p ++ ((if T p = true then [(p : Int)] else []) ++ picks T (p + 1) (n - p - 1)) := by
  unfold picks
  have e : List.range' 0 n = List.range' 0 p ++ (p :: List.range' (p + 1) (n - p - 1)) := by
    have h1 := List.range'_append_1 (s := 0) (m := p) (n := (n - p - 1) + 1)
    rw [Nat.zero_add, List.range'_succ, show p + (n - p - 1 + 1) = n by omega] at h1
    exact h1.symm
  rw [e, List.filter_append, List.map_append, List.filter_cons]
  cases T p <;> simp
theorem mem_picks (T : Nat → Bool) (a d : Nat) (x : Int) (h : x ∈ picks T a d) : ∃ i : Nat, x = (i : Int) ∧ a ≤ i ∧ i < a + d ∧ T i = true := by
  simp only [picks, List.mem_map, List.mem_filter, List.mem_range'_1] at h
  obtain ⟨i, ⟨h1, h2⟩, h3⟩ := h
  exact ⟨i, h3.symm, h1.1, h1.2, h2⟩
theorem l1Put_ev (T : Nat → Bool) (p n : Nat) (h : p < n) (hn : n ≤ 1000) : Evt (fun k => spec_l1Put.f k (picks T 0 n) (p : Int)) (picks (fun i => T i || i == p) 0 n) := by
  have hs := picks_split T p n h
  have hs' := picks_split (fun i => T i || i == p) p n h
  have eA : picks (fun i => T i || i == p) 0 p = picks T 0 p := picks_congr fun i _ hi => by
    have : (i == p) = false := by simpa using (by omega : i ≠ p)
    simp [this]
  have eB : picks (fun i => T i || i == p) (p + 1) (n - p - 1) = picks T (p + 1) (n - p - 1) := picks_congr fun i hi _ => by
    have : (i == p) = false := by simpa using (by omega : i ≠ p)
    simp [this]
  rw [eA, eB] at hs'
  simp only [BEq.rfl, Bool.or_true, if_true] at hs'
  have hA : ∀ x ∈ picks T 0 p, x < (p : Int) := fun x hx => by obtain ⟨i, e, _, hi, _⟩ := mem_picks _ _ _ _ hx; omega
  have hB : ∀ x ∈ picks T (p + 1) (n - p - 1), (p : Int) < x := fun x hx => by obtain ⟨i, e, hi, _, _⟩ := mem_picks _ _ _ _ hx; omega
  have lA := picks_length T 0 p
  have lB := picks_length T (p + 1) (n - p - 1)
  generalize picks T 0 p = A at *
  generalize picks T (p + 1) (n - p - 1) = B at *
  rw [hs, hs']
  clear hs hs' eA eB
  unfold spec_l1Put.f
  have key : ∀ i, i ≤ A.length → ∀ _ : Unit, Evt (fun k => spec_l1Put.l0 k (A ++ ((if T p = true then [(p : Int)] else []) ++ B)) (p : Int) (i : Int)) (A ++ ([(p : Int)] ++ B)) := by
    refine down (P := fun i _ => Evt (fun k => spec_l1Put.l0 k (A ++ ((if T p = true then [(p : Int)] else []) ++ B)) (p : Int) (i : Int)) (A ++ ([(p : Int)] ++ B))) ?_ ?_
    · intro _
      refine Evt.step ?_
      cases hT : T p with
      | true =>
        rw [if_pos rfl]
        have hlt : A.length < (A ++ ([(p : Int)] ++ B)).length := by simp
        have er : rd (A ++ ([(p : Int)] ++ B)) (A.length : Int) = (p : Int) := by
          rw [rdN _ _ hlt, List.getElem_append_right (Nat.le_refl _)]; simp
        simp only [spec_l1Put.l0, er]
        exact Evt.pos (natLt _ _ hlt) (Evt.pos (by omega) (Evt.neg (by omega) (Evt.pos (by first | rfl | trivial) (Evt.ok _))))
      | false =>
        rw [if_neg (by decide), List.nil_append]
        have tk : (A ++ B).take A.length = A := by simp
        have dr : (A ++ B).drop A.length = B := by simp
        have ll : (A ++ B).length = A.length + B.length := List.length_append
        simp only [spec_l1Put.l0, Option.bind_some, List.nil_append, List.length_nil, Nat.zero_add, Int.toNat_natCast, tk, dr]
        by_cases hb : (A.length : Int) < ((A ++ B).length : Int)
        · have hlt : A.length < (A ++ B).length := by omega
          have er : rd (A ++ B) (A.length : Int) = (A ++ B)[A.length] := rdN _ _ hlt
          have hgt : (p : Int) < (A ++ B)[A.length] := by
            rw [List.getElem_append_right (Nat.le_refl _)]
            exact hB _ (List.getElem_mem _)
          rw [er]
          refine Evt.pos hb (Evt.pos (by omega) (Evt.neg (by omega) (Evt.neg (by omega) (Evt.pos (by omega) (Evt.pos (by omega) (Evt.pos (by omega) (Evt.pos (by simp; omega) ((Evt.ok _).cast (by simp)))))))))
        · exact Evt.neg hb (Evt.pos (by omega) (Evt.pos (by omega) (Evt.pos (by omega) (Evt.pos (by omega) (Evt.pos (by simp; omega) ((Evt.ok _).cast (by simp)))))))
    · intro i hi ih _
      have hlt : i < (A ++ ((if T p = true then [(p : Int)] else []) ++ B)).length := by rw [List.length_append]; omega
      have ll : (A ++ ((if T p = true then [(p : Int)] else []) ++ B)).length ≤ 4000 := by
        rw [List.length_append, List.length_append]
        have : (if T p = true then [(p : Int)] else []).length ≤ 1 := by split <;> simp
        omega
      have er : rd (A ++ ((if T p = true then [(p : Int)] else []) ++ B)) (i : Int) = A[i] := by rw [rdN _ _ hlt, List.getElem_append_left hi]
      have hlt2 := hA A[i] (List.getElem_mem hi)
      refine Evt.step ?_
      simp only [spec_l1Put.l0, er]
      rw [wrapN i _ hi (by omega)]
      exact Evt.pos (natLt _ _ hlt) (Evt.pos (by omega) (Evt.pos hlt2 (ih ())))
  exact key 0 (Nat.zero_le _) ()
end Go.Proofs.Ythkmdanahoongaa.Lib
