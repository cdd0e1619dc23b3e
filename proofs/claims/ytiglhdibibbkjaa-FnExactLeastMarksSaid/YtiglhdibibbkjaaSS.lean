import Derived.Test.YtiglhdibibbkjaaF0
import Derived.Test.YtiglhdibibbkjaaF1
import Derived.Test.YtiglhdibibbkjaaF2
import Derived.Test.YtiglhdibibbkjaaHeld
namespace Go.Proofs.Ytiglhdibibbkjaa.Lib
open Go.RowKit Go.Proofs.Ytiglhdibibbkjaa.F Go.Proofs.YtiglhdibibbkjaaW.PrintWords Go.Proofs.YtiglhdibibbkjaaW.PrintLast Go.Proofs.YtiglhdibibbkjaaW.PrintMore
def tot (L : List (List Int)) : Nat := (L.map List.length).sum
theorem tot_cons (x : List Int) (L : List (List Int)) : tot (x :: L) = x.length + tot L := by simp [tot]
theorem tot_mem {L : List (List Int)} {x : List Int} (h : x ∈ L) : x.length ≤ tot L := by
  induction L with
  | nil => cases h
  | cons y L ih =>
    rw [tot_cons]
    rcases List.mem_cons.1 h with rfl | h
    · omega
    · have := ih h; omega
theorem rdLL (l : List (List Int)) (i : Nat) (h : i < l.length) : rd_L1 l (i : Int) = l[i] := by
  unfold rd_L1; rw [Int.toNat_natCast]; simp [List.getD_eq_getElem?_getD, List.getElem?_eq_getElem h]
theorem szI_eq (l : List Int) (b : Int) (h0 : 0 ≤ b) (hb : b ≤ 1048576) (hl : l.length ≤ maxLen) : laws_szIntS.f l b = some (if b < (l.length : Int) then -1 else b - (l.length : Int)) := by
  unfold maxLen at hl
  have e : wrap64 (b - (l.length : Int)) = b - (l.length : Int) := wrap_id _ (by omega) (by omega)
  unfold laws_szIntS.f
  rw [e]
  by_cases h : b < (l.length : Int)
  · rw [if_pos (by omega), if_pos h]
  · rw [if_neg (by omega), if_neg h]
theorem szSS_ex (L : List (List Int)) (b : Int) (h0 : 0 ≤ b) (hb : b ≤ 1048576) (hl : L.length ≤ maxLen) (hr : ∀ x ∈ L, x.length ≤ maxLen) : ∃ r : Int, Evt (fun k => laws_szIntSS.f k L b) r ∧ (0 ≤ r → (L.length : Int) + (tot L : Int) + r = b) := by
  have e : wrap64 (b - (L.length : Int)) = b - (L.length : Int) := wrap_id _ (by unfold maxLen at hl; omega) (by omega)
  unfold laws_szIntSS.f
  rw [e]
  by_cases h : b < (L.length : Int)
  · exact ⟨-1, Evt.pos (by omega) (Evt.ok _), fun h => by omega⟩
  · have key : ∀ i, i ≤ L.length → ∀ s : Int, 0 ≤ s ∧ s ≤ 1048576 → ∃ r : Int, Evt (fun k => laws_szIntSS.l0 k L s (i : Int)) r ∧ (0 ≤ r → (tot (L.drop i) : Int) + r = s) := by
      refine down (P := fun i (s : Int) => 0 ≤ s ∧ s ≤ 1048576 → ∃ r : Int, Evt (fun k => laws_szIntSS.l0 k L s (i : Int)) r ∧ (0 ≤ r → (tot (L.drop i) : Int) + r = s)) ?_ ?_
      · intro s hs
        refine ⟨s, Evt.step ?_, fun _ => by rw [List.drop_length]; simp [tot]⟩
        simp only [laws_szIntSS.l0]
        exact Evt.neg (natNotLt _) (Evt.ok _)
      · intro i hi ih s hs
        have hz := szI_eq L[i] s hs.1 hs.2 (hr _ (List.getElem_mem hi))
        have ed : tot (L.drop i) = L[i].length + tot (L.drop (i + 1)) := by rw [dropN L i hi, tot_cons]
        by_cases c : s < (L[i].length : Int)
        · rw [if_pos c] at hz
          refine ⟨-1, Evt.step ?_, fun h => by omega⟩
          simp only [laws_szIntSS.l0, rdLL L i hi]
          exact Evt.pos (natLt _ _ hi) (Evt.pos (by omega) (Evt.bind0 hz (Evt.pos (by omega) (Evt.ok _))))
        · rw [if_neg c] at hz
          obtain ⟨r, e1, e2⟩ := ih (s - (L[i].length : Int)) ⟨by omega, by omega⟩
          refine ⟨r, Evt.step ?_, fun h => by have := e2 h; rw [ed]; omega⟩
          simp only [laws_szIntSS.l0, rdLL L i hi, wrapN i _ hi (by omega)]
          exact Evt.pos (natLt _ _ hi) (Evt.pos (by omega) (Evt.bind0 hz (Evt.neg (by omega) e1)))
    obtain ⟨r, e1, e2⟩ := key 0 (Nat.zero_le _) (b - (L.length : Int)) ⟨by omega, by omega⟩
    exact ⟨r, Evt.neg (by omega) e1, fun h => by have := e2 h; rw [List.drop_zero] at this; omega⟩
theorem toSS_ev (L : List (List Int)) (hl : L.length ≤ 1048576) (hr : ∀ x ∈ L, Short x) : Evt (fun k => laws_toIntSS.f k L) L := by
  have key : ∀ i, i ≤ L.length → ∀ s : List (List Int), s.length = L.length → s.take i = L.take i → Evt (fun k => laws_toIntSS.l0 k L s i) L := by
    refine down (P := fun i s => s.length = L.length → s.take i = L.take i → Evt (fun k => laws_toIntSS.l0 k L s i) L) ?_ ?_
    · intro s hs ht
      refine Evt.step ?_
      simp only [laws_toIntSS.l0]
      refine Evt.neg (natNotLt _) ?_
      have e : s = L := by
        rw [List.take_of_length_le (by omega), List.take_of_length_le (Nat.le_refl _)] at ht
        exact ht
      rw [e]; exact Evt.ok _
    · intro i hi ih s hs ht
      refine Evt.step ?_
      simp only [laws_toIntSS.l0, rdLL L i hi]
      refine Evt.pos (natLt _ _ hi) (Evt.pos (by omega) (Evt.bind (toIntS_ev L[i] (hr _ (List.getElem_mem hi))) (Evt.pos (by omega) ?_)))
      rw [wrapN i _ hi (by omega)]
      refine ih _ (by simpa using hs) ?_
      rw [Int.toNat_natCast, takeN L i hi, takeN _ i (by simp; omega), List.take_set_of_le (Nat.le_refl i), ht]
      simp
  unfold laws_toIntSS.f
  refine Evt.pos (by omega) (Evt.pos (by rw [Int.toNat_natCast]; omega) ?_)
  rw [Int.toNat_natCast]
  exact key 0 (Nat.zero_le _) _ (by simp) (by simp)
theorem eqSS_same (M : List (List Int)) (hM : M.length ≤ 1048576) (hS : ∀ m ∈ M, Short m) : Evt (fun k => laws_eqIntSS.f k M M) true := by
  have key : ∀ i, i ≤ M.length → ∀ _ : Unit, Evt (fun k => laws_eqIntSS.l0 k M M (i : Int)) true := by
    refine down (P := fun i _ => Evt (fun k => laws_eqIntSS.l0 k M M (i : Int)) true) ?_ ?_
    · intro _
      refine Evt.step ?_
      simp only [laws_eqIntSS.l0]
      exact Evt.neg (natNotLt _) (Evt.ok _)
    · intro i hi ih _
      refine Evt.step ?_
      simp only [laws_eqIntSS.l0, rdLL M i hi, wrapN i _ hi (by omega)]
      exact Evt.pos (natLt _ _ hi) (Evt.pos (by omega) (Evt.pos (natLt _ _ hi) (Evt.bind (eqIntS_same _ (hS _ (List.getElem_mem hi))) (Evt.pos rfl (ih ())))))
  have h := key 0 (Nat.zero_le _) ()
  unfold laws_eqIntSS.f
  exact Evt.pos rfl h
inductive ChainS : List (List Int) → Nat → Nat → Prop
  | nil (n : Nat) : ChainS [] n n
  | cons (c n a : Nat) (M : List (List Int)) (h : ChainS M (n + c) a) : ChainS (iota n c :: M) n a
theorem ChainS.le {M : List (List Int)} {n a : Nat} (h : ChainS M n a) : n ≤ a := by
  induction h with
  | nil => exact Nat.le_refl _
  | cons _ _ _ _ _ ih => omega
theorem rdMidS (P : List (List Int)) (m : List Int) (L : List (List Int)) : rd_L1 (P ++ m :: L) (P.length : Int) = m := by
  rw [rdLL (P ++ m :: L) P.length (by simp)]; simp
theorem wrapSS (n : Nat) (h : n + 1 ≤ 4611686018427387904) : wrap64 ((n : Int) + 1) = ((n + 1 : Nat) : Int) := wrapN n (n + 1) (by omega) h
theorem markSS_go (L : List (List Int)) : ∀ (P : List (List Int)) (n : Nat), n + tot L ≤ 2305843009213693952 → P.length + L.length ≤ 2305843009213693952 →
    ∃ R : List (List Int), Evt (fun k => laws_markIntSS.l0 k (P ++ L) (n : Int) (P.length : Int)) (((n + tot L : Nat) : Int), P ++ R) ∧ ChainS R n (n + tot L) ∧ R.length = L.length := by
  induction L with
  | nil =>
    intro P n hn hl
    refine ⟨[], Evt.step ?_, by simpa [tot] using ChainS.nil n, rfl⟩
    simp only [laws_markIntSS.l0]
    exact Evt.neg (by simp) ((Evt.ok _).cast (by simp [tot]))
  | cons m L ih =>
    intro P n hn hl
    rw [tot_cons] at hn
    have hl' : P.length + (L.length + 1) ≤ 2305843009213693952 := hl
    obtain ⟨R, h1, h2, h3⟩ := ih (P ++ [iota n m.length]) (n + m.length) (by omega) (by rw [List.length_append, List.length_singleton]; omega)
    rw [List.length_append, List.length_singleton] at h1
    have ea : n + tot (m :: L) = n + m.length + tot L := by rw [tot_cons]; omega
    refine ⟨iota n m.length :: R, Evt.step ?_, by rw [ea]; exact ChainS.cons _ _ _ _ h2, by rw [List.length_cons, List.length_cons, h3]⟩
    simp only [laws_markIntSS.l0, rdMidS]
    refine Evt.pos (by rw [List.length_append, List.length_cons]; omega) (Evt.pos (by omega) (Evt.bind (markIntS_ev m n (by omega)) ?_))
    rw [wrapSS P.length (by omega), Int.toNat_natCast, show (P ++ m :: L).set P.length (iota n m.length) = P ++ [iota n m.length] ++ L by simp]
    rw [ea]
    rw [List.append_assoc P [iota n m.length] R, List.singleton_append] at h1
    exact h1
theorem heldSS_go (R : List (List Int)) : ∀ (P : List (List Int)) (n a : Nat), ChainS R n a → a ≤ 2305843009213693952 → P.length + R.length ≤ 2305843009213693952 →
    Evt (fun k => laws_heldIntSS.l0 k (P ++ R) (n : Int) (P.length : Int)) (a : Int) := by
  induction R with
  | nil =>
    intro P n a h hn hl
    cases h
    refine Evt.step ?_
    simp only [laws_heldIntSS.l0]
    exact Evt.neg (by simp) (Evt.ok _)
  | cons x R ih =>
    intro P n a h hn hl
    have hl' : P.length + (R.length + 1) ≤ 2305843009213693952 := hl
    cases h with
    | cons c _ _ _ h =>
      have hle := h.le
      have h1 := ih (P ++ [iota n c]) (n + c) a h hn (by rw [List.length_append, List.length_singleton]; omega)
      rw [List.length_append, List.length_singleton, List.append_assoc, List.singleton_append] at h1
      refine Evt.step ?_
      simp only [laws_heldIntSS.l0, rdMidS]
      refine Evt.pos (by rw [List.length_append, List.length_cons]; omega) (Evt.pos (by omega) (Evt.bind (heldIntS_ev n c (by omega)) (Evt.neg (by omega) ?_)))
      rw [wrapSS P.length (by omega)]
      exact h1
theorem markSS_ex (L : List (List Int)) (n : Nat) (hn : n + tot L ≤ 2305843009213693952) (hl : L.length ≤ 2305843009213693952) : ∃ R : List (List Int), Evt (fun k => laws_markIntSS.f k L (n : Int)) (((n + tot L : Nat) : Int), R) ∧ Evt (fun k => laws_heldIntSS.f k R (n : Int)) ((n + tot L : Nat) : Int) := by
  obtain ⟨R, h1, h2, h3⟩ := markSS_go L [] n hn (by simpa using hl)
  have h4 := heldSS_go R [] n (n + tot L) h2 hn (by rw [List.length_nil, Nat.zero_add, h3]; exact hl)
  simp only [List.nil_append, List.length_nil] at h1 h4
  refine ⟨R, ?_, ?_⟩
  · unfold laws_markIntSS.f; exact h1
  · unfold laws_heldIntSS.f; exact h4
end Go.Proofs.Ytiglhdibibbkjaa.Lib
