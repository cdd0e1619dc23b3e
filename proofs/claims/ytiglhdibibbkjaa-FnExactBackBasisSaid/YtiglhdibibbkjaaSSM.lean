import Derived.Test.YtiglhdibibbkjaaF0
import Derived.Test.YtiglhdibibbkjaaF6
import Derived.Test.YtiglhdibibbkjaaHeld
import Derived.Test.YtiglhdibibbkjaaSS0
namespace Go.Proofs.Ytiglhdibibbkjaa.Lib
open Go.RowKit Go.Proofs.Ytiglhdibibbkjaa.F Go.Proofs.YtiglhdibibbkjaaW.PrintWords Go.Proofs.YtiglhdibibbkjaaW.PrintLast Go.Proofs.YtiglhdibibbkjaaW.PrintMore
theorem eqSS_same (M : List (List Int)) (hM : M.length ≤ 1048576) (hS : ∀ m ∈ M, Short m) : Evt (fun k => laws_eqIntSS.f k M M) true := by
  have key : ∀ i, i ≤ M.length → ∀ _ : Unit, Evt (fun k => laws_eqIntSS.l0 k M M (i : Int)) true := by
    refine down (P := fun i _ => Evt (fun k => laws_eqIntSS.l0 k M M (i : Int)) true) ?_ ?_
    · intro _
      refine Evt.step ?_
      simp only [laws_eqIntSS.l0]
      exact Evt.neg (natNotLt _) (Evt.ok _)
    · intro i hi ih _
      refine Evt.step ?_
      simp only [laws_eqIntSS.l0, rdLL M i hi, wrapN i _ hi (by omega)]
      exact Evt.pos (natLt _ _ hi) (Evt.pos (by omega) (Evt.pos (natLt _ _ hi) (Evt.bind (eqIntS_same _ (hS _ (List.getElem_mem hi))) (Evt.pos rfl (ih ())))))
  have h := key 0 (Nat.zero_le _) ()
  unfold laws_eqIntSS.f
  exact Evt.pos rfl h
inductive ChainS : List (List Int) → Nat → Nat → Prop
  | nil (n : Nat) : ChainS [] n n
  | cons (c n a : Nat) (M : List (List Int)) (h : ChainS M (n + c) a) : ChainS (iota n c :: M) n a
theorem ChainS.le {M : List (List Int)} {n a : Nat} (h : ChainS M n a) : n ≤ a := by
  induction h with
  | nil => exact Nat.le_refl _
  | cons _ _ _ _ _ ih => omega
theorem rdMidS (P : List (List Int)) (m : List Int) (L : List (List Int)) : rd_L1 (P ++ m :: L) (P.length : Int) = m := by
  rw [rdLL (P ++ m :: L) P.length (by simp)]; simp
theorem wrapSS (n : Nat) (h : n + 1 ≤ 4611686018427387904) : wrap64 ((n : Int) + 1) = ((n + 1 : Nat) : Int) := wrapN n (n + 1) (by omega) h
theorem markSS_go (L : List (List Int)) : ∀ (P : List (List Int)) (n : Nat), n + tot L ≤ 2305843009213693952 → P.length + L.length ≤ 2305843009213693952 →
    ∃ R : List (List Int), Evt (fun k => laws_markIntSS.l0 k (P ++ L) (n : Int) (P.length : Int)) (((n + tot L : Nat) : Int), P ++ R) ∧ ChainS R n (n + tot L) ∧ R.length = L.length := by
  induction L with
  | nil =>
    intro P n hn hl
    refine ⟨[], Evt.step ?_, by simpa [tot] using ChainS.nil n, rfl⟩
    simp only [laws_markIntSS.l0]
    exact Evt.neg (by simp) ((Evt.ok _).cast (by simp [tot]))
  | cons m L ih =>
    intro P n hn hl
    rw [tot_cons] at hn
    have hl' : P.length + (L.length + 1) ≤ 2305843009213693952 := hl
    obtain ⟨R, h1, h2, h3⟩ := ih (P ++ [iota n m.length]) (n + m.length) (by omega) (by rw [List.length_append, List.length_singleton]; omega)
    rw [List.length_append, List.length_singleton] at h1
    have ea : n + tot (m :: L) = n + m.length + tot L := by rw [tot_cons]; omega
    refine ⟨iota n m.length :: R, Evt.step ?_, by rw [ea]; exact ChainS.cons _ _ _ _ h2, by rw [List.length_cons, List.length_cons, h3]⟩
    simp only [laws_markIntSS.l0, rdMidS]
    refine Evt.pos (by rw [List.length_append, List.length_cons]; omega) (Evt.pos (by omega) (Evt.bind (markIntS_ev m n (by omega)) ?_))
    rw [wrapSS P.length (by omega), Int.toNat_natCast, show (P ++ m :: L).set P.length (iota n m.length) = P ++ [iota n m.length] ++ L by simp]
    rw [ea]
    rw [List.append_assoc P [iota n m.length] R, List.singleton_append] at h1
    exact h1
theorem heldSS_go (R : List (List Int)) : ∀ (P : List (List Int)) (n a : Nat), ChainS R n a → a ≤ 2305843009213693952 → P.length + R.length ≤ 2305843009213693952 →
    Evt (fun k => laws_heldIntSS.l0 k (P ++ R) (n : Int) (P.length : Int)) (a : Int) := by
  induction R with
  | nil =>
    intro P n a h hn hl
    cases h
    refine Evt.step ?_
    simp only [laws_heldIntSS.l0]
    exact Evt.neg (by simp) (Evt.ok _)
  | cons x R ih =>
    intro P n a h hn hl
    have hl' : P.length + (R.length + 1) ≤ 2305843009213693952 := hl
    cases h with
    | cons c _ _ _ h =>
      have hle := h.le
      have h1 := ih (P ++ [iota n c]) (n + c) a h hn (by rw [List.length_append, List.length_singleton]; omega)
      rw [List.length_append, List.length_singleton, List.append_assoc, List.singleton_append] at h1
      refine Evt.step ?_
      simp only [laws_heldIntSS.l0, rdMidS]
      refine Evt.pos (by rw [List.length_append, List.length_cons]; omega) (Evt.pos (by omega) (Evt.bind (heldIntS_ev n c (by omega)) (Evt.neg (by omega) ?_)))
      rw [wrapSS P.length (by omega)]
      exact h1
theorem markSS_ex (L : List (List Int)) (n : Nat) (hn : n + tot L ≤ 2305843009213693952) (hl : L.length ≤ 2305843009213693952) : ∃ R : List (List Int), Evt (fun k => laws_markIntSS.f k L (n : Int)) (((n + tot L : Nat) : Int), R) ∧ Evt (fun k => laws_heldIntSS.f k R (n : Int)) ((n + tot L : Nat) : Int) := by
  obtain ⟨R, h1, h2, h3⟩ := markSS_go L [] n hn (by simpa using hl)
  have h4 := heldSS_go R [] n (n + tot L) h2 hn (by rw [List.length_nil, Nat.zero_add, h3]; exact hl)
  simp only [List.nil_append, List.length_nil] at h1 h4
  refine ⟨R, ?_, ?_⟩
  · unfold laws_markIntSS.f; exact h1
  · unfold laws_heldIntSS.f; exact h4
end Go.Proofs.Ytiglhdibibbkjaa.Lib
