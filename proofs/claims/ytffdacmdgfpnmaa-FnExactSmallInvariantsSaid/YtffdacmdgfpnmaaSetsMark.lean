import Derived.Test.YtffdacmdgfpnmaaF0
import Derived.Test.YtffdacmdgfpnmaaF4
import Derived.Test.YtffdacmdgfpnmaaNetMark
namespace Go.Proofs.Ytffdacmdgfpnmaa.Lib
open Go.RowKit Go.Proofs.Ytffdacmdgfpnmaa.F Go.Proofs.YtffdacmdgfpnmaaW.PrintWords Go.Proofs.YtffdacmdgfpnmaaW.PrintLast Go.Proofs.YtffdacmdgfpnmaaW.PrintMore
theorem rdL (l : List (List Int)) (i : Nat) (h : i < l.length) : rd_L1 l (i : Int) = l[i] := rdG l _ i h
theorem eqIntSS_same (M : List (List Int)) (hM : M.length ≤ 4000) (hS : ∀ m ∈ M, Short m) : Evt (fun k => laws_eqIntSS.f k M M) true := by
  have h : Evt (fun k => laws_eqIntSS.l0 k M M ((0 : Nat) : Int)) (M.all (fun _ => true)) := by
    refine loop_allL (fun k i => laws_eqIntSS.l0 k M M (i : Int)) M (fun _ => true) ?_ ?_ ?_
    · simp only [laws_eqIntSS.l0]
      exact Evt.neg (natNotLt _) (Evt.ok _)
    · intro i hi _ r hr
      have er : rd_L1 M (i : Int) = M[i] := rdL M i hi
      simp only [laws_eqIntSS.l0, er]
      rw [wrapN i _ hi (by omega)]
      exact Evt.pos (natLt _ _ hi) (Evt.pos (by omega) (Evt.pos (natLt _ _ hi) (Evt.bind (eqIntS_same _ (hS _ (List.getElem_mem hi))) (Evt.pos rfl hr))))
    · intro i hi hp; cases hp
  unfold laws_eqIntSS.f
  first
    | exact h.cast (by simp)
    | exact Evt.pos rfl (h.cast (by simp))
inductive ChainM : List (List Int) → Nat → Nat → Prop
  | nil (n : Nat) : ChainM [] n n
  | cons (c n a : Nat) (M : List (List Int)) (hc : c ≤ 16) (h : ChainM M (n + c) a) : ChainM (iota n c :: M) n a
theorem wrapS (n : Nat) (h : n + 1 ≤ 4611686018427387904) : wrap64 ((n : Int) + 1) = ((n + 1 : Nat) : Int) := wrapN n (n + 1) (by omega) h
theorem rdMid (P : List (List Int)) (m : List Int) (L : List (List Int)) : rd_L1 (P ++ m :: L) (P.length : Int) = m := by
  rw [rdL (P ++ m :: L) P.length (by simp)]; simp
theorem markIntSS_go (L : List (List Int)) : ∀ (P : List (List Int)) (n : Nat), n ≤ 1000000 * (P.length + 1) → P.length + L.length ≤ 4000 → (∀ m ∈ L, m.length ≤ 16) →
    ∃ (a : Nat) (R : List (List Int)), Evt (fun k => laws_markIntSS.l0 k (P ++ L) (n : Int) (P.length : Int)) ((a : Int), P ++ R) ∧ ChainM R n a ∧ R.length = L.length ∧ a ≤ 1000000 * (P.length + L.length + 1) := by
  induction L with
  | nil =>
    intro P n hn hl _
    refine ⟨n, [], Evt.step ?_, ChainM.nil n, rfl, by simpa using hn⟩
    simp only [laws_markIntSS.l0]
    exact Evt.neg (by simp) (Evt.ok _)
  | cons m L ih =>
    intro P n hn hl hr
    have hm := hr m (List.mem_cons_self ..)
    have hl' : P.length + (L.length + 1) ≤ 4000 := hl
    obtain ⟨a, R, h1, h2, h3, h4⟩ := ih (P ++ [iota n m.length]) (n + m.length) (by rw [List.length_append, List.length_singleton]; omega) (by rw [List.length_append, List.length_singleton]; omega) (fun x hx => hr x (List.mem_cons_of_mem _ hx))
    rw [List.length_append, List.length_singleton] at h1 h4
    refine ⟨a, iota n m.length :: R, Evt.step ?_, ChainM.cons _ _ _ _ hm h2, by rw [List.length_cons, List.length_cons, h3], by rw [List.length_cons]; omega⟩
    simp only [laws_markIntSS.l0, rdMid]
    refine Evt.pos (by rw [List.length_append, List.length_cons]; omega) (Evt.pos (by omega) (Evt.bind (markIntS_ev m n (by omega)) ?_))
    rw [wrapS P.length (by omega), Int.toNat_natCast, show (P ++ m :: L).set P.length (iota n m.length) = P ++ [iota n m.length] ++ L by simp]
    rw [List.append_assoc, List.singleton_append] at h1
    rw [List.append_assoc, List.singleton_append]
    rw [List.append_assoc, List.singleton_append] at h1
    exact h1
theorem heldIntSS_go (R : List (List Int)) : ∀ (P : List (List Int)) (n a : Nat), ChainM R n a → n ≤ 1000000 * (P.length + 1) → P.length + R.length ≤ 4000 →
    Evt (fun k => laws_heldIntSS.l0 k (P ++ R) (n : Int) (P.length : Int)) (a : Int) := by
  induction R with
  | nil =>
    intro P n a h hn hl
    cases h
    refine Evt.step ?_
    simp only [laws_heldIntSS.l0]
    exact Evt.neg (by simp) (Evt.ok _)
  | cons x R ih =>
    intro P n a h hn hl
    have hl' : P.length + (R.length + 1) ≤ 4000 := hl
    cases h with
    | cons c _ _ _ hc h =>
      have h1 := ih (P ++ [iota n c]) (n + c) a h (by rw [List.length_append, List.length_singleton]; omega) (by rw [List.length_append, List.length_singleton]; omega)
      rw [List.length_append, List.length_singleton, List.append_assoc, List.singleton_append] at h1
      refine Evt.step ?_
      simp only [laws_heldIntSS.l0, rdMid]
      refine Evt.pos (by rw [List.length_append, List.length_cons]; omega) (Evt.pos (by omega) (Evt.bind (heldIntS_ev n c (by omega)) (Evt.neg (by omega) ?_)))
      rw [wrapS P.length (by omega)]
      exact h1
end Go.Proofs.Ytffdacmdgfpnmaa.Lib
