import Derived.Test.YthkmdanahoongaaF0
import Derived.Test.YthkmdanahoongaaF2
import Derived.Test.YthkmdanahoongaaF3
import Derived.Test.YthkmdanahoongaaCoverTree
import Derived.Test.YthkmdanahoongaaMarked
import Derived.Test.YthkmdanahoongaaNetMark
namespace Go.Proofs.Ythkmdanahoongaa.Lib
open Go.RowKit Go.Proofs.Ythkmdanahoongaa.F Go.Proofs.YthkmdanahoongaaW.PrintWords Go.Proofs.YthkmdanahoongaaW.PrintLast Go.Proofs.YthkmdanahoongaaW.PrintMore
structure SmallC (L : List Nd) : Prop where
  nodes : L.length ≤ 300
  row : ∀ c ∈ L, c.f0.length ≤ 16
theorem eqCoverNodeS_same (L : List Nd) (h : SmallC L) : Evt (fun k => laws_eqCoverNodeS.f k L L) true := by
  have hn := h.nodes
  have h0 := h
  have h : Evt (fun k => laws_eqCoverNodeS.l0 k L L ((0 : Nat) : Int)) (L.all (fun _ => true)) := by
    refine loop_allL (fun k i => laws_eqCoverNodeS.l0 k L L (i : Int)) L (fun _ => true) ?_ ?_ ?_
    · simp only [laws_eqCoverNodeS.l0]
      exact Evt.neg (natNotLt _) (Evt.ok _)
    · intro i hi _ r hr
      have er : rd_T93 L (i : Int) = L[i] := rdG L _ i hi
      have hs : Short L[i].f0 := by have := h0.row L[i] (List.getElem_mem hi); show L[i].f0.length ≤ _; omega
      simp only [laws_eqCoverNodeS.l0, er]
      rw [wrapN i _ hi (by omega)]
      refine Evt.pos (natLt _ _ hi) (Evt.pos (by omega) (Evt.pos (natLt _ _ hi) (Evt.bind (a := true) ?_ (Evt.pos rfl hr))))
      unfold laws_eqCoverNode.f
      exact Evt.bind (eqIntS_same _ hs) (Evt.pos rfl (Evt.pos rfl (Evt.pos rfl (Evt.neg (by simp) (Evt.ok _)))))
    · intro i hi hp; cases hp
  unfold laws_eqCoverNodeS.f
  first
    | exact h.cast (by simp)
    | exact Evt.pos rfl (h.cast (by simp))
def ndAt (n c : Nat) : Nd := ⟨iota n c, ((n + c : Nat) : Int), ((n + c + 1 : Nat) : Int), (Int.tmod ((n + c + 1 + 1 : Nat) : Int) 3) == 0⟩
inductive ChainC : List Nd → Nat → Nat → Prop
  | nil (n : Nat) : ChainC [] n n
  | cons (c n a : Nat) (L : List Nd) (hc : c ≤ 16) (h : ChainC L (n + c + 3) a) : ChainC (ndAt n c :: L) n a
theorem wrapC (n : Nat) (h : n + 1 ≤ 4611686018427387904) : wrap64 ((n : Int) + 1) = ((n + 1 : Nat) : Int) := wrapN n (n + 1) (by omega) h
theorem rdMidC (P : List Nd) (m : Nd) (L : List Nd) : rd_T93 (P ++ m :: L) (P.length : Int) = m := by
  rw [show rd_T93 (P ++ m :: L) (P.length : Int) = (P ++ m :: L)[P.length]'(by simp) from rdG _ _ _ (by simp)]; simp
theorem markCover_go (L : List Nd) : ∀ (P : List Nd) (n : Nat), n ≤ 1000000 * (P.length + 1) → P.length + L.length ≤ 300 → (∀ m ∈ L, m.f0.length ≤ 16) →
    ∃ (a : Nat) (R : List Nd), Evt (fun k => laws_markCoverNodeS.l0 k (P ++ L) (n : Int) (P.length : Int)) ((a : Int), P ++ R) ∧ ChainC R n a ∧ R.length = L.length ∧ a ≤ 1000000 * (P.length + L.length + 1) := by
  induction L with
  | nil =>
    intro P n hn hl _
    refine ⟨n, [], Evt.step ?_, ChainC.nil n, rfl, by simpa using hn⟩
    simp only [laws_markCoverNodeS.l0]
    exact Evt.neg (by simp) (Evt.ok _)
  | cons m L ih =>
    intro P n hn hl hr
    have hm := hr m (List.mem_cons_self ..)
    have hl' : P.length + (L.length + 1) ≤ 300 := hl
    obtain ⟨a, R, h1, h2, h3, h4⟩ := ih (P ++ [ndAt n m.f0.length]) (n + m.f0.length + 3) (by rw [List.length_append, List.length_singleton]; omega) (by rw [List.length_append, List.length_singleton]; omega) (fun x hx => hr x (List.mem_cons_of_mem _ hx))
    rw [List.length_append, List.length_singleton] at h1 h4
    refine ⟨a, ndAt n m.f0.length :: R, Evt.step ?_, ChainC.cons _ _ _ _ hm h2, by rw [List.length_cons, List.length_cons, h3], by rw [List.length_cons]; omega⟩
    simp only [laws_markCoverNodeS.l0, rdMidC]
    refine Evt.pos (by rw [List.length_append, List.length_cons]; omega) (Evt.pos (by omega) (Evt.bind (markIntS_ev m.f0 n (by omega)) ?_))
    rw [wrapC P.length (by omega), Int.toNat_natCast, wrapC _ (by omega), wrapC _ (by omega), wrapC _ (by omega)]
    rw [show (P ++ m :: L).set P.length (⟨iota n m.f0.length, ((n + m.f0.length : Nat) : Int), ((n + m.f0.length + 1 : Nat) : Int), (Int.tmod ((n + m.f0.length + 1 + 1 : Nat) : Int) 3) == 0⟩ : Nd) = P ++ ndAt n m.f0.length :: L by simp [ndAt]]
    rw [List.append_assoc, List.singleton_append] at h1
    rw [List.append_assoc, List.singleton_append] at h1
    exact h1
theorem heldCover_go (R : List Nd) : ∀ (P : List Nd) (n a : Nat), ChainC R n a → n ≤ 1000000 * (P.length + 1) → P.length + R.length ≤ 300 →
    Evt (fun k => laws_heldCoverNodeS.l0 k (P ++ R) (n : Int) (P.length : Int)) (a : Int) := by
  induction R with
  | nil =>
    intro P n a h hn hl
    cases h
    refine Evt.step ?_
    simp only [laws_heldCoverNodeS.l0]
    exact Evt.neg (by simp) (Evt.ok _)
  | cons x R ih =>
    intro P n a h hn hl
    have hl' : P.length + (R.length + 1) ≤ 300 := hl
    cases h with
    | cons c _ _ _ hc h =>
      have h1 := ih (P ++ [ndAt n c]) (n + c + 3) a h (by rw [List.length_append, List.length_singleton]; omega) (by rw [List.length_append, List.length_singleton]; omega)
      rw [List.length_append, List.length_singleton, List.append_assoc, List.singleton_append] at h1
      refine Evt.step ?_
      simp only [laws_heldCoverNodeS.l0, rdMidC]
      refine Evt.pos (by rw [List.length_append, List.length_cons]; omega) (Evt.pos (by omega) (Evt.bind (heldIntS_ev n c (by omega)) (Evt.neg (by omega) ?_)))
      rw [wrapC P.length (by omega), wrapC (n + c) (by omega), wrapC (n + c + 1) (by omega), wrapC (n + c + 1 + 1) (by omega)]
      exact Evt.pos rfl (Evt.pos rfl (Evt.neg (by simp [ndAt]) h1))
theorem markCover_ex (L : List Nd) (h : SmallC L) : ∃ (a : Nat) (R : List Nd), Evt (fun k => laws_markCoverNodeS.f k L 1) ((a : Int), R) ∧ Evt (fun k => laws_heldCoverNodeS.f k R 1) (a : Int) := by
  obtain ⟨a, R, h1, h2, h3, h4⟩ := markCover_go L [] 1 (by simp) (by simpa using h.nodes) h.row
  have k1 := heldCover_go R [] 1 a h2 (by simp) (by rw [List.length_nil, Nat.zero_add, h3]; exact h.nodes)
  simp only [List.nil_append, List.length_nil] at h1 k1
  refine ⟨a, R, ?_, ?_⟩
  · unfold laws_markCoverNodeS.f; exact h1
  · unfold laws_heldCoverNodeS.f; exact k1
theorem core_CoverTree (p : Int) (ts : List Tr) (m : List Int) (b : Int) (hs : SmallN ts) (hm : Short m) : ∃ r : List Nd × Bool, Evt (fun k => spec_CoverTree.f k p ts m b) r ∧ Evt (fun k => impl_CoverTree.f k p ts m b) r ∧ SmallC r.1 := by
  obtain ⟨⟨l, c⟩, e1, e2, e3, e4⟩ := tree_ex p ts m b hs hm
  refine ⟨(l, c), e1, ?_, ?_⟩
  · unfold impl_CoverTree.f
    exact Evt.bind e2 (Evt.ok _)
  · cases c with
    | false => rw [show l = [] from e3.2 rfl]; exact ⟨by simp, fun c hc => by cases hc⟩
    | true =>
      have hp := e4 rfl
      obtain ⟨hlb, hln⟩ := e3.1 rfl
      have hlb' : (l.length : Int) ≤ b := hlb
      exact ⟨by show l.length ≤ 300; omega, fun c hc => by have : c.f0.length = p.toNat := hln c hc; omega⟩
end Go.Proofs.Ythkmdanahoongaa.Lib
