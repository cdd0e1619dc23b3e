/- Spaces: compared, marked, and looked at for their marks. -/
import Derived.Test.YthkmdanahoongaaF0
import Derived.Test.YthkmdanahoongaaF2
import Derived.Test.YthkmdanahoongaaF3
import Derived.Test.YthkmdanahoongaaF6
import Derived.Test.YthkmdanahoongaaExplore
import Derived.Test.YthkmdanahoongaaMarked
import Derived.Test.YthkmdanahoongaaNetMark
namespace Go.Proofs.Ythkmdanahoongaa.Lib
open Go.RowKit Go.Proofs.Ythkmdanahoongaa.F Go.Proofs.YthkmdanahoongaaW.PrintWords Go.Proofs.YthkmdanahoongaaW.PrintLast Go.Proofs.YthkmdanahoongaaW.PrintMore
set_option linter.unusedVariables false
set_option linter.unusedSimpArgs false
/-- A space of the size that both sides make. -/
structure SmallS (M : List (List Int)) (A : List ArcT) : Prop where
  rows : M.length ≤ 400
  row : ∀ m ∈ M, m.length ≤ 16
  arcs : A.length ≤ 9600
theorem SmallS.short {M : List (List Int)} {A : List ArcT} (h : SmallS M A) : ∀ m ∈ M, Short m := fun m hm => by have := h.row m hm; show m.length ≤ _; omega
theorem eqIntSS_same (M : List (List Int)) (hM : M.length ≤ 400) (hS : ∀ m ∈ M, Short m) : Evt (fun k => laws_eqIntSS.f k M M) true := by
  have h : Evt (fun k => laws_eqIntSS.l0 k M M ((0 : Nat) : Int)) (M.all (fun _ => true)) := by
    refine loop_allL (fun k i => laws_eqIntSS.l0 k M M (i : Int)) M (fun _ => true) ?_ ?_ ?_
    · simp only [laws_eqIntSS.l0]
      exact Evt.neg (natNotLt _) (Evt.ok _)
    · intro i hi _ r hr
      have er : rd_L1 M (i : Int) = M[i] := rdL M i hi
      simp only [laws_eqIntSS.l0, er]
      rw [wrapN i _ hi (by omega)]
      exact Evt.pos (natLt _ _ hi) (Evt.pos (by omega) (Evt.pos (natLt _ _ hi) (Evt.bind (eqIntS_same _ (hS _ (List.getElem_mem hi))) (Evt.pos rfl hr))))
    · intro i hi hp; cases hp
  unfold laws_eqIntSS.f
  first
    | exact h.cast (by simp)
    | exact Evt.pos rfl (h.cast (by simp))
theorem eqArcS_same (A : List ArcT) (hA : A.length ≤ 9600) : Evt (fun k => laws_eqArcS.f k A A) true := by
  have h : Evt (fun k => laws_eqArcS.l0 k A A ((0 : Nat) : Int)) (A.all (fun _ => true)) := by
    refine loop_allL (fun k i => laws_eqArcS.l0 k A A (i : Int)) A (fun _ => true) ?_ ?_ ?_
    · simp only [laws_eqArcS.l0]
      exact Evt.neg (natNotLt _) (Evt.ok _)
    · intro i hi _ r hr
      have er : rd_T116 A (i : Int) = A[i] := rdG A _ i hi
      simp only [laws_eqArcS.l0, er]
      rw [wrapN i _ hi (by omega)]
      exact Evt.pos (natLt _ _ hi) (Evt.pos (by omega) (Evt.pos (natLt _ _ hi) (Evt.bind0 (a := true) (by simp [laws_eqArc.f]) (Evt.pos rfl hr))))
    · intro i hi hp; cases hp
  unfold laws_eqArcS.f
  first
    | exact h.cast (by simp)
    | exact Evt.pos rfl (h.cast (by simp))
theorem eqSpace_same (M : List (List Int)) (A : List ArcT) (h : SmallS M A) : Evt (fun k => laws_eqSpace.f k M A M A) true := by
  unfold laws_eqSpace.f
  exact Evt.bind (eqIntSS_same M h.rows h.short) (Evt.pos rfl (Evt.bind (eqArcS_same A h.arcs) (Evt.pos rfl (Evt.ok _))))
/-- Rows that hold their marks, from n to a. -/
inductive ChainM : List (List Int) → Nat → Nat → Prop
  | nil (n : Nat) : ChainM [] n n
  | cons (c n a : Nat) (M : List (List Int)) (hc : c ≤ 16) (h : ChainM M (n + c) a) : ChainM (iota n c :: M) n a
inductive ChainA : List ArcT → Nat → Nat → Prop
  | nil (n : Nat) : ChainA [] n n
  | cons (n a : Nat) (A : List ArcT) (h : ChainA A (n + 3) a) : ChainA ((⟨(n : Int), ((n + 1 : Nat) : Int), ((n + 2 : Nat) : Int)⟩ : ArcT) :: A) n a
theorem wrapS (n : Nat) (h : n + 1 ≤ 4611686018427387904) : wrap64 ((n : Int) + 1) = ((n + 1 : Nat) : Int) := wrapN n (n + 1) (by omega) h
theorem rdMid (P : List (List Int)) (m : List Int) (L : List (List Int)) : rd_L1 (P ++ m :: L) (P.length : Int) = m := by
  rw [rdL (P ++ m :: L) P.length (by simp)]; simp
theorem rdMidA (P : List ArcT) (m : ArcT) (L : List ArcT) : rd_T116 (P ++ m :: L) (P.length : Int) = m := by
  rw [show rd_T116 (P ++ m :: L) (P.length : Int) = (P ++ m :: L)[P.length]'(by simp) from rdG _ _ _ (by simp)]; simp
theorem markIntSS_go (L : List (List Int)) : ∀ (P : List (List Int)) (n : Nat), n ≤ 1000000 * (P.length + 1) → P.length + L.length ≤ 400 → (∀ m ∈ L, m.length ≤ 16) →
    ∃ (a : Nat) (R : List (List Int)), Evt (fun k => laws_markIntSS.l0 k (P ++ L) (n : Int) (P.length : Int)) ((a : Int), P ++ R) ∧ ChainM R n a ∧ R.length = L.length ∧ a ≤ 1000000 * (P.length + L.length + 1) := by
  induction L with
  | nil =>
    intro P n hn hl _
    refine ⟨n, [], Evt.step ?_, ChainM.nil n, rfl, by simpa using hn⟩
    simp only [laws_markIntSS.l0]
    exact Evt.neg (by simp) (Evt.ok _)
  | cons m L ih =>
    intro P n hn hl hr
    have hm := hr m (List.mem_cons_self ..)
    have hl' : P.length + (L.length + 1) ≤ 400 := hl
    obtain ⟨a, R, h1, h2, h3, h4⟩ := ih (P ++ [iota n m.length]) (n + m.length) (by rw [List.length_append, List.length_singleton]; omega) (by rw [List.length_append, List.length_singleton]; omega) (fun x hx => hr x (List.mem_cons_of_mem _ hx))
    rw [List.length_append, List.length_singleton] at h1 h4
    refine ⟨a, iota n m.length :: R, Evt.step ?_, ChainM.cons _ _ _ _ hm h2, by rw [List.length_cons, List.length_cons, h3], by rw [List.length_cons]; omega⟩
    simp only [laws_markIntSS.l0, rdMid]
    refine Evt.pos (by rw [List.length_append, List.length_cons]; omega) (Evt.pos (by omega) (Evt.bind (markIntS_ev m n (by omega)) ?_))
    rw [wrapS P.length (by omega), Int.toNat_natCast, show (P ++ m :: L).set P.length (iota n m.length) = P ++ [iota n m.length] ++ L by simp]
    rw [List.append_assoc, List.singleton_append] at h1
    rw [List.append_assoc, List.singleton_append]
    rw [List.append_assoc, List.singleton_append] at h1
    exact h1
theorem heldIntSS_go (R : List (List Int)) : ∀ (P : List (List Int)) (n a : Nat), ChainM R n a → n ≤ 1000000 * (P.length + 1) → P.length + R.length ≤ 400 →
    Evt (fun k => laws_heldIntSS.l0 k (P ++ R) (n : Int) (P.length : Int)) (a : Int) := by
  induction R with
  | nil =>
    intro P n a h hn hl
    cases h
    refine Evt.step ?_
    simp only [laws_heldIntSS.l0]
    exact Evt.neg (by simp) (Evt.ok _)
  | cons x R ih =>
    intro P n a h hn hl
    have hl' : P.length + (R.length + 1) ≤ 400 := hl
    cases h with
    | cons c _ _ _ hc h =>
      have h1 := ih (P ++ [iota n c]) (n + c) a h (by rw [List.length_append, List.length_singleton]; omega) (by rw [List.length_append, List.length_singleton]; omega)
      rw [List.length_append, List.length_singleton, List.append_assoc, List.singleton_append] at h1
      refine Evt.step ?_
      simp only [laws_heldIntSS.l0, rdMid]
      refine Evt.pos (by rw [List.length_append, List.length_cons]; omega) (Evt.pos (by omega) (Evt.bind (heldIntS_ev n c (by omega)) (Evt.neg (by omega) ?_)))
      rw [wrapS P.length (by omega)]
      exact h1
theorem markArcS_go (L : List ArcT) : ∀ (P : List ArcT) (n : Nat), n ≤ 1000000000 + 3 * P.length → P.length + L.length ≤ 9600 →
    ∃ (a : Nat) (R : List ArcT), Evt (fun k => laws_markArcS.l0 k (P ++ L) (n : Int) (P.length : Int)) ((a : Int), P ++ R) ∧ ChainA R n a ∧ R.length = L.length ∧ a ≤ 1000000000 + 3 * (P.length + L.length) := by
  induction L with
  | nil =>
    intro P n hn hl
    refine ⟨n, [], Evt.step ?_, ChainA.nil n, rfl, by simpa using hn⟩
    simp only [laws_markArcS.l0]
    exact Evt.neg (by simp) (Evt.ok _)
  | cons m L ih =>
    intro P n hn hl
    have hl' : P.length + (L.length + 1) ≤ 9600 := hl
    obtain ⟨a, R, h1, h2, h3, h4⟩ := ih (P ++ [(⟨(n : Int), ((n + 1 : Nat) : Int), ((n + 2 : Nat) : Int)⟩ : ArcT)]) (n + 3) (by rw [List.length_append, List.length_singleton]; omega) (by rw [List.length_append, List.length_singleton]; omega)
    rw [List.length_append, List.length_singleton] at h1 h4
    refine ⟨a, (⟨(n : Int), ((n + 1 : Nat) : Int), ((n + 2 : Nat) : Int)⟩ : ArcT) :: R, Evt.step ?_, ChainA.cons _ _ _ h2, by rw [List.length_cons, List.length_cons, h3], by rw [List.length_cons]; omega⟩
    have e1 : ∀ x : ArcT, (P ++ m :: L).set P.length x = P ++ x :: L := fun x => by simp
    have e2 : ∀ x y : ArcT, (P ++ y :: L).set P.length x = P ++ x :: L := fun x y => by simp
    simp only [laws_markArcS.l0, Option.bind_some, Int.toNat_natCast, e2, rdMidA]
    rw [wrapS n (by omega), wrapS (n + 1) (by omega), wrapS (n + 1 + 1) (by omega), wrapS P.length (by omega)]
    refine Evt.pos (by rw [List.length_append, List.length_cons]; omega) (Evt.pos (by omega) ?_)
    rw [List.append_assoc, List.singleton_append, List.append_assoc, List.singleton_append] at h1
    exact h1
theorem heldArcS_go (R : List ArcT) : ∀ (P : List ArcT) (n a : Nat), ChainA R n a → n ≤ 1000000000 + 3 * P.length → P.length + R.length ≤ 9600 →
    Evt (fun k => laws_heldArcS.l0 k (P ++ R) (n : Int) (P.length : Int)) (a : Int) := by
  induction R with
  | nil =>
    intro P n a h hn hl
    cases h
    refine Evt.step ?_
    simp only [laws_heldArcS.l0]
    exact Evt.neg (by simp) (Evt.ok _)
  | cons x R ih =>
    intro P n a h hn hl
    have hl' : P.length + (R.length + 1) ≤ 9600 := hl
    cases h with
    | cons _ _ _ h =>
      have h1 := ih (P ++ [(⟨(n : Int), ((n + 1 : Nat) : Int), ((n + 2 : Nat) : Int)⟩ : ArcT)]) (n + 3) a h (by rw [List.length_append, List.length_singleton]; omega) (by rw [List.length_append, List.length_singleton]; omega)
      rw [List.length_append, List.length_singleton, List.append_assoc, List.singleton_append] at h1
      refine Evt.step ?_
      simp only [laws_heldArcS.l0, rdMidA]
      rw [wrapS n (by omega), wrapS (n + 1) (by omega), wrapS (n + 1 + 1) (by omega), wrapS P.length (by omega)]
      exact Evt.pos (by rw [List.length_append, List.length_cons]; omega) (Evt.pos (by omega) (Evt.pos (by first | rfl | trivial) (Evt.pos (by first | rfl | trivial) (Evt.pos (by first | rfl | trivial) h1))))
/-- Marking a space, and finding the marks. -/
theorem markSpace_ex (M : List (List Int)) (A : List ArcT) (h : SmallS M A) : ∃ (a : Nat) (M' : List (List Int)) (A' : List ArcT), Evt (fun k => laws_markSpace.f k M A 1) ((a : Int), M', A') ∧ Evt (fun k => laws_heldSpace.f k M' A' 1) (a : Int) := by
  obtain ⟨b, M', h1, h2, h3, h4⟩ := markIntSS_go M [] 1 (by simp) (by simpa using h.rows) h.row
  have hb : b ≤ 1000000000 := by have := h.rows; simp only [List.length_nil] at h4; omega
  obtain ⟨a, A', g1, g2, g3, g4⟩ := markArcS_go A [] b (by simpa using hb) (by simpa using h.arcs)
  have k1 := heldIntSS_go M' [] 1 b h2 (by simp) (by rw [List.length_nil, Nat.zero_add, h3]; exact h.rows)
  have k2 := heldArcS_go A' [] b a g2 (by simpa using hb) (by rw [List.length_nil, Nat.zero_add, g3]; exact h.arcs)
  simp only [List.nil_append, List.length_nil] at h1 g1 k1 k2
  refine ⟨a, M', A', ?_, ?_⟩
  · unfold laws_markSpace.f
    refine Evt.bind (a := ((b : Int), M')) ?_ (Evt.bind (a := ((a : Int), A')) ?_ (Evt.ok _))
    · unfold laws_markIntSS.f; exact h1
    · unfold laws_markArcS.f; exact g1
  · unfold laws_heldSpace.f
    refine Evt.bind (a := (b : Int)) ?_ (Evt.neg (by omega) (Evt.bind (a := (a : Int)) ?_ (Evt.neg (by omega) (Evt.ok _))))
    · unfold laws_heldIntSS.f; exact k1
    · unfold laws_heldArcS.f; exact k2
theorem core_Explore (p : Int) (ts : List Tr) (m : List Int) (b : Int) (hs : SmallN ts) (hm : Short m) : ∃ r : List (List Int) × List ArcT × Int × Bool, Evt (fun k => spec_Explore.f k p ts m b) r ∧ Evt (fun k => impl_Explore.f k p ts m b) r ∧ SmallS r.1 r.2.1 := by
  have no_ : SmallS [] [] := ⟨by simp, fun m hm => (by cases hm), by simp⟩
  cases hg : marked p ts m with
  | false =>
    refine ⟨([], [], 0, false), ?_, ?_, no_⟩
    · unfold spec_Explore.f spec_l4Asked.f
      exact Evt.bind (a := false) (Evt.bind ((l2Marked_ev p ts m hs hm).cast hg) (Evt.neg (by decide) (Evt.ok _))) (Evt.neg (by decide) (Evt.ok _))
    · unfold impl_Explore.f
      exact Evt.bind ((isMarked_ev p ts m hs hm).cast hg) (Evt.neg (by decide) (Evt.ok _))
  | true =>
    have hf := marked_facts hg
    cases hw : within b 1 400 with
    | false =>
      refine ⟨([], [], 0, false), ?_, ?_, no_⟩
      · unfold spec_Explore.f spec_l4Asked.f
        exact Evt.bind (a := false) (Evt.bind ((l2Marked_ev p ts m hs hm).cast hg) (Evt.pos rfl (Evt.bind0 ((l1In_eq _ _ _).trans (by rw [hw])) (Evt.ok _)))) (Evt.neg (by decide) (Evt.ok _))
      · unfold impl_Explore.f
        exact Evt.bind ((isMarked_ev p ts m hs hm).cast hg) (Evt.pos rfl (Evt.bind0 ((within_eq _ _ _).trans (by rw [hw])) (Evt.neg (by decide) (Evt.ok _))))
    | true =>
      have hb := within_bounds hw
      obtain ⟨⟨M, A, c⟩, e1, e2, e3⟩ := explore_ex p ts m b hs hf.1 hf.2 hb
      refine ⟨(M, A, c, true), ?_, ?_, ?_⟩
      · unfold spec_Explore.f spec_l4Asked.f
        exact Evt.bind (a := true) (Evt.bind ((l2Marked_ev p ts m hs hm).cast hg) (Evt.pos rfl (Evt.bind0 ((l1In_eq _ _ _).trans (by rw [hw])) (Evt.ok _)))) (Evt.pos rfl (Evt.bind e1 (Evt.ok _)))
      · unfold impl_Explore.f
        exact Evt.bind ((isMarked_ev p ts m hs hm).cast hg) (Evt.pos rfl (Evt.bind0 ((within_eq _ _ _).trans (by rw [hw])) (Evt.pos rfl (Evt.bind e2 (Evt.ok _)))))
      · by_cases hc : c = 1
        · have h1 := e3.1 hc
          have h2 : (M.length : Int) ≤ b := h1.1.most
          exact ⟨by show M.length ≤ 400; omega, fun x hx => by have := goodMark_bounds (h1.1.good x hx); omega, h1.2⟩
        · have h1 := e3.2 hc
          have hM : M = [] := h1.1
          have hA : A = [] := h1.2
          rw [hM, hA]
          exact no_
end Go.Proofs.Ythkmdanahoongaa.Lib
