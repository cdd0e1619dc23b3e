import Derived.Test.YtbkjgnfnjgebiaaF0
import Derived.Test.YtbkjgnfnjgebiaaF1
import Derived.Test.YtbkjgnfnjgebiaaF4
import Derived.Test.YtbkjgnfnjgebiaaNet
import Derived.Test.YtbkjgnfnjgebiaaHeld
namespace Go.Proofs.Ytbkjgnfnjgebiaa.Lib
open Go.RowKit Go.Proofs.Ytbkjgnfnjgebiaa.F Go.Proofs.YtbkjgnfnjgebiaaW.PrintWords Go.Proofs.YtbkjgnfnjgebiaaW.PrintLast Go.Proofs.YtbkjgnfnjgebiaaW.PrintMore
def tAt (n a b c : Nat) : Tr := ⟨iota n a, iota (n + a) b, iota (n + a + b) c⟩
inductive ChainT : List Tr → Nat → Nat → Prop
  | nil (n : Nat) : ChainT [] n n
  | cons (a b c n z : Nat) (L : List Tr) (ha : a ≤ 1048576) (hb : b ≤ 1048576) (hc : c ≤ 1048576) (h : ChainT L (n + a + b + c) z) : ChainT (tAt n a b c :: L) n z
theorem wrapT (n : Nat) (h : n + 1 ≤ 4611686018427387904) : wrap64 ((n : Int) + 1) = ((n + 1 : Nat) : Int) := wrapN n (n + 1) (by omega) h
theorem rdMidT (P : List Tr) (m : Tr) (L : List Tr) : rd_T63 (P ++ m :: L) (P.length : Int) = m := by
  rw [show rd_T63 (P ++ m :: L) (P.length : Int) = (P ++ m :: L)[P.length]'(by simp) from rdG _ _ _ (by simp)]; simp
theorem setMidT (P : List Tr) (m x : Tr) (L : List Tr) : (P ++ m :: L).set P.length x = P ++ x :: L := by simp
theorem markT_go (L : List Tr) : ∀ (P : List Tr) (n : Nat), n ≤ 1048576 + 3145728 * P.length → P.length + L.length ≤ 1048576 → (∀ m ∈ L, SmallT m) →
    ∃ (a : Nat) (R : List Tr), Evt (fun k => laws_markTransS.l0 k (P ++ L) (n : Int) (P.length : Int)) ((a : Int), P ++ R) ∧ ChainT R n a ∧ R.length = L.length ∧ a ≤ 1048576 + 3145728 * (P.length + L.length) := by
  induction L with
  | nil =>
    intro P n hn hl _
    refine ⟨n, [], Evt.step ?_, ChainT.nil n, rfl, by simpa using hn⟩
    simp only [laws_markTransS.l0]
    exact Evt.neg (by simp) (Evt.ok _)
  | cons m L ih =>
    intro P n hn hl hr
    have hm := hr m (List.mem_cons_self ..)
    have h0 : m.f0.length ≤ 1048576 := hm.1
    have h1' : m.f1.length ≤ 1048576 := hm.2.1
    have h2' : m.f2.length ≤ 1048576 := hm.2.2
    have hl' : P.length + (L.length + 1) ≤ 1048576 := hl
    obtain ⟨a, R, h1, h2, h3, h4⟩ := ih (P ++ [tAt n m.f0.length m.f1.length m.f2.length]) (n + m.f0.length + m.f1.length + m.f2.length) (by rw [List.length_append, List.length_singleton]; omega) (by rw [List.length_append, List.length_singleton]; omega) (fun x hx => hr x (List.mem_cons_of_mem _ hx))
    rw [List.length_append, List.length_singleton] at h1 h4
    refine ⟨a, tAt n m.f0.length m.f1.length m.f2.length :: R, Evt.step ?_, ChainT.cons _ _ _ _ _ _ h0 h1' h2' h2, by rw [List.length_cons, List.length_cons, h3], by rw [List.length_cons]; omega⟩
    simp only [laws_markTransS.l0, rdMidT, Int.toNat_natCast, setMidT]
    refine Evt.pos (by rw [List.length_append, List.length_cons]; omega) (Evt.pos (by omega) (Evt.bind (markIntS_ev m.f0 n (by omega)) ?_))
    simp only [Option.bind_some, rdMidT, setMidT]
    refine Evt.bind (markIntS_ev m.f1 (n + m.f0.length) (by omega)) ?_
    simp only [Option.bind_some, rdMidT, setMidT]
    refine Evt.bind (markIntS_ev m.f2 (n + m.f0.length + m.f1.length) (by omega)) ?_
    simp only [Option.bind_some, rdMidT, setMidT]
    rw [wrapT P.length (by omega)]
    rw [List.append_assoc, List.singleton_append] at h1
    rw [List.append_assoc, List.singleton_append] at h1
    exact h1
theorem heldT_go (R : List Tr) : ∀ (P : List Tr) (n a : Nat), ChainT R n a → n ≤ 1048576 + 3145728 * P.length → P.length + R.length ≤ 1048576 →
    Evt (fun k => laws_heldTransS.l0 k (P ++ R) (n : Int) (P.length : Int)) (a : Int) := by
  induction R with
  | nil =>
    intro P n a h hn hl
    cases h
    refine Evt.step ?_
    simp only [laws_heldTransS.l0]
    exact Evt.neg (by simp) (Evt.ok _)
  | cons x R ih =>
    intro P n z h hn hl
    have hl' : P.length + (R.length + 1) ≤ 1048576 := hl
    cases h with
    | cons a b c _ _ _ ha hb hc h =>
      have h1 := ih (P ++ [tAt n a b c]) (n + a + b + c) z h (by rw [List.length_append, List.length_singleton]; omega) (by rw [List.length_append, List.length_singleton]; omega)
      rw [List.length_append, List.length_singleton, List.append_assoc, List.singleton_append] at h1
      refine Evt.step ?_
      simp only [laws_heldTransS.l0, rdMidT]
      refine Evt.pos (by rw [List.length_append, List.length_cons]; omega) (Evt.pos (by omega) (Evt.bind (heldIntS_ev n a (by omega)) (Evt.neg (by omega) (Evt.bind (heldIntS_ev (n + a) b (by omega)) (Evt.neg (by omega) (Evt.bind (heldIntS_ev (n + a + b) c (by omega)) (Evt.neg (by omega) ?_)))))))
      rw [wrapT P.length (by omega)]
      exact h1
theorem markNet_ex (p : Int) (L : List Tr) (h : SmallN L) : ∃ (a : Nat) (R : List Tr), Evt (fun k => laws_markNet.f k p L 1) ((a : Int), R) ∧ Evt (fun k => laws_heldNet.f k p R 1) (a : Int) := by
  obtain ⟨a, R, h1, h2, h3, h4⟩ := markT_go L [] 1 (by simp) (by simpa using h.1) h.2
  have k1 := heldT_go R [] 1 a h2 (by simp) (by rw [List.length_nil, Nat.zero_add, h3]; exact h.1)
  simp only [List.nil_append, List.length_nil] at h1 k1
  refine ⟨a, R, ?_, ?_⟩
  · unfold laws_markNet.f laws_markTransS.f; exact h1
  · unfold laws_heldNet.f laws_heldTransS.f; exact Evt.bind k1 (Evt.neg (by omega) (Evt.ok _))
end Go.Proofs.Ytbkjgnfnjgebiaa.Lib
