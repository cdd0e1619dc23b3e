import Derived.Test.YtpaecplanjnaeaaF1
import Derived.Test.YtpaecplanjnaeaaF2
import Derived.Test.YtpaecplanjnaeaaSS
namespace Go.Proofs.Ytpaecplanjnaeaa.Lib
open Go.RowKit Go.Proofs.Ytpaecplanjnaeaa.F Go.Proofs.YtpaecplanjnaeaaW.PrintWords Go.Proofs.YtpaecplanjnaeaaW.PrintLast Go.Proofs.YtpaecplanjnaeaaW.PrintMore
structure SmallCert (M : List (List Int)) (S R : List Int) : Prop where
  marks : M.length ≤ 1048576
  all : tot M ≤ 1048576
  steps : S.length ≤ 1048576
  ranks : R.length ≤ 1048576
theorem SmallCert.short {M : List (List Int)} {S R : List Int} (h : SmallCert M S R) : ∀ m ∈ M, Short m := fun m hm => by have := tot_mem hm; have := h.all; show m.length ≤ _; omega
theorem SmallCert.shortS {M : List (List Int)} {S R : List Int} (h : SmallCert M S R) : Short S := by have := h.steps; show S.length ≤ _; omega
theorem SmallCert.shortR {M : List (List Int)} {S R : List Int} (h : SmallCert M S R) : Short R := by have := h.ranks; show R.length ≤ _; omega
theorem szCert_ex (M : List (List Int)) (S R : List Int) (hM : M.length ≤ maxLen) (hr : ∀ x ∈ M, x.length ≤ maxLen) (hS : S.length ≤ maxLen) (hR : R.length ≤ maxLen) : ∃ r : Int, Evt (fun k => laws_szCert.f k M S R 1048576) r ∧ (0 ≤ r → SmallCert M S R) := by
  obtain ⟨a, e1, e2⟩ := szSS_ex M 1048576 (by omega) (by omega) hM hr
  unfold laws_szCert.f
  by_cases c : a < 0
  · exact ⟨-1, Evt.bind e1 (Evt.pos c (Evt.ok _)), fun h => by omega⟩
  have ha := e2 (by omega)
  have hs := szI_eq S a (by omega) (by omega) hS
  by_cases c2 : a < (S.length : Int)
  · rw [if_pos c2] at hs
    exact ⟨-1, Evt.bind e1 (Evt.neg c (Evt.bind0 hs (Evt.pos (by omega) (Evt.ok _)))), fun h => by omega⟩
  rw [if_neg c2] at hs
  have hq := szI_eq R (a - (S.length : Int)) (by omega) (by omega) hR
  by_cases c3 : a - (S.length : Int) < (R.length : Int)
  · rw [if_pos c3] at hq
    exact ⟨-1, Evt.bind e1 (Evt.neg c (Evt.bind0 hs (Evt.neg (by omega) (Evt.bind0 hq (Evt.pos (by omega) (Evt.ok _)))))), fun h => by omega⟩
  rw [if_neg c3] at hq
  exact ⟨_, Evt.bind e1 (Evt.neg c (Evt.bind0 hs (Evt.neg (by omega) (Evt.bind0 hq (Evt.neg (by omega) (Evt.ok _)))))), fun _ => ⟨by omega, by omega, by omega, by omega⟩⟩
theorem toCert_ev (M : List (List Int)) (S R : List Int) (h : SmallCert M S R) : Evt (fun k => laws_toCert.f k M S R) (M, S, R) := by
  unfold laws_toCert.f
  exact Evt.bind (toSS_ev M h.marks h.short) (Evt.bind (toIntS_ev S h.shortS) (Evt.bind (toIntS_ev R h.shortR) (Evt.ok _)))
theorem eqCert_same (M : List (List Int)) (S R : List Int) (h : SmallCert M S R) : Evt (fun k => laws_eqCert.f k M S R M S R) true := by
  unfold laws_eqCert.f
  exact Evt.bind (eqSS_same M h.marks h.short) (Evt.pos rfl (Evt.bind (eqIntS_same S h.shortS) (Evt.pos rfl (Evt.bind (eqIntS_same R h.shortR) (Evt.pos rfl (Evt.ok _))))))
theorem markCert_ex (M : List (List Int)) (S R : List Int) (h : SmallCert M S R) : ∃ (a : Nat) (M' : List (List Int)) (S' R' : List Int), Evt (fun k => laws_markCert.f k M S R 1) ((a : Int), M', S', R') ∧ Evt (fun k => laws_heldCert.f k M' S' R' 1) (a : Int) := by
  have h1 := h.marks
  have h2 := h.all
  have h3 := h.steps
  have h4 := h.ranks
  obtain ⟨M', e1, e2⟩ := markSS_ex M 1 (by omega) (by omega)
  refine ⟨1 + tot M + S.length + R.length, M', iota (1 + tot M) S.length, iota (1 + tot M + S.length) R.length, ?_, ?_⟩
  · unfold laws_markCert.f
    exact Evt.bind e1 (Evt.bind (markIntS_ev S (1 + tot M) (by omega)) (Evt.bind (markIntS_ev R (1 + tot M + S.length) (by omega)) (Evt.ok _)))
  · unfold laws_heldCert.f
    exact Evt.bind e2 (Evt.neg (by omega) (Evt.bind (heldIntS_ev (1 + tot M) S.length (by omega)) (Evt.neg (by omega) (Evt.bind (heldIntS_ev (1 + tot M + S.length) R.length (by omega)) (Evt.neg (by omega) (Evt.ok _))))))
end Go.Proofs.Ytpaecplanjnaeaa.Lib
