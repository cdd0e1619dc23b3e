import Derived.Test.YtaadkpbpkeckdaaF0
import Derived.Test.YtaadkpbpkeckdaaF3
import Derived.Test.YtaadkpbpkeckdaaF4
import Derived.Test.YtaadkpbpkeckdaaF7
import Derived.Test.YtaadkpbpkeckdaaF8
import Derived.Test.YtaadkpbpkeckdaaF9
import Derived.Test.YtaadkpbpkeckdaaGoodFlow
import Derived.Test.YtaadkpbpkeckdaaExplore
import Derived.Test.YtaadkpbpkeckdaaIn
namespace Go.Proofs.Ytaadkpbpkeckdaa.Lib
open Go.RowKit Go.Proofs.Ytaadkpbpkeckdaa.F Go.Proofs.YtaadkpbpkeckdaaW.PrintWords Go.Proofs.YtaadkpbpkeckdaaW.PrintLast Go.Proofs.YtaadkpbpkeckdaaW.PrintMore
theorem one_good (p x : Int) (hp : 1 ≤ p ∧ p ≤ 16) (h : 0 ≤ x ∧ x < p) : goodMark p ((List.replicate p.toNat 0).set x.toNat 1) = true := by
  have hlen : ((((List.replicate p.toNat (0 : Int)).set x.toNat 1).length : Nat) : Int) = p := by rw [List.length_set, List.length_replicate]; omega
  have hw : within p 1 16 = true := decide_eq_true hp
  have ha : allIn ((List.replicate p.toNat (0 : Int)).set x.toNat 1) 0 50 = true := by
    refine List.all_eq_true.2 fun y hy => ?_
    rcases List.mem_or_eq_of_mem_set hy with h' | h'
    · rw [List.eq_of_mem_replicate h']; decide
    · rw [h']; decide
  unfold goodMark
  rw [hw, ha, hlen]
  simp
theorem specSafe_ev (M : List (List Int)) (hM : Short M) (hS : ∀ m ∈ M, Short m) : Evt (fun k => spec_IsSafe.l0 k M (M.length : Int) 0) (M.all (fun m => allIn m 0 1), true) := by
  have hl : M.length ≤ 17592186044415 := hM
  have h : Evt (fun k => spec_IsSafe.l0 k M (M.length : Int) ((0 : Nat) : Int)) ((M.findSome? (fun m => if allIn m 0 1 then none else some (false, true))).getD (true, true)) := by
    refine loop_find (fun k i => spec_IsSafe.l0 k M (M.length : Int) (i : Int)) M _ (true, true) ?_ ?_ ?_
    · simp only [spec_IsSafe.l0]
      exact Evt.neg (natNotLt _) (Evt.ok _)
    · intro i hi hq r hr
      have hp : allIn M[i] 0 1 = true := by
        cases hc : allIn M[i] 0 1 with
        | true => rfl
        | false => simp [hc] at hq
      have er : rd_L1 M (i : Int) = M[i] := rdL M i hi
      simp only [spec_IsSafe.l0, er]
      rw [wrapN i _ hi (by omega)]
      exact Evt.pos (natLt _ _ hi) (Evt.pos (by omega) (Evt.pos (natLt _ _ hi) (Evt.bind ((l1All_ev _ 0 1 (hS _ (List.getElem_mem hi))).cast hp) (Evt.pos rfl hr))))
    · intro i hi r hq
      have hp : allIn M[i] 0 1 = false ∧ r = (false, true) := by
        cases hc : allIn M[i] 0 1 with
        | true => simp [hc] at hq
        | false => simp [hc] at hq; exact ⟨rfl, hq.symm⟩
      have er : rd_L1 M (i : Int) = M[i] := rdL M i hi
      simp only [spec_IsSafe.l0, er, hp.2]
      exact Evt.pos (natLt _ _ hi) (Evt.pos (by omega) (Evt.pos (natLt _ _ hi) (Evt.bind ((l1All_ev _ 0 1 (hS _ (List.getElem_mem hi))).cast hp.1) (Evt.neg (by decide) (Evt.ok _)))))
  refine h.cast ?_
  clear h hl hM hS
  induction M with
  | nil => rfl
  | cons m M ih =>
    cases hp : allIn m 0 1 with
    | true => simp only [List.findSome?_cons, hp, if_true, List.all_cons, Bool.true_and]; exact ih
    | false => simp [List.findSome?_cons, hp]
theorem implSafe_ev (M : List (List Int)) (hM : Short M) (hS : ∀ m ∈ M, Short m) : Evt (fun k => slices_ContainsFunc_int_int_at_impl_IsSafe_1.f k M) (!(M.all (fun m => allIn m 0 1))) := by
  refine Evt.cast (containsFunc_gen (fun k (m : List Int) => impl_IsSafe_1.f k m) (fun m => !allIn m 0 1) (rd_L1 M) (fun k i => slices_IndexFunc_int_int_at_impl_IsSafe_1.l0 k M (M.length : Int) i) _ M ?_ ?_ ?_ ?_ hM) ?_
  · intro k; rfl
  · intro k i; rfl
  · intro m hm
    unfold impl_IsSafe_1.f
    exact Evt.bind (allWithin_ev m 0 1 (hS m hm)) (Evt.ok _)
  · intro i hi; exact rdL M i hi
  · rw [List.not_all_eq_any_not]
theorem core_IsSafe (p : Int) (ts : List Tr) (u v b : Int) (hs : SmallN ts) : ∃ x : Bool × Bool, Evt (fun k => spec_IsSafe.f k p ts u v b) x ∧ Evt (fun k => impl_IsSafe.f k p ts u v b) x := by
  obtain ⟨c, h1, h2, h3⟩ := goodFlow_ex p ts u v hs
  unfold spec_IsSafe.f impl_IsSafe.f spec_l9Asked.f impl_isChecked.f
  simp only [l1In_eq, within_eq, Option.bind_some]
  cases c with
  | false => exact ⟨(false, false), Evt.bind (Evt.bind h1 (Evt.neg (by decide) (Evt.ok false))) (Evt.neg (by decide) (Evt.ok _)), Evt.bind (Evt.bind h2 (Evt.neg (by decide) (Evt.ok false))) (Evt.neg (by decide) (Evt.ok _))⟩
  | true =>
    have g1 := fun w (hw : within b 1 400 = w) => Evt.bind (g := fun (k : Nat) (t : Bool) => if t = true then (some (within b 1 400)) else (some false)) h1 (Evt.pos rfl ((Evt.ok _).cast hw))
    have g2 := fun w (hw : within b 1 400 = w) => Evt.bind (g := fun (k : Nat) (t : Bool) => if t = true then (some (within b 1 400)) else (some false)) h2 (Evt.pos rfl ((Evt.ok _).cast hw))
    cases hb : within b 1 400 with
    | false => rw [hb] at g1 g2; exact ⟨(false, false), Evt.bind (g1 false rfl) (Evt.neg (by decide) (Evt.ok _)), Evt.bind (g2 false rfl) (Evt.neg (by decide) (Evt.ok _))⟩
    | true =>
      rw [hb] at g1 g2
      have h := h3 rfl
      have hf := goodNet_facts h.1
      have e := one_ev p u hf.2.1 h.2.1
      have e' := one_ev p v hf.2.1 h.2.2
      obtain ⟨⟨M, A, n⟩, x1, x2, x3⟩ := explore_ex p ts _ b hs h.1 (one_good p u ⟨hf.1, hf.2.1⟩ h.2.1) (within_bounds hb)
      have eS : spec_l9Ends.f p ts u v = some ((List.replicate p.toNat 0).set u.toNat 1, (List.replicate p.toNat 0).set v.toNat 1) := by
        unfold spec_l9Ends.f
        rw [e.1, Option.bind_some, e'.1, Option.bind_some]
      have eI : impl_startOf.f p ts u v = some ((List.replicate p.toNat 0).set u.toNat 1) := by
        unfold impl_startOf.f
        rw [e.2, Option.bind_some]
      by_cases hn : n = 1
      · have hk := (x3.1 hn).1
        have hm : (M.length : Int) ≤ b := hk.most
        have hM : Short M := by have := within_bounds hb; show M.length ≤ _; omega
        have hS : ∀ m ∈ M, Short m := fun m hm => by have := goodMark_bounds (hk.good m hm); show m.length ≤ _; omega
        exact ⟨_, Evt.bind (g1 true rfl) (Evt.pos rfl (Evt.bind0 eS (Evt.bind x1 (Evt.pos hn (specSafe_ev M hM hS))))), Evt.bind (g2 true rfl) (Evt.pos rfl (Evt.bind0 eI (Evt.bind x2 (Evt.pos hn (Evt.bind (implSafe_ev M hM hS) ((Evt.ok _).cast (by rw [Bool.not_not])))))))⟩
      · exact ⟨(false, false), Evt.bind (g1 true rfl) (Evt.pos rfl (Evt.bind0 eS (Evt.bind x1 (Evt.neg hn (Evt.ok _))))), Evt.bind (g2 true rfl) (Evt.pos rfl (Evt.bind0 eI (Evt.bind x2 (Evt.neg hn (Evt.ok _)))))⟩
end Go.Proofs.Ytaadkpbpkeckdaa.Lib
