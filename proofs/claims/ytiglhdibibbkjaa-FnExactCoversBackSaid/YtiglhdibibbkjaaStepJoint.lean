import Derived.Test.YtiglhdibibbkjaaF1
import Derived.Test.YtiglhdibibbkjaaF2
import Derived.Test.YtiglhdibibbkjaaF3
import Derived.Test.YtiglhdibibbkjaaMarked
import Derived.Test.YtiglhdibibbkjaaMeet
import Derived.Test.YtiglhdibibbkjaaHasOf
namespace Go.Proofs.Ytiglhdibibbkjaa.Lib
open Go.RowKit Go.Proofs.Ytiglhdibibbkjaa.F Go.Proofs.YtiglhdibibbkjaaW.PrintWords Go.Proofs.YtiglhdibibbkjaaW.PrintLast Go.Proofs.YtiglhdibibbkjaaW.PrintMore
theorem most_eq (x : Int) : spec_l1Most.f 0 x = some (mx 0 x) := by
  unfold spec_l1Most.f mx
  by_cases h : (0 : Int) > x
  · rw [if_pos h, if_neg (by omega)]
  · rw [if_neg h]
    by_cases h2 : (0 : Int) < x
    · rw [if_pos h2]
    · rw [if_neg h2]; congr 1; omega
theorem take_set (u s : List Int) (i n : Nat) (v : Int) (hu : u.length = n) (hi : i < n) (ht : u.take i = s) : (u.set i v).take (i + 1) = s ++ [v] := by
  rw [takeN _ i (by simp; omega), List.take_set_of_le (Nat.le_refl i), ht]; simp
theorem step_joint (t : Tr) (m : List Int) (ht : SmallT t) (hm : Short m) (hv : ∀ x ∈ m, 0 ≤ x ∧ x ≤ 50) : ∃ r : List Int × Bool, Evt (fun k => spec_l6Step.f k t.f0 t.f1 t.f2 m) r ∧ Evt (fun k => impl_stepBack.f k t.f0 t.f1 t.f2 m) r ∧ (r.2 = true → r.1.length = m.length) := by
  have hm' : m.length ≤ 17592186044415 := hm
  have key : ∀ i, i ≤ m.length → ∀ s : List Int, s.length = i → ∀ u : List Int, u.length = m.length → u.take i = s → ∃ r : List Int × Bool, Evt (fun k => spec_l6Step.l0 k s m (m.length : Int) (i : Int) t.f0 t.f1 t.f2) r ∧ Evt (fun k => impl_stepBack.l0 k u m (m.length : Int) (i : Int) t.f0 t.f1 t.f2) r ∧ (r.2 = true → r.1.length = m.length) := by
    refine down (P := fun i (s : List Int) => s.length = i → ∀ u : List Int, u.length = m.length → u.take i = s → ∃ r : List Int × Bool, Evt (fun k => spec_l6Step.l0 k s m (m.length : Int) (i : Int) t.f0 t.f1 t.f2) r ∧ Evt (fun k => impl_stepBack.l0 k u m (m.length : Int) (i : Int) t.f0 t.f1 t.f2) r ∧ (r.2 = true → r.1.length = m.length)) ?_ ?_
    · intro s hs u hu hut
      have e : u = s := by rw [← hut, List.take_of_length_le (by omega)]
      subst e
      refine ⟨(u, true), Evt.step ?_, Evt.step ?_, fun _ => hu⟩
      · simp only [spec_l6Step.l0]; exact Evt.neg (natNotLt _) (Evt.ok _)
      · simp only [impl_stepBack.l0]; exact Evt.neg (natNotLt _) (Evt.ok _)
    · intro i hi ih s hs u hu hut
      have hx := hv m[i] (List.getElem_mem hi)
      generalize hd : (if has t.f1 (i : Int) = true then (1 : Int) else 0) = d
      generalize he : (if has t.f0 (i : Int) = true then (1 : Int) else 0) = e
      have hd2 : 0 ≤ d ∧ d ≤ 1 := by rw [← hd]; split <;> omega
      have he2 : 0 ≤ e ∧ e ≤ 1 := by rw [← he]; split <;> omega
      have w1 : wrap64 (m[i] - d) = m[i] - d := wrap_id _ (by omega) (by omega)
      -- the reference, to the choice at the end
      have hS : ∀ r, Evt (fun k => spec_l6Step.j2 k s (i : Int) m[i] d e m (m.length : Int) (i : Int) t.f0 t.f1 t.f2) r → Evt (fun k => spec_l6Step.l0 k s m (m.length : Int) (i : Int) t.f0 t.f1 t.f2) r := by
        intro r hr
        refine Evt.step ?_
        simp only [spec_l6Step.l0]
        rw [rdN m i hi]
        refine Evt.pos (natLt _ _ hi) (Evt.pos (by omega) (Evt.pos (natLt _ _ hi) (Evt.bind (l1Has_ev _ _ ht.s1) ?_)))
        have hj : ∀ d', d' = d → Evt (fun k => spec_l6Step.j1 k s (i : Int) m[i] d' m (m.length : Int) (i : Int) t.f0 t.f1 t.f2) r := by
          intro d' hd'
          subst hd'
          refine Evt.step ?_
          simp only [spec_l6Step.j1]
          refine Evt.bind (l1Has_ev _ _ ht.s0) ?_
          cases h0 : has t.f0 (i : Int) with
          | true => rw [h0, if_pos rfl] at he; subst he; exact Evt.pos rfl hr
          | false => rw [h0, if_neg (by decide)] at he; subst he; exact Evt.neg (by decide) hr
        cases h1 : has t.f1 (i : Int) with
        | true => rw [h1, if_pos rfl] at hd; exact Evt.pos rfl (hj 1 hd)
        | false => rw [h1, if_neg (by decide)] at hd; exact Evt.neg (by decide) (hj 0 hd)
      have hI : ∀ r, Evt (fun k => impl_stepBack.j1 k u (i : Int) (m[i] - d) m (m.length : Int) (i : Int) t.f0 t.f1 t.f2) r → Evt (fun k => impl_stepBack.l0 k u m (m.length : Int) (i : Int) t.f0 t.f1 t.f2) r := by
        intro r hr
        refine Evt.step ?_
        simp only [impl_stepBack.l0]
        rw [rdN m i hi]
        refine Evt.pos (natLt _ _ hi) (Evt.pos (by omega) (Evt.pos (natLt _ _ hi) (Evt.bind (contains_ev _ _ ht.s1) ?_)))
        cases h1 : has t.f1 (i : Int) with
        | true => rw [h1, if_pos rfl] at hd; subst hd; rw [w1]; exact Evt.pos rfl hr
        | false => rw [h1, if_neg (by decide)] at hd; subst hd; rw [Int.sub_zero] at hr; exact Evt.neg (by decide) hr
      -- both go on with the number v
      have hGo : ∀ v, v = mx 0 (m[i] - d) + e → ∃ r : List Int × Bool, Evt (fun k => spec_l6Step.l0 k (s ++ [v]) m (m.length : Int) (wrap64 ((i : Int) + 1)) t.f0 t.f1 t.f2) r ∧ Evt (fun k => impl_stepBack.j2 k u (i : Int) (m[i] - d) m (m.length : Int) (i : Int) false t.f0 t.f1 t.f2) r ∧ (r.2 = true → r.1.length = m.length) := by
        intro v hvv
        obtain ⟨r, e1, e2, e3⟩ := ih (s ++ [v]) (by simp; omega) (u.set i v) (by simpa using hu) (take_set u s i m.length v hu hi hut)
        have hmx : 0 ≤ mx 0 (m[i] - d) ∧ mx 0 (m[i] - d) ≤ 50 := by unfold mx; split <;> omega
        refine ⟨r, by rw [wrapN i _ hi (by omega)]; exact e1, Evt.step ?_, e3⟩
        simp only [impl_stepBack.j2, Option.bind_some]
        rw [wrapN i _ hi (by omega), Int.toNat_natCast]
        refine Evt.neg (by decide) (Evt.pos (by omega) (Evt.pos (by omega) (Evt.bind (contains_ev _ _ ht.s0) ?_)))
        cases h0 : has t.f0 (i : Int) with
        | true =>
          rw [h0, if_pos rfl] at he
          refine Evt.pos rfl ?_
          rw [rdN _ i (by simp; omega), List.getElem_set_self, wrap_id _ (by omega) (by omega), List.set_set, he, ← hvv]
          exact e2
        | false =>
          rw [h0, if_neg (by decide)] at he
          refine Evt.neg (by decide) ?_
          rw [show mx 0 (m[i] - d) = v by omega]
          exact e2
      cases h2 : has t.f2 (i : Int) with
      | true =>
        by_cases hgt : m[i] > d
        · refine ⟨([], false), hS _ (Evt.step ?_), hI _ (Evt.step ?_), fun h => by cases h⟩
          · simp only [spec_l6Step.j2]
            exact Evt.bind ((l1Has_ev _ _ ht.s2).cast h2) (Evt.pos rfl (Evt.pos hgt (Evt.ok _)))
          · simp only [impl_stepBack.j1]
            refine Evt.bind ((contains_ev _ _ ht.s2).cast h2) (Evt.pos rfl (Evt.step ?_))
            simp only [impl_stepBack.j2]
            exact Evt.pos (decide_eq_true (by omega)) (Evt.ok _)
        · have hz : mx 0 (m[i] - d) = 0 := by unfold mx; split <;> omega
          obtain ⟨r, e1, e2, e3⟩ := hGo e (by omega)
          refine ⟨r, hS _ (Evt.step ?_), hI _ (Evt.step ?_), e3⟩
          · simp only [spec_l6Step.j2]
            exact Evt.bind ((l1Has_ev _ _ ht.s2).cast h2) (Evt.pos rfl (Evt.neg hgt (Evt.pos (by omega) e1)))
          · simp only [impl_stepBack.j1]
            refine Evt.bind ((contains_ev _ _ ht.s2).cast h2) (Evt.pos rfl ?_)
            rw [decide_eq_false (by omega : ¬ m[i] - d > 0)]
            exact e2
      | false =>
        have hmx : 0 ≤ mx 0 (m[i] - d) ∧ mx 0 (m[i] - d) ≤ 50 := by unfold mx; split <;> omega
        obtain ⟨r, e1, e2, e3⟩ := hGo _ rfl
        refine ⟨r, hS _ (Evt.step ?_), hI _ (Evt.step ?_), e3⟩
        · simp only [spec_l6Step.j2]
          refine Evt.bind ((l1Has_ev _ _ ht.s2).cast h2) (Evt.neg (by decide) (Evt.bind0 (most_eq _) (Evt.pos (by omega) ?_)))
          rw [w1, wrap_id (mx 0 (m[i] - d) + e) (by omega) (by omega)]
          exact e1
        · simp only [impl_stepBack.j1]
          exact Evt.bind ((contains_ev _ _ ht.s2).cast h2) (Evt.neg (by decide) e2)
  unfold spec_l6Step.f impl_stepBack.f
  obtain ⟨r, e1, e2, e3⟩ := key 0 (Nat.zero_le _) [] rfl (List.replicate m.length 0) (by simp) (by simp)
  refine ⟨r, e1, Evt.pos (by omega) (Evt.pos (by rw [Int.toNat_natCast]; omega) ?_), e3⟩
  rw [Int.toNat_natCast]
  exact e2
end Go.Proofs.Ytiglhdibibbkjaa.Lib
