/- The change that counts of firings make. -/
import Derived.Test.YtffdacmdgfpnmaaF0
import Derived.Test.YtffdacmdgfpnmaaF13
import Derived.Test.YtffdacmdgfpnmaaF14
import Derived.Test.YtffdacmdgfpnmaaPlain
import Derived.Test.YtffdacmdgfpnmaaAll
namespace Go.Proofs.Ytffdacmdgfpnmaa.Lib
open Go.RowKit Go.Proofs.Ytffdacmdgfpnmaa.F Go.Proofs.YtffdacmdgfpnmaaW.PrintWords Go.Proofs.YtffdacmdgfpnmaaW.PrintLast Go.Proofs.YtffdacmdgfpnmaaW.PrintMore
set_option linter.unusedVariables false
set_option linter.unusedSimpArgs false
def counts (p : Int) (ts : List Tr) (m : List Int) : Bool := plain p ts && (decide ((m.length : Int) = (ts.length : Int)) && allIn m 0 1000)
theorem l7Counts_ev (p : Int) (ts : List Tr) (w : List Int) (h : SmallN ts) (hw : Short w) : Evt (fun k => spec_l7Counts.f k p ts w) (counts p ts w) := by
  unfold spec_l7Counts.f counts
  cases hg : plain p ts with
  | false => exact Evt.bind ((l7Plain_ev p ts h).cast hg) (Evt.neg (by decide) (Evt.ok _))
  | true =>
    refine Evt.bind ((l7Plain_ev p ts h).cast hg) (Evt.pos rfl ?_)
    by_cases hl : (w.length : Int) = (ts.length : Int)
    · exact Evt.pos hl (Evt.bind (l1All_ev w _ _ hw) ((Evt.ok _).cast (by rw [decide_eq_true hl]; simp)))
    · exact Evt.neg hl ((Evt.ok _).cast (by rw [decide_eq_false hl]; rfl))
theorem areCounts_ev (p : Int) (ts : List Tr) (w : List Int) (h : SmallN ts) (hw : Short w) : Evt (fun k => impl_areCounts.f k p ts w) (counts p ts w) := by
  unfold impl_areCounts.f counts
  cases hg : plain p ts with
  | false => exact Evt.bind ((isPlain_ev p ts h).cast hg) (Evt.neg (by decide) (Evt.ok _))
  | true =>
    refine Evt.bind ((isPlain_ev p ts h).cast hg) (Evt.pos rfl ?_)
    by_cases hl : (w.length : Int) = (ts.length : Int)
    · exact Evt.pos hl (Evt.bind (allWithin_ev w _ _ hw) ((Evt.ok _).cast (by rw [decide_eq_true hl]; simp)))
    · exact Evt.neg hl ((Evt.ok _).cast (by rw [decide_eq_false hl]; rfl))
theorem counts_facts {p : Int} {ts : List Tr} {m : List Int} (h : counts p ts m = true) : goodNet p ts = true ∧ (m.length : Int) = (ts.length : Int) ∧ ∀ x ∈ m, 0 ≤ x ∧ x ≤ 1000 := by
  simp only [counts, Bool.and_eq_true, decide_eq_true_eq] at h
  exact ⟨plain_good h.1, by omega, allIn_le h.2.2⟩
/-- A vector of n wrapped numbers. -/
def vec (n : Nat) (V : Nat → Int) : List Int := (List.range n).map fun i => wrap64 (V i)
theorem vec_length (n : Nat) (V : Nat → Int) : (vec n V).length = n := by simp [vec]
theorem vec_rd (n : Nat) (V : Nat → Int) (i : Nat) (h : i < n) : rd (vec n V) (i : Int) = wrap64 (V i) := by
  rw [rdN _ i (by rw [vec_length]; exact h)]; simp [vec]
theorem vec_set (n : Nat) (V : Nat → Int) (q : Nat) (x : Int) : (vec n V).set q (wrap64 x) = vec n (fun i => if i = q then x else V i) := by
  apply List.ext_getElem
  · simp [vec]
  · intro i h1 h2
    simp only [vec, List.getElem_set, List.getElem_map, List.getElem_range]
    by_cases e : q = i
    · subst e; simp
    · rw [if_neg e, if_neg (fun e' => e e'.symm)]
theorem wrap_add (a b : Int) : wrap64 (wrap64 a + b) = wrap64 (a + b) := by unfold wrap64; omega
theorem wrap_sub (a b : Int) : wrap64 (wrap64 a - b) = wrap64 (a - b) := by unfold wrap64; omega
/-- d added at each of the places. -/
def bump (V : Nat → Int) (ps : List Int) (d : Int) : Nat → Int := fun i => V i + d * (ps.countP fun q => decide (q = (i : Int)) : Nat)
theorem bump_nil (V : Nat → Int) (d : Int) : bump V [] d = V := by funext i; simp [bump]
theorem bump_cons (V : Nat → Int) (q : Int) (ps : List Int) (d : Int) : bump V (q :: ps) d = bump (fun i => if (i : Int) = q then V i + d else V i) ps d := by
  funext i
  unfold bump
  rw [List.countP_cons]
  by_cases e : (i : Int) = q
  · subst e; simp [Int.mul_add]; omega
  · have e' : ¬ q = (i : Int) := fun h => e h.symm
    simp [e, e']
theorem bump_comm (V : Nat → Int) (a b : List Int) (d e : Int) : bump (bump V a d) b e = bump (bump V b e) a d := by
  funext i; unfold bump; omega
theorem put_add (n : Nat) (V : Nat → Int) (q d : Int) (h0 : 0 ≤ q) (h1 : q < (n : Int)) : (vec n V).set q.toNat (wrap64 (rd (vec n V) q + d)) = vec n (fun i => if (i : Int) = q then V i + d else V i) := by
  obtain ⟨m, rfl⟩ : ∃ m : Nat, q = (m : Int) := ⟨q.toNat, by omega⟩
  rw [vec_rd n V m (by omega), wrap_add, Int.toNat_natCast, vec_set]
  congr 1; funext i
  by_cases e : i = m
  · subst e; simp
  · rw [if_neg e, if_neg (by omega)]
theorem put_sub (n : Nat) (V : Nat → Int) (q d : Int) (h0 : 0 ≤ q) (h1 : q < (n : Int)) : (vec n V).set q.toNat (wrap64 (rd (vec n V) q - d)) = vec n (fun i => if (i : Int) = q then V i + (-d) else V i) := by
  obtain ⟨m, rfl⟩ : ∃ m : Nat, q = (m : Int) := ⟨q.toNat, by omega⟩
  rw [vec_rd n V m (by omega), wrap_sub, Int.toNat_natCast, vec_set]
  congr 1; funext i
  by_cases e : i = m
  · subst e; simp; omega
  · rw [if_neg e, if_neg (by omega)]
/-- One transition's firings. -/
def fireV (V : Nat → Int) (t : Tr) (c : Int) : Nat → Int := bump (bump V t.f1 c) t.f0 (-c)
def changeFrom (ts : List Tr) (m : List Int) : Nat → Nat → (Nat → Int) → Nat → Int
  | 0, _, V => V
  | d + 1, i, V => changeFrom ts m d (i + 1) (fireV V (ts.getD i z63) (m.getD i 0))
def places (n : Nat) (ps : List Int) : Prop := ∀ q ∈ ps, 0 ≤ q ∧ q < (n : Int)
theorem l7Change_ev (p : Int) (ts : List Tr) (m : List Int) (n : Nat) (hn : p = (n : Int)) (hn2 : n ≤ 16) (h : SmallN ts) (hm : m.length = ts.length) (hp : ∀ t ∈ ts, places n t.f0 ∧ places n t.f1) :
    Evt (fun k => spec_l7Change.f k p ts m) (vec n (changeFrom ts m ts.length 0 fun _ => 0)) := by
  have hl := h.1
  have key : ∀ i, i ≤ ts.length → ∀ V : Nat → Int, Evt (fun k => spec_l7Change.l0 k m (vec n V) ts (ts.length : Int) i) (vec n (changeFrom ts m (ts.length - i) i V)) := by
    refine down (P := fun i V => Evt (fun k => spec_l7Change.l0 k m (vec n V) ts (ts.length : Int) i) (vec n (changeFrom ts m (ts.length - i) i V))) ?_ ?_
    · intro V
      refine Evt.step ?_
      simp only [spec_l7Change.l0]
      exact Evt.neg (natNotLt _) ((Evt.ok _).cast (by simp [changeFrom]))
    · intro i hi ih V
      have hsm : SmallT ts[i] := h.2 _ (List.getElem_mem hi)
      have hq := hp ts[i] (List.getElem_mem hi)
      have er : rd_T63 ts (i : Int) = ts[i] := rdG ts _ i hi
      refine Evt.step ?_
      simp only [spec_l7Change.l0, er]
      refine Evt.pos (natLt _ _ hi) (Evt.pos (by omega) (Evt.pos (natLt _ _ hi) ?_))
      obtain ⟨d, hd⟩ : ∃ d, ts.length - i = d + 1 := ⟨ts.length - i - 1, by omega⟩
      rw [hd, changeFrom, getDN ts _ i hi, show d = ts.length - (i + 1) by omega]
      have ih' := ih (fireV V ts[i] (m.getD i 0))
      have s0 : ts[i].f0.length ≤ 1048576 := hsm.1
      have s1 : ts[i].f1.length ≤ 1048576 := hsm.2.1
      have k2 : ∀ j, j ≤ ts[i].f0.length → ∀ U : Nat → Int, bump U (ts[i].f0.drop j) (-(m.getD i 0)) = fireV V ts[i] (m.getD i 0) → Evt (fun k => spec_l7Change.l2 k m (vec n U) i ts (ts.length : Int) i ts[i].f0 (ts[i].f0.length : Int) j) (vec n (changeFrom ts m (ts.length - (i + 1)) (i + 1) (fireV V ts[i] (m.getD i 0)))) := by
        refine down (P := fun j U => bump U (ts[i].f0.drop j) (-(m.getD i 0)) = fireV V ts[i] (m.getD i 0) → Evt (fun k => spec_l7Change.l2 k m (vec n U) i ts (ts.length : Int) i ts[i].f0 (ts[i].f0.length : Int) j) (vec n (changeFrom ts m (ts.length - (i + 1)) (i + 1) (fireV V ts[i] (m.getD i 0))))) ?_ ?_
        · intro U hU
          rw [List.drop_length, bump_nil] at hU
          refine Evt.step ?_
          simp only [spec_l7Change.l2]
          rw [hU, wrapN i _ hi (by omega)]
          exact Evt.neg (natNotLt _) ih'
        · intro j hj ihj U hU
          have hb := hq.1 ts[i].f0[j] (List.getElem_mem hj)
          refine Evt.step ?_
          simp only [spec_l7Change.l2]
          rw [rdN ts[i].f0 j hj, wrapN j _ hj (by omega), rdD m i, put_sub n U _ _ hb.1 hb.2, vec_length]
          rw [dropN ts[i].f0 j hj, bump_cons] at hU
          exact Evt.pos (natLt _ _ hj) (Evt.pos (by omega) (Evt.pos (natLt _ _ hj) (Evt.pos hb.1 (Evt.pos hb.2 (Evt.pos (by omega) (Evt.pos (by omega) (ihj _ hU)))))))
      have k1 : ∀ j, j ≤ ts[i].f1.length → ∀ U : Nat → Int, bump U (ts[i].f1.drop j) (m.getD i 0) = bump V ts[i].f1 (m.getD i 0) → Evt (fun k => spec_l7Change.l1 k m (vec n U) i ts (ts.length : Int) i ts[i].f1 (ts[i].f1.length : Int) j ts[i].f0 ts[i].f1 ts[i].f2) (vec n (changeFrom ts m (ts.length - (i + 1)) (i + 1) (fireV V ts[i] (m.getD i 0)))) := by
        refine down (P := fun j U => bump U (ts[i].f1.drop j) (m.getD i 0) = bump V ts[i].f1 (m.getD i 0) → Evt (fun k => spec_l7Change.l1 k m (vec n U) i ts (ts.length : Int) i ts[i].f1 (ts[i].f1.length : Int) j ts[i].f0 ts[i].f1 ts[i].f2) (vec n (changeFrom ts m (ts.length - (i + 1)) (i + 1) (fireV V ts[i] (m.getD i 0))))) ?_ ?_
        · intro U hU
          rw [List.drop_length, bump_nil] at hU
          refine Evt.step ?_
          simp only [spec_l7Change.l1]
          refine Evt.neg (natNotLt _) (k2 0 (Nat.zero_le _) U ?_)
          rw [List.drop_zero, hU]; rfl
        · intro j hj ihj U hU
          have hb := hq.2 ts[i].f1[j] (List.getElem_mem hj)
          refine Evt.step ?_
          simp only [spec_l7Change.l1]
          rw [rdN ts[i].f1 j hj, wrapN j _ hj (by omega), rdD m i, put_add n U _ _ hb.1 hb.2, vec_length]
          rw [dropN ts[i].f1 j hj, bump_cons] at hU
          exact Evt.pos (natLt _ _ hj) (Evt.pos (by omega) (Evt.pos (natLt _ _ hj) (Evt.pos hb.1 (Evt.pos hb.2 (Evt.pos (by omega) (Evt.pos (by omega) (ihj _ hU)))))))
      exact k1 0 (Nat.zero_le _) V (by rw [List.drop_zero])
  unfold spec_l7Change.f
  refine Evt.pos (by omega) (Evt.pos (by omega) ?_)
  have e : List.replicate p.toNat (0 : Int) = vec n fun _ => 0 := by
    rw [hn, Int.toNat_natCast]
    apply List.ext_getElem
    · simp [vec]
    · intro i h1 h2; simp [vec, wrap64]
  rw [e]
  exact (key 0 (Nat.zero_le _) _).cast (by simp)
theorem fireV_comm (V : Nat → Int) (t : Tr) (c : Int) : bump (bump V t.f0 (-c)) t.f1 c = fireV V t c := bump_comm V t.f0 t.f1 (-c) c
theorem changeBy_ev (p : Int) (ts : List Tr) (m : List Int) (n : Nat) (hn : p = (n : Int)) (hn2 : n ≤ 16) (h : SmallN ts) (hm : m.length = ts.length) (hp : ∀ t ∈ ts, places n t.f0 ∧ places n t.f1) :
    Evt (fun k => impl_changeBy.f k p ts m) (vec n (changeFrom ts m ts.length 0 fun _ => 0)) := by
  have hl := h.1
  have key : ∀ i, i ≤ ts.length → ∀ V : Nat → Int, Evt (fun k => impl_changeBy.l0 k m (vec n V) ts (ts.length : Int) i) (vec n (changeFrom ts m (ts.length - i) i V)) := by
    refine down (P := fun i V => Evt (fun k => impl_changeBy.l0 k m (vec n V) ts (ts.length : Int) i) (vec n (changeFrom ts m (ts.length - i) i V))) ?_ ?_
    · intro V
      refine Evt.step ?_
      simp only [impl_changeBy.l0]
      exact Evt.neg (natNotLt _) ((Evt.ok _).cast (by simp [changeFrom]))
    · intro i hi ih V
      have hsm : SmallT ts[i] := h.2 _ (List.getElem_mem hi)
      have hq := hp ts[i] (List.getElem_mem hi)
      have er : rd_T63 ts (i : Int) = ts[i] := rdG ts _ i hi
      refine Evt.step ?_
      simp only [impl_changeBy.l0, er]
      refine Evt.pos (natLt _ _ hi) (Evt.pos (by omega) (Evt.pos (natLt _ _ hi) ?_))
      obtain ⟨d, hd⟩ : ∃ d, ts.length - i = d + 1 := ⟨ts.length - i - 1, by omega⟩
      rw [hd, changeFrom, getDN ts _ i hi, show d = ts.length - (i + 1) by omega]
      have ih' := ih (fireV V ts[i] (m.getD i 0))
      have s0 : ts[i].f0.length ≤ 1048576 := hsm.1
      have s1 : ts[i].f1.length ≤ 1048576 := hsm.2.1
      have k2 : ∀ j, j ≤ ts[i].f1.length → ∀ U : Nat → Int, bump U (ts[i].f1.drop j) (m.getD i 0) = fireV V ts[i] (m.getD i 0) → Evt (fun k => impl_changeBy.l2 k m (vec n U) i ts (ts.length : Int) i ts[i].f1 (ts[i].f1.length : Int) j) (vec n (changeFrom ts m (ts.length - (i + 1)) (i + 1) (fireV V ts[i] (m.getD i 0)))) := by
        refine down (P := fun j U => bump U (ts[i].f1.drop j) (m.getD i 0) = fireV V ts[i] (m.getD i 0) → Evt (fun k => impl_changeBy.l2 k m (vec n U) i ts (ts.length : Int) i ts[i].f1 (ts[i].f1.length : Int) j) (vec n (changeFrom ts m (ts.length - (i + 1)) (i + 1) (fireV V ts[i] (m.getD i 0))))) ?_ ?_
        · intro U hU
          rw [List.drop_length, bump_nil] at hU
          refine Evt.step ?_
          simp only [impl_changeBy.l2]
          rw [hU, wrapN i _ hi (by omega)]
          exact Evt.neg (natNotLt _) ih'
        · intro j hj ihj U hU
          have hb := hq.2 ts[i].f1[j] (List.getElem_mem hj)
          refine Evt.step ?_
          simp only [impl_changeBy.l2]
          rw [rdN ts[i].f1 j hj, wrapN j _ hj (by omega), rdD m i, put_add n U _ _ hb.1 hb.2, vec_length]
          rw [dropN ts[i].f1 j hj, bump_cons] at hU
          exact Evt.pos (natLt _ _ hj) (Evt.pos (by omega) (Evt.pos (natLt _ _ hj) (Evt.pos hb.1 (Evt.pos hb.2 (Evt.pos (by omega) (Evt.pos (by omega) (ihj _ hU)))))))
      have k1 : ∀ j, j ≤ ts[i].f0.length → ∀ U : Nat → Int, bump U (ts[i].f0.drop j) (-(m.getD i 0)) = bump V ts[i].f0 (-(m.getD i 0)) → Evt (fun k => impl_changeBy.l1 k m (vec n U) i ts (ts.length : Int) i ts[i].f0 (ts[i].f0.length : Int) j ts[i].f0 ts[i].f1 ts[i].f2) (vec n (changeFrom ts m (ts.length - (i + 1)) (i + 1) (fireV V ts[i] (m.getD i 0)))) := by
        refine down (P := fun j U => bump U (ts[i].f0.drop j) (-(m.getD i 0)) = bump V ts[i].f0 (-(m.getD i 0)) → Evt (fun k => impl_changeBy.l1 k m (vec n U) i ts (ts.length : Int) i ts[i].f0 (ts[i].f0.length : Int) j ts[i].f0 ts[i].f1 ts[i].f2) (vec n (changeFrom ts m (ts.length - (i + 1)) (i + 1) (fireV V ts[i] (m.getD i 0))))) ?_ ?_
        · intro U hU
          rw [List.drop_length, bump_nil] at hU
          refine Evt.step ?_
          simp only [impl_changeBy.l1]
          refine Evt.neg (natNotLt _) (k2 0 (Nat.zero_le _) U ?_)
          rw [List.drop_zero, hU]; exact fireV_comm V ts[i] _
        · intro j hj ihj U hU
          have hb := hq.1 ts[i].f0[j] (List.getElem_mem hj)
          refine Evt.step ?_
          simp only [impl_changeBy.l1]
          rw [rdN ts[i].f0 j hj, wrapN j _ hj (by omega), rdD m i, put_sub n U _ _ hb.1 hb.2, vec_length]
          rw [dropN ts[i].f0 j hj, bump_cons] at hU
          exact Evt.pos (natLt _ _ hj) (Evt.pos (by omega) (Evt.pos (natLt _ _ hj) (Evt.pos hb.1 (Evt.pos hb.2 (Evt.pos (by omega) (Evt.pos (by omega) (ihj _ hU)))))))
      exact k1 0 (Nat.zero_le _) V (by rw [List.drop_zero])
  unfold impl_changeBy.f
  refine Evt.pos (by omega) (Evt.pos (by omega) ?_)
  have e : List.replicate p.toNat (0 : Int) = vec n fun _ => 0 := by
    rw [hn, Int.toNat_natCast]
    apply List.ext_getElem
    · simp [vec]
    · intro i h1 h2; simp [vec, wrap64]
  rw [e]
  exact (key 0 (Nat.zero_le _) _).cast (by simp)
theorem change_places {p : Int} {ts : List Tr} (hg : goodNet p ts = true) : ∃ n : Nat, p = (n : Int) ∧ n ≤ 16 ∧ ∀ t ∈ ts, places n t.f0 ∧ places n t.f1 := by
  have hf := goodNet_facts hg
  refine ⟨p.toNat, by omega, by omega, fun t ht => ?_⟩
  have ht' := hf.2.2.2 t ht
  exact ⟨fun q hq => by have := rising_le ht'.2.1 q hq; omega, fun q hq => by have := rising_le ht'.2.2.1 q hq; omega⟩
end Go.Proofs.Ytffdacmdgfpnmaa.Lib
