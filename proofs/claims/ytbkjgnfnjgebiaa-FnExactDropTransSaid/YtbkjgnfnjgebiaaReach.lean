import Derived.Test.YtbkjgnfnjgebiaaF0
import Derived.Test.YtbkjgnfnjgebiaaF1
import Derived.Test.YtbkjgnfnjgebiaaF2
import Derived.Test.YtbkjgnfnjgebiaaF3
import Derived.Test.YtbkjgnfnjgebiaaGoodIn
import Derived.Test.YtbkjgnfnjgebiaaFilter
namespace Go.Proofs.Ytbkjgnfnjgebiaa.Lib
open Go.RowKit Go.Proofs.Ytbkjgnfnjgebiaa.F Go.Proofs.YtbkjgnfnjgebiaaW.PrintWords Go.Proofs.YtbkjgnfnjgebiaaW.PrintLast Go.Proofs.YtbkjgnfnjgebiaaW.PrintMore
theorem rdB (l : List Bool) (i : Nat) : rdOf false l (i : Int) = l.getD i false := by simp [rdOf]
def comes (P : List Bool) (ps : List Int) : Bool := ps.any fun q => rdOf false P q
def setAll (P : List Bool) (ps : List Int) : List Bool := ps.foldl (fun P q => P.set q.toNat true) P
theorem setAll_length (ps : List Int) : ∀ P : List Bool, (setAll P ps).length = P.length := by
  induction ps with
  | nil => intro P; rfl
  | cons q ps ih => intro P; show (setAll (P.set q.toNat true) ps).length = _; rw [ih]; simp
theorem count_set (R : List Bool) (i : Nat) (h : i < R.length) (hf : R[i] = false) : (R.set i true).count false < R.count false := by
  rw [List.count_set h, hf]
  have : 0 < R.count false := List.count_pos_iff.2 (hf ▸ List.getElem_mem h)
  simp; omega


theorem comeFwd_ev (p : Int) (ts : List Tr) (t : Tr) (P R : List Bool) (m : Bool) (i : Nat) (hi : i < R.length) (ht : SmallT t) (hp : ∀ q ∈ t.f0, 0 ≤ q ∧ q < (P.length : Int)) (r : List Bool × List Bool)
    (hr : Evt (fun k => spec_l3Forward.j3 k P R m (i : Int) ts (ts.length : Int) (i : Int) (!comes P t.f0 || rdOf false R (i : Int)) p ts t.f0 t.f1 t.f2) r) :
    Evt (fun k => spec_l3Forward.l2 k P R m (i : Int) false ts (ts.length : Int) (i : Int) t.f0 (t.f0.length : Int) 0 p ts t.f0 t.f1 t.f2) r := by
  have hl : Short t.f0 := ht.s0
  have hl' : t.f0.length ≤ 17592186044415 := hl
  have key : ∀ j, j ≤ t.f0.length → ∀ c : Bool, (c || comes P (t.f0.drop j)) = comes P t.f0 → Evt (fun k => spec_l3Forward.l2 k P R m (i : Int) c ts (ts.length : Int) (i : Int) t.f0 (t.f0.length : Int) (j : Int) p ts t.f0 t.f1 t.f2) r := by
    refine down (P := fun j (c : Bool) => (c || comes P (t.f0.drop j)) = comes P t.f0 → Evt (fun k => spec_l3Forward.l2 k P R m (i : Int) c ts (ts.length : Int) (i : Int) t.f0 (t.f0.length : Int) (j : Int) p ts t.f0 t.f1 t.f2) r) ?_ ?_
    · intro c hc
      have hc' : c = comes P t.f0 := by rw [← hc, List.drop_length]; simp [comes]
      refine Evt.step ?_
      simp only [spec_l3Forward.l2]
      refine Evt.neg (natNotLt _) ?_
      cases hcc : c with
      | true =>
        rw [← hc', hcc] at hr
        exact Evt.pos rfl (Evt.pos (by omega) (Evt.pos (by omega) hr))
      | false =>
        rw [← hc', hcc] at hr
        exact Evt.neg (by decide) hr
    · intro j hj ih c hc
      have hq := hp t.f0[j] (List.getElem_mem hj)
      refine Evt.step ?_
      simp only [spec_l3Forward.l2]
      rw [rdN t.f0 j hj, wrapN j _ hj (by omega)]
      rw [dropN t.f0 j hj] at hc
      refine Evt.pos (natLt _ _ hj) (Evt.pos (by omega) (Evt.pos (natLt _ _ hj) ?_))
      cases hcc : c with
      | true => exact Evt.pos rfl (ih true (by rw [← hc, hcc]; simp))
      | false =>
        refine Evt.neg (by decide) (Evt.pos hq.1 (Evt.pos hq.2 (ih _ ?_)))
        rw [← hc, hcc]; simp [comes, -List.getElem_cons_drop]
  exact key 0 (Nat.zero_le _) false (by simp)
theorem putFwd_ev (p : Int) (ts : List Tr) (ps : List Int) (R : List Bool) (n : Nat) (i : Int) (hl : Short ps) (hp : ∀ q ∈ ps, 0 ≤ q ∧ q < (n : Int)) (P : List Bool) (hP : P.length = n) (r : List Bool × List Bool)
    (hr : Evt (fun k => spec_l3Forward.l1 k (setAll P ps) R true ts (ts.length : Int) (wrap64 (i + 1)) p ts) r) : Evt (fun k => spec_l3Forward.l3 k P R true ts (ts.length : Int) i ps (ps.length : Int) 0 p ts) r := by
  have hl' : ps.length ≤ 17592186044415 := hl
  have key : ∀ j, j ≤ ps.length → ∀ P : List Bool, P.length = n → Evt (fun k => spec_l3Forward.l1 k (setAll P (ps.drop j)) R true ts (ts.length : Int) (wrap64 (i + 1)) p ts) r → Evt (fun k => spec_l3Forward.l3 k P R true ts (ts.length : Int) i ps (ps.length : Int) (j : Int) p ts) r := by
    refine down (P := fun j (P : List Bool) => P.length = n → Evt (fun k => spec_l3Forward.l1 k (setAll P (ps.drop j)) R true ts (ts.length : Int) (wrap64 (i + 1)) p ts) r → Evt (fun k => spec_l3Forward.l3 k P R true ts (ts.length : Int) i ps (ps.length : Int) (j : Int) p ts) r) ?_ ?_
    · intro P hP hr
      refine Evt.step ?_
      simp only [spec_l3Forward.l3]
      refine Evt.neg (natNotLt _) ?_
      rw [List.drop_length] at hr
      exact hr
    · intro j hj ih P hP hr
      have hq := hp ps[j] (List.getElem_mem hj)
      refine Evt.step ?_
      simp only [spec_l3Forward.l3]
      rw [rdN ps j hj, wrapN j _ hj (by omega)]
      rw [dropN ps j hj] at hr
      exact Evt.pos (natLt _ _ hj) (Evt.pos (by omega) (Evt.pos (natLt _ _ hj) (Evt.pos hq.1 (Evt.pos (by omega) (ih _ (by simpa using hP) hr)))))
  exact key 0 (Nat.zero_le _) P hP (by simpa using hr)
theorem putiFwd_ev (p : Int) (ts : List Tr) (ps : List Int) (R : List Bool) (n : Nat) (i : Int) (hl : Short ps) (hp : ∀ q ∈ ps, 0 ≤ q ∧ q < (n : Int)) (P : List Bool) (hP : P.length = n) (r : List Bool × List Bool)
    (hr : Evt (fun k => impl_reachedFrom_at_false.l1 k R true ts (ts.length : Int) (wrap64 (i + 1)) p ts (setAll P ps)) r) : Evt (fun k => impl_reachedFrom_at_false.l2 k R ts (ts.length : Int) i ps (ps.length : Int) 0 p ts P) r := by
  have hl' : ps.length ≤ 17592186044415 := hl
  have key : ∀ j, j ≤ ps.length → ∀ P : List Bool, P.length = n → Evt (fun k => impl_reachedFrom_at_false.l1 k R true ts (ts.length : Int) (wrap64 (i + 1)) p ts (setAll P (ps.drop j))) r → Evt (fun k => impl_reachedFrom_at_false.l2 k R ts (ts.length : Int) i ps (ps.length : Int) (j : Int) p ts P) r := by
    refine down (P := fun j (P : List Bool) => P.length = n → Evt (fun k => impl_reachedFrom_at_false.l1 k R true ts (ts.length : Int) (wrap64 (i + 1)) p ts (setAll P (ps.drop j))) r → Evt (fun k => impl_reachedFrom_at_false.l2 k R ts (ts.length : Int) i ps (ps.length : Int) (j : Int) p ts P) r) ?_ ?_
    · intro P hP hr
      refine Evt.step ?_
      simp only [impl_reachedFrom_at_false.l2]
      refine Evt.neg (natNotLt _) ?_
      rw [List.drop_length] at hr
      exact hr
    · intro j hj ih P hP hr
      have hq := hp ps[j] (List.getElem_mem hj)
      refine Evt.step ?_
      simp only [impl_reachedFrom_at_false.l2]
      rw [rdN ps j hj, wrapN j _ hj (by omega)]
      rw [dropN ps j hj] at hr
      exact Evt.pos (natLt _ _ hj) (Evt.pos (by omega) (Evt.pos (natLt _ _ hj) (Evt.pos hq.1 (Evt.pos (by omega) (ih _ (by simpa using hP) hr)))))
  exact key 0 (Nat.zero_le _) P hP (by simpa using hr)
theorem containsFwd_ev (ps : List Int) (P : List Bool) (hl : Short ps) (hp : ∀ q ∈ ps, 0 ≤ q ∧ q < (P.length : Int)) : Evt (fun k => slices_ContainsFunc_int_int_at_impl_reachedFrom_1.f k ps P) (comes P ps) := by
  refine containsFunc_gen (fun k (x : Int) => impl_reachedFrom_1.f x P) (fun q => rdOf false P q) (rd ps) (fun k i => slices_IndexFunc_int_int_at_impl_reachedFrom_1.l0 k ps (ps.length : Int) i P) _ ps ?_ ?_ ?_ ?_ hl
  · intro k; rfl
  · intro k i; simp only [slices_IndexFunc_int_int_at_impl_reachedFrom_1.l0]
  · intro x hx
    have hq := hp x hx
    simp only [impl_reachedFrom_1.f]
    exact Evt.pos hq.1 (Evt.pos hq.2 (Evt.ok _))
  · intro i hi; exact rdN ps i hi
theorem reachFwd_ex (p : Int) (ts : List Tr) (n : Nat) (h : SmallN ts) (hp : ∀ t ∈ ts, inNet n t) : ∀ c, ∀ P R : List Bool, P.length = n → R.length = ts.length → R.count false = c →
    ∃ r : List Bool × List Bool, Evt (fun k => spec_l3Forward.l0 k P R true p ts) r ∧ Evt (fun k => impl_reachedFrom_at_false.l0 k R true p ts P) r ∧ r.1.length = n ∧ r.2.length = ts.length := by
  intro c
  induction c using Nat.strongRecOn with
  | ind c IH =>
  intro P R hP hR hc
  have hl := h.1
  have key : ∀ i, i ≤ ts.length → ∀ st : List Bool × List Bool × Bool, st.1.length = n → st.2.1.length = ts.length → st.2.1.count false ≤ c → (st.2.2 = true → st.2.1.count false < c) →
      ∃ r : List Bool × List Bool, Evt (fun k => spec_l3Forward.l1 k st.1 st.2.1 st.2.2 ts (ts.length : Int) (i : Int) p ts) r ∧ Evt (fun k => impl_reachedFrom_at_false.l1 k st.2.1 st.2.2 ts (ts.length : Int) (i : Int) p ts st.1) r ∧ r.1.length = n ∧ r.2.length = ts.length := by
    refine down (P := fun i (st : List Bool × List Bool × Bool) => st.1.length = n → st.2.1.length = ts.length → st.2.1.count false ≤ c → (st.2.2 = true → st.2.1.count false < c) →
      ∃ r : List Bool × List Bool, Evt (fun k => spec_l3Forward.l1 k st.1 st.2.1 st.2.2 ts (ts.length : Int) (i : Int) p ts) r ∧ Evt (fun k => impl_reachedFrom_at_false.l1 k st.2.1 st.2.2 ts (ts.length : Int) (i : Int) p ts st.1) r ∧ r.1.length = n ∧ r.2.length = ts.length) ?_ ?_
    · rintro ⟨P, R, m⟩ hP hR hc hm
      cases m with
      | true =>
        obtain ⟨r, h1, h2, h3⟩ := IH _ (hm rfl) P R hP hR rfl
        refine ⟨r, Evt.step ?_, Evt.step ?_, h3⟩
        · simp only [spec_l3Forward.l1]; exact Evt.neg (natNotLt _) h1
        · simp only [impl_reachedFrom_at_false.l1]; exact Evt.neg (natNotLt _) h2
      | false =>
        refine ⟨(P, R), Evt.step ?_, Evt.step ?_, hP, hR⟩
        · simp only [spec_l3Forward.l1]
          refine Evt.neg (natNotLt _) (Evt.step ?_)
          simp only [spec_l3Forward.l0]
          exact Evt.neg (by decide) (Evt.ok _)
        · simp only [impl_reachedFrom_at_false.l1]
          refine Evt.neg (natNotLt _) (Evt.step ?_)
          simp only [impl_reachedFrom_at_false.l0]
          exact Evt.neg (by decide) (Evt.ok _)
    · rintro i hi ih ⟨P, R, m⟩ hP hR hc hm
      have hP' : P.length = n := hP
      have hR' : R.length = ts.length := hR
      have hsm : SmallT ts[i] := h.2 _ (List.getElem_mem hi)
      have hin := hp ts[i] (List.getElem_mem hi)
      have er : rd_T63 ts (i : Int) = ts[i] := rdG ts _ i hi
      have eR : rdOf false R (i : Int) = R[i]'(by omega) := by rw [rdB, getDN R false i (by omega)]
      have hA : ∀ q ∈ ts[i].f0, 0 ≤ q ∧ q < (P.length : Int) := by rw [hP']; exact hin.1
      -- both sides, to the choice
      have hS : ∀ r, Evt (fun k => spec_l3Forward.j3 k P R m (i : Int) ts (ts.length : Int) (i : Int) (!comes P ts[i].f0 || rdOf false R (i : Int)) p ts ts[i].f0 ts[i].f1 ts[i].f2) r → Evt (fun k => spec_l3Forward.l1 k P R m ts (ts.length : Int) (i : Int) p ts) r := by
        intro r hr
        refine Evt.step ?_
        simp only [spec_l3Forward.l1, er]
        exact Evt.pos (natLt _ _ hi) (Evt.pos (by omega) (Evt.pos (natLt _ _ hi) (comeFwd_ev p ts ts[i] P R m i (by omega) hsm hA r hr)))
      have hI : ∀ r, Evt (fun k => impl_reachedFrom_at_false.j2 k R m (i : Int) ts[i].f1 ts (ts.length : Int) (i : Int) (!comes P ts[i].f0 || rdOf false R (i : Int)) p ts P) r → Evt (fun k => impl_reachedFrom_at_false.l1 k R m ts (ts.length : Int) (i : Int) p ts P) r := by
        intro r hr
        refine Evt.step ?_
        simp only [impl_reachedFrom_at_false.l1, er]
        refine Evt.pos (natLt _ _ hi) (Evt.pos (by omega) (Evt.pos (natLt _ _ hi) (Evt.pos (by omega) ?_)))
        cases hx : rdOf false R (i : Int) with
        | true => rw [hx] at hr; exact Evt.pos rfl (by simpa using hr)
        | false => rw [hx] at hr; exact Evt.neg (by decide) (Evt.bind (containsFwd_ev _ P hsm.s0 hA) (by simpa using hr))
      cases hx : (!comes P ts[i].f0 || rdOf false R (i : Int)) with
      | true =>
        obtain ⟨r, h1, h2, h3⟩ := ih (P, R, m) hP hR hc hm
        refine ⟨r, hS r ?_, hI r ?_, h3⟩
        · rw [hx]
          refine Evt.step ?_
          simp only [spec_l3Forward.j3]
          rw [wrapN i _ hi (by omega)]
          exact Evt.pos (by trivial) h1
        · rw [hx]
          refine Evt.step ?_
          simp only [impl_reachedFrom_at_false.j2]
          rw [wrapN i _ hi (by omega)]
          exact Evt.pos (by trivial) h2
      | false =>
        have hRi : R[i]'(by omega) = false := by
          rw [← eR]
          cases hz : rdOf false R (i : Int) with
          | false => rfl
          | true => rw [hz] at hx; simp at hx
        have hcnt := count_set R i (by omega) hRi
        have hc' : R.count false ≤ c := hc
        obtain ⟨r, h1, h2, h3⟩ := ih (setAll P ts[i].f1, R.set i true, true) (by show (setAll P ts[i].f1).length = n; rw [setAll_length]; exact hP') (by simpa using hR') (by show (R.set i true).count false ≤ c; omega) (fun _ => by show (R.set i true).count false < c; omega)
        refine ⟨r, hS r ?_, hI r ?_, h3⟩
        · rw [hx]
          refine Evt.step ?_
          simp only [spec_l3Forward.j3]
          refine Evt.neg (by decide) (Evt.pos (by omega) (Evt.pos (by omega) ?_))
          rw [Int.toNat_natCast]
          exact putFwd_ev p ts _ _ n i hsm.s1 hin.2.1 P hP' r (by rw [wrapN i _ hi (by omega)]; exact h1)
        · rw [hx]
          refine Evt.step ?_
          simp only [impl_reachedFrom_at_false.j2]
          refine Evt.neg (by decide) (Evt.pos (by omega) (Evt.pos (by omega) ?_))
          rw [Int.toNat_natCast]
          exact putiFwd_ev p ts _ _ n i hsm.s1 hin.2.1 P hP' r (by rw [wrapN i _ hi (by omega)]; exact h2)
  obtain ⟨r, h1, h2, h3⟩ := key 0 (Nat.zero_le _) (P, R, false) hP hR (by show R.count false ≤ c; omega) (fun e => by cases e)
  refine ⟨r, Evt.step ?_, Evt.step ?_, h3⟩
  · simp only [spec_l3Forward.l0]; exact Evt.pos (by trivial) h1
  · simp only [impl_reachedFrom_at_false.l0]; exact Evt.pos (by trivial) h2
theorem reachFwd (p : Int) (ts : List Tr) (x : Int) (h : SmallN ts) (hg : goodNet p ts = true) (hx : 0 ≤ x ∧ x < p) : ∃ r : List Bool × List Bool, Evt (fun k => spec_l3Forward.f k p ts x) r ∧ Evt (fun k => impl_reachedFrom_at_false.f k p ts x) r ∧ (r.1.length : Int) = p ∧ r.2.length = ts.length := by
  have hf := goodNet_facts hg
  have hl := h.1
  obtain ⟨r, h1, h2, h3, h4⟩ := reachFwd_ex p ts p.toNat h (good_inNet hg p.toNat (by omega)) _ ((List.replicate p.toNat false).set x.toNat true) (List.replicate ts.length false) (by simp) (by simp) rfl
  refine ⟨r, ?_, ?_, by omega, h4⟩
  · unfold spec_l3Forward.f
    simp only [Option.bind_some]
    refine Evt.pos (by omega) (Evt.pos (by omega) (Evt.pos (by omega) (Evt.pos (by rw [Int.toNat_natCast]; omega) (Evt.pos hx.1 (Evt.pos (by rw [List.length_replicate]; omega) ?_)))))
    rw [Int.toNat_natCast]; exact h1
  · unfold impl_reachedFrom_at_false.f
    simp only [Option.bind_some]
    refine Evt.pos (by omega) (Evt.pos (by omega) (Evt.pos (by omega) (Evt.pos (by rw [Int.toNat_natCast]; omega) (Evt.pos hx.1 (Evt.pos (by rw [List.length_replicate]; omega) ?_)))))
    rw [Int.toNat_natCast]; exact h2

theorem comeBack_ev (p : Int) (ts : List Tr) (t : Tr) (P R : List Bool) (m : Bool) (i : Nat) (hi : i < R.length) (ht : SmallT t) (hp : ∀ q ∈ t.f1, 0 ≤ q ∧ q < (P.length : Int)) (r : List Bool × List Bool)
    (hr : Evt (fun k => spec_l3Back.j3 k P R m (i : Int) ts (ts.length : Int) (i : Int) (!comes P t.f1 || rdOf false R (i : Int)) p ts t.f0 t.f1 t.f2) r) :
    Evt (fun k => spec_l3Back.l2 k P R m (i : Int) false ts (ts.length : Int) (i : Int) t.f1 (t.f1.length : Int) 0 p ts t.f0 t.f1 t.f2) r := by
  have hl : Short t.f1 := ht.s1
  have hl' : t.f1.length ≤ 17592186044415 := hl
  have key : ∀ j, j ≤ t.f1.length → ∀ c : Bool, (c || comes P (t.f1.drop j)) = comes P t.f1 → Evt (fun k => spec_l3Back.l2 k P R m (i : Int) c ts (ts.length : Int) (i : Int) t.f1 (t.f1.length : Int) (j : Int) p ts t.f0 t.f1 t.f2) r := by
    refine down (P := fun j (c : Bool) => (c || comes P (t.f1.drop j)) = comes P t.f1 → Evt (fun k => spec_l3Back.l2 k P R m (i : Int) c ts (ts.length : Int) (i : Int) t.f1 (t.f1.length : Int) (j : Int) p ts t.f0 t.f1 t.f2) r) ?_ ?_
    · intro c hc
      have hc' : c = comes P t.f1 := by rw [← hc, List.drop_length]; simp [comes]
      refine Evt.step ?_
      simp only [spec_l3Back.l2]
      refine Evt.neg (natNotLt _) ?_
      cases hcc : c with
      | true =>
        rw [← hc', hcc] at hr
        exact Evt.pos rfl (Evt.pos (by omega) (Evt.pos (by omega) hr))
      | false =>
        rw [← hc', hcc] at hr
        exact Evt.neg (by decide) hr
    · intro j hj ih c hc
      have hq := hp t.f1[j] (List.getElem_mem hj)
      refine Evt.step ?_
      simp only [spec_l3Back.l2]
      rw [rdN t.f1 j hj, wrapN j _ hj (by omega)]
      rw [dropN t.f1 j hj] at hc
      refine Evt.pos (natLt _ _ hj) (Evt.pos (by omega) (Evt.pos (natLt _ _ hj) ?_))
      cases hcc : c with
      | true => exact Evt.pos rfl (ih true (by rw [← hc, hcc]; simp))
      | false =>
        refine Evt.neg (by decide) (Evt.pos hq.1 (Evt.pos hq.2 (ih _ ?_)))
        rw [← hc, hcc]; simp [comes, -List.getElem_cons_drop]
  exact key 0 (Nat.zero_le _) false (by simp)
theorem putBack_ev (p : Int) (ts : List Tr) (ps : List Int) (R : List Bool) (n : Nat) (i : Int) (hl : Short ps) (hp : ∀ q ∈ ps, 0 ≤ q ∧ q < (n : Int)) (P : List Bool) (hP : P.length = n) (r : List Bool × List Bool)
    (hr : Evt (fun k => spec_l3Back.l1 k (setAll P ps) R true ts (ts.length : Int) (wrap64 (i + 1)) p ts) r) : Evt (fun k => spec_l3Back.l3 k P R true ts (ts.length : Int) i ps (ps.length : Int) 0 p ts) r := by
  have hl' : ps.length ≤ 17592186044415 := hl
  have key : ∀ j, j ≤ ps.length → ∀ P : List Bool, P.length = n → Evt (fun k => spec_l3Back.l1 k (setAll P (ps.drop j)) R true ts (ts.length : Int) (wrap64 (i + 1)) p ts) r → Evt (fun k => spec_l3Back.l3 k P R true ts (ts.length : Int) i ps (ps.length : Int) (j : Int) p ts) r := by
    refine down (P := fun j (P : List Bool) => P.length = n → Evt (fun k => spec_l3Back.l1 k (setAll P (ps.drop j)) R true ts (ts.length : Int) (wrap64 (i + 1)) p ts) r → Evt (fun k => spec_l3Back.l3 k P R true ts (ts.length : Int) i ps (ps.length : Int) (j : Int) p ts) r) ?_ ?_
    · intro P hP hr
      refine Evt.step ?_
      simp only [spec_l3Back.l3]
      refine Evt.neg (natNotLt _) ?_
      rw [List.drop_length] at hr
      exact hr
    · intro j hj ih P hP hr
      have hq := hp ps[j] (List.getElem_mem hj)
      refine Evt.step ?_
      simp only [spec_l3Back.l3]
      rw [rdN ps j hj, wrapN j _ hj (by omega)]
      rw [dropN ps j hj] at hr
      exact Evt.pos (natLt _ _ hj) (Evt.pos (by omega) (Evt.pos (natLt _ _ hj) (Evt.pos hq.1 (Evt.pos (by omega) (ih _ (by simpa using hP) hr)))))
  exact key 0 (Nat.zero_le _) P hP (by simpa using hr)
theorem putiBack_ev (p : Int) (ts : List Tr) (ps : List Int) (R : List Bool) (n : Nat) (i : Int) (hl : Short ps) (hp : ∀ q ∈ ps, 0 ≤ q ∧ q < (n : Int)) (P : List Bool) (hP : P.length = n) (r : List Bool × List Bool)
    (hr : Evt (fun k => impl_reachedFrom_at_true.l1 k R true ts (ts.length : Int) (wrap64 (i + 1)) p ts (setAll P ps)) r) : Evt (fun k => impl_reachedFrom_at_true.l2 k R ts (ts.length : Int) i ps (ps.length : Int) 0 p ts P) r := by
  have hl' : ps.length ≤ 17592186044415 := hl
  have key : ∀ j, j ≤ ps.length → ∀ P : List Bool, P.length = n → Evt (fun k => impl_reachedFrom_at_true.l1 k R true ts (ts.length : Int) (wrap64 (i + 1)) p ts (setAll P (ps.drop j))) r → Evt (fun k => impl_reachedFrom_at_true.l2 k R ts (ts.length : Int) i ps (ps.length : Int) (j : Int) p ts P) r := by
    refine down (P := fun j (P : List Bool) => P.length = n → Evt (fun k => impl_reachedFrom_at_true.l1 k R true ts (ts.length : Int) (wrap64 (i + 1)) p ts (setAll P (ps.drop j))) r → Evt (fun k => impl_reachedFrom_at_true.l2 k R ts (ts.length : Int) i ps (ps.length : Int) (j : Int) p ts P) r) ?_ ?_
    · intro P hP hr
      refine Evt.step ?_
      simp only [impl_reachedFrom_at_true.l2]
      refine Evt.neg (natNotLt _) ?_
      rw [List.drop_length] at hr
      exact hr
    · intro j hj ih P hP hr
      have hq := hp ps[j] (List.getElem_mem hj)
      refine Evt.step ?_
      simp only [impl_reachedFrom_at_true.l2]
      rw [rdN ps j hj, wrapN j _ hj (by omega)]
      rw [dropN ps j hj] at hr
      exact Evt.pos (natLt _ _ hj) (Evt.pos (by omega) (Evt.pos (natLt _ _ hj) (Evt.pos hq.1 (Evt.pos (by omega) (ih _ (by simpa using hP) hr)))))
  exact key 0 (Nat.zero_le _) P hP (by simpa using hr)
theorem containsBack_ev (ps : List Int) (P : List Bool) (hl : Short ps) (hp : ∀ q ∈ ps, 0 ≤ q ∧ q < (P.length : Int)) : Evt (fun k => slices_ContainsFunc_int_int_at_impl_reachedFrom_1.f k ps P) (comes P ps) := by
  refine containsFunc_gen (fun k (x : Int) => impl_reachedFrom_1.f x P) (fun q => rdOf false P q) (rd ps) (fun k i => slices_IndexFunc_int_int_at_impl_reachedFrom_1.l0 k ps (ps.length : Int) i P) _ ps ?_ ?_ ?_ ?_ hl
  · intro k; rfl
  · intro k i; simp only [slices_IndexFunc_int_int_at_impl_reachedFrom_1.l0]
  · intro x hx
    have hq := hp x hx
    simp only [impl_reachedFrom_1.f]
    exact Evt.pos hq.1 (Evt.pos hq.2 (Evt.ok _))
  · intro i hi; exact rdN ps i hi
theorem reachBack_ex (p : Int) (ts : List Tr) (n : Nat) (h : SmallN ts) (hp : ∀ t ∈ ts, inNet n t) : ∀ c, ∀ P R : List Bool, P.length = n → R.length = ts.length → R.count false = c →
    ∃ r : List Bool × List Bool, Evt (fun k => spec_l3Back.l0 k P R true p ts) r ∧ Evt (fun k => impl_reachedFrom_at_true.l0 k R true p ts P) r ∧ r.1.length = n ∧ r.2.length = ts.length := by
  intro c
  induction c using Nat.strongRecOn with
  | ind c IH =>
  intro P R hP hR hc
  have hl := h.1
  have key : ∀ i, i ≤ ts.length → ∀ st : List Bool × List Bool × Bool, st.1.length = n → st.2.1.length = ts.length → st.2.1.count false ≤ c → (st.2.2 = true → st.2.1.count false < c) →
      ∃ r : List Bool × List Bool, Evt (fun k => spec_l3Back.l1 k st.1 st.2.1 st.2.2 ts (ts.length : Int) (i : Int) p ts) r ∧ Evt (fun k => impl_reachedFrom_at_true.l1 k st.2.1 st.2.2 ts (ts.length : Int) (i : Int) p ts st.1) r ∧ r.1.length = n ∧ r.2.length = ts.length := by
    refine down (P := fun i (st : List Bool × List Bool × Bool) => st.1.length = n → st.2.1.length = ts.length → st.2.1.count false ≤ c → (st.2.2 = true → st.2.1.count false < c) →
      ∃ r : List Bool × List Bool, Evt (fun k => spec_l3Back.l1 k st.1 st.2.1 st.2.2 ts (ts.length : Int) (i : Int) p ts) r ∧ Evt (fun k => impl_reachedFrom_at_true.l1 k st.2.1 st.2.2 ts (ts.length : Int) (i : Int) p ts st.1) r ∧ r.1.length = n ∧ r.2.length = ts.length) ?_ ?_
    · rintro ⟨P, R, m⟩ hP hR hc hm
      cases m with
      | true =>
        obtain ⟨r, h1, h2, h3⟩ := IH _ (hm rfl) P R hP hR rfl
        refine ⟨r, Evt.step ?_, Evt.step ?_, h3⟩
        · simp only [spec_l3Back.l1]; exact Evt.neg (natNotLt _) h1
        · simp only [impl_reachedFrom_at_true.l1]; exact Evt.neg (natNotLt _) h2
      | false =>
        refine ⟨(P, R), Evt.step ?_, Evt.step ?_, hP, hR⟩
        · simp only [spec_l3Back.l1]
          refine Evt.neg (natNotLt _) (Evt.step ?_)
          simp only [spec_l3Back.l0]
          exact Evt.neg (by decide) (Evt.ok _)
        · simp only [impl_reachedFrom_at_true.l1]
          refine Evt.neg (natNotLt _) (Evt.step ?_)
          simp only [impl_reachedFrom_at_true.l0]
          exact Evt.neg (by decide) (Evt.ok _)
    · rintro i hi ih ⟨P, R, m⟩ hP hR hc hm
      have hP' : P.length = n := hP
      have hR' : R.length = ts.length := hR
      have hsm : SmallT ts[i] := h.2 _ (List.getElem_mem hi)
      have hin := hp ts[i] (List.getElem_mem hi)
      have er : rd_T63 ts (i : Int) = ts[i] := rdG ts _ i hi
      have eR : rdOf false R (i : Int) = R[i]'(by omega) := by rw [rdB, getDN R false i (by omega)]
      have hA : ∀ q ∈ ts[i].f1, 0 ≤ q ∧ q < (P.length : Int) := by rw [hP']; exact hin.2.1
      -- both sides, to the choice
      have hS : ∀ r, Evt (fun k => spec_l3Back.j3 k P R m (i : Int) ts (ts.length : Int) (i : Int) (!comes P ts[i].f1 || rdOf false R (i : Int)) p ts ts[i].f0 ts[i].f1 ts[i].f2) r → Evt (fun k => spec_l3Back.l1 k P R m ts (ts.length : Int) (i : Int) p ts) r := by
        intro r hr
        refine Evt.step ?_
        simp only [spec_l3Back.l1, er]
        exact Evt.pos (natLt _ _ hi) (Evt.pos (by omega) (Evt.pos (natLt _ _ hi) (comeBack_ev p ts ts[i] P R m i (by omega) hsm hA r hr)))
      have hI : ∀ r, Evt (fun k => impl_reachedFrom_at_true.j2 k R m (i : Int) ts[i].f0 ts (ts.length : Int) (i : Int) (!comes P ts[i].f1 || rdOf false R (i : Int)) p ts P) r → Evt (fun k => impl_reachedFrom_at_true.l1 k R m ts (ts.length : Int) (i : Int) p ts P) r := by
        intro r hr
        refine Evt.step ?_
        simp only [impl_reachedFrom_at_true.l1, er]
        refine Evt.pos (natLt _ _ hi) (Evt.pos (by omega) (Evt.pos (natLt _ _ hi) (Evt.pos (by omega) ?_)))
        cases hx : rdOf false R (i : Int) with
        | true => rw [hx] at hr; exact Evt.pos rfl (by simpa using hr)
        | false => rw [hx] at hr; exact Evt.neg (by decide) (Evt.bind (containsBack_ev _ P hsm.s1 hA) (by simpa using hr))
      cases hx : (!comes P ts[i].f1 || rdOf false R (i : Int)) with
      | true =>
        obtain ⟨r, h1, h2, h3⟩ := ih (P, R, m) hP hR hc hm
        refine ⟨r, hS r ?_, hI r ?_, h3⟩
        · rw [hx]
          refine Evt.step ?_
          simp only [spec_l3Back.j3]
          rw [wrapN i _ hi (by omega)]
          exact Evt.pos (by trivial) h1
        · rw [hx]
          refine Evt.step ?_
          simp only [impl_reachedFrom_at_true.j2]
          rw [wrapN i _ hi (by omega)]
          exact Evt.pos (by trivial) h2
      | false =>
        have hRi : R[i]'(by omega) = false := by
          rw [← eR]
          cases hz : rdOf false R (i : Int) with
          | false => rfl
          | true => rw [hz] at hx; simp at hx
        have hcnt := count_set R i (by omega) hRi
        have hc' : R.count false ≤ c := hc
        obtain ⟨r, h1, h2, h3⟩ := ih (setAll P ts[i].f0, R.set i true, true) (by show (setAll P ts[i].f0).length = n; rw [setAll_length]; exact hP') (by simpa using hR') (by show (R.set i true).count false ≤ c; omega) (fun _ => by show (R.set i true).count false < c; omega)
        refine ⟨r, hS r ?_, hI r ?_, h3⟩
        · rw [hx]
          refine Evt.step ?_
          simp only [spec_l3Back.j3]
          refine Evt.neg (by decide) (Evt.pos (by omega) (Evt.pos (by omega) ?_))
          rw [Int.toNat_natCast]
          exact putBack_ev p ts _ _ n i hsm.s0 hin.1 P hP' r (by rw [wrapN i _ hi (by omega)]; exact h1)
        · rw [hx]
          refine Evt.step ?_
          simp only [impl_reachedFrom_at_true.j2]
          refine Evt.neg (by decide) (Evt.pos (by omega) (Evt.pos (by omega) ?_))
          rw [Int.toNat_natCast]
          exact putiBack_ev p ts _ _ n i hsm.s0 hin.1 P hP' r (by rw [wrapN i _ hi (by omega)]; exact h2)
  obtain ⟨r, h1, h2, h3⟩ := key 0 (Nat.zero_le _) (P, R, false) hP hR (by show R.count false ≤ c; omega) (fun e => by cases e)
  refine ⟨r, Evt.step ?_, Evt.step ?_, h3⟩
  · simp only [spec_l3Back.l0]; exact Evt.pos (by trivial) h1
  · simp only [impl_reachedFrom_at_true.l0]; exact Evt.pos (by trivial) h2
theorem reachBack (p : Int) (ts : List Tr) (x : Int) (h : SmallN ts) (hg : goodNet p ts = true) (hx : 0 ≤ x ∧ x < p) : ∃ r : List Bool × List Bool, Evt (fun k => spec_l3Back.f k p ts x) r ∧ Evt (fun k => impl_reachedFrom_at_true.f k p ts x) r ∧ (r.1.length : Int) = p ∧ r.2.length = ts.length := by
  have hf := goodNet_facts hg
  have hl := h.1
  obtain ⟨r, h1, h2, h3, h4⟩ := reachBack_ex p ts p.toNat h (good_inNet hg p.toNat (by omega)) _ ((List.replicate p.toNat false).set x.toNat true) (List.replicate ts.length false) (by simp) (by simp) rfl
  refine ⟨r, ?_, ?_, by omega, h4⟩
  · unfold spec_l3Back.f
    simp only [Option.bind_some]
    refine Evt.pos (by omega) (Evt.pos (by omega) (Evt.pos (by omega) (Evt.pos (by rw [Int.toNat_natCast]; omega) (Evt.pos hx.1 (Evt.pos (by rw [List.length_replicate]; omega) ?_)))))
    rw [Int.toNat_natCast]; exact h1
  · unfold impl_reachedFrom_at_true.f
    simp only [Option.bind_some]
    refine Evt.pos (by omega) (Evt.pos (by omega) (Evt.pos (by omega) (Evt.pos (by rw [Int.toNat_natCast]; omega) (Evt.pos hx.1 (Evt.pos (by rw [List.length_replicate]; omega) ?_)))))
    rw [Int.toNat_natCast]; exact h2

def bothL (a b : List Bool) : List Int := picks (fun i => a.getD i false && b.getD i false) 0 a.length
theorem bothL_length (a b : List Bool) : (bothL a b).length ≤ a.length := picks_length _ _ _
theorem l3Both_ev (a b : List Bool) (ha : Short a) (hab : a.length = b.length) : Evt (fun k => spec_l3Both.f k a b) (bothL a b) := by
  have ha' : a.length ≤ 17592186044415 := ha
  unfold spec_l3Both.f
  refine loop_picks (fun k s (i : Nat) => spec_l3Both.l0 k a b s (a.length : Int) (i : Int)) (fun s => s) a.length _ ?_ ?_ ?_
  · intro s
    simp only [spec_l3Both.l0]
    exact Evt.neg (natNotLt _) (Evt.ok _)
  · intro i hi hT s hs r hr
    rw [Bool.and_eq_true] at hT
    simp only [spec_l3Both.l0]
    rw [wrapN i _ hi (by omega), rdB, rdB]
    exact Evt.pos (natLt _ _ hi) (Evt.pos (by omega) (Evt.pos (natLt _ _ hi) (Evt.pos hT.1 (Evt.pos (by omega) (Evt.pos hT.2 (Evt.pos (by omega) hr))))))
  · intro i hi hT s r hr
    simp only [spec_l3Both.l0]
    rw [wrapN i _ hi (by omega), rdB, rdB]
    refine Evt.pos (natLt _ _ hi) (Evt.pos (by omega) (Evt.pos (natLt _ _ hi) ?_))
    cases h1 : a.getD i false with
    | false => exact Evt.neg (by decide) hr
    | true =>
      rw [h1, Bool.true_and] at hT
      exact Evt.pos rfl (Evt.pos (by omega) (Evt.neg (by rw [hT]; decide) hr))
theorem bothOf_ev (a b : List Bool) (ha : Short a) (hab : a.length = b.length) : Evt (fun k => impl_bothOf.f k a b) (bothL a b) := by
  have ha' : a.length ≤ 17592186044415 := ha
  unfold impl_bothOf.f
  refine loop_picks (fun k s (i : Nat) => impl_bothOf.l0 k b s a (a.length : Int) (i : Int)) (fun s => s) a.length _ ?_ ?_ ?_
  · intro s
    simp only [impl_bothOf.l0]
    exact Evt.neg (natNotLt _) (Evt.ok _)
  · intro i hi hT s hs r hr
    rw [Bool.and_eq_true] at hT
    simp only [impl_bothOf.l0]
    rw [wrapN i _ hi (by omega), rdB, rdB]
    exact Evt.pos (natLt _ _ hi) (Evt.pos (by omega) (Evt.pos (natLt _ _ hi) (Evt.pos hT.1 (Evt.pos (by omega) (Evt.pos hT.2 (Evt.pos (by omega) hr))))))
  · intro i hi hT s r hr
    simp only [impl_bothOf.l0]
    rw [wrapN i _ hi (by omega), rdB, rdB]
    refine Evt.pos (natLt _ _ hi) (Evt.pos (by omega) (Evt.pos (natLt _ _ hi) ?_))
    cases h1 : a.getD i false with
    | false => exact Evt.neg (by decide) hr
    | true =>
      rw [h1, Bool.true_and] at hT
      exact Evt.pos rfl (Evt.pos (by omega) (Evt.neg (by rw [hT]; decide) hr))
end Go.Proofs.Ytbkjgnfnjgebiaa.Lib
