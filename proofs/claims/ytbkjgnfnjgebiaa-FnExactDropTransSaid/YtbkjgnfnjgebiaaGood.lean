import Derived.Test.YtbkjgnfnjgebiaaF0
import Derived.Test.YtbkjgnfnjgebiaaF1
import Derived.Test.YtbkjgnfnjgebiaaF2
import Derived.Test.YtbkjgnfnjgebiaaNet
import Derived.Test.YtbkjgnfnjgebiaaIn
namespace Go.Proofs.Ytbkjgnfnjgebiaa.Lib
open Go.RowKit Go.Proofs.Ytbkjgnfnjgebiaa.F Go.Proofs.YtbkjgnfnjgebiaaW.PrintWords Go.Proofs.YtbkjgnfnjgebiaaW.PrintLast Go.Proofs.YtbkjgnfnjgebiaaW.PrintMore
def incrAt (l : List Int) (i : Nat) : Bool := decide (i = 0 ∨ l.getD (i - 1) 0 < l.getD i 0)
def incr (l : List Int) : Bool := (List.range l.length).all (incrAt l)
def rising (l : List Int) (lo hi : Int) : Bool := incr l && allIn l lo hi
theorem incrAt_succ (l : List Int) (i : Nat) (h : i + 1 < l.length) : incrAt l (i + 1) = decide (rd l (i : Int) < rd l ((i + 1 : Nat) : Int)) := by
  unfold incrAt; rw [rdD, rdD]; congr 1; simp
theorem wrap_pred (i n : Nat) (h : i < n) (hn : n ≤ 4611686018427387904) : wrap64 (((i + 1 : Nat) : Int) - 1) = (i : Int) := by unfold wrap64; omega
theorem l1Rising_ev (l : List Int) (lo hi : Int) (hl : Short l) : Evt (fun k => spec_l1Rising.f k l lo hi) (rising l lo hi) := by
  have hl' : l.length ≤ 17592186044415 := hl
  unfold spec_l1Rising.f
  have h := loop_all (fun k i => spec_l1Rising.l0 k l lo hi l (l.length : Int) (i : Int)) l.length (fun i => within (l.getD i 0) lo hi && incrAt l i) ?_ ?_ ?_
  · refine h.cast (Bool.eq_iff_iff.2 ?_)
    simp only [rising, incr, allIn, Bool.and_eq_true, List.all_eq_true, List.mem_range]
    constructor
    · intro h
      refine ⟨fun i hi => (h i hi).2, fun x hx => ?_⟩
      obtain ⟨i, hi, rfl⟩ := List.getElem_of_mem hx
      have := (h i hi).1
      rwa [getDN l 0 i hi] at this
    · intro h i hi
      exact ⟨by rw [getDN l 0 i hi]; exact h.2 _ (List.getElem_mem hi), h.1 i hi⟩
  · simp only [spec_l1Rising.l0]
    exact Evt.neg (natNotLt _) (Evt.ok _)
  · intro i hi_ hp r hr
    rw [Bool.and_eq_true] at hp
    simp only [spec_l1Rising.l0]
    refine Evt.pos (natLt _ _ hi_) (Evt.pos (by omega) (Evt.pos (natLt _ _ hi_) ?_))
    rw [wrapN i _ hi_ (by omega), rdD]
    refine Evt.bind0 (l1In_eq _ _ _) (Evt.pos hp.1 ?_)
    cases i with
    | zero => exact Evt.neg (by simp) hr
    | succ i =>
      have h2 := hp.2
      rw [incrAt_succ l i hi_, rdD, rdD] at h2
      have h3 := of_decide_eq_true h2
      rw [wrap_pred i l.length (by omega) (by omega), rdD]
      exact Evt.pos (by omega) (Evt.pos (by omega) (Evt.pos (by omega) (Evt.neg (by omega) hr)))
  · intro i hi_ hp
    rw [Bool.and_eq_false_iff] at hp
    simp only [spec_l1Rising.l0]
    refine Evt.pos (natLt _ _ hi_) (Evt.pos (by omega) (Evt.pos (natLt _ _ hi_) ?_))
    rw [rdD]
    refine Evt.bind0 (l1In_eq _ _ _) ?_
    cases hw : within (l.getD i 0) lo hi with
    | false => exact Evt.neg (by decide) (Evt.ok _)
    | true =>
      refine Evt.pos rfl ?_
      have h2 : incrAt l i = false := by rcases hp with hp | hp; · rw [hw] at hp; cases hp
                                         · exact hp
      cases i with
      | zero => simp [incrAt] at h2
      | succ i =>
        rw [incrAt_succ l i hi_, rdD, rdD] at h2
        have h3 := of_decide_eq_false h2
        rw [wrap_pred i l.length (by omega) (by omega), rdD]
        exact Evt.pos (by omega) (Evt.pos (by omega) (Evt.pos (by omega) (Evt.pos (by omega) (Evt.ok _))))
theorem increasing_ev (l : List Int) (hl : Short l) : Evt (fun k => impl_increasing.f k l) (incr l) := by
  have hl' : l.length ≤ 17592186044415 := hl
  unfold impl_increasing.f
  cases l with
  | nil =>
    refine Evt.step ?_
    simp only [impl_increasing.l0]
    exact Evt.neg (by simp) (Evt.ok _)
  | cons x t =>
    have h := loop_all (fun k (i : Nat) => impl_increasing.l0 k (x :: t) (((i + 1 : Nat)) : Int)) t.length (fun i => incrAt (x :: t) (i + 1)) ?_ ?_ ?_
    · refine h.cast (Bool.eq_iff_iff.2 ?_)
      simp only [incr, List.all_eq_true, List.mem_range, List.length_cons]
      constructor
      · intro h i hi
        cases i with
        | zero => simp [incrAt]
        | succ i => exact h i (by omega)
      · intro h i hi
        exact h (i + 1) (by omega)
    · simp only [impl_increasing.l0]
      exact Evt.neg (by simp) (Evt.ok _)
    · intro i hi_ hp r hr
      have h1 : i + 1 < (x :: t).length := by simp; omega
      rw [incrAt_succ _ i h1] at hp
      have h3 := of_decide_eq_true hp
      simp only [impl_increasing.l0]
      rw [wrap_pred i (x :: t).length (by omega) (by omega), wrapN (i + 1) _ h1 (by omega)]
      exact Evt.pos (by omega) (Evt.pos (by omega) (Evt.pos (by omega) (Evt.pos (by omega) (Evt.neg (by omega) hr))))
    · intro i hi_ hp
      have h1 : i + 1 < (x :: t).length := by simp; omega
      rw [incrAt_succ _ i h1] at hp
      have h3 := of_decide_eq_false hp
      simp only [impl_increasing.l0]
      rw [wrap_pred i (x :: t).length (by omega) (by omega)]
      exact Evt.pos (by omega) (Evt.pos (by omega) (Evt.pos (by omega) (Evt.pos (by omega) (Evt.pos (by omega) (Evt.ok _)))))
theorem arePlaces_ev (p : Int) (ts : List Tr) (l : List Int) (hl : Short l) : Evt (fun k => impl_arePlaces.f k p ts l) (rising l 0 (wrap64 (p - 1))) := by
  unfold impl_arePlaces.f rising
  cases h : incr l with
  | false => exact Evt.bind ((increasing_ev l hl).cast h) (Evt.neg (by decide) ((Evt.ok _).cast (by simp)))
  | true => exact Evt.bind ((increasing_ev l hl).cast h) (Evt.pos rfl (Evt.bind (allWithin_ev l _ _ hl) ((Evt.ok _).cast (by simp))))
def goodT (p : Int) (t : Tr) : Bool := !decide ((t.f0.length : Int) = 0) && (rising t.f0 0 (wrap64 (p - 1)) && (rising t.f1 0 (wrap64 (p - 1)) && rising t.f2 0 (wrap64 (p - 1))))
def goodNet (p : Int) (ts : List Tr) : Bool := within p 1 16 && (decide ((ts.length : Int) ≤ 24) && ts.all (goodT p))
theorem specGoodNet_ev (p : Int) (ts : List Tr) (h : SmallN ts) : Evt (fun k => spec_GoodNet.f k p ts) (goodNet p ts) := by
  have hl := h.1
  unfold spec_GoodNet.f spec_l1Places.f goodNet
  simp only [l1In_eq, Option.bind_some]
  cases hw : within p 1 16 with
  | false =>
    refine Evt.neg (by decide) (Evt.step ?_)
    simp only [spec_GoodNet.j0]
    exact Evt.pos (by trivial) ((Evt.ok _).cast (by simp))
  | true =>
    refine Evt.pos rfl (Evt.step ?_)
    simp only [spec_GoodNet.j0]
    by_cases hn : (ts.length : Int) > 24
    · exact Evt.pos (by simpa using hn) ((Evt.ok _).cast (by rw [decide_eq_false (by omega : ¬ (ts.length : Int) ≤ 24)]; rfl))
    · refine Evt.neg (by simpa using hn) ?_
      rw [decide_eq_true (by omega : (ts.length : Int) ≤ 24), Bool.true_and, Bool.true_and]
      refine loop_allL (fun k i => spec_GoodNet.l0 k ts (ts.length : Int) (i : Int) p ts) ts (goodT p) ?_ ?_ ?_
      · simp only [spec_GoodNet.l0]
        exact Evt.neg (natNotLt _) (Evt.ok _)
      · intro i hi hp r hr
        have hsm : SmallT ts[i] := h.2 _ (List.getElem_mem hi)
        have er : rd_T63 ts (i : Int) = ts[i] := rdG ts _ i hi
        simp only [goodT, Bool.and_eq_true, Bool.not_eq_true', decide_eq_false_iff_not] at hp
        simp only [spec_GoodNet.l0, er]
        refine Evt.pos (natLt _ _ hi) (Evt.pos (by omega) (Evt.pos (natLt _ _ hi) (Evt.neg hp.1 ?_)))
        refine Evt.bind (l1Rising_ev _ _ _ hsm.s0) (Evt.pos hp.2.1 (Evt.bind (l1Rising_ev _ _ _ hsm.s1) (Evt.pos hp.2.2.1 (Evt.bind (l1Rising_ev _ _ _ hsm.s2) (Evt.pos hp.2.2.2 ?_)))))
        rw [wrapN i _ hi (by omega)]
        exact hr
      · intro i hi hp
        have hsm : SmallT ts[i] := h.2 _ (List.getElem_mem hi)
        have er : rd_T63 ts (i : Int) = ts[i] := rdG ts _ i hi
        simp only [spec_GoodNet.l0, er]
        refine Evt.pos (natLt _ _ hi) (Evt.pos (by omega) (Evt.pos (natLt _ _ hi) ?_))
        by_cases h0 : (ts[i].f0.length : Int) = 0
        · exact Evt.pos h0 (Evt.ok _)
        refine Evt.neg h0 (Evt.bind (l1Rising_ev _ _ _ hsm.s0) ?_)
        cases h1 : rising ts[i].f0 0 (wrap64 (p - 1)) with
        | false => exact Evt.neg (by decide) (Evt.ok _)
        | true =>
        refine Evt.pos rfl (Evt.bind (l1Rising_ev _ _ _ hsm.s1) ?_)
        cases h2 : rising ts[i].f1 0 (wrap64 (p - 1)) with
        | false => exact Evt.neg (by decide) (Evt.ok _)
        | true =>
        refine Evt.pos rfl (Evt.bind (l1Rising_ev _ _ _ hsm.s2) ?_)
        cases h3 : rising ts[i].f2 0 (wrap64 (p - 1)) with
        | false => exact Evt.neg (by decide) (Evt.ok _)
        | true =>
          have hgood : goodT p ts[i] = true := by unfold goodT; rw [h1, h2, h3, decide_eq_false h0]; rfl
          rw [hgood] at hp; cases hp
theorem goodNet1_ev (t : Tr) (p : Int) (ts : List Tr) (hsm : SmallT t) : Evt (fun k => impl_GoodNet_1.f k t.f0 t.f1 t.f2 p ts) (!goodT p t) := by
  unfold impl_GoodNet_1.f goodT
  by_cases h0 : (t.f0.length : Int) = 0
  · exact Evt.pos h0 ((Evt.ok _).cast (by rw [decide_eq_true h0]; rfl))
  rw [decide_eq_false h0]
  refine Evt.neg h0 (Evt.bind (arePlaces_ev p ts _ hsm.s0) ?_)
  cases h1 : rising t.f0 0 (wrap64 (p - 1)) with
  | false => exact Evt.neg (by decide) (Evt.ok _)
  | true =>
  refine Evt.pos rfl (Evt.bind (arePlaces_ev p ts _ hsm.s1) ?_)
  cases h2 : rising t.f1 0 (wrap64 (p - 1)) with
  | false => exact Evt.neg (by decide) (Evt.ok _)
  | true =>
  exact Evt.pos rfl (Evt.bind (arePlaces_ev p ts _ hsm.s2) ((Evt.ok _).cast (by simp)))
theorem goodNet_ev (p : Int) (ts : List Tr) (h : SmallN ts) : Evt (fun k => impl_GoodNet.f k p ts) (goodNet p ts) := by
  unfold impl_GoodNet.f goodNet
  simp only [within_eq, Option.bind_some]
  cases hw : within p 1 16 with
  | false => exact Evt.neg (by decide) ((Evt.ok _).cast (by simp))
  | true =>
    refine Evt.pos rfl ?_
    by_cases hn : (ts.length : Int) ≤ 24
    · refine Evt.pos hn (Evt.bind (a := ts.any fun t => !goodT p t) ?_ ((Evt.ok _).cast ?_))
      · refine containsFunc_gen (fun k (t : Tr) => impl_GoodNet_1.f k t.f0 t.f1 t.f2 p ts) (fun t => !goodT p t) (rd_T63 ts) (fun k i => slices_IndexFunc_impl_Trans_impl_Trans_at_impl_GoodNet_1.l0 k ts (ts.length : Int) i p ts) _ ts ?_ ?_ ?_ ?_ h.short
        · intro k; rfl
        · intro k i; simp only [slices_IndexFunc_impl_Trans_impl_Trans_at_impl_GoodNet_1.l0]
        · intro t ht; exact goodNet1_ev t p ts (h.2 t ht)
        · intro i hi; exact rdG ts _ i hi
      · rw [any_not, decide_eq_true hn]; simp
    · exact Evt.neg hn ((Evt.ok _).cast (by rw [decide_eq_false hn]; rfl))
theorem rising_le {l : List Int} {lo hi : Int} (h : rising l lo hi = true) : ∀ x ∈ l, lo ≤ x ∧ x ≤ hi := by
  simp only [rising, allIn, Bool.and_eq_true, List.all_eq_true] at h
  exact fun x hx => within_bounds (h.2 x hx)
theorem rising_lt {l : List Int} {lo hi : Int} (h : rising l lo hi = true) (i j : Nat) (hij : i < j) (hj : j < l.length) : l[i]'(by omega) < l[j] := by
  simp only [rising, incr, Bool.and_eq_true, List.all_eq_true, List.mem_range] at h
  have hs : ∀ i (h : i + 1 < l.length), l[i] < l[i + 1] := by
    intro i hi
    have := h.1 (i + 1) hi
    rw [incrAt_succ l i hi, rdN l i (by omega), rdN l (i + 1) hi] at this
    exact of_decide_eq_true this
  induction j with
  | zero => omega
  | succ j ih =>
    by_cases e : i = j
    · subst e; exact hs i hj
    · exact Int.lt_trans (ih (by omega) (by omega) hs) (hs j hj)
theorem rising_len {l : List Int} {n : Nat} (h : rising l 0 ((n : Int) - 1) = true) : l.length ≤ n := by
  have key : ∀ i (hi : i < l.length), (i : Int) ≤ l[i] := by
    intro i
    induction i with
    | zero => intro hi; exact (rising_le h _ (List.getElem_mem hi)).1
    | succ i ih => intro hi; have := ih (by omega); have := rising_lt h i (i + 1) (by omega) hi; omega
  by_cases hz : l.length = 0
  · omega
  · have h1 := key (l.length - 1) (by omega)
    have h2 := (rising_le h _ (List.getElem_mem (show l.length - 1 < l.length by omega))).2
    omega
theorem goodNet_facts {p : Int} {ts : List Tr} (h : goodNet p ts = true) : 1 ≤ p ∧ p ≤ 16 ∧ ts.length ≤ 24 ∧ ∀ t ∈ ts, t.f0 ≠ [] ∧ rising t.f0 0 (p - 1) = true ∧ rising t.f1 0 (p - 1) = true ∧ rising t.f2 0 (p - 1) = true := by
  simp only [goodNet, Bool.and_eq_true, decide_eq_true_eq, List.all_eq_true] at h
  have hp := within_bounds h.1
  have e : wrap64 (p - 1) = p - 1 := wrap_id _ (by omega) (by omega)
  refine ⟨hp.1, hp.2, by omega, fun t ht => ?_⟩
  have := h.2.2 t ht
  simp only [goodT, Bool.and_eq_true, Bool.not_eq_true', decide_eq_false_iff_not, e] at this
  exact ⟨fun he => this.1 (by rw [he]; rfl), this.2.1, this.2.2.1, this.2.2.2⟩
end Go.Proofs.Ytbkjgnfnjgebiaa.Lib
