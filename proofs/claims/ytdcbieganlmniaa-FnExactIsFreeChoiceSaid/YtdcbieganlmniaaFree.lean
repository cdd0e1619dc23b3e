/- Free choice: what the two sides' loops come to. -/
import Derived.Test.YtdcbieganlmniaaF0
import Derived.Test.YtdcbieganlmniaaF6
import Derived.Test.YtdcbieganlmniaaF7
import Derived.Test.YtdcbieganlmniaaF8
import Derived.Test.YtdcbieganlmniaaGood
import Derived.Test.YtdcbieganlmniaaMeet
import Derived.Test.YtdcbieganlmniaaSame
namespace Go.Proofs.Ytdcbieganlmniaa.Lib
open Go.RowKit Go.Proofs.Ytdcbieganlmniaa.F Go.Proofs.YtdcbieganlmniaaW.PrintWords Go.Proofs.YtdcbieganlmniaaW.PrintLast Go.Proofs.YtdcbieganlmniaaW.PrintMore
set_option linter.unusedVariables false
set_option linter.unusedSimpArgs false
def meet (a b : List Int) : Bool := a.any fun x => has b x
theorem meet_iff (a b : List Int) : meet a b = true ↔ ∃ x, x ∈ a ∧ x ∈ b := by
  simp only [meet, has, List.any_eq_true, decide_eq_true_eq]
  constructor
  · rintro ⟨x, hx, y, hy, rfl⟩; exact ⟨_, hx, hy⟩
  · rintro ⟨x, hx, hy⟩; exact ⟨x, hx, x, hy, rfl⟩
theorem l2Meet_ev (a b : List Int) (ha : Short a) (hb : Short b) : Evt (fun k => spec_l2Meet.f k a b) (meet a b) := by
  have ha' : a.length ≤ 17592186044415 := ha
  unfold spec_l2Meet.f
  refine loop_anyL (fun k i => spec_l2Meet.l0 k b a (a.length : Int) (i : Int)) a (fun x => has b x) ?_ ?_ ?_
  · simp only [spec_l2Meet.l0]
    exact Evt.neg (natNotLt _) (Evt.ok _)
  · intro i hi hp r hr
    simp only [spec_l2Meet.l0]
    rw [wrapN i _ hi (by omega), rdN a i hi]
    exact Evt.pos (natLt _ _ hi) (Evt.pos (by omega) (Evt.pos (natLt _ _ hi) (Evt.bind ((l1Has_ev b _ hb).cast hp) (Evt.neg (by decide) hr))))
  · intro i hi hp
    simp only [spec_l2Meet.l0]
    rw [rdN a i hi]
    exact Evt.pos (natLt _ _ hi) (Evt.pos (by omega) (Evt.pos (natLt _ _ hi) (Evt.bind ((l1Has_ev b _ hb).cast hp) (Evt.pos rfl (Evt.ok _)))))
theorem meet_impl_ev (a : List Int) (t : Tr) (ha : Short a) (ht : SmallT t) : Evt (fun k => slices_ContainsFunc_int_int_at_impl_IsFreeChoice_1.f k a t.f0 t.f1 t.f2) (meet a t.f0) := by
  refine containsFunc_gen (fun k (x : Int) => impl_IsFreeChoice_1.f k x t.f0 t.f1 t.f2) (fun x => has t.f0 x) (rd a) (fun k i => slices_IndexFunc_int_int_at_impl_IsFreeChoice_1.l0 k a (a.length : Int) i t.f0 t.f1 t.f2) _ a ?_ ?_ ?_ ?_ ha
  · intro k; rfl
  · intro k i; simp only [slices_IndexFunc_int_int_at_impl_IsFreeChoice_1.l0]
  · intro x hx; unfold impl_IsFreeChoice_1.f; exact Evt.bind (contains_ev t.f0 x ht.s0) (Evt.ok _)
  · intro i hi; exact rdN a i hi
/-- Two transitions that share no input, or have the same inputs. -/
def fair (a b : Tr) : Bool := !meet a.f0 b.f0 || decide (a.f0 = b.f0)
theorem fair_comm (a b : Tr) : fair a b = fair b a := by
  have h : meet a.f0 b.f0 = meet b.f0 a.f0 := Bool.eq_iff_iff.2 (by rw [meet_iff, meet_iff]; exact ⟨fun ⟨x, h1, h2⟩ => ⟨x, h2, h1⟩, fun ⟨x, h1, h2⟩ => ⟨x, h2, h1⟩⟩)
  unfold fair; rw [h]; congr 1; exact decide_eq_decide.2 ⟨Eq.symm, Eq.symm⟩
theorem fair_self (a : Tr) : fair a a = true := by simp [fair]
def freeAns (b : Bool) : Bool × Bool := (b, true)
/-- The inner loop: to the outer one's answer r, or 'no'. -/
theorem inner_spec (ts : List Tr) (p : Int) (x : Tr) (hts : SmallN ts) (hx : SmallT x) (m n : List Tr) (i q : Int) (r : Bool × Bool)
    (hr : Evt (fun k => spec_IsFreeChoice.l0 k m q (wrap64 (i + 1)) p n) r) :
    Evt (fun k => spec_IsFreeChoice.l1 k m q i ts (ts.length : Int) 0 p n x.f0 x.f1 x.f2) (if ts.all (fair x) = true then r else (false, true)) := by
  have hl := hts.1
  have h := loop_find (fun k j => spec_IsFreeChoice.l1 k m q i ts (ts.length : Int) (j : Int) p n x.f0 x.f1 x.f2) ts (fun t => if fair x t then none else some (false, true)) r ?_ ?_ ?_
  · refine h.cast ?_
    clear h hr hts hl
    induction ts with
    | nil => simp
    | cons t ts ih => cases hp : fair x t <;> simp [List.findSome?_cons, hp]; simpa using ih
  · simp only [spec_IsFreeChoice.l1]
    exact Evt.neg (natNotLt _) hr
  · intro j hj hp r' hr'
    have hf : fair x ts[j] = true := by
      cases hc : fair x ts[j] with
      | true => rfl
      | false => simp [hc] at hp
    have hsm : SmallT ts[j] := hts.2 _ (List.getElem_mem hj)
    have er : rd_T68 ts (j : Int) = ts[j] := rdG ts _ j hj
    simp only [spec_IsFreeChoice.l1, er]
    refine Evt.pos (natLt _ _ hj) (Evt.pos (by omega) (Evt.pos (natLt _ _ hj) ?_))
    rw [wrapN j _ hj (by omega)]
    refine Evt.bind (l2Meet_ev _ _ hx.s0 hsm.s0) ?_
    cases hm : meet x.f0 ts[j].f0 with
    | false => exact Evt.neg (by decide) hr'
    | true =>
      have he : x.f0 = ts[j].f0 := by simpa [fair, hm] using hf
      exact Evt.pos rfl (Evt.bind (l1Same_ev _ _ hx.s0) (Evt.pos (by simpa using he) hr'))
  · intro j hj r' hp
    have hf : fair x ts[j] = false ∧ r' = (false, true) := by
      cases hc : fair x ts[j] with
      | true => simp [hc] at hp
      | false => simp [hc] at hp; exact ⟨rfl, hp.symm⟩
    have hsm : SmallT ts[j] := hts.2 _ (List.getElem_mem hj)
    have er : rd_T68 ts (j : Int) = ts[j] := rdG ts _ j hj
    simp only [spec_IsFreeChoice.l1, er]
    refine Evt.pos (natLt _ _ hj) (Evt.pos (by omega) (Evt.pos (natLt _ _ hj) ?_))
    have h2 : meet x.f0 ts[j].f0 = true ∧ ¬ x.f0 = ts[j].f0 := by simpa [fair] using hf.1
    refine Evt.bind ((l2Meet_ev _ _ hx.s0 hsm.s0).cast h2.1) (Evt.pos rfl (Evt.bind (l1Same_ev _ _ hx.s0) (Evt.neg (by simpa using h2.2) ?_)))
    exact (Evt.ok _).cast hf.2.symm
theorem inner_impl (ts : List Tr) (p : Int) (x : Tr) (hts : SmallN ts) (hx : SmallT x) (m n : List Tr) (i q : Int) (r : Bool × Bool)
    (hr : Evt (fun k => impl_IsFreeChoice.l0 k m q (wrap64 (i + 1)) p n) r) :
    Evt (fun k => impl_IsFreeChoice.l1 k m q i ts (ts.length : Int) 0 p n x.f0 x.f1 x.f2) (if ts.all (fair x) = true then r else (false, true)) := by
  have hl := hts.1
  have h := loop_find (fun k j => impl_IsFreeChoice.l1 k m q i ts (ts.length : Int) (j : Int) p n x.f0 x.f1 x.f2) ts (fun t => if fair x t then none else some (false, true)) r ?_ ?_ ?_
  · refine h.cast ?_
    clear h hr hts hl
    induction ts with
    | nil => simp
    | cons t ts ih => cases hp : fair x t <;> simp [List.findSome?_cons, hp]; simpa using ih
  · simp only [impl_IsFreeChoice.l1]
    exact Evt.neg (natNotLt _) hr
  · intro j hj hp r' hr'
    have hf : fair x ts[j] = true := by
      cases hc : fair x ts[j] with
      | true => rfl
      | false => simp [hc] at hp
    have hsm : SmallT ts[j] := hts.2 _ (List.getElem_mem hj)
    have er : rd_T68 ts (j : Int) = ts[j] := rdG ts _ j hj
    simp only [impl_IsFreeChoice.l1, er]
    refine Evt.pos (natLt _ _ hj) (Evt.pos (by omega) (Evt.pos (natLt _ _ hj) ?_))
    rw [wrapN j _ hj (by omega)]
    refine Evt.bind (meet_impl_ev _ _ hx.s0 hsm) ?_
    cases hm : meet x.f0 ts[j].f0 with
    | false => exact Evt.neg (by decide) hr'
    | true =>
      have he : x.f0 = ts[j].f0 := by simpa [fair, hm] using hf
      exact Evt.pos rfl (Evt.bind (sEqual_ev _ _ hx.s0) (Evt.pos (by simpa using he) hr'))
  · intro j hj r' hp
    have hf : fair x ts[j] = false ∧ r' = (false, true) := by
      cases hc : fair x ts[j] with
      | true => simp [hc] at hp
      | false => simp [hc] at hp; exact ⟨rfl, hp.symm⟩
    have hsm : SmallT ts[j] := hts.2 _ (List.getElem_mem hj)
    have er : rd_T68 ts (j : Int) = ts[j] := rdG ts _ j hj
    simp only [impl_IsFreeChoice.l1, er]
    refine Evt.pos (natLt _ _ hj) (Evt.pos (by omega) (Evt.pos (natLt _ _ hj) ?_))
    have h2 : meet x.f0 ts[j].f0 = true ∧ ¬ x.f0 = ts[j].f0 := by simpa [fair] using hf.1
    refine Evt.bind ((meet_impl_ev _ _ hx.s0 hsm).cast h2.1) (Evt.pos rfl (Evt.bind (sEqual_ev _ _ hx.s0) (Evt.neg (by simpa using h2.2) ?_)))
    exact (Evt.ok _).cast hf.2.symm
theorem SmallN.take {l : List Tr} (h : SmallN l) (i : Nat) : SmallN (l.take i) := ⟨by have := h.1; rw [List.length_take]; omega, fun t ht => h.2 t (List.mem_of_mem_take ht)⟩
theorem specFree_ev (ts : List Tr) (p : Int) (h : SmallN ts) : Evt (fun k => spec_IsFreeChoice.l0 k ts (ts.length : Int) 0 p ts) ((List.range ts.length).all (fun i => ts.all (fair (ts.getD i z68))), true) := by
  have hl := h.1
  have key : ∀ i, i ≤ ts.length → ∀ _ : Unit, Evt (fun k => spec_IsFreeChoice.l0 k ts (ts.length : Int) i p ts) ((List.range' i (ts.length - i)).all (fun i => ts.all (fair (ts.getD i z68))), true) := by
    refine down (P := fun i _ => Evt (fun k => spec_IsFreeChoice.l0 k ts (ts.length : Int) i p ts) ((List.range' i (ts.length - i)).all (fun i => ts.all (fair (ts.getD i z68))), true)) ?_ ?_
    · intro _
      refine Evt.step ?_
      simp only [spec_IsFreeChoice.l0]
      exact Evt.neg (natNotLt _) ((Evt.ok _).cast (by simp))
    · intro i hi ih _
      have hsm : SmallT ts[i] := h.2 _ (List.getElem_mem hi)
      have er : rd_T68 ts (i : Int) = ts[i] := rdG ts _ i hi
      refine Evt.step ?_
      simp only [spec_IsFreeChoice.l0, er]
      refine Evt.pos (natLt _ _ hi) (Evt.pos (by omega) (Evt.pos (natLt _ _ hi) ?_))
      refine (inner_spec ts p ts[i] h hsm ts ts i (ts.length : Int) _ (by rw [wrapN i _ hi (by omega)]; exact ih ())).cast ?_
      obtain ⟨m, hm⟩ : ∃ m, ts.length - i = m + 1 := ⟨ts.length - i - 1, by omega⟩
      rw [hm, List.range'_succ, List.all_cons, getDN ts _ i hi, show ts.length - (i + 1) = m by omega]
      cases ts.all (fair ts[i]) <;> simp
  refine (key 0 (Nat.zero_le _) ()).cast (by rw [List.range_eq_range', Nat.sub_zero])
theorem implFree_ev (ts : List Tr) (p : Int) (h : SmallN ts) : Evt (fun k => impl_IsFreeChoice.l0 k ts (ts.length : Int) 0 p ts) ((List.range ts.length).all (fun i => (ts.take i).all (fair (ts.getD i z68))), true) := by
  have hl := h.1
  have key : ∀ i, i ≤ ts.length → ∀ _ : Unit, Evt (fun k => impl_IsFreeChoice.l0 k ts (ts.length : Int) i p ts) ((List.range' i (ts.length - i)).all (fun i => (ts.take i).all (fair (ts.getD i z68))), true) := by
    refine down (P := fun i _ => Evt (fun k => impl_IsFreeChoice.l0 k ts (ts.length : Int) i p ts) ((List.range' i (ts.length - i)).all (fun i => (ts.take i).all (fair (ts.getD i z68))), true)) ?_ ?_
    · intro _
      refine Evt.step ?_
      simp only [impl_IsFreeChoice.l0]
      exact Evt.neg (natNotLt _) ((Evt.ok _).cast (by simp))
    · intro i hi ih _
      have hsm : SmallT ts[i] := h.2 _ (List.getElem_mem hi)
      have er : rd_T68 ts (i : Int) = ts[i] := rdG ts _ i hi
      refine Evt.step ?_
      simp only [impl_IsFreeChoice.l0, er, Option.bind_some, Int.toNat_natCast]
      refine Evt.pos (natLt _ _ hi) (Evt.pos (by omega) (Evt.pos (natLt _ _ hi) (Evt.pos (by omega) ?_)))
      refine (inner_impl (ts.take i) p ts[i] (h.take i) hsm ts ts i (ts.length : Int) _ (by rw [wrapN i _ hi (by omega)]; exact ih ())).cast ?_
      obtain ⟨m, hm⟩ : ∃ m, ts.length - i = m + 1 := ⟨ts.length - i - 1, by omega⟩
      rw [hm, List.range'_succ, List.all_cons, getDN ts _ i hi, show ts.length - (i + 1) = m by omega]
      cases (ts.take i).all (fair ts[i]) <;> simp
  refine (key 0 (Nat.zero_le _) ()).cast (by rw [List.range_eq_range', Nat.sub_zero])
theorem free_same (ts : List Tr) : (List.range ts.length).all (fun i => (ts.take i).all (fair (ts.getD i z68))) = (List.range ts.length).all (fun i => ts.all (fair (ts.getD i z68))) := by
  refine Bool.eq_iff_iff.2 ?_
  simp only [List.all_eq_true, List.mem_range]
  constructor
  · intro h i hi t ht
    obtain ⟨j, hj, rfl⟩ := List.getElem_of_mem ht
    rcases Nat.lt_trichotomy i j with hij | rfl | hij
    · have := h j hj (ts[i]) (List.mem_iff_getElem.2 ⟨i, by simp; omega, by simp⟩)
      rw [getDN ts _ j hj] at this
      rw [getDN ts _ i hi, fair_comm]; exact this
    · rw [getDN ts _ i hi]; exact fair_self _
    · exact h i hi _ (List.mem_iff_getElem.2 ⟨j, by simp; omega, by simp⟩)
  · intro h i hi t ht
    exact h i hi t (List.mem_of_mem_take ht)
end Go.Proofs.Ytdcbieganlmniaa.Lib
