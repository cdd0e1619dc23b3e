import Derived.Test.YtpaecplanjnaeaaF1
import Derived.Test.YtpaecplanjnaeaaCertLaw
namespace Go.Proofs.Ytpaecplanjnaeaa.Lib
open Go.RowKit Go.Proofs.Ytpaecplanjnaeaa.F Go.Proofs.YtpaecplanjnaeaaW.PrintWords Go.Proofs.YtpaecplanjnaeaaW.PrintLast Go.Proofs.YtpaecplanjnaeaaW.PrintMore
def del {α : Type} (k : Nat) (l : List α) : List α := l.take k ++ l.drop (k + 1)
theorem del_step {α : Type} (k : Nat) (l : List α) (i : Nat) (h : i < l.length) : del k (l.take (i + 1)) = if i = k then del k (l.take i) else del k (l.take i) ++ [l[i]] := by
  unfold del
  rw [takeN l i h]
  rcases Nat.lt_trichotomy i k with c | c | c
  · have h1 : (l.take i ++ [l[i]]).take k = l.take i ++ [l[i]] := List.take_of_length_le (by rw [List.length_append, List.length_take, List.length_singleton]; omega)
    have h2 : (l.take i ++ [l[i]]).drop (k + 1) = [] := List.drop_eq_nil_of_le (by rw [List.length_append, List.length_take, List.length_singleton]; omega)
    have h3 : (l.take i).take k = l.take i := List.take_of_length_le (by rw [List.length_take]; omega)
    have h4 : (l.take i).drop (k + 1) = [] := List.drop_eq_nil_of_le (by rw [List.length_take]; omega)
    rw [if_neg (by omega), h1, h2, h3, h4, List.append_nil, List.append_nil]
  · subst c
    rw [if_pos rfl, List.take_append_of_le_length (by simp; omega), List.drop_eq_nil_of_le (by simp; omega), List.drop_eq_nil_of_le (by simp; omega)]
  · rw [if_neg (by omega), List.take_append_of_le_length (by simp; omega), List.drop_append_of_le_length (by simp; omega), List.append_assoc]
theorem del_length {α : Type} (k : Nat) (l : List α) : (del k l).length ≤ l.length := by
  unfold del; rw [List.length_append, List.length_take, List.length_drop]; omega
theorem tot_append (L M : List (List Int)) : tot (L ++ M) = tot L + tot M := by
  induction L with
  | nil => simp [tot]
  | cons x L ih => rw [List.cons_append, tot_cons, tot_cons, ih]; omega
theorem tot_del (k : Nat) (L : List (List Int)) : tot (del k L) ≤ tot L := by
  have h1 := tot_append (L.take k) (L.drop k)
  rw [List.take_append_drop] at h1
  have h2 := tot_append (L.take k) (L.drop (k + 1))
  have h3 : tot (L.drop (k + 1)) ≤ tot (L.drop k) := by
    by_cases c : k < L.length
    · rw [dropN L k c, tot_cons]; omega
    · rw [List.drop_eq_nil_of_le (by omega), List.drop_eq_nil_of_le (by omega)]; exact Nat.le_refl _
  show tot (L.take k ++ L.drop (k + 1)) ≤ _
  omega
theorem ownD (m : List Int) (h : m.length ≤ 17592186044415) : spec_l1Own.f m = some m ∧ slices_Clone_int_int.f m = some m := by
  constructor
  · simp only [spec_l1Own.f, Option.bind_some, List.nil_append, List.length_nil, Nat.zero_add]; exact if_pos (by omega)
  · simp only [slices_Clone_int_int.f, Option.bind_some, List.nil_append, List.length_nil, Nat.zero_add]; exact if_pos (by omega)
theorem inD (x n : Int) (h : 0 ≤ n) : spec_l1In.f x 0 n = some (decide (0 ≤ x ∧ x ≤ n)) ∧ impl_within.f x 0 n = some (decide (0 ≤ x ∧ x ≤ n)) := by
  have e : (if x ≥ 0 then some (decide (x ≤ n)) else some false) = some (decide (0 ≤ x ∧ x ≤ n)) := by
    by_cases c : x ≥ 0
    · rw [if_pos c]; congr 1; simp [show 0 ≤ x from c]
    · rw [if_neg c]; congr 1; simp; omega
  exact ⟨e, e⟩
theorem core_DropMark (M : List (List Int)) (S R : List Int) (x : Int) (h : SmallCert M S R) : ∃ r : List (List Int) × List Int × List Int × Bool, Evt (fun k => spec_DropMark.f k M S R x) r ∧ Evt (fun k => impl_DropMark.f k M S R x) r ∧ SmallCert r.1 r.2.1 r.2.2.1 := by
  have hno : SmallCert [] [] [] := ⟨by simp, by simp [tot], by simp, by simp⟩
  have s0 : ∀ M' S' R', Evt (fun k => spec_DropMark.j0 k x true M' S' R') (([], [], [], false) : List (List Int) × List Int × List Int × Bool) := by
    intro M' S' R'
    refine Evt.step ?_
    simp only [spec_DropMark.j0]
    exact Evt.pos trivial (Evt.ok _)
  have i0 : ∀ M' S' R', Evt (fun k => impl_DropMark.j0 k x true M' S' R') (([], [], [], false) : List (List Int) × List Int × List Int × Bool) := by
    intro M' S' R'
    refine Evt.step ?_
    simp only [impl_DropMark.j0]
    exact Evt.pos trivial (Evt.ok _)
  unfold spec_DropMark.f impl_DropMark.f
  by_cases c1 : (M.length : Int) > 400
  · exact ⟨_, Evt.pos c1 (s0 _ _ _), Evt.pos c1 (i0 _ _ _), hno⟩
  rcases Decidable.em (¬ ((S.length : Int) = (M.length : Int))) with c2 | c2
  · exact ⟨_, Evt.neg c1 (Evt.neg c2 (s0 _ _ _)), Evt.neg c1 (Evt.neg c2 (i0 _ _ _)), hno⟩
  replace c2 := Decidable.not_not.mp c2
  rcases Decidable.em (¬ ((R.length : Int) = (M.length : Int))) with c3 | c3
  · exact ⟨_, Evt.neg c1 (Evt.pos c2 (Evt.neg c3 (s0 _ _ _))), Evt.neg c1 (Evt.pos c2 (Evt.neg c3 (i0 _ _ _))), hno⟩
  replace c3 := Decidable.not_not.mp c3
  have ew : wrap64 ((M.length : Int) - 1) = (M.length : Int) - 1 := wrap_id _ (by omega) (by omega)
  by_cases cM : M.length = 0
  · have e : ∀ y : Int, spec_l1In.f y 0 ((M.length : Int) - 1) = some false ∧ impl_within.f y 0 ((M.length : Int) - 1) = some false := by
      intro y
      have e : (if y ≥ 0 then some (decide (y ≤ (M.length : Int) - 1)) else some false) = some false := by
        by_cases c : y ≥ 0
        · rw [if_pos c]; congr 1; simp; omega
        · rw [if_neg c]
      exact ⟨e, e⟩
    refine ⟨_, Evt.neg c1 (Evt.pos c2 (Evt.pos c3 (Evt.bind0 (a := false) (by rw [ew]; exact (e x).1) (s0 _ _ _)))), Evt.neg c1 (Evt.pos c2 (Evt.pos c3 (Evt.bind0 (a := false) (by rw [ew]; exact (e x).2) (i0 _ _ _)))), hno⟩
  have hin := inD x ((M.length : Int) - 1) (by omega)
  rcases Decidable.em (¬ (0 ≤ x ∧ x ≤ (M.length : Int) - 1)) with c4 | c4
  · rw [decide_eq_false c4] at hin
    exact ⟨_, Evt.neg c1 (Evt.pos c2 (Evt.pos c3 (Evt.bind0 (a := false) (by rw [ew]; exact hin.1) (s0 _ _ _)))), Evt.neg c1 (Evt.pos c2 (Evt.pos c3 (Evt.bind0 (a := false) (by rw [ew]; exact hin.2) (i0 _ _ _)))), hno⟩
  replace c4 := Decidable.not_not.mp c4
  rw [decide_eq_true c4] at hin
  obtain ⟨q, rfl⟩ : ∃ q : Nat, x = (q : Int) := ⟨x.toNat, by omega⟩
  have hsh := h.short
  have sl : ∀ i, i ≤ M.length → ∀ _ : Unit, Evt (fun k => spec_DropMark.l0 k (q : Int) M (M.length : Int) (i : Int) M S R (del q (M.take i)) (del q (S.take i)) (del q (R.take i))) (del q M, del q S, del q R, true) := by
    refine down (P := fun i _ => Evt (fun k => spec_DropMark.l0 k (q : Int) M (M.length : Int) (i : Int) M S R (del q (M.take i)) (del q (S.take i)) (del q (R.take i))) (del q M, del q S, del q R, true)) ?_ ?_
    · intro _
      refine Evt.step ?_
      simp only [spec_DropMark.l0]
      refine Evt.neg (natNotLt _) ?_
      rw [List.take_of_length_le (Nat.le_refl _), List.take_of_length_le (by omega), List.take_of_length_le (by omega)]
      exact Evt.ok _
    · intro i hi ih _
      have l1 := del_length q (M.take i)
      have l2 := del_length q (S.take i)
      have l3 := del_length q (R.take i)
      rw [List.length_take] at l1 l2 l3
      have hm : M[i].length ≤ 17592186044415 := hsh _ (List.getElem_mem hi)
      have hi2 : i < S.length := by omega
      have hi3 : i < R.length := by omega
      have ih' := ih ()
      rw [del_step q M i hi, del_step q S i hi2, del_step q R i hi3] at ih'
      refine Evt.step ?_
      simp only [spec_DropMark.l0, rdLL M i hi, wrapN i _ hi (by omega), rdN S i hi2, rdN R i hi3]
      refine Evt.pos (natLt _ _ hi) (Evt.pos (by omega) (Evt.pos (natLt _ _ hi) ?_))
      by_cases c : i = q
      · rw [if_pos c, if_pos c, if_pos c] at ih'
        exact Evt.pos (by omega) ih'
      · rw [if_neg c, if_neg c, if_neg c] at ih'
        exact Evt.neg (by omega) (Evt.bind0 (ownD _ hm).1 (Evt.pos (by omega) (Evt.pos (by omega) (Evt.pos (by omega) (Evt.pos (by omega) (Evt.pos (by omega) ih'))))))
  have il : ∀ i, i ≤ M.length → ∀ _ : Unit, Evt (fun k => impl_DropMark.l0 k (q : Int) M (M.length : Int) (i : Int) (del q (M.take i)) (del q S) (del q R)) (del q M, del q S, del q R, true) := by
    refine down (P := fun i _ => Evt (fun k => impl_DropMark.l0 k (q : Int) M (M.length : Int) (i : Int) (del q (M.take i)) (del q S) (del q R)) (del q M, del q S, del q R, true)) ?_ ?_
    · intro _
      refine Evt.step ?_
      simp only [impl_DropMark.l0]
      refine Evt.neg (natNotLt _) ?_
      rw [List.take_of_length_le (Nat.le_refl _)]
      exact Evt.ok _
    · intro i hi ih _
      have l1 := del_length q (M.take i)
      rw [List.length_take] at l1
      have hm : M[i].length ≤ 17592186044415 := hsh _ (List.getElem_mem hi)
      have ih' := ih ()
      rw [del_step q M i hi] at ih'
      refine Evt.step ?_
      simp only [impl_DropMark.l0, rdLL M i hi, wrapN i _ hi (by omega)]
      refine Evt.pos (natLt _ _ hi) (Evt.pos (by omega) (Evt.pos (natLt _ _ hi) ?_))
      by_cases c : i = q
      · rw [if_pos c] at ih'
        exact Evt.pos (by omega) ih'
      · rw [if_neg c] at ih'
        exact Evt.neg (by omega) (Evt.bind0 (ownD _ hm).2 (Evt.pos (by omega) ih'))
  have e1 : wrap64 ((q : Int) + 1) = ((q + 1 : Nat) : Int) := wrapN q M.length (by omega) (by omega)
  have hd : ∀ l : List Int, (l.length : Int) = (M.length : Int) → slices_Delete_int_int.f l (q : Int) (wrap64 ((q : Int) + 1)) = some (del q l) := by
    intro l hl
    unfold slices_Delete_int_int.f
    rw [e1, if_pos (by omega), if_pos (by omega), if_pos (by omega), if_pos (by omega), Int.toNat_natCast, Int.toNat_natCast]
    rfl
  refine ⟨(del q M, del q S, del q R, true), Evt.neg c1 (Evt.pos c2 (Evt.pos c3 (Evt.bind0 (a := true) (by rw [ew]; exact hin.1) (Evt.step ?_)))), Evt.neg c1 (Evt.pos c2 (Evt.pos c3 (Evt.bind0 (a := true) (by rw [ew]; exact hin.2) (Evt.step ?_)))), ?_⟩
  · simp only [spec_DropMark.j0]
    have := sl 0 (Nat.zero_le _) ()
    have ez : ∀ {β : Type}, del q ([] : List β) = [] := fun {β} => by simp [del]
    simp only [List.take_zero, ez] at this
    exact Evt.neg (by decide) this
  · simp only [impl_DropMark.j0]
    have := il 0 (Nat.zero_le _) ()
    have ez : ∀ {β : Type}, del q ([] : List β) = [] := fun {β} => by simp [del]
    simp only [List.take_zero, ez] at this
    exact Evt.neg (by decide) (Evt.bind0 (ownD S h.shortS).2 (Evt.bind0 (hd S c2) (Evt.bind0 (ownD R h.shortR).2 (Evt.bind0 (hd R c3) this))))
  · have a1 := del_length q M
    have a2 := tot_del q M
    have a3 := del_length q S
    have a4 := del_length q R
    exact ⟨Nat.le_trans a1 h.marks, Nat.le_trans a2 h.all, Nat.le_trans a3 h.steps, Nat.le_trans a4 h.ranks⟩
end Go.Proofs.Ytpaecplanjnaeaa.Lib
