import Derived.Test.YtbkjgnfnjgebiaaF0
import Derived.Test.YtbkjgnfnjgebiaaF1
import Derived.Test.YtbkjgnfnjgebiaaF3
import Derived.Test.YtbkjgnfnjgebiaaTurnNet
namespace Go.Proofs.Ytbkjgnfnjgebiaa.Lib
open Go.RowKit Go.Proofs.Ytbkjgnfnjgebiaa.F Go.Proofs.YtbkjgnfnjgebiaaW.PrintWords Go.Proofs.YtbkjgnfnjgebiaaW.PrintLast Go.Proofs.YtbkjgnfnjgebiaaW.PrintMore
def swT (t : Tr) : Tr := ⟨t.f1, t.f0, t.f2⟩
theorem sw_turn {ts : List Tr} (hr : ts.any resetT = false) : ts.map swT = ts.map turnT := by
  refine List.map_congr_left fun t ht => ?_
  have h := List.any_eq_false.1 hr t ht
  have h0 : t.f2 = [] := by
    cases e : t.f2 with
    | nil => rfl
    | cons a l => exact absurd (by show decide ((t.f2.length : Int) > 0) = true; rw [e]; simp) h
  unfold swT turnT
  rw [h0]
theorem sw_step (ts : List Tr) (i : Nat) (hi : i < ts.length) : (((ts.take i).map swT ++ ts.drop i).set i (swT ts[i])) = (ts.take (i + 1)).map swT ++ ts.drop (i + 1) := by
  rw [List.set_append_right _ _ (by rw [List.length_map, List.length_take]; omega), List.length_map, List.length_take, Nat.min_eq_left (by omega), Nat.sub_self, List.drop_eq_getElem_cons hi, List.set_cons_zero, List.take_succ_eq_append_getElem hi, List.map_append, List.append_assoc]
  rfl
theorem implTurn_loop (p : Int) (ts : List Tr) (hs : SmallN ts) (hr : ts.any resetT = false) : Evt (fun k => impl_TurnNet.l0 k (ts.length : Int) 0 p ts) (turned p ts) := by
  have hl := hs.1
  have key : ∀ i, i ≤ ts.length → ∀ s : List Tr, s = (ts.take i).map swT ++ ts.drop i → Evt (fun k => impl_TurnNet.l0 k (ts.length : Int) (i : Int) p s) (turned p ts) := by
    refine down (P := fun i (s : List Tr) => s = (ts.take i).map swT ++ ts.drop i → Evt (fun k => impl_TurnNet.l0 k (ts.length : Int) (i : Int) p s) (turned p ts)) ?_ ?_
    · intro s hs'
      rw [List.take_length, List.drop_length, List.append_nil, sw_turn hr] at hs'
      subst hs'
      refine Evt.step ?_
      simp only [impl_TurnNet.l0]
      refine Evt.neg (natNotLt _) ?_
      have hc := checkedNet_ev p (ts.map turnT) (turn_small hs)
      unfold turned
      cases hq : goodNet p (ts.map turnT) with
      | true => rw [hq] at hc; exact Evt.bind hc (Evt.ok _)
      | false => rw [hq] at hc; exact Evt.bind hc (Evt.ok _)
    · intro i hi ih s hs'
      have hsl : s.length = ts.length := by rw [hs', List.length_append, List.length_map, List.length_take, List.length_drop]; omega
      have e1 : s[i]'(by omega) = ts[i] := by
        subst hs'
        rw [List.getElem_append_right (by rw [List.length_map, List.length_take]; omega)]
        simp [List.length_take, Nat.min_eq_left (Nat.le_of_lt hi)]
      have er : rd_T63 s (i : Int) = ts[i] := by rw [← e1]; exact rdG s _ i (by omega)
      refine Evt.step ?_
      simp only [impl_TurnNet.l0, er]
      rw [wrapN i _ hi (by omega)]
      refine Evt.pos (natLt _ _ hi) (Evt.pos (by omega) (Evt.pos (by omega) (ih _ ?_)))
      rw [hs', Int.toNat_natCast]
      exact sw_step ts i hi
  exact key 0 (Nat.zero_le _) ts (by simp)
theorem core_TurnNet (p : Int) (ts : List Tr) (hs : SmallN ts) : ∃ r : Int × List Tr × Bool, Evt (fun k => spec_TurnNet.f k p ts) r ∧ Evt (fun k => impl_TurnNet.f k p ts) r ∧ SmallN r.2.1 := by
  have none_ : SmallN ([] : List Tr) := ⟨by simp, fun t ht => by cases ht⟩
  have no : ∀ c : Bool, c = true → Evt (fun k => impl_TurnNet.j0 k c p ts) (0, [], false) := by
    intro c hc
    subst hc
    refine Evt.step ?_
    simp only [impl_TurnNet.j0]
    exact Evt.pos (by first | rfl | trivial) (Evt.ok _)
  have hsp := specTurn_ev p ts hs
  cases hg : goodNet p ts with
  | false =>
    rw [hg] at hsp
    refine ⟨(0, [], false), hsp, ?_, none_⟩
    unfold impl_TurnNet.f
    exact Evt.bind ((goodNet_ev p ts hs).cast hg) (Evt.neg (by decide) (no true rfl))
  | true =>
    cases hr : ts.any resetT with
    | true =>
      rw [hg, hr] at hsp
      refine ⟨(0, [], false), hsp, ?_, none_⟩
      unfold impl_TurnNet.f
      exact Evt.bind ((goodNet_ev p ts hs).cast hg) (Evt.pos rfl (Evt.bind ((hasResets_ev p ts hs).cast hr) (no true rfl)))
    | false =>
      rw [hg, hr] at hsp
      refine ⟨turned p ts, hsp, ?_, ?_⟩
      · unfold impl_TurnNet.f
        refine Evt.bind ((goodNet_ev p ts hs).cast hg) (Evt.pos rfl (Evt.bind ((hasResets_ev p ts hs).cast hr) (Evt.step ?_)))
        simp only [impl_TurnNet.j0]
        exact Evt.neg (by decide) (Evt.bind (cloneNet_ev p ts hs) (implTurn_loop p ts hs hr))
      · unfold turned
        split
        · exact turn_small hs
        · exact none_
end Go.Proofs.Ytbkjgnfnjgebiaa.Lib
