/- The transitions at a place, gathered. -/
import Derived.Test.YtdcbieganlmniaaF0
import Derived.Test.YtdcbieganlmniaaF17
import Derived.Test.YtdcbieganlmniaaGood
import Derived.Test.YtdcbieganlmniaaMeet
import Derived.Test.YtdcbieganlmniaaFilter
namespace Go.Proofs.Ytdcbieganlmniaa.Lib
open Go.RowKit Go.Proofs.Ytdcbieganlmniaa.F Go.Proofs.YtdcbieganlmniaaW.PrintWords Go.Proofs.YtdcbieganlmniaaW.PrintLast Go.Proofs.YtdcbieganlmniaaW.PrintMore
set_option linter.unusedVariables false
set_option linter.unusedSimpArgs false
def atLGiversOf (ts : List Tr) (x : Int) : List Int := picks (fun i => has (ts.getD i z68).f1 x) 0 ts.length
theorem spec_l2Givers_ev (p : Int) (ts : List Tr) (x : Int) (h : SmallN ts) : Evt (fun k => spec_l2Givers.f k p ts x) (atLGiversOf ts x) := by
  have hl := h.1
  unfold spec_l2Givers.f
  refine loop_picks (fun k s (i : Nat) => spec_l2Givers.l0 k x s ts (ts.length : Int) (i : Int)) (fun s => s) ts.length _ ?_ ?_ ?_
  · intro s
    simp only [spec_l2Givers.l0]
    exact Evt.neg (natNotLt _) (Evt.ok _)
  · intro i hi hT s hs r hr
    have hsm : SmallT ts[i] := h.2 _ (List.getElem_mem hi)
    have er : rd_T68 ts (i : Int) = ts[i] := rdG ts _ i hi
    rw [getDN ts _ i hi] at hT
    simp only [spec_l2Givers.l0, er]
    rw [wrapN i _ hi (by omega)]
    exact Evt.pos (natLt _ _ hi) (Evt.pos (by omega) (Evt.pos (natLt _ _ hi) (Evt.bind ((l1Has_ev _ x hsm.s1).cast hT) (Evt.pos rfl (Evt.pos (by omega) hr)))))
  · intro i hi hT s r hr
    have hsm : SmallT ts[i] := h.2 _ (List.getElem_mem hi)
    have er : rd_T68 ts (i : Int) = ts[i] := rdG ts _ i hi
    rw [getDN ts _ i hi] at hT
    simp only [spec_l2Givers.l0, er]
    rw [wrapN i _ hi (by omega)]
    exact Evt.pos (natLt _ _ hi) (Evt.pos (by omega) (Evt.pos (natLt _ _ hi) (Evt.bind ((l1Has_ev _ x hsm.s1).cast hT) (Evt.neg (by decide) hr))))
theorem transWithGiversOf_ev (ts : List Tr) (x : Int) (h : SmallN ts) : Evt (fun k => impl_transWith_at_impl_GiversOf_1.l0 k x [] ts (ts.length : Int) 0) (atLGiversOf ts x, true) := by
  have hl := h.1
  refine loop_picks (fun k s (i : Nat) => impl_transWith_at_impl_GiversOf_1.l0 k x s ts (ts.length : Int) (i : Int)) (fun s => (s, true)) ts.length _ ?_ ?_ ?_
  · intro s
    simp only [impl_transWith_at_impl_GiversOf_1.l0]
    exact Evt.neg (natNotLt _) (Evt.ok _)
  · intro i hi hT s hs r hr
    have hsm : SmallT ts[i] := h.2 _ (List.getElem_mem hi)
    have er : rd_T68 ts (i : Int) = ts[i] := rdG ts _ i hi
    rw [getDN ts _ i hi] at hT
    simp only [impl_transWith_at_impl_GiversOf_1.l0, impl_GiversOf_1.f, er, Option.bind_some]
    rw [wrapN i _ hi (by omega)]
    exact Evt.pos (natLt _ _ hi) (Evt.pos (by omega) (Evt.pos (natLt _ _ hi) (Evt.bind ((contains_ev _ x hsm.s1).cast hT) (Evt.pos rfl (Evt.pos (by omega) hr)))))
  · intro i hi hT s r hr
    have hsm : SmallT ts[i] := h.2 _ (List.getElem_mem hi)
    have er : rd_T68 ts (i : Int) = ts[i] := rdG ts _ i hi
    rw [getDN ts _ i hi] at hT
    simp only [impl_transWith_at_impl_GiversOf_1.l0, impl_GiversOf_1.f, er, Option.bind_some]
    rw [wrapN i _ hi (by omega)]
    exact Evt.pos (natLt _ _ hi) (Evt.pos (by omega) (Evt.pos (natLt _ _ hi) (Evt.bind ((contains_ev _ x hsm.s1).cast hT) (Evt.neg (by decide) hr))))
theorem core_GiversOf (p : Int) (ts : List Tr) (x1 : Int) (hs : SmallN ts) : ∃ x : List Int × Bool, Evt (fun k => spec_GiversOf.f k p ts x1) x ∧ Evt (fun k => impl_GiversOf.f k p ts x1) x ∧ Short x.1 := by
  have hz : Short ([] : List Int) := by show 0 ≤ _; omega
  have hn : ∀ c : Bool, c = true → Evt (fun k => impl_transWith_at_impl_GiversOf_1.j0 k x1 c p ts) ([], false) := by
    intro c hc
    refine Evt.step ?_
    simp only [impl_transWith_at_impl_GiversOf_1.j0]
    exact Evt.pos hc (Evt.ok _)
  unfold spec_GiversOf.f impl_GiversOf.f impl_transWith_at_impl_GiversOf_1.f
  cases hg : goodNet p ts with
  | false => exact ⟨([], false), Evt.bind ((specGoodNet_ev p ts hs).cast hg) (Evt.neg (by decide) (Evt.ok _)), Evt.bind (Evt.bind ((goodNet_ev p ts hs).cast hg) (Evt.neg (by decide) (hn true rfl))) (Evt.ok _), hz⟩
  | true =>
    cases hw : within x1 0 (wrap64 (p - 1)) with
    | false => exact ⟨([], false), Evt.bind ((specGoodNet_ev p ts hs).cast hg) (Evt.pos rfl (Evt.bind0 ((l1In_eq _ _ _).trans (by rw [hw])) (Evt.neg (by decide) (Evt.ok _)))), Evt.bind (Evt.bind ((goodNet_ev p ts hs).cast hg) (Evt.pos rfl (Evt.bind0 ((within_eq _ _ _).trans (by rw [hw])) (hn _ rfl)))) (Evt.ok _), hz⟩
    | true =>
      refine ⟨(atLGiversOf ts x1, true), Evt.bind ((specGoodNet_ev p ts hs).cast hg) (Evt.pos rfl (Evt.bind0 ((l1In_eq _ _ _).trans (by rw [hw])) (Evt.pos rfl (Evt.bind (spec_l2Givers_ev p ts x1 hs) (Evt.ok _))))), Evt.bind (a := (atLGiversOf ts x1, true)) (Evt.bind ((goodNet_ev p ts hs).cast hg) (Evt.pos rfl (Evt.bind0 ((within_eq _ _ _).trans (by rw [hw])) (Evt.step ?_)))) (Evt.ok _), ?_⟩
      · simp only [impl_transWith_at_impl_GiversOf_1.j0]
        exact Evt.neg (by simp) (transWithGiversOf_ev ts x1 hs)
      · have := picks_length (fun i => has (ts.getD i z68).f1 x1) 0 ts.length
        have := hs.1
        show (picks _ 0 ts.length).length ≤ _
        omega
end Go.Proofs.Ytdcbieganlmniaa.Lib
