/- The transitions that can fire, gathered. -/
import Derived.Test.YtdcbieganlmniaaF0
import Derived.Test.YtdcbieganlmniaaF12
import Derived.Test.YtdcbieganlmniaaCan
import Derived.Test.YtdcbieganlmniaaFilter
namespace Go.Proofs.Ytdcbieganlmniaa.Lib
open Go.RowKit Go.Proofs.Ytdcbieganlmniaa.F Go.Proofs.YtdcbieganlmniaaW.PrintWords Go.Proofs.YtdcbieganlmniaaW.PrintLast Go.Proofs.YtdcbieganlmniaaW.PrintMore
set_option linter.unusedVariables false
set_option linter.unusedSimpArgs false
def enabledL (ts : List Tr) (m : List Int) : List Int := picks (fun i => can (ts.getD i z68) m) 0 ts.length
theorem enabledL_length (ts : List Tr) (m : List Int) : (enabledL ts m).length ≤ ts.length := picks_length _ _ _
theorem l2Enabled_ev (p : Int) (ts : List Tr) (m : List Int) (h : SmallN ts) (hp : ∀ t ∈ ts, inNet m.length t) : Evt (fun k => spec_l2Enabled.f k p ts m) (enabledL ts m) := by
  have hl := h.1
  unfold spec_l2Enabled.f
  refine loop_picks (fun k s (i : Nat) => spec_l2Enabled.l0 k m s ts (ts.length : Int) (i : Int)) (fun s => s) ts.length _ ?_ ?_ ?_
  · intro s
    simp only [spec_l2Enabled.l0]
    exact Evt.neg (natNotLt _) (Evt.ok _)
  · intro i hi hT s hs r hr
    have hsm : SmallT ts[i] := h.2 _ (List.getElem_mem hi)
    have er : rd_T68 ts (i : Int) = ts[i] := rdG ts _ i hi
    rw [getDN ts _ i hi] at hT
    simp only [spec_l2Enabled.l0, er]
    rw [wrapN i _ hi (by omega)]
    exact Evt.pos (natLt _ _ hi) (Evt.pos (by omega) (Evt.pos (natLt _ _ hi) (Evt.bind ((l2Can_ev _ m hsm (hp _ (List.getElem_mem hi))).cast hT) (Evt.pos rfl (Evt.pos (by omega) hr)))))
  · intro i hi hT s r hr
    have hsm : SmallT ts[i] := h.2 _ (List.getElem_mem hi)
    have er : rd_T68 ts (i : Int) = ts[i] := rdG ts _ i hi
    rw [getDN ts _ i hi] at hT
    simp only [spec_l2Enabled.l0, er]
    rw [wrapN i _ hi (by omega)]
    exact Evt.pos (natLt _ _ hi) (Evt.pos (by omega) (Evt.pos (natLt _ _ hi) (Evt.bind ((l2Can_ev _ m hsm (hp _ (List.getElem_mem hi))).cast hT) (Evt.neg (by decide) hr))))
theorem enabled_ev (p : Int) (ts : List Tr) (m : List Int) (h : SmallN ts) (hp : ∀ t ∈ ts, inNet m.length t) : Evt (fun k => impl_enabled.f k p ts m) (enabledL ts m) := by
  have hl := h.1
  unfold impl_enabled.f
  refine loop_picks (fun k s (i : Nat) => impl_enabled.l0 k m s ts (ts.length : Int) (i : Int)) (fun s => s) ts.length _ ?_ ?_ ?_
  · intro s
    simp only [impl_enabled.l0]
    exact Evt.neg (natNotLt _) (Evt.ok _)
  · intro i hi hT s hs r hr
    have hsm : SmallT ts[i] := h.2 _ (List.getElem_mem hi)
    have er : rd_T68 ts (i : Int) = ts[i] := rdG ts _ i hi
    rw [getDN ts _ i hi] at hT
    simp only [impl_enabled.l0, er]
    rw [wrapN i _ hi (by omega)]
    exact Evt.pos (natLt _ _ hi) (Evt.pos (by omega) (Evt.pos (natLt _ _ hi) (Evt.bind ((isEnabled_ev _ m hsm (hp _ (List.getElem_mem hi))).cast hT) (Evt.pos rfl (Evt.pos (by omega) hr)))))
  · intro i hi hT s r hr
    have hsm : SmallT ts[i] := h.2 _ (List.getElem_mem hi)
    have er : rd_T68 ts (i : Int) = ts[i] := rdG ts _ i hi
    rw [getDN ts _ i hi] at hT
    simp only [impl_enabled.l0, er]
    rw [wrapN i _ hi (by omega)]
    exact Evt.pos (natLt _ _ hi) (Evt.pos (by omega) (Evt.pos (natLt _ _ hi) (Evt.bind ((isEnabled_ev _ m hsm (hp _ (List.getElem_mem hi))).cast hT) (Evt.neg (by decide) hr))))
theorem core_Enabled (p : Int) (ts : List Tr) (x1 : List Int) (hs : SmallN ts) (h1 : Short x1) : ∃ x : List Int × Bool, Evt (fun k => spec_Enabled.f k p ts x1) x ∧ Evt (fun k => impl_Enabled.f k p ts x1) x ∧ Short x.1 := by
  unfold spec_Enabled.f impl_Enabled.f
  cases hg : marked p ts x1 with
  | false => exact ⟨([], false), Evt.bind ((l2Marked_ev p ts x1 hs h1).cast hg) (Evt.neg (by decide) (Evt.ok _)), Evt.bind ((isMarked_ev p ts x1 hs h1).cast hg) (Evt.neg (by decide) (Evt.ok _)), by show 0 ≤ _; omega⟩
  | true =>
    have hp := marked_inNet hg
    exact ⟨(enabledL ts x1, true), Evt.bind ((l2Marked_ev p ts x1 hs h1).cast hg) (Evt.pos rfl (Evt.bind (l2Enabled_ev p ts x1 hs hp) (Evt.ok _))), Evt.bind ((isMarked_ev p ts x1 hs h1).cast hg) (Evt.pos rfl (Evt.bind (enabled_ev p ts x1 hs hp) (Evt.ok _))), by have := enabledL_length ts x1; have := hs.1; show (enabledL ts x1).length ≤ _; omega⟩
end Go.Proofs.Ytdcbieganlmniaa.Lib
