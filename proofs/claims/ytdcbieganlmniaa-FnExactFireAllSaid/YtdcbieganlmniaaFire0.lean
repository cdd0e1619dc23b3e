/- A transition's number; what is handed back of a marking. -/
import Derived.Test.YtdcbieganlmniaaF0
import Derived.Test.YtdcbieganlmniaaF5
import Derived.Test.YtdcbieganlmniaaMarked
namespace Go.Proofs.Ytdcbieganlmniaa.Lib
open Go.RowKit Go.Proofs.Ytdcbieganlmniaa.F Go.Proofs.YtdcbieganlmniaaW.PrintWords Go.Proofs.YtdcbieganlmniaaW.PrintLast Go.Proofs.YtdcbieganlmniaaW.PrintMore
set_option linter.unusedVariables false
set_option linter.unusedSimpArgs false
theorem isTrans_eq (p : Int) (ts : List Tr) (x : Int) : impl_isTrans.f p ts x = some (within x 0 (wrap64 ((ts.length : Int) - 1))) := by
  simp only [impl_isTrans.f, within_eq, Option.bind_some]
/-- A transition's number. -/
theorem trans_at {ts : List Tr} {x : Int} (h : SmallN ts) (hw : within x 0 (wrap64 ((ts.length : Int) - 1)) = true) : 0 ≤ x ∧ x < (ts.length : Int) ∧ rd_T68 ts x ∈ ts := by
  have hl := h.1
  have hb := within_bounds hw
  have e : wrap64 ((ts.length : Int) - 1) = (ts.length : Int) - 1 := wrap_id _ (by omega) (by omega)
  obtain ⟨i, rfl⟩ : ∃ i : Nat, x = (i : Int) := ⟨x.toNat, by omega⟩
  have hi : i < ts.length := by omega
  refine ⟨by omega, by omega, ?_⟩
  rw [show rd_T68 ts (i : Int) = ts[i] from rdG ts _ i hi]
  exact List.getElem_mem hi
theorem goodMark_same {p : Int} {m r : List Int} (hm : goodMark p m = true) (hr : r.length = m.length) : goodMark p r = allIn r 0 50 := by
  have hb := goodMark_bounds hm
  have h1 : within p 1 16 = true := by unfold within; exact decide_eq_true ⟨hb.1, hb.2.1⟩
  unfold goodMark
  rw [h1, decide_eq_true (show (r.length : Int) = p by omega)]; simp
theorem checkedMark_ev (l : List Int) (hl : Short l) : Evt (fun k => impl_checkedMark.f k l) (if allIn l 0 50 = true then (l, true) else ([], false)) := by
  unfold impl_checkedMark.f
  refine Evt.bind (allWithin_ev l 0 50 hl) ?_
  cases h : allIn l 0 50 with
  | true => exact Evt.pos rfl (Evt.ok _)
  | false => exact Evt.neg (by decide) (Evt.ok _)
end Go.Proofs.Ytdcbieganlmniaa.Lib
