import Derived.Test.YtiglhdibibbkjaaF0
import Derived.Test.YtiglhdibibbkjaaInNet
namespace Go.Proofs.Ytiglhdibibbkjaa.Lib
open Go.RowKit Go.Proofs.Ytiglhdibibbkjaa.F Go.Proofs.YtiglhdibibbkjaaW.PrintWords Go.Proofs.YtiglhdibibbkjaaW.PrintLast Go.Proofs.YtiglhdibibbkjaaW.PrintMore
theorem trans_at {ts : List Tr} {x : Int} (h : SmallN ts) (hw : within x 0 (wrap64 ((ts.length : Int) - 1)) = true) : 0 ≤ x ∧ x < (ts.length : Int) ∧ rd_T105 ts x ∈ ts := by
  have hl := h.1
  have hb := within_bounds hw
  have e : wrap64 ((ts.length : Int) - 1) = (ts.length : Int) - 1 := wrap_id _ (by omega) (by omega)
  obtain ⟨i, rfl⟩ : ∃ i : Nat, x = (i : Int) := ⟨x.toNat, by omega⟩
  have hi : i < ts.length := by omega
  refine ⟨by omega, by omega, ?_⟩
  rw [show rd_T105 ts (i : Int) = ts[i] from rdG ts _ i hi]
  exact List.getElem_mem hi
theorem goodMark_same {p : Int} {m r : List Int} (hm : goodMark p m = true) (hr : r.length = m.length) : goodMark p r = allIn r 0 50 := by
  have hb := goodMark_bounds hm
  have h1 : within p 1 16 = true := by unfold within; exact decide_eq_true ⟨hb.1, hb.2.1⟩
  unfold goodMark
  rw [h1, decide_eq_true (show (r.length : Int) = p by omega)]; simp
end Go.Proofs.Ytiglhdibibbkjaa.Lib
