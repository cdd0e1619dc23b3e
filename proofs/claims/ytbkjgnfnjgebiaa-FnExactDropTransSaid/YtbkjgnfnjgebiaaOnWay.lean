import Derived.Test.YtbkjgnfnjgebiaaF2
import Derived.Test.YtbkjgnfnjgebiaaF3
import Derived.Test.YtbkjgnfnjgebiaaReach
namespace Go.Proofs.Ytbkjgnfnjgebiaa.Lib
open Go.RowKit Go.Proofs.Ytbkjgnfnjgebiaa.F Go.Proofs.YtbkjgnfnjgebiaaW.PrintWords Go.Proofs.YtbkjgnfnjgebiaaW.PrintLast Go.Proofs.YtbkjgnfnjgebiaaW.PrintMore
theorem in_places {p x : Int} {ts : List Tr} (hg : goodNet p ts = true) (h : within x 0 (wrap64 (p - 1)) = true) : 0 ≤ x ∧ x < p := by
  have hf := goodNet_facts hg
  have e : wrap64 (p - 1) = p - 1 := wrap_id _ (by omega) (by omega)
  have hb := within_bounds h
  omega
theorem onWay_ex (p : Int) (ts : List Tr) (u v : Int) (hs : SmallN ts) (hg : goodNet p ts = true) (hu : 0 ≤ u ∧ u < p) (hv : 0 ≤ v ∧ v < p) :
    ∃ g0 g1 : List Int, Evt (fun k => impl_onWay.f k p ts u v) (g0, g1) ∧ Evt (fun k => spec_OnWay.j0 k u v false p ts) (g0, g1, true) ∧ Short g0 ∧ Short g1 := by
  have hf := goodNet_facts hg
  have hl := hs.1
  obtain ⟨⟨P1, R1⟩, a1, a2, a3, a4⟩ := reachFwd p ts u hs hg hu
  obtain ⟨⟨P2, R2⟩, b1, b2, b3, b4⟩ := reachBack p ts v hs hg hv
  have a3' : (P1.length : Int) = p := a3
  have b3' : (P2.length : Int) = p := b3
  have a4' : R1.length = ts.length := a4
  have b4' : R2.length = ts.length := b4
  have hP : Short P1 := by show P1.length ≤ _; omega
  have hR : Short R1 := by show R1.length ≤ _; omega
  refine ⟨bothL P1 P2, bothL R1 R2, ?_, Evt.step ?_, ?_, ?_⟩
  · unfold impl_onWay.f
    exact Evt.bind a2 (Evt.bind b2 (Evt.bind (bothOf_ev P1 P2 hP (by omega)) (Evt.bind (bothOf_ev R1 R2 hR (by omega)) (Evt.ok _))))
  · simp only [spec_OnWay.j0]
    exact Evt.neg (by decide) (Evt.bind a1 (Evt.bind b1 (Evt.bind (l3Both_ev P1 P2 hP (by omega)) (Evt.bind (l3Both_ev R1 R2 hR (by omega)) (Evt.ok _)))))
  · have := bothL_length P1 P2; show (bothL P1 P2).length ≤ _; omega
  · have := bothL_length R1 R2; show (bothL R1 R2).length ≤ _; omega
theorem onWay_no (p : Int) (ts : List Tr) (u v : Int) (c : Bool) (hc : c = true) : Evt (fun k => spec_OnWay.j0 k u v c p ts) ([], [], false) := by
  refine Evt.step ?_
  simp only [spec_OnWay.j0]
  exact Evt.pos hc (Evt.ok _)
end Go.Proofs.Ytbkjgnfnjgebiaa.Lib
