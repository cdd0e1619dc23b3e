import Derived.Test.YtaadkpbpkeckdaaF0
import Derived.Test.YtaadkpbpkeckdaaF1
import Derived.Test.YtaadkpbpkeckdaaGood
import Derived.Test.YtaadkpbpkeckdaaInts
namespace Go.Proofs.Ytaadkpbpkeckdaa.Lib
open Go.RowKit Go.Proofs.Ytaadkpbpkeckdaa.F Go.Proofs.YtaadkpbpkeckdaaW.PrintWords Go.Proofs.YtaadkpbpkeckdaaW.PrintLast Go.Proofs.YtaadkpbpkeckdaaW.PrintMore
def sumOn (w : List Int) (s : Int) (ps : List Int) : Int := ps.foldl (fun s q => wrap64 (s + rd w q)) s
theorem l7Sum_ev (w ps : List Int) (hp : Short ps) (hb : ∀ q ∈ ps, 0 ≤ q ∧ q < (w.length : Int)) : Evt (fun k => spec_l7Sum.f k w ps) (sumOn w 0 ps) := by
  have hp' : ps.length ≤ 17592186044415 := hp
  have key : ∀ i, i ≤ ps.length → ∀ s : Int, Evt (fun k => spec_l7Sum.l0 k w s ps (ps.length : Int) i) (sumOn w s (ps.drop i)) := by
    refine down (P := fun i s => Evt (fun k => spec_l7Sum.l0 k w s ps (ps.length : Int) i) (sumOn w s (ps.drop i))) ?_ ?_
    · intro s
      refine Evt.step ?_
      simp only [spec_l7Sum.l0]
      exact Evt.neg (natNotLt _) ((Evt.ok _).cast (by simp [sumOn]))
    · intro i hi ih s
      have hq := hb ps[i] (List.getElem_mem hi)
      refine Evt.step ?_
      simp only [spec_l7Sum.l0]
      rw [rdN ps i hi, wrapN i _ hi (by omega), dropN ps i hi]
      exact Evt.pos (natLt _ _ hi) (Evt.pos (by omega) (Evt.pos (natLt _ _ hi) (Evt.pos hq.1 (Evt.pos hq.2 (ih _)))))
  unfold spec_l7Sum.f
  exact (key 0 (Nat.zero_le _) 0).cast (by simp)
def evenT (w : List Int) (t : Tr) : Bool := decide (sumOn w 0 t.f0 = sumOn w 0 t.f1)
theorem inv_places {p : Int} {ts : List Tr} {w : List Int} (hg : goodNet p ts = true) (hw : (w.length : Int) = p) : ∀ t ∈ ts, (∀ q ∈ t.f0, 0 ≤ q ∧ q < (w.length : Int)) ∧ (∀ q ∈ t.f1, 0 ≤ q ∧ q < (w.length : Int)) := by
  intro t ht
  have hf := (goodNet_facts hg).2.2.2 t ht
  exact ⟨fun q hq => by have := rising_le hf.2.1 q hq; omega, fun q hq => by have := rising_le hf.2.2.1 q hq; omega⟩
theorem l7Invariant_ev (p : Int) (ts : List Tr) (w : List Int) (h : SmallN ts) (hg : goodNet p ts = true) (hw : (w.length : Int) = p) : Evt (fun k => spec_l7Invariant.f k p ts w) (ts.all (evenT w)) := by
  have hl := h.1
  unfold spec_l7Invariant.f
  refine loop_allL (fun k i => spec_l7Invariant.l0 k w ts (ts.length : Int) (i : Int)) ts (evenT w) ?_ ?_ ?_
  · simp only [spec_l7Invariant.l0]
    exact Evt.neg (natNotLt _) (Evt.ok _)
  · intro i hi hp r hr
    have hsm : SmallT ts[i] := h.2 _ (List.getElem_mem hi)
    have hq := inv_places hg hw ts[i] (List.getElem_mem hi)
    have er : rd_T79 ts (i : Int) = ts[i] := rdG ts _ i hi
    simp only [spec_l7Invariant.l0, er]
    rw [wrapN i _ hi (by omega)]
    exact Evt.pos (natLt _ _ hi) (Evt.pos (by omega) (Evt.pos (natLt _ _ hi) (Evt.bind (l7Sum_ev w _ hsm.s0 hq.1) (Evt.bind (l7Sum_ev w _ hsm.s1 hq.2) (Evt.pos (of_decide_eq_true hp) hr)))))
  · intro i hi hp
    have hsm : SmallT ts[i] := h.2 _ (List.getElem_mem hi)
    have hq := inv_places hg hw ts[i] (List.getElem_mem hi)
    have er : rd_T79 ts (i : Int) = ts[i] := rdG ts _ i hi
    simp only [spec_l7Invariant.l0, er]
    exact Evt.pos (natLt _ _ hi) (Evt.pos (by omega) (Evt.pos (natLt _ _ hi) (Evt.bind (l7Sum_ev w _ hsm.s0 hq.1) (Evt.bind (l7Sum_ev w _ hsm.s1 hq.2) (Evt.neg (of_decide_eq_false hp) (Evt.ok _))))))
end Go.Proofs.Ytaadkpbpkeckdaa.Lib
