/- The first marking at which nothing can fire. -/
import Derived.Test.YthkmdanahoongaaF0
import Derived.Test.YthkmdanahoongaaF2
import Derived.Test.YthkmdanahoongaaF5
import Derived.Test.YthkmdanahoongaaF13
import Derived.Test.YthkmdanahoongaaSpace
namespace Go.Proofs.Ythkmdanahoongaa.Lib
open Go.RowKit Go.Proofs.Ythkmdanahoongaa.F Go.Proofs.YthkmdanahoongaaW.PrintWords Go.Proofs.YthkmdanahoongaaW.PrintLast Go.Proofs.YthkmdanahoongaaW.PrintMore
set_option linter.unusedVariables false
set_option linter.unusedSimpArgs false
theorem own_eq (m : List Int) (h : m.length ≤ 17592186044415) : spec_l1Own.f m = some m ∧ slices_Clone_int_int.f m = some m := by
  constructor
  · simp only [spec_l1Own.f, Option.bind_some, List.nil_append, List.length_nil, Nat.zero_add]; exact if_pos (by omega)
  · simp only [slices_Clone_int_int.f, Option.bind_some, List.nil_append, List.length_nil, Nat.zero_add]; exact if_pos (by omega)
theorem dead_loop (p : Int) (ts : List Tr) (M : List (List Int)) (hs : SmallN ts) (hM : Short M) (hS : ∀ m ∈ M, Short m ∧ ∀ t ∈ ts, inNet m.length t) : ∃ r : List Int × Bool, Evt (fun k => spec_FirstDead.l0 k M (M.length : Int) 0 p ts) r ∧ Evt (fun k => impl_FirstDead.l0 k M (M.length : Int) 0 p ts) r ∧ Short r.1 := by
  have hM' : M.length ≤ 17592186044415 := hM
  have key : ∀ i, i ≤ M.length → ∀ s : Unit, ∃ r : List Int × Bool, Evt (fun k => spec_FirstDead.l0 k M (M.length : Int) (i : Int) p ts) r ∧ Evt (fun k => impl_FirstDead.l0 k M (M.length : Int) (i : Int) p ts) r ∧ Short r.1 := by
    refine down (P := fun i (_ : Unit) => ∃ r : List Int × Bool, Evt (fun k => spec_FirstDead.l0 k M (M.length : Int) (i : Int) p ts) r ∧ Evt (fun k => impl_FirstDead.l0 k M (M.length : Int) (i : Int) p ts) r ∧ Short r.1) ?_ ?_
    · intro _
      refine ⟨([], false), Evt.step ?_, Evt.step ?_, by show 0 ≤ _; omega⟩
      · simp only [spec_FirstDead.l0]; exact Evt.neg (natNotLt _) (Evt.ok _)
      · simp only [impl_FirstDead.l0]; exact Evt.neg (natNotLt _) (Evt.ok _)
    · intro i hi ih _
      have hm := hS M[i] (List.getElem_mem hi)
      have er : rd_L1 M (i : Int) = M[i] := rdL M i hi
      have ho := own_eq M[i] hm.1
      by_cases h0 : ((enabledL ts M[i]).length : Int) = 0
      · refine ⟨(M[i], true), Evt.step ?_, Evt.step ?_, hm.1⟩
        · simp only [spec_FirstDead.l0, er]
          exact Evt.pos (natLt _ _ hi) (Evt.pos (by omega) (Evt.pos (natLt _ _ hi) (Evt.bind (l2Enabled_ev p ts _ hs hm.2) (Evt.pos h0 (Evt.bind0 ho.1 (Evt.ok _))))))
        · simp only [impl_FirstDead.l0, er]
          exact Evt.pos (natLt _ _ hi) (Evt.pos (by omega) (Evt.pos (natLt _ _ hi) (Evt.bind (enabled_ev p ts _ hs hm.2) (Evt.pos h0 (Evt.bind0 ho.2 (Evt.ok _))))))
      · obtain ⟨r, h1, h2, h3⟩ := ih ()
        refine ⟨r, Evt.step ?_, Evt.step ?_, h3⟩
        · simp only [spec_FirstDead.l0, er]
          rw [wrapN i _ hi (by omega)]
          exact Evt.pos (natLt _ _ hi) (Evt.pos (by omega) (Evt.pos (natLt _ _ hi) (Evt.bind (l2Enabled_ev p ts _ hs hm.2) (Evt.neg h0 h1))))
        · simp only [impl_FirstDead.l0, er]
          rw [wrapN i _ hi (by omega)]
          exact Evt.pos (natLt _ _ hi) (Evt.pos (by omega) (Evt.pos (natLt _ _ hi) (Evt.bind (enabled_ev p ts _ hs hm.2) (Evt.neg h0 h2))))
  exact key 0 (Nat.zero_le _) ()
theorem core_FirstDead (p : Int) (ts : List Tr) (x1 : List Int) (x2 : Int) (hs : SmallN ts) (h1 : Short x1) : ∃ x : List Int × Bool, Evt (fun k => spec_FirstDead.f k p ts x1 x2) x ∧ Evt (fun k => impl_FirstDead.f k p ts x1 x2) x ∧ Short x.1 := by
  obtain ⟨⟨M, A, c⟩, e1, e2, e3⟩ := space_ex p ts x1 x2 hs h1
  unfold spec_FirstDead.f impl_FirstDead.f
  cases c with
  | false => exact ⟨([], false), Evt.bind e1 (Evt.neg (by simp) (Evt.ok _)), Evt.bind e2 (Evt.neg (by simp) (Evt.ok _)), by show 0 ≤ _; omega⟩
  | true =>
    have hw := e3 rfl
    obtain ⟨r, g1, g2, g3⟩ := dead_loop p ts M hs hw.shortM (fun m hm => ⟨hw.short m hm, good_inNet hw.net m.length (by have := goodMark_bounds (hw.space.good m hm); omega)⟩)
    exact ⟨r, Evt.bind e1 (Evt.pos rfl g1), Evt.bind e2 (Evt.pos rfl g2), g3⟩
end Go.Proofs.Ythkmdanahoongaa.Lib
