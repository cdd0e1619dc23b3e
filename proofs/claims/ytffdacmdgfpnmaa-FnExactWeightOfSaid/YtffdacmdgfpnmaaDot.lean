/- A marking's weighted sum. -/
import Derived.Test.YtffdacmdgfpnmaaF19
import Derived.Test.YtffdacmdgfpnmaaWeigh
import Derived.Test.YtffdacmdgfpnmaaMarks
namespace Go.Proofs.Ytffdacmdgfpnmaa.Lib
open Go.RowKit Go.Proofs.Ytffdacmdgfpnmaa.F Go.Proofs.YtffdacmdgfpnmaaW.PrintWords Go.Proofs.YtffdacmdgfpnmaaW.PrintLast Go.Proofs.YtffdacmdgfpnmaaW.PrintMore
set_option linter.unusedVariables false
set_option linter.unusedSimpArgs false
/-- The sum of products, from the place i on. -/
def dotFrom (w m : List Int) : Nat → Nat → Int → Int
  | 0, _, s => s
  | d + 1, i, s => dotFrom w m d (i + 1) (wrap64 (s + wrap64 (m.getD i 0 * w.getD i 0)))
theorem specDot_ev (w m : List Int) (hm : Short m) (hw : m.length ≤ w.length) : Evt (fun k => spec_WeightOf.l0 k w 0 m (m.length : Int) 0) (dotFrom w m m.length 0 0, true) := by
  have hm' : m.length ≤ 17592186044415 := hm
  have key : ∀ i, i ≤ m.length → ∀ s : Int, Evt (fun k => spec_WeightOf.l0 k w s m (m.length : Int) i) (dotFrom w m (m.length - i) i s, true) := by
    refine down (P := fun i s => Evt (fun k => spec_WeightOf.l0 k w s m (m.length : Int) i) (dotFrom w m (m.length - i) i s, true)) ?_ ?_
    · intro s
      refine Evt.step ?_
      simp only [spec_WeightOf.l0]
      exact Evt.neg (natNotLt _) ((Evt.ok _).cast (by simp [dotFrom]))
    · intro i hi ih s
      refine Evt.step ?_
      simp only [spec_WeightOf.l0]
      obtain ⟨d, hd⟩ : ∃ d, m.length - i = d + 1 := ⟨m.length - i - 1, by omega⟩
      rw [wrapN i _ hi (by omega), rdD, rdD, hd, dotFrom, show d = m.length - (i + 1) by omega]
      exact Evt.pos (natLt _ _ hi) (Evt.pos (by omega) (Evt.pos (natLt _ _ hi) (Evt.pos (by omega) (ih _))))
  exact (key 0 (Nat.zero_le _) 0).cast (by simp)
def prods (w m : List Int) : List Int := (List.range w.length).map fun i => wrap64 (w.getD i 0 * m.getD i 0)
theorem combined_ev (w m : List Int) (hw : w.length ≤ 17592186044415) (hl : w.length ≤ m.length) : Evt (fun k => impl_combined_at_impl_WeightOf_1.f k w m) (prods w m) := by
  unfold impl_combined_at_impl_WeightOf_1.f
  refine Evt.pos (by omega) (Evt.pos (by rw [Int.toNat_natCast]; omega) ?_)
  rw [Int.toNat_natCast, ← filled_zero (fun i => wrap64 (w.getD i 0 * m.getD i 0))]
  refine loop_to (fun k i => impl_combined_at_impl_WeightOf_1.l0 k m (filled (fun i => wrap64 (w.getD i 0 * m.getD i 0)) 0 i w.length) w (w.length : Int) (i : Int)) w.length ?_ _ ?_
  · intro i hi r h
    simp only [impl_combined_at_impl_WeightOf_1.l0, impl_WeightOf_1.f, rdD, Option.bind_some, wrapN i _ hi (by omega), Int.toNat_natCast, filled_set _ _ i _ hi]
    exact Evt.pos (natLt _ _ hi) (Evt.pos (by omega) (Evt.pos (natLt _ _ hi) (Evt.pos (by omega) (Evt.pos (by rw [filled_length _ _ _ _ (by omega)]; omega) h))))
  · refine Evt.step ?_
    simp only [impl_combined_at_impl_WeightOf_1.l0]
    exact Evt.neg (natNotLt _) ((Evt.ok _).cast (by rw [filled_all]; rfl))
theorem sumOf_ev (l : List Int) (hl : Short l) : Evt (fun k => impl_sumOf.f k l) (l.foldl (fun s x => wrap64 (s + x)) 0) := by
  have hl' : l.length ≤ 17592186044415 := hl
  have key : ∀ i, i ≤ l.length → ∀ s : Int, Evt (fun k => impl_sumOf.l0 k s l (l.length : Int) i) ((l.drop i).foldl (fun s x => wrap64 (s + x)) s) := by
    refine down (P := fun i s => Evt (fun k => impl_sumOf.l0 k s l (l.length : Int) i) ((l.drop i).foldl (fun s x => wrap64 (s + x)) s)) ?_ ?_
    · intro s
      refine Evt.step ?_
      simp only [impl_sumOf.l0]
      exact Evt.neg (natNotLt _) ((Evt.ok _).cast (by simp))
    · intro i hi ih s
      refine Evt.step ?_
      simp only [impl_sumOf.l0]
      rw [rdN l i hi, wrapN i _ hi (by omega), dropN l i hi]
      exact Evt.pos (natLt _ _ hi) (Evt.pos (by omega) (Evt.pos (natLt _ _ hi) (ih _)))
  unfold impl_sumOf.f
  exact (key 0 (Nat.zero_le _) 0).cast (by simp)
theorem dot_eq (w m : List Int) (d : Nat) : ∀ (i : Nat) (s : Int), ((List.range' i d).map fun i => wrap64 (w.getD i 0 * m.getD i 0)).foldl (fun s x => wrap64 (s + x)) s = dotFrom w m d i s := by
  induction d with
  | zero => intro i s; rfl
  | succ d ih =>
    intro i s
    rw [List.range'_succ, List.map_cons, List.foldl_cons, ih, dotFrom, Int.mul_comm (w.getD i 0)]
end Go.Proofs.Ytffdacmdgfpnmaa.Lib
