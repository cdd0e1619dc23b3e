import Derived.Test.YthkmdanahoongaaF3
import Derived.Test.YthkmdanahoongaaF4
import Derived.Test.YthkmdanahoongaaF5
import Derived.Test.YthkmdanahoongaaLead
namespace Go.Proofs.Ythkmdanahoongaa.Lib
open Go.RowKit Go.Proofs.Ythkmdanahoongaa.F Go.Proofs.YthkmdanahoongaaW.PrintWords Go.Proofs.YthkmdanahoongaaW.PrintLast Go.Proofs.YthkmdanahoongaaW.PrintMore
theorem everywhere_ev (R : List Bool) (hR : R.length ≤ 1000000) : Evt (fun k => spec_l4Everywhere.l0 k R (R.length : Int) 0) (R.all id) := by
  refine loop_allL (fun k i => spec_l4Everywhere.l0 k R (R.length : Int) (i : Int)) R id ?_ ?_ ?_
  · simp only [spec_l4Everywhere.l0]
    exact Evt.neg (natNotLt _) (Evt.ok _)
  · intro i hi hp r hr
    have eb : rdOf false R (i : Int) = true := by unfold rdOf; rw [Int.toNat_natCast, getDN R false i hi]; exact hp
    simp only [spec_l4Everywhere.l0, wrapN i _ hi (by omega)]
    exact Evt.pos (natLt _ _ hi) (Evt.pos (by omega) (Evt.pos (natLt _ _ hi) (Evt.pos eb hr)))
  · intro i hi hp
    have eb : ¬ rdOf false R (i : Int) = true := by unfold rdOf; rw [Int.toNat_natCast, getDN R false i hi]; simpa using hp
    simp only [spec_l4Everywhere.l0]
    exact Evt.pos (natLt _ _ hi) (Evt.pos (by omega) (Evt.pos (natLt _ _ hi) (Evt.neg eb (Evt.ok _))))
theorem containsB_ev (R : List Bool) (b : Bool) (hR : R.length ≤ 1000000) : Evt (fun k => slices_Contains_bool_bool.f k R b) (R.any fun x => b == x) := by
  refine containsFunc_gen (fun _ x => some (b == x)) (fun x => b == x) (rdOf false R) (fun k i => slices_Index_bool_bool.l0 k R b (R.length : Int) i) _ R ?_ ?_ (fun x _ => Evt.ok _) (fun i hi => by unfold rdOf; rw [Int.toNat_natCast, getDN R false i hi]) (by show R.length ≤ _; omega)
  · intro k; simp only [slices_Contains_bool_bool.f, slices_Index_bool_bool.f]
  · intro k i; simp only [slices_Index_bool_bool.l0, Option.bind_some]
theorem all_any (R : List Bool) : (!(R.any fun x => false == x)) = R.all id := by
  induction R with
  | nil => rfl
  | cons x R ih => cases x <;> simp_all
theorem core_IsHome (p : Int) (ts : List Tr) (x1 : List Int) (x2 : Int) (x3 : List Int) (hs : SmallN ts) (h1 : Short x1) (h3 : Short x3) : ∃ x : Bool × Bool, Evt (fun k => spec_IsHome.f k p ts x1 x2 x3) x ∧ Evt (fun k => impl_IsHome.f k p ts x1 x2 x3) x := by
  obtain ⟨⟨M, A, c⟩, e1, e2, e3⟩ := space_ex p ts x1 x2 hs h1
  unfold spec_IsHome.f impl_IsHome.f
  have out : ∀ M' A', Evt (fun k => spec_IsHome.j0 k x3 true M' A') (false, false) ∧ Evt (fun k => impl_IsHome.j0 k x3 true M' A') (false, false) := by
    intro M' A'
    constructor
    · refine Evt.step ?_
      simp only [spec_IsHome.j0]
      exact Evt.pos trivial (Evt.ok _)
    · refine Evt.step ?_
      simp only [impl_IsHome.j0]
      exact Evt.pos trivial (Evt.ok _)
  cases c with
  | false => exact ⟨(false, false), Evt.bind e1 (Evt.neg (by simp) (out _ _).1), Evt.bind e2 (Evt.neg (by simp) (out _ _).2)⟩
  | true =>
    have hw : Whole p ts x1 x2 M A := e3 rfl
    cases hm : goodMark p x3 with
    | false => exact ⟨(false, false), Evt.bind e1 (Evt.pos rfl (Evt.bind ((specGoodMark_ev p x3 h3).cast hm) (out _ _).1)), Evt.bind e2 (Evt.pos rfl (Evt.bind ((goodMark_ev p x3 h3).cast hm) (out _ _).2))⟩
    | true =>
      obtain ⟨r, f1, f2⟩ := l4Find_ex M x3 hw.shortM hw.short
      obtain ⟨r', f3, f4⟩ := find_ex M A (fun z => impl_Space_find.f z M A x3) x3 hw.shortM hw.short (fun z => by simp only [impl_Space_find.f])
      have e := isAt_unique f2 f4
      subst e
      have hmost := hw.space.most
      have hone := hw.space.one
      have hbud := hw.budget
      have hfew := hw.few
      have hb : ∀ K : List Int, (∀ k ∈ K, 0 ≤ k ∧ k < (M.length : Int)) → K.length ≤ 1 → Bound M.length A K := fun K q1 q2 => ⟨fun a ha => ⟨(hw.space.arcs a ha).1, (hw.space.arcs a ha).2.2⟩, q1, by omega, by omega, by omega⟩
      by_cases hr : r ≥ 0
      · have hl : r < (M.length : Int) := isAt_lt f2 (by omega)
        obtain ⟨R, g1, g2, g3⟩ := lead_ex (hb [r] (fun k hk => by rw [List.mem_singleton.1 hk]; exact ⟨hr, hl⟩) (by simp))
        have el := g3.fl.len
        refine ⟨(R.all id, true), Evt.bind e1 (Evt.pos rfl (Evt.bind ((specGoodMark_ev p x3 h3).cast hm) (Evt.step ?_))), Evt.bind e2 (Evt.pos rfl (Evt.bind ((goodMark_ev p x3 h3).cast hm) (Evt.step ?_)))⟩
        · simp only [spec_IsHome.j0]
          refine Evt.neg (by decide) (Evt.bind f1 (Evt.pos hr (Evt.pos (by decide) (Evt.bind (a := R.all id) ?_ (Evt.ok _)))))
          unfold spec_l4Everywhere.f
          exact Evt.bind g1 (everywhere_ev R (by omega))
        · simp only [impl_IsHome.j0]
          refine Evt.neg (by decide) (Evt.bind f3 (Evt.pos hr (Evt.bind g2 (Evt.bind (containsB_ev R false (by omega)) ?_))))
          rw [all_any]; exact Evt.ok _
      · obtain ⟨R, g1, g2, g3⟩ := lead_ex (hb [] (fun k hk => by cases hk) (by simp))
        have el := g3.fl.len
        have hno : ∀ x, ¬ Lead A [] x := by
          intro x hx
          induction hx with
          | base x h => cases h
          | step a _ _ ih => exact ih
        have hall : R.all id = false := by
          have h0 : 0 < R.length := by omega
          cases hR : R.all id with
          | false => rfl
          | true =>
            have q := List.all_eq_true.1 hR R[0] (List.getElem_mem h0)
            have : rdOf false R 0 = true := by
              unfold rdOf
              rw [Int.toNat_zero, getDN R false 0 h0]; exact q
            exact absurd (g3.fl.sound 0 (by omega) this) (hno 0)
        refine ⟨(false, true), Evt.bind e1 (Evt.pos rfl (Evt.bind ((specGoodMark_ev p x3 h3).cast hm) (Evt.step ?_))), Evt.bind e2 (Evt.pos rfl (Evt.bind ((goodMark_ev p x3 h3).cast hm) (Evt.step ?_)))⟩
        · simp only [spec_IsHome.j0]
          refine Evt.neg (by decide) (Evt.bind f1 (Evt.neg hr (Evt.bind (a := false) ?_ (Evt.ok _))))
          unfold spec_l4Everywhere.f
          exact Evt.bind g1 ((everywhere_ev R (by omega)).cast hall)
        · simp only [impl_IsHome.j0]
          exact Evt.neg (by decide) (Evt.bind f3 (Evt.neg hr (Evt.ok _)))
end Go.Proofs.Ythkmdanahoongaa.Lib
