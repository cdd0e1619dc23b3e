import Derived.Test.YtoicemlndofphaaGreatF4
import Derived.Test.YtoicemlndofphaaGreatF7
import Derived.Test.YtoicemlndofphaaGreatF8
import Derived.Test.YtoicemlndofphaaGreatSpace
namespace Go.Proofs.YtoicemlndofphaaGreat.Lib
open Go.RowKit Go.Proofs.YtoicemlndofphaaGreat.F Go.Proofs.YtoicemlndofphaaGreatW.PrintWords Go.Proofs.YtoicemlndofphaaGreatW.PrintLast Go.Proofs.YtoicemlndofphaaGreatW.PrintMore
theorem core_CanCome (p : Int) (ts : List Tr) (x1 : List Int) (x2 : Int) (x3 : List Int) (hs : SmallN ts) (h1 : Short x1) (h3 : Short x3) : ∃ x : Bool × Bool, Evt (fun k => spec_CanCome.f k p ts x1 x2 x3) x ∧ Evt (fun k => impl_CanCome.f k p ts x1 x2 x3) x := by
  obtain ⟨⟨M, A, c⟩, e1, e2, e3⟩ := space_ex p ts x1 x2 hs h1
  unfold spec_CanCome.f impl_CanCome.f
  cases c with
  | false => exact ⟨(false, false), Evt.bind e1 (Evt.neg (by simp) (Evt.ok _)), Evt.bind e2 (Evt.neg (by simp) (Evt.ok _))⟩
  | true =>
    have hw := e3 rfl
    cases hm : goodMark p x3 with
    | false => exact ⟨(false, false), Evt.bind e1 (Evt.pos rfl (Evt.bind ((specGoodMark_ev p x3 h3).cast hm) (Evt.neg (by decide) (Evt.ok _)))), Evt.bind e2 (Evt.pos rfl (Evt.bind ((goodMark_ev p x3 h3).cast hm) (Evt.neg (by decide) (Evt.ok _))))⟩
    | true =>
      obtain ⟨r, f1, f2⟩ := l4Find_ex M x3 hw.shortM hw.short
      obtain ⟨r', f3, f4⟩ := find_ex M A (fun z => impl_Space_find.f z M A x3) x3 hw.shortM hw.short (fun z => by simp only [impl_Space_find.f])
      have e := isAt_unique f2 f4
      subst e
      exact ⟨(decide (r ≥ 0), true), Evt.bind e1 (Evt.pos rfl (Evt.bind ((specGoodMark_ev p x3 h3).cast hm) (Evt.pos rfl (Evt.bind f1 (Evt.ok _))))), Evt.bind e2 (Evt.pos rfl (Evt.bind ((goodMark_ev p x3 h3).cast hm) (Evt.pos rfl (Evt.bind f3 (Evt.ok _)))))⟩
end Go.Proofs.YtoicemlndofphaaGreat.Lib
