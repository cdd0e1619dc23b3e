import Derived.Test.YtoicemlndofphaaGreatF0
import Derived.Test.YtoicemlndofphaaGreatF4
import Derived.Test.YtoicemlndofphaaGreatF8
import Derived.Test.YtoicemlndofphaaGreatFire
import Derived.Test.YtoicemlndofphaaGreatFire0
import Derived.Test.YtoicemlndofphaaGreatMarked
namespace Go.Proofs.YtoicemlndofphaaGreat.Lib
open Go.RowKit Go.Proofs.YtoicemlndofphaaGreat.F Go.Proofs.YtoicemlndofphaaGreatW.PrintWords Go.Proofs.YtoicemlndofphaaGreatW.PrintLast Go.Proofs.YtoicemlndofphaaGreatW.PrintMore
theorem fire_ex (p : Int) (ts : List Tr) (x1 : List Int) (x2 : Int) (hs : SmallN ts) (h1 : Short x1) : ∃ x : List Int × Bool, Evt (fun k => spec_Fire.f k p ts x1 x2) x ∧ Evt (fun k => impl_Fire.f k p ts x1 x2) x ∧ Short x.1 ∧ (x.2 = true → x.1.length = x1.length) := by
  have hz : Short ([] : List Int) := by show 0 ≤ _; omega
  have hn1 : ∀ c : Bool, c = true → Evt (fun k => spec_Fire.j0 k x1 x2 c p ts) ([], false) := by
    intro c hc
    refine Evt.step ?_
    simp only [spec_Fire.j0]
    exact Evt.pos hc (Evt.ok _)
  have hn2 : ∀ c : Bool, c = true → Evt (fun k => impl_Fire.j0 k x1 x2 c p ts) ([], false) := by
    intro c hc
    refine Evt.step ?_
    simp only [impl_Fire.j0]
    exact Evt.pos hc (Evt.ok _)
  unfold spec_Fire.f impl_Fire.f
  simp only [isTrans_eq, l1In_eq, Option.bind_some]
  cases hg : marked p ts x1 with
  | false => exact ⟨([], false), Evt.bind ((l2Marked_ev p ts x1 hs h1).cast hg) (Evt.neg (by decide) (hn1 true rfl)), Evt.bind ((isMarked_ev p ts x1 hs h1).cast hg) (Evt.neg (by decide) (hn2 true rfl)), hz, fun h => by cases h⟩
  | true =>
    cases hw : within x2 0 (wrap64 ((ts.length : Int) - 1)) with
    | false => exact ⟨([], false), Evt.bind ((l2Marked_ev p ts x1 hs h1).cast hg) (Evt.pos rfl (Evt.neg (by decide) (hn1 true rfl))), Evt.bind ((isMarked_ev p ts x1 hs h1).cast hg) (Evt.pos rfl (Evt.neg (by decide) (hn2 true rfl))), hz, fun h => by cases h⟩
    | true =>
      obtain ⟨b0, b1, hmem⟩ := trans_at hs hw
      have hp := marked_inNet hg _ hmem
      have hsm := hs.2 _ hmem
      have hmk := (marked_facts hg).2
      cases hc : can (rd_T92 ts x2) x1 with
      | false => exact ⟨([], false), Evt.bind ((l2Marked_ev p ts x1 hs h1).cast hg) (Evt.pos rfl (Evt.pos rfl (Evt.pos b0 (Evt.pos b1 (Evt.bind ((l2Can_ev _ x1 hsm hp).cast hc) (hn1 _ rfl)))))), Evt.bind ((isMarked_ev p ts x1 hs h1).cast hg) (Evt.pos rfl (Evt.pos rfl (Evt.pos b0 (Evt.pos b1 (Evt.bind ((isEnabled_ev _ x1 hsm hp).cast hc) (hn2 _ rfl)))))), hz, fun h => by cases h⟩
      | true =>
        obtain ⟨r, hr, hrl⟩ := l2Fire_ex _ x1 hsm hp h1
        have hrs : Short r := by have : x1.length ≤ 17592186044415 := h1; show r.length ≤ _; omega
        have he := goodMark_same hmk hrl
        refine ⟨if allIn r 0 50 = true then (r, true) else ([], false), Evt.bind ((l2Marked_ev p ts x1 hs h1).cast hg) (Evt.pos rfl (Evt.pos rfl (Evt.pos b0 (Evt.pos b1 (Evt.bind ((l2Can_ev _ x1 hsm hp).cast hc) (Evt.step ?_)))))), Evt.bind ((isMarked_ev p ts x1 hs h1).cast hg) (Evt.pos rfl (Evt.pos rfl (Evt.pos b0 (Evt.pos b1 (Evt.bind ((isEnabled_ev _ x1 hsm hp).cast hc) (Evt.step ?_)))))), ?_⟩
        · simp only [spec_Fire.j0]
          refine Evt.neg (by simp) (Evt.pos b0 (Evt.pos b1 (Evt.bind hr (Evt.bind ((specGoodMark_ev p r hrs).cast he) ?_))))
          cases h : allIn r 0 50 with
          | true => exact Evt.pos rfl (Evt.ok _)
          | false => exact Evt.neg (by decide) (Evt.ok _)
        · simp only [impl_Fire.j0, fired_f]
          exact Evt.neg (by simp) (Evt.pos b0 (Evt.pos b1 (Evt.bind hr (Evt.bind (checkedMark_ev r hrs) (Evt.ok _)))))
        · cases h : allIn r 0 50 with
          | true => exact ⟨hrs, fun _ => hrl⟩
          | false => exact ⟨hz, fun h => by cases h⟩
end Go.Proofs.YtoicemlndofphaaGreat.Lib
