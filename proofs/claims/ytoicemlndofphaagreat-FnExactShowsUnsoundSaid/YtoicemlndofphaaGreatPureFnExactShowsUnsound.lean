import Derived.Test.YtoicemlndofphaaGreatF1
import Derived.Test.YtoicemlndofphaaGreatF4
import Derived.Test.YtoicemlndofphaaGreatF8
import Derived.Test.YtoicemlndofphaaGreatF9
import Derived.Test.YtoicemlndofphaaGreatShows
import Derived.Test.YtoicemlndofphaaGreatFlow
namespace Go.Proofs.YtoicemlndofphaaGreat.Pure
open Go.RowKit Go.Proofs.YtoicemlndofphaaGreat.F Go.Proofs.YtoicemlndofphaaGreat.Lib Go.Proofs.YtoicemlndofphaaGreatW.PrintWords Go.Proofs.YtoicemlndofphaaGreatW.PrintLast
theorem FnExactShowsUnsound : laws_FnExactShowsUnsound.Pure := by
  intro p l u v vc vl sq vt b hw hv _
  refine Evt.get ?_
  obtain ⟨r, hr, gr⟩ := szFlow_ex p l u v 1048576 (by omega) (by omega) hw.2.1.1 (fun t ht => ⟨(hw.2.1.2 t ht).1.1, (hw.2.1.2 t ht).2.1.1, (hw.2.1.2 t ht).2.2.1⟩)
  unfold laws_FnExactShowsUnsound.f
  refine Evt.bind hr ?_
  by_cases c : r < 0
  · exact Evt.pos c (Evt.ok _)
  have hs : SmallN (l.map toT) := (gr (by omega)).2
  have hrb := (gr (by omega)).1
  obtain ⟨r2, hr2, gr2⟩ := szIntS_ex sq r (by omega) hrb hv.2.2.1.1
  by_cases c2 : r2 < 0
  · refine Evt.neg c (Evt.bind0 (a := -1) ?_ (Evt.pos (by omega) (Evt.ok _)))
    unfold laws_szVerdict.f
    rw [hr2, Option.bind_some, if_pos c2]
  have hq : Short sq := by have := (gr2 (by omega)).2; show sq.length ≤ _; omega
  have hz : laws_szVerdict.f vc vl sq vt r = some r2 := by
    unfold laws_szVerdict.f
    rw [hr2, Option.bind_some, if_neg c2]
  have tv : Evt (fun k => laws_toVerdict.f k vc vl sq vt) (vc, vl, sq, vt) := by
    unfold laws_toVerdict.f
    exact Evt.bind (toIntS_ev sq hq) (Evt.ok _)
  have ev : Evt (fun k => laws_eqVerdict.f k vc vl sq vt vc vl sq vt) true := by
    unfold laws_eqVerdict.f
    exact Evt.pos rfl (Evt.pos rfl (Evt.bind (eqIntS_same sq hq) (Evt.pos rfl (Evt.pos rfl (Evt.ok _)))))
  obtain ⟨⟨b0, b1⟩, hx, hy⟩ := core_ShowsUnsound p (l.map toT) u v vc vl sq vt b hs hq
  refine Evt.neg c (Evt.bind0 hz (Evt.neg c2 (Evt.bind (toFlow_ev p l u v hs) (Evt.bind tv (Evt.bind hx (Evt.bind (toFlow_ev p l u v hs) (Evt.bind tv (Evt.bind hy (Evt.neg (by simp) (Evt.neg (by simp) ?_))))))))))
  exact Evt.bind (toFlow_ev p l u v hs) (Evt.bind (eqFlow_same p _ u v hs) (Evt.pos rfl (Evt.bind tv (Evt.bind ev (Evt.pos rfl (Evt.ok _))))))
end Go.Proofs.YtoicemlndofphaaGreat.Pure
