import Derived.Test.YtoicemlndofphaaGreatF1
import Derived.Test.YtoicemlndofphaaGreatF2
import Derived.Test.YtoicemlndofphaaGreatF3
import Derived.Test.YtoicemlndofphaaGreatF4
import Derived.Test.YtoicemlndofphaaGreatF6
import Derived.Test.YtoicemlndofphaaGreatF7
import Derived.Test.YtoicemlndofphaaGreatF8
import Derived.Test.YtoicemlndofphaaGreatGoodFlow
import Derived.Test.YtoicemlndofphaaGreatFireAll
import Derived.Test.YtoicemlndofphaaGreatDeadTrans
import Derived.Test.YtoicemlndofphaaGreatCanCome
import Derived.Test.YtoicemlndofphaaGreatOver
import Derived.Test.YtoicemlndofphaaGreatSame
import Derived.Test.YtoicemlndofphaaGreatMeet
import Derived.Test.YtoicemlndofphaaGreatHasOf
namespace Go.Proofs.YtoicemlndofphaaGreat.Lib
open Go.RowKit Go.Proofs.YtoicemlndofphaaGreat.F Go.Proofs.YtoicemlndofphaaGreatW.PrintWords Go.Proofs.YtoicemlndofphaaGreatW.PrintLast Go.Proofs.YtoicemlndofphaaGreatW.PrintMore
theorem core_ShowsUnsound (p : Int) (ts : List Tr) (u v : Int) (vc vl : Int) (sq : List Int) (vt b : Int) (hs : SmallN ts) (hq : Short sq) : ∃ x : Bool × Bool, Evt (fun k => spec_ShowsUnsound.f k p ts u v vc vl sq vt b) x ∧ Evt (fun k => impl_ShowsUnsound.f k p ts u v vc vl sq vt b) x := by
  obtain ⟨c, h1, h2, h3⟩ := goodFlow_ex p ts u v hs
  unfold spec_ShowsUnsound.f impl_ShowsUnsound.f spec_l9Asked.f impl_isChecked.f
  simp only [l1In_eq, within_eq, Option.bind_some]
  cases c with
  | false => exact ⟨(false, false), Evt.bind (Evt.bind h1 (Evt.neg (by decide) (Evt.ok false))) (Evt.neg (by decide) (Evt.ok _)), Evt.bind (Evt.bind h2 (Evt.neg (by decide) (Evt.ok false))) (Evt.neg (by decide) (Evt.ok _))⟩
  | true =>
    have g1 := fun w (hw : within b 1 400 = w) => Evt.bind (g := fun (k : Nat) (t : Bool) => if t = true then (some (within b 1 400)) else (some false)) h1 (Evt.pos rfl ((Evt.ok _).cast hw))
    have g2 := fun w (hw : within b 1 400 = w) => Evt.bind (g := fun (k : Nat) (t : Bool) => if t = true then (some (within b 1 400)) else (some false)) h2 (Evt.pos rfl ((Evt.ok _).cast hw))
    cases hb : within b 1 400 with
    | false => rw [hb] at g1 g2; exact ⟨(false, false), Evt.bind (g1 false rfl) (Evt.neg (by decide) (Evt.ok _)), Evt.bind (g2 false rfl) (Evt.neg (by decide) (Evt.ok _))⟩
    | true =>
      rw [hb] at g1 g2
      have h := h3 rfl
      have hf := goodNet_facts h.1
      have e := one_ev p u hf.2.1 h.2.1
      have e' := one_ev p v hf.2.1 h.2.2
      have eS : spec_l9Ends.f p ts u v = some ((List.replicate p.toNat 0).set u.toNat 1, (List.replicate p.toNat 0).set v.toNat 1) := by
        unfold spec_l9Ends.f
        rw [e.1, Option.bind_some, e'.1, Option.bind_some]
      have eI : impl_startOf.f p ts u v = some ((List.replicate p.toNat 0).set u.toNat 1) := by
        unfold impl_startOf.f
        rw [e.2, Option.bind_some]
      have eE : impl_endOf.f p ts u v = some ((List.replicate p.toNat 0).set v.toNat 1) := by
        unfold impl_endOf.f
        rw [e'.2, Option.bind_some]
      have lst : ((List.replicate p.toNat (0 : Int)).set u.toNat 1).length = p.toNat := by rw [List.length_set, List.length_replicate]
      have len : ((List.replicate p.toNat (0 : Int)).set v.toNat 1).length = p.toNat := by rw [List.length_set, List.length_replicate]
      generalize (List.replicate p.toNat (0 : Int)).set u.toNat 1 = st at *
      generalize (List.replicate p.toNat (0 : Int)).set v.toNat 1 = en at *
      have hst : Short st := by show st.length ≤ _; omega
      have hen : Short en := by show en.length ≤ _; omega
      suffices hx : ∃ y : Bool, Evt (fun k => if vc = 2 then (if vl = 3 then ((spec_DeadTrans.f k p ts st b).bind fun bt428 => (if bt428.2 = true then (if (sq.length : Int) = 0 then ((spec_l1Has.f k bt428.1 vt).bind fun t432 => (some (t432, true))) else (some (false, true))) else (some (false, true)))) else ((spec_FireAll.f k p ts st sq).bind fun bt433 => (if bt433.2.2 = true then (if bt433.2.1 = (sq.length : Int) then (spec_ShowsUnsound.j0 k b en bt433.1 (vt != 0) p ts u v vc vl sq vt) else (spec_ShowsUnsound.j0 k b en bt433.1 true p ts u v vc vl sq vt)) else (spec_ShowsUnsound.j0 k b en bt433.1 true p ts u v vc vl sq vt)))) else (some (false, true))) (y, true) ∧ Evt (fun k => impl_showsUnsound.f k p ts u v vc vl sq vt b) y by
        obtain ⟨y, y1, y2⟩ := hx
        exact ⟨(y, true), Evt.bind (g1 true rfl) (Evt.pos rfl (Evt.bind0 eS y1)), Evt.bind (g2 true rfl) (Evt.pos rfl (Evt.bind y2 (Evt.ok _)))⟩
      unfold impl_showsUnsound.f
      by_cases hc2 : vc = 2
      rotate_left
      · exact ⟨false, Evt.neg hc2 (Evt.ok _), Evt.neg hc2 (Evt.ok _)⟩
      by_cases hl3 : vl = 3
      · obtain ⟨⟨D, c⟩, d1, d2, d3⟩ := core_DeadTrans p ts st b hs hst
        cases c with
        | false => exact ⟨false, Evt.pos hc2 (Evt.pos hl3 (Evt.bind d1 (Evt.neg (by simp) (Evt.ok _)))), Evt.pos hc2 (Evt.bind0 eI (Evt.bind0 eE (Evt.pos hl3 (Evt.bind d2 (Evt.neg (by simp) (Evt.ok _))))))⟩
        | true =>
          by_cases h0 : (sq.length : Int) = 0
          · exact ⟨has D vt, Evt.pos hc2 (Evt.pos hl3 (Evt.bind d1 (Evt.pos rfl (Evt.pos h0 (Evt.bind (l1Has_ev D vt d3) (Evt.ok _)))))), Evt.pos hc2 (Evt.bind0 eI (Evt.bind0 eE (Evt.pos hl3 (Evt.bind d2 (Evt.pos rfl (Evt.pos h0 (Evt.bind (contains_ev D vt d3) (Evt.ok _))))))))⟩
          · exact ⟨false, Evt.pos hc2 (Evt.pos hl3 (Evt.bind d1 (Evt.pos rfl (Evt.neg h0 (Evt.ok _))))), Evt.pos hc2 (Evt.bind0 eI (Evt.bind0 eE (Evt.pos hl3 (Evt.bind d2 (Evt.pos rfl (Evt.neg h0 (Evt.ok _)))))))⟩
      · obtain ⟨⟨m, n, c⟩, d1, d2, d3, d4⟩ := fireAll_ex p ts st sq hs hst hq
        have no1 : ∀ c : Bool, c = true → Evt (fun k => spec_ShowsUnsound.j0 k b en m c p ts u v vc vl sq vt) (false, true) := by
          intro c hc
          refine Evt.step ?_
          simp only [spec_ShowsUnsound.j0]
          exact Evt.pos hc (Evt.ok _)
        have no2 : ∀ c : Bool, c = true → Evt (fun k => impl_showsUnsound.j0 k b en m c p ts u v vc vl sq vt) false := by
          intro c hc
          refine Evt.step ?_
          simp only [impl_showsUnsound.j0]
          exact Evt.pos hc (Evt.ok _)
        cases c with
        | false => exact ⟨false, Evt.pos hc2 (Evt.neg hl3 (Evt.bind d1 (Evt.neg (by simp) (no1 _ rfl)))), Evt.pos hc2 (Evt.bind0 eI (Evt.bind0 eE (Evt.neg hl3 (Evt.bind d2 (Evt.neg (by simp) (no2 _ rfl))))))⟩
        | true =>
          have hml : m.length = st.length := (d4 rfl).2
          by_cases hn : n = (sq.length : Int)
          rotate_left
          · exact ⟨false, Evt.pos hc2 (Evt.neg hl3 (Evt.bind d1 (Evt.pos rfl (Evt.neg hn (no1 _ rfl))))), Evt.pos hc2 (Evt.bind0 eI (Evt.bind0 eE (Evt.neg hl3 (Evt.bind d2 (Evt.pos rfl (Evt.neg hn (no2 _ rfl)))))))⟩
          suffices hx : ∃ y : Bool, Evt (fun k => spec_ShowsUnsound.j0 k b en m (vt != 0) p ts u v vc vl sq vt) (y, true) ∧ Evt (fun k => impl_showsUnsound.j0 k b en m (vt != 0) p ts u v vc vl sq vt) y by
            obtain ⟨y, y1, y2⟩ := hx
            exact ⟨y, Evt.pos hc2 (Evt.neg hl3 (Evt.bind d1 (Evt.pos rfl (Evt.pos hn y1)))), Evt.pos hc2 (Evt.bind0 eI (Evt.bind0 eE (Evt.neg hl3 (Evt.bind d2 (Evt.pos rfl (Evt.pos hn y2))))))⟩
          cases hv : (vt != 0) with
          | true => exact ⟨false, no1 true rfl, no2 true rfl⟩
          | false =>
            by_cases hl1 : vl = 1
            · obtain ⟨⟨can, is⟩, k1, k2⟩ := core_CanCome p ts m b en hs d3 hen
              cases is with
              | false =>
                refine ⟨false, Evt.step ?_, Evt.step ?_⟩
                · simp only [spec_ShowsUnsound.j0]
                  exact Evt.neg (by decide) (Evt.pos hl1 (Evt.bind k1 (Evt.neg (by simp) (Evt.ok _))))
                · simp only [impl_showsUnsound.j0]
                  exact Evt.neg (by decide) (Evt.pos hl1 (Evt.bind k2 (Evt.neg (by simp) (Evt.ok _))))
              | true =>
                refine ⟨!can, Evt.step ?_, Evt.step ?_⟩
                · simp only [spec_ShowsUnsound.j0]
                  exact Evt.neg (by decide) (Evt.pos hl1 (Evt.bind k1 (Evt.pos rfl (Evt.ok _))))
                · simp only [impl_showsUnsound.j0]
                  exact Evt.neg (by decide) (Evt.pos hl1 (Evt.bind k2 (Evt.pos rfl (Evt.ok _))))
            · by_cases hl2 : vl = 2
              rotate_left
              · refine ⟨false, Evt.step ?_, Evt.step ?_⟩
                · simp only [spec_ShowsUnsound.j0]
                  exact Evt.neg (by decide) (Evt.neg hl1 (Evt.neg hl2 (Evt.ok _)))
                · simp only [impl_showsUnsound.j0]
                  exact Evt.neg (by decide) (Evt.neg hl1 (Evt.neg hl2 (Evt.ok _)))
              · have c1 := l1Covers_ev m en hen (by omega)
                have c2 := (covers_ev m en d3 (by omega)).cast (r' := over en.length m en) (by rw [show m.length = en.length by omega])
                have s1 := l1Same_ev m en d3
                have s2 := sEqual_ev m en d3
                cases ho : over en.length m en with
                | false =>
                  refine ⟨false, Evt.step ?_, Evt.step ?_⟩
                  · simp only [spec_ShowsUnsound.j0]
                    exact Evt.neg (by decide) (Evt.neg hl1 (Evt.pos hl2 (Evt.bind (c1.cast ho) (Evt.neg (by decide) (Evt.ok _)))))
                  · simp only [impl_showsUnsound.j0, impl_isOver.f]
                    exact Evt.neg (by decide) (Evt.neg hl1 (Evt.pos hl2 (Evt.bind (Evt.bind (c2.cast ho) (Evt.neg (by decide) (Evt.ok false))) (Evt.ok _))))
                | true =>
                  refine ⟨!decide (m = en), Evt.step ?_, Evt.step ?_⟩
                  · simp only [spec_ShowsUnsound.j0]
                    exact Evt.neg (by decide) (Evt.neg hl1 (Evt.pos hl2 (Evt.bind (c1.cast ho) (Evt.pos rfl (Evt.bind s1 (Evt.ok _))))))
                  · simp only [impl_showsUnsound.j0, impl_isOver.f]
                    exact Evt.neg (by decide) (Evt.neg hl1 (Evt.pos hl2 (Evt.bind (Evt.bind (c2.cast ho) (Evt.pos rfl (Evt.bind s2 (Evt.ok (!decide (m = en)))))) (Evt.ok _))))
end Go.Proofs.YtoicemlndofphaaGreat.Lib
