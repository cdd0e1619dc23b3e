import Derived.Test.YtbkjgnfnjgebiaaF1
import Derived.Test.YtbkjgnfnjgebiaaNet
namespace Go.Proofs.Ytbkjgnfnjgebiaa.Lib
open Go.RowKit Go.Proofs.Ytbkjgnfnjgebiaa.F Go.Proofs.YtbkjgnfnjgebiaaW.PrintWords Go.Proofs.YtbkjgnfnjgebiaaW.PrintLast Go.Proofs.YtbkjgnfnjgebiaaW.PrintMore
theorem szFlow_ex (p : Int) (l : List LT) (u v : Int) (b : Int) (h0 : 0 ≤ b) (hb : b ≤ 1048576) (hl : l.length ≤ maxLen) (ht : ∀ t ∈ l, t.f0.length ≤ maxLen ∧ t.f1.length ≤ maxLen ∧ t.f2.length ≤ maxLen) : ∃ r, Evt (fun k => laws_szFlow.f k p l u v b) r ∧ (0 ≤ r → r ≤ b ∧ SmallN (l.map toT)) := by
  obtain ⟨r, hr, g⟩ := szNet_ex p l b h0 hb hl ht
  unfold laws_szFlow.f
  by_cases c : r < 0
  · exact ⟨-1, Evt.bind hr (Evt.pos c (Evt.ok _)), fun h => by omega⟩
  · exact ⟨r, Evt.bind hr (Evt.neg c (Evt.ok _)), g⟩
theorem toFlow_ev (p : Int) (l : List LT) (u v : Int) (h : SmallN (l.map toT)) : Evt (fun k => laws_toFlow.f k p l u v) (p, l.map toT, u, v) := by
  unfold laws_toFlow.f
  exact Evt.bind (toNet_ev p l h) (Evt.ok _)
theorem eqFlow_same (p : Int) (l : List Tr) (u v : Int) (h : SmallN l) : Evt (fun k => laws_eqFlow.f k p l u v p l u v) true := by
  unfold laws_eqFlow.f
  exact Evt.bind (eqNet_same p l h) (Evt.pos rfl (Evt.pos rfl (Evt.pos rfl (Evt.ok _))))
end Go.Proofs.Ytbkjgnfnjgebiaa.Lib
