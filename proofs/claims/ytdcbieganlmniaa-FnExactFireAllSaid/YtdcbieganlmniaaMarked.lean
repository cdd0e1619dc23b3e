/- A net and its marking. -/
import Derived.Test.YtdcbieganlmniaaF4
import Derived.Test.YtdcbieganlmniaaF5
import Derived.Test.YtdcbieganlmniaaGood
import Derived.Test.YtdcbieganlmniaaMarks
namespace Go.Proofs.Ytdcbieganlmniaa.Lib
open Go.RowKit Go.Proofs.Ytdcbieganlmniaa.F Go.Proofs.YtdcbieganlmniaaW.PrintWords Go.Proofs.YtdcbieganlmniaaW.PrintLast Go.Proofs.YtdcbieganlmniaaW.PrintMore
set_option linter.unusedVariables false
set_option linter.unusedSimpArgs false
def marked (p : Int) (ts : List Tr) (m : List Int) : Bool := goodNet p ts && goodMark p m
theorem l2Marked_ev (p : Int) (ts : List Tr) (m : List Int) (h : SmallN ts) (hm : Short m) : Evt (fun k => spec_l2Marked.f k p ts m) (marked p ts m) := by
  unfold spec_l2Marked.f marked
  cases hg : goodNet p ts with
  | false => exact Evt.bind ((specGoodNet_ev p ts h).cast hg) (Evt.neg (by decide) (Evt.ok _))
  | true => exact Evt.bind ((specGoodNet_ev p ts h).cast hg) (Evt.pos rfl (Evt.bind (specGoodMark_ev p m hm) ((Evt.ok _).cast (by simp))))
theorem isMarked_ev (p : Int) (ts : List Tr) (m : List Int) (h : SmallN ts) (hm : Short m) : Evt (fun k => impl_isMarked.f k p ts m) (marked p ts m) := by
  unfold impl_isMarked.f marked
  cases hg : goodNet p ts with
  | false => exact Evt.bind ((goodNet_ev p ts h).cast hg) (Evt.neg (by decide) (Evt.ok _))
  | true => exact Evt.bind ((goodNet_ev p ts h).cast hg) (Evt.pos rfl (Evt.bind (goodMark_ev p m hm) ((Evt.ok _).cast (by simp))))
theorem marked_facts {p : Int} {ts : List Tr} {m : List Int} (h : marked p ts m = true) : goodNet p ts = true ∧ goodMark p m = true := by
  simpa [marked] using h
def inNet (n : Nat) (t : Tr) : Prop := (∀ q ∈ t.f0, 0 ≤ q ∧ q < (n : Int)) ∧ (∀ q ∈ t.f1, 0 ≤ q ∧ q < (n : Int)) ∧ (∀ q ∈ t.f2, 0 ≤ q ∧ q < (n : Int))
theorem good_inNet {p : Int} {ts : List Tr} (hg : goodNet p ts = true) (n : Nat) (hn : p = (n : Int)) : ∀ t ∈ ts, inNet n t := by
  have hf := goodNet_facts hg
  intro t ht
  have h := hf.2.2.2 t ht
  exact ⟨fun q hq => by have := rising_le h.2.1 q hq; omega, fun q hq => by have := rising_le h.2.2.1 q hq; omega, fun q hq => by have := rising_le h.2.2.2 q hq; omega⟩
theorem marked_inNet {p : Int} {ts : List Tr} {m : List Int} (h : marked p ts m = true) : ∀ t ∈ ts, inNet m.length t := by
  have hf := marked_facts h
  have hb := goodMark_bounds hf.2
  exact good_inNet hf.1 m.length (by omega)
end Go.Proofs.Ytdcbieganlmniaa.Lib
