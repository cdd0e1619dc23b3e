/- Two valid markings. -/
import Derived.Test.YtjppligclcfbgabF1
import Derived.Test.YtjppligclcfbgabF2
import Derived.Test.YtjppligclcfbgabMarkLaws
namespace Go.Proofs.Ytjppligclcfbgab.Lib
open Go.RowKit Go.Proofs.Ytjppligclcfbgab.F Go.Proofs.YtjppligclcfbgabW.PrintWords Go.Proofs.YtjppligclcfbgabW.PrintLast Go.Proofs.YtjppligclcfbgabW.PrintMore
set_option linter.unusedVariables false
set_option linter.unusedSimpArgs false
theorem l1Two_ev (p : Int) (a b : List Int) (ha : Short a) (hb : Short b) : Evt (fun k => spec_l1Two.f k p a b) (goodMark p a && goodMark p b) := by
  unfold spec_l1Two.f
  cases h : goodMark p a with
  | false => exact Evt.bind ((specGoodMark_ev p a ha).cast h) (Evt.neg (by decide) ((Evt.ok _).cast (by simp)))
  | true => exact Evt.bind ((specGoodMark_ev p a ha).cast h) (Evt.pos rfl (Evt.bind (specGoodMark_ev p b hb) ((Evt.ok _).cast (by simp))))
theorem areMarks2_ev (p : Int) (a b : List Int) (ha : Short a) (hb : Short b) : Evt (fun k => impl_areMarks.f k p [a, b]) (goodMark p a && goodMark p b) :=
  (areMarks_ev p [a, b] (by show 2 ≤ _; omega) (by simpa using ⟨ha, hb⟩)).cast (by simp)
theorem goodMark_short {p : Int} {l : List Int} (h : goodMark p l = true) : Short l := by
  have := goodMark_bounds h
  show l.length ≤ _
  omega
theorem goodMark_len {p : Int} {a b : List Int} (h : (goodMark p a && goodMark p b) = true) : a.length = b.length := by
  rw [Bool.and_eq_true] at h
  have h1 := goodMark_bounds h.1
  have h2 := goodMark_bounds h.2
  omega
end Go.Proofs.Ytjppligclcfbgab.Lib
