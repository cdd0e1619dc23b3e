/- What the printed functions on two markings come to: both valid, one over the other, sums, differences. -/
import Derived.Test.YtjppligclcfbgaaF2
import Derived.Test.YtjppligclcfbgaaF3
import Derived.Test.YtjppligclcfbgaaF4
import Derived.Test.YtjppligclcfbgaaMarkLaws
namespace Go.Proofs.Ytjppligclcfbgaa.Lib
open Go.RowKit Go.Proofs.Ytjppligclcfbgaa.F Go.Proofs.YtjppligclcfbgaaW.PrintWords Go.Proofs.YtjppligclcfbgaaW.PrintLast Go.Proofs.YtjppligclcfbgaaW.PrintMore
set_option linter.unusedVariables false
set_option linter.unusedSimpArgs false
theorem rdD (l : List Int) (i : Nat) : rd l (i : Int) = l.getD i 0 := by simp [rd]
theorem l1Two_ev (p : Int) (a b : List Int) (ha : Short a) (hb : Short b) : Evt (fun k => spec_l1Two.f k p a b) (goodMark p a && goodMark p b) := by
  unfold spec_l1Two.f
  cases h : goodMark p a with
  | false => exact Evt.bind ((specGoodMark_ev p a ha).cast h) (Evt.neg (by decide) ((Evt.ok _).cast (by simp)))
  | true => exact Evt.bind ((specGoodMark_ev p a ha).cast h) (Evt.pos rfl (Evt.bind (specGoodMark_ev p b hb) ((Evt.ok _).cast (by simp))))
theorem areMarks2_ev (p : Int) (a b : List Int) (ha : Short a) (hb : Short b) : Evt (fun k => impl_areMarks.f k p [a, b]) (goodMark p a && goodMark p b) :=
  (areMarks_ev p [a, b] (by show 2 ≤ _; omega) (by simpa using ⟨ha, hb⟩)).cast (by simp)
/-- a has as many as b at each of n places. -/
def over (n : Nat) (a b : List Int) : Bool := (List.range n).all fun i => decide (¬ a.getD i 0 < b.getD i 0)
theorem l1Covers_ev (a b : List Int) (hb : Short b) (hab : b.length ≤ a.length) : Evt (fun k => spec_l1Covers.f k a b) (over b.length a b) := by
  have hb' : b.length ≤ 17592186044415 := hb
  unfold spec_l1Covers.f over
  refine loop_all (fun k i => spec_l1Covers.l0 k a b (b.length : Int) (i : Int)) b.length _ ?_ ?_ ?_
  · simp only [spec_l1Covers.l0]
    exact Evt.neg (natNotLt _) (Evt.ok _)
  · intro i hi ht r h
    simp only [spec_l1Covers.l0, rdD, wrapN i _ hi (by omega)]
    exact Evt.pos (natLt _ _ hi) (Evt.pos (by omega) (Evt.pos (natLt _ _ hi) (Evt.pos (by omega) (Evt.neg (of_decide_eq_true ht) h))))
  · intro i hi ht
    simp only [spec_l1Covers.l0, rdD]
    exact Evt.pos (natLt _ _ hi) (Evt.pos (by omega) (Evt.pos (natLt _ _ hi) (Evt.pos (by omega) (Evt.pos (by have := of_decide_eq_false ht; omega) (Evt.ok _)))))
theorem covers_ev (a b : List Int) (ha : Short a) (hab : a.length ≤ b.length) : Evt (fun k => impl_covers.f k a b) (over a.length a b) := by
  have ha' : a.length ≤ 17592186044415 := ha
  unfold impl_covers.f over
  refine loop_all (fun k i => impl_covers.l0 k b a (a.length : Int) (i : Int)) a.length _ ?_ ?_ ?_
  · simp only [impl_covers.l0]
    exact Evt.neg (natNotLt _) (Evt.ok _)
  · intro i hi ht r h
    simp only [impl_covers.l0, rdD, wrapN i _ hi (by omega)]
    exact Evt.pos (natLt _ _ hi) (Evt.pos (by omega) (Evt.pos (natLt _ _ hi) (Evt.pos (by omega) (Evt.neg (of_decide_eq_true ht) h))))
  · intro i hi ht
    simp only [impl_covers.l0, rdD]
    exact Evt.pos (natLt _ _ hi) (Evt.pos (by omega) (Evt.pos (natLt _ _ hi) (Evt.pos (by omega) (Evt.pos (by have := of_decide_eq_false ht; omega) (Evt.ok _)))))
theorem goodMark_short {p : Int} {l : List Int} (h : goodMark p l = true) : Short l := by
  have := goodMark_bounds h
  show l.length ≤ _
  omega
theorem goodMark_len {p : Int} {a b : List Int} (h : (goodMark p a && goodMark p b) = true) : a.length = b.length := by
  rw [Bool.and_eq_true] at h
  have h1 := goodMark_bounds h.1
  have h2 := goodMark_bounds h.2
  omega
/-- Place by place. -/
def both (f : Int → Int → Int) (a b : List Int) : List Int := (List.range a.length).map fun i => f (a.getD i 0) (b.getD i 0)
theorem both_length (f : Int → Int → Int) (a b : List Int) : (both f a b).length = a.length := by simp [both]
theorem both_short (f : Int → Int → Int) (a b : List Int) (ha : Short a) : Short (both f a b) := by unfold Short; rw [both_length]; exact ha
theorem combined_gen (c : Int → Int → Option Int) (f : Int → Int → Int) (hc : ∀ x y, c x y = some (f x y)) (L : Nat → List Int → Int → Option (List Int)) (a b : List Int) (ha : Short a) (hab : a.length ≤ b.length)
    (hL : ∀ k s i, L (k + 1) s i = if i < (a.length : Int) then (if 0 ≤ i then (if i < (a.length : Int) then (if i < (b.length : Int) then ((c (rd a i) (rd b i)).bind fun t => (if i < (s.length : Int) then (L k (s.set (i : Int).toNat t) (wrap64 (i + 1))) else (none))) else (none)) else (none)) else (none)) else (some s)) :
    Evt (fun k => L k (List.replicate a.length 0) 0) (both f a b) := by
  have ha' : a.length ≤ 17592186044415 := ha
  rw [← filled_zero (fun i => f (a.getD i 0) (b.getD i 0))]
  refine loop_to (fun k i => L k (filled (fun i => f (a.getD i 0) (b.getD i 0)) 0 i a.length) (i : Int)) a.length ?_ _ ?_
  · intro i hi r h
    simp only [hL, rdD, hc, Option.bind_some, wrapN i _ hi (by omega), Int.toNat_natCast, filled_set _ _ i _ hi]
    exact Evt.pos (natLt _ _ hi) (Evt.pos (by omega) (Evt.pos (natLt _ _ hi) (Evt.pos (by omega) (Evt.pos (by rw [filled_length _ _ _ _ (by omega)]; omega) h))))
  · refine Evt.step ?_
    simp only [hL]
    exact Evt.neg (natNotLt _) ((Evt.ok _).cast (by rw [filled_all]; rfl))
theorem checkedMark_ev (l : List Int) (hl : Short l) : Evt (fun k => impl_checkedMark.f k l) (if allIn l 0 50 = true then (l, true) else ([], false)) := by
  unfold impl_checkedMark.f
  refine Evt.bind (allWithin_ev l 0 50 hl) ?_
  cases h : allIn l 0 50 with
  | true => exact Evt.pos rfl (Evt.ok _)
  | false => exact Evt.neg (by decide) (Evt.ok _)
end Go.Proofs.Ytjppligclcfbgaa.Lib
