import Derived.Test.YthkmdanahoongaaNetLib
namespace Go.Proofs.Ythkmdanahoongaa.Lib
open Go.RowKit Go.Proofs.YthkmdanahoongaaW.PrintWords
theorem getD_set (s : List Int) (i q : Nat) (x : Int) (hq : q < s.length) : (s.set i x).getD q 0 = if q = i then x else s.getD q 0 := by
  simp only [List.getD_eq_getElem?_getD, List.getElem?_set]
  by_cases h : i = q
  · subst h; simp [hq]
  · simp [h, Ne.symm h]
theorem getD_map_range (n : Nat) (f : Nat → Int) (q : Nat) (hq : q < n) : ((List.range n).map f).getD q 0 = f q := by
  simp [List.getD_eq_getElem?_getD, List.getElem?_eq_getElem, hq]
theorem ext_getD {s t : List Int} (hl : s.length = t.length) (h : ∀ q, q < s.length → s.getD q 0 = t.getD q 0) : s = t := by
  refine List.ext_getElem hl fun i h1 h2 => ?_
  have := h i h1
  rwa [getDN s 0 i h1, getDN t 0 i h2] at this
end Go.Proofs.Ythkmdanahoongaa.Lib
