import Derived.Test.YtffdacmdgfpnmaaTrap
import Derived.Test.YtffdacmdgfpnmaaPlain
import Derived.Test.YtffdacmdgfpnmaaHasMeet
namespace Go.Proofs.Ytffdacmdgfpnmaa.Lib
open Go.RowKit Go.Proofs.Ytffdacmdgfpnmaa.F Go.Proofs.YtffdacmdgfpnmaaW.PrintWords Go.Proofs.YtffdacmdgfpnmaaW.PrintLast Go.Proofs.YtffdacmdgfpnmaaW.PrintMore
def keepsT (s : Bool) (l : List Int) (t : Tr) : Bool := !meet (sideA s t) l || meet (sideB s t) l
theorem meet_hits (a l : List Int) (ha : ∀ q ∈ a, 0 ≤ q) (hl : ∀ q ∈ l, 0 ≤ q) : meet a l = true ↔ hits a (mask l) := by
  rw [meet_iff]
  constructor
  · rintro ⟨x, h1, h2⟩
    have h0 := ha x h1
    have e : ((x.toNat : Nat) : Int) = x := by omega
    exact ⟨x.toNat, by rw [e]; exact h1, by rw [mask_bit l hl, e]; exact decide_eq_true h2⟩
  · rintro ⟨i, h1, h2⟩
    rw [mask_bit l hl] at h2
    exact ⟨(i : Int), h1, of_decide_eq_true h2⟩
theorem keepsT_iff (s : Bool) (l : List Int) (t : Tr) (ht : inPlaces t) (hl : ∀ q ∈ l, 0 ≤ q) : keepsT s l t = true ↔ ¬ bad s (mask l) t := by
  have ha : ∀ q ∈ sideA s t, 0 ≤ q := by cases s <;> simp only [sideA] <;> first | exact fun q hq => (ht.1 q hq).1 | exact fun q hq => (ht.2 q hq).1
  have hb : ∀ q ∈ sideB s t, 0 ≤ q := by cases s <;> simp only [sideB] <;> first | exact fun q hq => (ht.1 q hq).1 | exact fun q hq => (ht.2 q hq).1
  have h1 := meet_hits (sideA s t) l ha hl
  have h2 := meet_hits (sideB s t) l hb hl
  unfold keepsT bad
  rw [Bool.or_eq_true, Bool.not_eq_true', h2, ← h1]
  cases meet (sideA s t) l <;> simp
theorem okSet_all (s : Bool) (ts : List Tr) (l : List Int) (hp : ∀ t ∈ ts, inPlaces t) (hl : ∀ q ∈ l, 0 ≤ q) : okSet s ts (mask l) ↔ ts.all (keepsT s l) = true := by
  rw [List.all_eq_true]
  exact ⟨fun h t ht => (keepsT_iff s l t (hp t ht) hl).2 (h t ht), fun h t ht => (keepsT_iff s l t (hp t ht) hl).1 (h t ht)⟩
end Go.Proofs.Ytffdacmdgfpnmaa.Lib
