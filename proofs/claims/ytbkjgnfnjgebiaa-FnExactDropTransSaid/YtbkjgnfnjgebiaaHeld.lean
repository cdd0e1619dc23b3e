import Derived.Test.YtbkjgnfnjgebiaaF1
import Derived.Test.YtbkjgnfnjgebiaaF4
import Derived.Test.YtbkjgnfnjgebiaaInts
namespace Go.Proofs.Ytbkjgnfnjgebiaa.Lib
open Go.RowKit Go.Proofs.Ytbkjgnfnjgebiaa.F Go.Proofs.YtbkjgnfnjgebiaaW.PrintWords Go.Proofs.YtbkjgnfnjgebiaaW.PrintLast Go.Proofs.YtbkjgnfnjgebiaaW.PrintMore

def iota (n m : Nat) : List Int := (List.range m).map fun i => ((n + i : Nat) : Int)
theorem iota_length (n m : Nat) : (iota n m).length = m := by simp [iota]
theorem iota_get (n m i : Nat) (h : i < (iota n m).length) : (iota n m)[i] = ((n + i : Nat) : Int) := by simp [iota]

theorem markIntS_ev (l : List Int) (n : Nat) (hn : n + l.length ≤ 4611686018427387904) : Evt (fun k => laws_markIntS.f k l (n : Int)) (((n + l.length : Nat) : Int), iota n l.length) := by
  have key : ∀ i, i ≤ l.length → ∀ s : List Int, s.length = l.length → s.take i = (iota n l.length).take i → Evt (fun k => laws_markIntS.l0 k s ((n + i : Nat) : Int) i) (((n + l.length : Nat) : Int), iota n l.length) := by
    refine down (P := fun i s => s.length = l.length → s.take i = (iota n l.length).take i → Evt (fun k => laws_markIntS.l0 k s ((n + i : Nat) : Int) i) (((n + l.length : Nat) : Int), iota n l.length)) ?_ ?_
    · intro s hs ht
      refine Evt.step ?_
      simp only [laws_markIntS.l0]
      refine Evt.neg (by omega) ?_
      rw [List.take_of_length_le (by omega), List.take_of_length_le (by rw [iota_length]; omega)] at ht
      rw [ht]; exact Evt.ok _
    · intro i hi ih s hs ht
      refine Evt.step ?_
      simp only [laws_markIntS.l0]
      refine Evt.pos (by omega) (Evt.pos (by omega) ?_)
      rw [wrapN i _ hi (by omega), wrapN (n + i) _ (by omega : n + i < n + l.length) (by omega), Nat.add_assoc]
      refine ih _ (by simpa using hs) ?_
      rw [Int.toNat_natCast, takeN _ i (by simp; omega), List.take_set_of_le (Nat.le_refl i), ht, takeN _ i (by rw [iota_length]; omega), iota_get]
      simp
  unfold laws_markIntS.f
  exact key 0 (Nat.zero_le _) l rfl (by simp)

theorem heldIntS_ev (n m : Nat) (hn : n + m ≤ 4611686018427387904) : Evt (fun k => laws_heldIntS.f k (iota n m) (n : Int)) ((n + m : Nat) : Int) := by
  have hl := iota_length n m
  have key : ∀ i, i ≤ m → ∀ s : Unit, Evt (fun k => laws_heldIntS.l0 k (iota n m) ((n + i : Nat) : Int) i) ((n + m : Nat) : Int) := by
    refine down (P := fun i _ => Evt (fun k => laws_heldIntS.l0 k (iota n m) ((n + i : Nat) : Int) i) ((n + m : Nat) : Int)) ?_ ?_
    · intro _
      refine Evt.step ?_
      simp only [laws_heldIntS.l0]
      refine Evt.neg (by omega) (Evt.ok _)
    · intro i hi ih _
      refine Evt.step ?_
      simp only [laws_heldIntS.l0]
      refine Evt.pos (by omega) (Evt.pos (by omega) ?_)
      rw [rdN _ i (by omega), iota_get, wrapN i _ hi (by omega), wrapN (n + i) (n + m) (by omega) (by omega), Nat.add_assoc]
      exact Evt.pos rfl (ih ())
  unfold laws_heldIntS.f
  exact key 0 (Nat.zero_le _) ()

end Go.Proofs.Ytbkjgnfnjgebiaa.Lib
