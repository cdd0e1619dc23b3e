import Derived.Test.YtbkjgnfnjgebiaaNetLib
namespace Go.Proofs.Ytbkjgnfnjgebiaa.Lib
open Go.RowKit Go.Proofs.Ytbkjgnfnjgebiaa.F Go.Proofs.YtbkjgnfnjgebiaaW.PrintWords Go.Proofs.YtbkjgnfnjgebiaaW.PrintLast Go.Proofs.YtbkjgnfnjgebiaaW.PrintMore
def picks (T : Nat → Bool) (i d : Nat) : List Int := ((List.range' i d).filter T).map fun (j : Nat) => (j : Int)
theorem picks_length (T : Nat → Bool) (i d : Nat) : (picks T i d).length ≤ d := by
  unfold picks; rw [List.length_map]; exact Nat.le_trans (List.length_filter_le _ _) (by simp)
theorem loop_picks {ρ : Type} (L : Nat → List Int → Nat → Option ρ) (f : List Int → ρ) (n : Nat) (T : Nat → Bool) (hend : ∀ s, Evt (fun k => L (k + 1) s n) (f s))
    (hyes : ∀ i, i < n → T i = true → ∀ s, s.length ≤ i → ∀ r, Evt (fun k => L k (s ++ [(i : Int)]) (i + 1)) r → Evt (fun k => L (k + 1) s i) r)
    (hno : ∀ i, i < n → T i = false → ∀ s, ∀ r, Evt (fun k => L k s (i + 1)) r → Evt (fun k => L (k + 1) s i) r) : Evt (fun k => L k [] 0) (f (picks T 0 n)) := by
  have key : ∀ i, i ≤ n → ∀ s : List Int, s.length ≤ i → Evt (fun k => L k s i) (f (s ++ picks T i (n - i))) := by
    refine down (P := fun i (s : List Int) => s.length ≤ i → Evt (fun k => L k s i) (f (s ++ picks T i (n - i)))) (fun s _ => Evt.step ((hend s).cast (by simp [picks]))) (fun i hi ih s hs => Evt.step ?_)
    obtain ⟨d, hd⟩ : ∃ d, n - i = d + 1 := ⟨n - i - 1, by omega⟩
    have e : picks T i (n - i) = (if T i then [(i : Int)] else []) ++ picks T (i + 1) (n - (i + 1)) := by
      unfold picks
      rw [hd, List.range'_succ, List.filter_cons, show n - (i + 1) = d by omega]
      cases T i <;> simp
    rw [e]
    cases h : T i with
    | true => exact hyes i hi h s hs _ ((ih (s ++ [(i : Int)]) (by simp; omega)).cast (by simp))
    | false => exact hno i hi h s _ ((ih s (by omega)).cast (by simp))
  exact (key 0 (Nat.zero_le _) [] (Nat.zero_le _)).cast (by simp)
end Go.Proofs.Ytbkjgnfnjgebiaa.Lib
