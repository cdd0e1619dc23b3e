import Derived.Test.YtbkjgnfnjgebiaaInts
namespace Go.Proofs.Ytbkjgnfnjgebiaa.Lib
open Go.RowKit Go.Proofs.Ytbkjgnfnjgebiaa.F Go.Proofs.YtbkjgnfnjgebiaaW.PrintWords Go.Proofs.YtbkjgnfnjgebiaaW.PrintLast Go.Proofs.YtbkjgnfnjgebiaaW.PrintMore
theorem getDN {α : Type} (l : List α) (d : α) (i : Nat) (h : i < l.length) : l.getD i d = l[i] := by simp [List.getD_eq_getElem?_getD, List.getElem?_eq_getElem h]
theorem rdG {α : Type} (l : List α) (d : α) (i : Nat) (h : i < l.length) : l.getD ((i : Int)).toNat d = l[i] := by rw [Int.toNat_natCast]; exact getDN l d i h
theorem loop_find {α ρ : Type} (L : Nat → Nat → Option ρ) (l : List α) (q : α → Option ρ) (e : ρ) (hend : Evt (fun k => L (k + 1) l.length) e)
    (hgo : ∀ i (h : i < l.length), q l[i] = none → ∀ r, Evt (fun k => L k (i + 1)) r → Evt (fun k => L (k + 1) i) r)
    (hout : ∀ i (h : i < l.length) r, q l[i] = some r → Evt (fun k => L (k + 1) i) r) : Evt (fun k => L k 0) ((l.findSome? q).getD e) := by
  have key : ∀ i, i ≤ l.length → ∀ _ : Unit, Evt (fun k => L k i) (((l.drop i).findSome? q).getD e) := by
    refine down (P := fun i _ => Evt (fun k => L k i) (((l.drop i).findSome? q).getD e)) (fun _ => Evt.step (hend.cast (by simp))) (fun i hi ih _ => Evt.step ?_)
    rw [dropN l i hi, List.findSome?_cons]
    cases h : q l[i] with
    | none => exact hgo i hi h _ (ih ())
    | some r => exact (hout i hi r h).cast (by simp)
  exact (key 0 (Nat.zero_le _) ()).cast (by simp)
theorem loop_allL {α : Type} (L : Nat → Nat → Option Bool) (l : List α) (p : α → Bool) (hend : Evt (fun k => L (k + 1) l.length) true)
    (hgo : ∀ i (h : i < l.length), p l[i] = true → ∀ r, Evt (fun k => L k (i + 1)) r → Evt (fun k => L (k + 1) i) r)
    (hout : ∀ i (h : i < l.length), p l[i] = false → Evt (fun k => L (k + 1) i) false) : Evt (fun k => L k 0) (l.all p) := by
  have h := loop_find L l (fun x => if p x then none else some false) true hend (fun i hi hq r => hgo i hi (by
    cases hp : p l[i] with
    | true => rfl
    | false => simp [hp] at hq) r) (fun i hi r hq => by
    cases hp : p l[i] with
    | true => simp [hp] at hq
    | false => simp [hp] at hq; exact hq ▸ hout i hi hp)
  refine h.cast ?_
  clear h hend hgo hout
  induction l with
  | nil => rfl
  | cons x l ih => cases hp : p x <;> simp [List.findSome?_cons, hp, ih]
theorem loop_anyL {α : Type} (L : Nat → Nat → Option Bool) (l : List α) (p : α → Bool) (hend : Evt (fun k => L (k + 1) l.length) false)
    (hgo : ∀ i (h : i < l.length), p l[i] = false → ∀ r, Evt (fun k => L k (i + 1)) r → Evt (fun k => L (k + 1) i) r)
    (hout : ∀ i (h : i < l.length), p l[i] = true → Evt (fun k => L (k + 1) i) true) : Evt (fun k => L k 0) (l.any p) := by
  have h := loop_find L l (fun x => if p x then some true else none) false hend (fun i hi hq r => hgo i hi (by
    cases hp : p l[i] with
    | true => simp [hp] at hq
    | false => rfl) r) (fun i hi r hq => by
    cases hp : p l[i] with
    | true => simp [hp] at hq; exact hq ▸ hout i hi hp
    | false => simp [hp] at hq)
  refine h.cast ?_
  clear h hend hgo hout
  induction l with
  | nil => rfl
  | cons x l ih => cases hp : p x <;> simp [List.findSome?_cons, hp, ih]
theorem loop_copy {α β : Type} (L : Nat → List β → Nat → Option (List β)) (l : List α) (g : α → β) (z : β) (hend : ∀ s, Evt (fun k => L (k + 1) s l.length) s)
    (hgo : ∀ i (h : i < l.length) (s : List β), s.length = l.length → ∀ r, Evt (fun k => L k (s.set i (g l[i])) (i + 1)) r → Evt (fun k => L (k + 1) s i) r) : Evt (fun k => L k (List.replicate l.length z) 0) (l.map g) := by
  have key : ∀ i, i ≤ l.length → ∀ s : List β, s.length = l.length → s.take i = (l.map g).take i → Evt (fun k => L k s i) (l.map g) := by
    refine down (P := fun i s => s.length = l.length → s.take i = (l.map g).take i → Evt (fun k => L k s i) (l.map g)) ?_ ?_
    · intro s hs ht
      refine Evt.step ((hend s).cast ?_)
      rw [List.take_of_length_le (by omega), List.take_of_length_le (by simp)] at ht
      exact ht
    · intro i hi ih s hs ht
      refine Evt.step (hgo i hi s hs _ (ih _ (by simpa using hs) ?_))
      rw [takeN _ i (by simp; omega), takeN _ i (by simp; omega), List.take_set_of_le (Nat.le_refl i), ht]
      simp
  exact key 0 (Nat.zero_le _) _ (by simp) (by simp)
end Go.Proofs.Ytbkjgnfnjgebiaa.Lib
