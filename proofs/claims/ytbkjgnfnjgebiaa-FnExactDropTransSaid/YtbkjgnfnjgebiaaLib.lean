import Derived.Test.YtbkjgnfnjgebiaaT
namespace Go.Proofs.Ytbkjgnfnjgebiaa.Lib
open Go.RowKit Go.Proofs.YtbkjgnfnjgebiaaW.PrintWords

def Evt {α : Type} (f : Nat → Option α) (r : α) : Prop := ∃ K, ∀ k, K ≤ k → f k = some r
theorem Evt.of {α : Type} {f : Nat → Option α} {r : α} (h : ∀ k, f k = some r) : Evt f r := ⟨0, fun k _ => h k⟩
theorem Evt.ok {α : Type} (r : α) : Evt (fun _ => some r) r := ⟨0, fun _ _ => rfl⟩
theorem Evt.get {α : Type} {f : Nat → Option α} {r : α} (h : Evt f r) : ∃ k, f k = some r := let ⟨K, hK⟩ := h; ⟨K, hK K (Nat.le_refl _)⟩
theorem Evt.step {α : Type} {f : Nat → Option α} {r : α} (h : Evt (fun k => f (k + 1)) r) : Evt f r := by
  obtain ⟨K, hK⟩ := h
  refine ⟨K + 1, fun k hk => ?_⟩
  obtain ⟨m, rfl⟩ : ∃ m, k = m + 1 := ⟨k - 1, by omega⟩
  exact hK m (by omega)
theorem Evt.bind {α β : Type} {f : Nat → Option α} {g : Nat → α → Option β} {a : α} {b : β} (h : Evt f a) (h' : Evt (fun k => g k a) b) : Evt (fun k => (f k).bind (g k)) b := by
  obtain ⟨K, hK⟩ := h
  obtain ⟨K', hK'⟩ := h'
  refine ⟨max K K', fun k hk => ?_⟩
  have h1 := hK k (by omega)
  have h2 := hK' k (by omega)
  simp only [h1, Option.bind_some]
  exact h2
theorem Evt.bind0 {α β : Type} {x : Option α} {g : Nat → α → Option β} {a : α} {b : β} (h : x = some a) (h' : Evt (fun k => g k a) b) : Evt (fun k => x.bind (g k)) b := by
  subst h; exact h'
theorem Evt.pos {α : Type} {c : Prop} [Decidable c] {f g : Nat → Option α} {r : α} (hc : c) (h : Evt f r) : Evt (fun k => if c then f k else g k) r := by
  simp only [if_pos hc]; exact h
theorem Evt.neg {α : Type} {c : Prop} [Decidable c] {f g : Nat → Option α} {r : α} (hc : ¬ c) (h : Evt g r) : Evt (fun k => if c then f k else g k) r := by
  simp only [if_neg hc]; exact h
theorem Evt.cast {α : Type} {f : Nat → Option α} {r r' : α} (h : Evt f r) (e : r = r') : Evt f r' := e ▸ h
theorem Evt.fn {α : Type} {f g : Nat → Option α} {r : α} (h : Evt f r) (e : ∀ k, g k = f k) : Evt g r := by
  obtain ⟨K, hK⟩ := h
  exact ⟨K, fun k hk => (e k).trans (hK k hk)⟩
theorem down {σ : Type} {P : Nat → σ → Prop} {n : Nat} (hend : ∀ s, P n s) (hstep : ∀ i, i < n → (∀ s, P (i + 1) s) → ∀ s, P i s) : ∀ i, i ≤ n → ∀ s, P i s := by
  have key : ∀ d i, n - i = d → i ≤ n → ∀ s, P i s := by
    intro d
    induction d with
    | zero => intro i hd hi s; obtain rfl : i = n := by omega
              exact hend s
    | succ d ih => intro i hd hi s; exact hstep i (by omega) (ih (i + 1) (by omega) (by omega)) s
  exact fun i hi s => key _ i rfl hi s
theorem wrapN (i n : Nat) (h : i < n) (hn : n ≤ 4611686018427387904) : wrap64 ((i : Int) + 1) = ((i + 1 : Nat) : Int) := by
  unfold wrap64; omega
theorem wrap_id (x : Int) (h : -9223372036854775808 ≤ x) (h' : x ≤ 9223372036854775807) : wrap64 x = x := by unfold wrap64; omega
theorem rdN (l : List Int) (i : Nat) (h : i < l.length) : rd l (i : Int) = l[i] := by
  simp [rd, List.getD_eq_getElem?_getD, List.getElem?_eq_getElem h]
theorem dropN {α : Type} (l : List α) (i : Nat) (h : i < l.length) : l.drop i = l[i] :: l.drop (i + 1) := List.drop_eq_getElem_cons h
theorem takeN {α : Type} (l : List α) (i : Nat) (h : i < l.length) : l.take (i + 1) = l.take i ++ [l[i]] := List.take_succ_eq_append_getElem h
theorem natLt (i n : Nat) (h : i < n) : (i : Int) < (n : Int) := by omega
theorem natNotLt (n : Nat) : ¬ (n : Int) < (n : Int) := by omega
theorem wf_bounds {x : Int} (h : (Lit.int .i64 x).wf = true) : -9223372036854775808 ≤ x ∧ x ≤ 9223372036854775807 := by
  simp [Lit.wf, IntKind.min, IntKind.max, IntKind.bits, IntKind.signed] at h
  omega
abbrev Short {α : Type} (l : List α) : Prop := l.length ≤ 17592186044415
theorem indexFunc_gen {α : Type} (F : Nat → α → Option Bool) (p : α → Bool) (R : Int → α) (L : Nat → Int → Option Int) (l : List α)
    (hL : ∀ k i, L (k + 1) i = if i < (l.length : Int) then (if 0 ≤ i then (if i < (l.length : Int) then ((F k (R i)).bind fun t => (if t = true then (some i) else (L k (wrap64 (i + 1))))) else (none)) else (none)) else (some (-1)))
    (hF : ∀ x ∈ l, Evt (fun k => F k x) (p x)) (hR : ∀ (i : Nat) (h : i < l.length), R (i : Int) = l[i]) (hl : Short l) :
    ∃ r : Int, Evt (fun k => L k 0) r ∧ decide (r ≥ 0) = l.any p ∧ (∀ (i : Nat), r = (i : Int) → ∃ h : i < l.length, p l[i] = true ∧ ∀ j (hj : j < i), p (l[j]'(by omega)) = false) ∧ (r < 0 → r = -1) := by
  have hl' : l.length ≤ 17592186044415 := hl
  have key : ∀ i, i ≤ l.length → ∀ s : Unit, (∀ j (hj : j < i) (hj2 : j < l.length), p l[j] = false) → ∃ r : Int, Evt (fun k => L k (i : Int)) r ∧ decide (r ≥ 0) = (l.drop i).any p ∧ (∀ (i : Nat), r = (i : Int) → ∃ h : i < l.length, p l[i] = true ∧ ∀ j (hj : j < i), p (l[j]'(by omega)) = false) ∧ (r < 0 → r = -1) := by
    refine down (P := fun i _ => (∀ j (hj : j < i) (hj2 : j < l.length), p l[j] = false) → ∃ r : Int, Evt (fun k => L k (i : Int)) r ∧ decide (r ≥ 0) = (l.drop i).any p ∧ (∀ (i : Nat), r = (i : Int) → ∃ h : i < l.length, p l[i] = true ∧ ∀ j (hj : j < i), p (l[j]'(by omega)) = false) ∧ (r < 0 → r = -1)) ?_ ?_
    · intro _ hp
      refine ⟨-1, Evt.step ?_, by simp, fun i h => by omega, fun _ => rfl⟩
      simp only [hL]
      exact Evt.neg (natNotLt _) (Evt.ok _)
    · intro i hi ih _ hp
      have hb := hF l[i] (List.getElem_mem hi)
      cases hpi : p l[i] with
      | true =>
        refine ⟨i, Evt.step ?_, ?_, fun j hj => ?_, fun h => by omega⟩
        · simp only [hL]
          refine Evt.pos (natLt _ _ hi) (Evt.pos (by omega) (Evt.pos (natLt _ _ hi) ?_))
          rw [hR i hi]
          refine Evt.bind hb ?_
          exact Evt.pos hpi (Evt.ok _)
        · rw [dropN l i hi]; simp [hpi, -List.getElem_cons_drop]
        · obtain rfl : i = j := by omega
          exact ⟨hi, hpi, fun q hq => hp q hq (by omega)⟩
      | false =>
        obtain ⟨r, h1, h2, h3, h4⟩ := ih () (fun j hj hj2 => by
          by_cases e : j = i
          · subst e; exact hpi
          · exact hp j (by omega) hj2)
        refine ⟨r, Evt.step ?_, ?_, h3, h4⟩
        · simp only [hL]
          refine Evt.pos (natLt _ _ hi) (Evt.pos (by omega) (Evt.pos (natLt _ _ hi) ?_))
          rw [hR i hi]
          refine Evt.bind hb ?_
          refine Evt.neg (by rw [hpi]; decide) ?_
          rw [wrapN i _ hi (by omega)]
          exact h1
        · rw [h2, dropN l i hi]; simp [hpi, -List.getElem_cons_drop]
  exact key 0 (Nat.zero_le _) () (fun j hj => by omega)
theorem containsFunc_gen {α : Type} (F : Nat → α → Option Bool) (p : α → Bool) (R : Int → α) (L : Nat → Int → Option Int) (G : Nat → Option Bool) (l : List α)
    (hG : ∀ k, G k = (L k 0).bind fun t => (some (decide (t ≥ 0))))
    (hL : ∀ k i, L (k + 1) i = if i < (l.length : Int) then (if 0 ≤ i then (if i < (l.length : Int) then ((F k (R i)).bind fun t => (if t = true then (some i) else (L k (wrap64 (i + 1))))) else (none)) else (none)) else (some (-1)))
    (hF : ∀ x ∈ l, Evt (fun k => F k x) (p x)) (hR : ∀ (i : Nat) (h : i < l.length), R (i : Int) = l[i]) (hl : Short l) : Evt G (l.any p) := by
  obtain ⟨r, h1, h2, _⟩ := indexFunc_gen F p R L l hL hF hR hl
  exact (Evt.bind (g := fun _ t => some (decide (t ≥ 0))) h1 ((Evt.ok _).cast h2)).fn hG
theorem loop_to {ρ : Type} (L : Nat → Nat → Option ρ) (n : Nat) (hstep : ∀ i, i < n → ∀ r, Evt (fun k => L k (i + 1)) r → Evt (fun k => L (k + 1) i) r) (r : ρ) (hend : Evt (fun k => L k n) r) : Evt (fun k => L k 0) r := by
  have key : ∀ i, i ≤ n → ∀ _ : Unit, Evt (fun k => L k i) r := down (P := fun i _ => Evt (fun k => L k i) r) (fun _ => hend) (fun i hi ih _ => Evt.step (hstep i hi r (ih ())))
  exact key 0 (Nat.zero_le _) ()
theorem loop_all (L : Nat → Nat → Option Bool) (n : Nat) (T : Nat → Bool) (hend : Evt (fun k => L (k + 1) n) true)
    (hyes : ∀ i, i < n → T i = true → ∀ r, Evt (fun k => L k (i + 1)) r → Evt (fun k => L (k + 1) i) r) (hno : ∀ i, i < n → T i = false → Evt (fun k => L (k + 1) i) false) :
    Evt (fun k => L k 0) ((List.range n).all T) := by
  have key : ∀ i, i ≤ n → ∀ _ : Unit, Evt (fun k => L k i) ((List.range' i (n - i)).all T) := by
    refine down (P := fun i _ => Evt (fun k => L k i) ((List.range' i (n - i)).all T)) (fun _ => Evt.step (hend.cast (by simp))) (fun i hi ih _ => Evt.step ?_)
    have e : List.range' i (n - i) = i :: List.range' (i + 1) (n - (i + 1)) := by
      obtain ⟨m, hm⟩ : ∃ m, n - i = m + 1 := ⟨n - i - 1, by omega⟩
      rw [hm, List.range'_succ, show n - (i + 1) = m by omega]
    rw [e, List.all_cons]
    cases h : T i with
    | true => exact (hyes i hi h _ (ih ())).cast (by simp)
    | false => exact (hno i hi h).cast (by simp)
  exact (key 0 (Nat.zero_le _) ()).cast (by rw [List.range_eq_range', Nat.sub_zero])
theorem range_map_succ {α : Type} (f : Nat → α) (i : Nat) : (List.range (i + 1)).map f = (List.range i).map f ++ [f i] := by rw [List.range_succ, List.map_append]; rfl
def filled {α : Type} (f : Nat → α) (z : α) (i n : Nat) : List α := (List.range i).map f ++ List.replicate (n - i) z
theorem filled_zero {α : Type} (f : Nat → α) (z : α) (n : Nat) : filled f z 0 n = List.replicate n z := by simp [filled]
theorem filled_all {α : Type} (f : Nat → α) (z : α) (n : Nat) : filled f z n n = (List.range n).map f := by simp [filled]
theorem filled_length {α : Type} (f : Nat → α) (z : α) (i n : Nat) (h : i ≤ n) : (filled f z i n).length = n := by simp [filled]; omega
theorem filled_set {α : Type} (f : Nat → α) (z : α) (i n : Nat) (h : i < n) : (filled f z i n).set i (f i) = filled f z (i + 1) n := by
  unfold filled
  rw [List.set_append_right _ _ (by simp), range_map_succ, List.append_assoc]
  simp only [List.length_map, List.length_range, Nat.sub_self]
  obtain ⟨m, hm⟩ : ∃ m, n - i = m + 1 := ⟨n - i - 1, by omega⟩
  rw [hm, List.replicate_succ, List.set_cons_zero, show n - (i + 1) = m by omega]
  rfl
theorem map_range_get {α : Type} (l : List α) (d : α) : (List.range l.length).map (fun i => l.getD i d) = l := by
  apply List.ext_getElem
  · simp
  · intro i h1 h2; simp [List.getD_eq_getElem?_getD, List.getElem?_eq_getElem h2]
theorem rdD (l : List Int) (i : Nat) : rd l (i : Int) = l.getD i 0 := by simp [rd]
theorem any_not {α : Type} (l : List α) (p : α → Bool) : (!(l.any fun x => !p x)) = l.all p := by
  induction l with
  | nil => rfl
  | cons x l ih => simp only [List.any_cons, List.all_cons, Bool.not_or, Bool.not_not, ih]
end Go.Proofs.Ytbkjgnfnjgebiaa.Lib
