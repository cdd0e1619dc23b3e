import Derived.Test.YtiglhdibibbkjaaLst
namespace Go.Proofs.Ytiglhdibibbkjaa.Lib
open Go.RowKit Go.Proofs.Ytiglhdibibbkjaa.F Go.Proofs.YtiglhdibibbkjaaW.PrintWords Go.Proofs.YtiglhdibibbkjaaW.PrintLast Go.Proofs.YtiglhdibibbkjaaW.PrintMore
theorem over_iff (n : Nat) (a b : List Int) : over n a b = true ↔ ∀ i, i < n → b.getD i 0 ≤ a.getD i 0 := by
  unfold over
  simp only [List.all_eq_true, List.mem_range, decide_eq_true_eq, Int.not_lt]
theorem over_refl (n : Nat) (a : List Int) : over n a a = true := (over_iff n a a).2 fun _ _ => Int.le_refl _
theorem over_trans {n : Nat} {a b c : List Int} (h1 : over n a b = true) (h2 : over n b c = true) : over n a c = true :=
  (over_iff n a c).2 fun i hi => Int.le_trans ((over_iff n b c).1 h2 i hi) ((over_iff n a b).1 h1 i hi)
theorem over_anti {n : Nat} {a b : List Int} (ha : a.length = n) (hb : b.length = n) (h1 : over n a b = true) (h2 : over n b a = true) : a = b := by
  refine List.ext_getElem (by omega) fun i h1' h2' => ?_
  have e1 := (over_iff n a b).1 h1 i (by omega)
  have e2 := (over_iff n b a).1 h2 i (by omega)
  rw [getDN a 0 i h1', getDN b 0 i h2'] at e1 e2
  omega
theorem over_cons (n : Nat) (a b : Int) (x y : List Int) : over (n + 1) (a :: x) (b :: y) = (decide (¬ a < b) && over n x y) := by
  unfold over
  rw [List.range_succ_eq_map, List.all_cons, List.all_map]
  rfl
def vm (n : Nat) (m : List Int) : Prop := m.length = n ∧ ∀ x ∈ m, 0 ≤ x ∧ x ≤ 50
def sumN : List Int → Nat
  | [] => 0
  | x :: r => x.toNat + sumN r
theorem over_sum : ∀ x z : List Int, x.length = z.length → (∀ e ∈ x, 0 ≤ e) → (∀ e ∈ z, 0 ≤ e) → over x.length x z = true → sumN z ≤ sumN x ∧ (sumN z = sumN x → x = z)
  | [], [], _, _, _, _ => ⟨Nat.le_refl _, fun _ => rfl⟩
  | a :: x, b :: z, hl, hx, hz, h => by
    have hl' : x.length = z.length := by simpa using hl
    rw [List.length_cons, over_cons, Bool.and_eq_true] at h
    have h1 := of_decide_eq_true h.1
    have ha := hx a (List.mem_cons_self ..)
    have hb := hz b (List.mem_cons_self ..)
    obtain ⟨i1, i2⟩ := over_sum x z hl' (fun e he => hx e (List.mem_cons_of_mem _ he)) (fun e he => hz e (List.mem_cons_of_mem _ he)) h.2
    simp only [sumN]
    refine ⟨by omega, fun e => ?_⟩
    rw [i2 (by omega), show a = b by omega]
theorem least_below {n : Nat} {l : List (List Int)} (hl : ∀ m ∈ l, vm n m) : ∀ d x, sumN x = d → x ∈ l → ∃ y, y ∈ l ∧ leastIn n l y = true ∧ over n x y = true := by
  intro d
  induction d using Nat.strongRecOn with
  | ind d ih =>
    intro x hd hx
    cases c : leastIn n l x with
    | true => exact ⟨x, hx, c, over_refl n x⟩
    | false =>
      obtain ⟨z, hz, hc⟩ := List.all_eq_false.1 c
      simp only [Bool.or_eq_true, Bool.not_eq_true', decide_eq_true_eq, not_or, Bool.not_eq_false] at hc
      have vx := hl x hx
      have vz := hl z hz
      have hs := over_sum x z (by rw [vx.1, vz.1]) (fun e he => (vx.2 e he).1) (fun e he => (vz.2 e he).1) (by rw [vx.1]; exact hc.1)
      have hlt : sumN z < d := by
        rcases Nat.lt_or_ge (sumN z) d with h | h
        · exact h
        · exact (hc.2 (hs.2 (by omega))).elim
      obtain ⟨y, h1, h2, h3⟩ := ih _ hlt z rfl hz
      exact ⟨y, h1, h2, over_trans hc.1 h3⟩
def cube : Nat → List (List Int)
  | 0 => [[]]
  | n + 1 => (List.range 51).flatMap fun (v : Nat) => (cube n).map fun r => Int.ofNat v :: r
theorem mem_cube : ∀ n m, vm n m → m ∈ cube n
  | 0, m, h => by
    have : m = [] := List.eq_nil_of_length_eq_zero h.1
    subst this; simp [cube]
  | n + 1, [], h => by have := h.1; simp at this
  | n + 1, x :: r, h => by
    have hx := h.2 x (List.mem_cons_self ..)
    unfold cube
    refine List.mem_flatMap.2 ⟨x.toNat, List.mem_range.2 (by omega), List.mem_map.2 ⟨r, mem_cube n r ⟨by simpa using h.1, fun y hy => h.2 y (List.mem_cons_of_mem _ hy)⟩, ?_⟩⟩
    rw [show Int.ofNat x.toNat = x by show ((x.toNat : Nat) : Int) = x; omega]
theorem countP_le {α : Type} (P Q : α → Bool) : ∀ l : List α, (∀ x ∈ l, P x = true → Q x = true) → l.countP P ≤ l.countP Q := fun l h => List.countP_mono_left h
theorem countP_lt {α : Type} (P Q : α → Bool) : ∀ l : List α, (∀ x ∈ l, P x = true → Q x = true) → ∀ m ∈ l, Q m = true → P m = false → l.countP P < l.countP Q
  | [], _, m, hm, _, _ => by cases hm
  | a :: l, h, m, hm, hq, hp => by
    have h' : ∀ x ∈ l, P x = true → Q x = true := fun x hx => h x (List.mem_cons_of_mem _ hx)
    have hle := countP_le P Q l h'
    rw [List.countP_cons, List.countP_cons]
    rcases List.mem_cons.1 hm with e | hm'
    · subst e
      rw [hq, hp]; simp only [if_true, Bool.false_eq_true, if_false]; omega
    · have := countP_lt P Q l h' m hm' hq hp
      cases c : P a with
      | true => rw [h a (List.mem_cons_self ..) c]; omega
      | false => simp only [Bool.false_eq_true, if_false]; split <;> omega
def left_ (n : Nat) (L : List (List Int)) : Nat := (cube n).countP fun m => !(L.any fun x => over n m x)
theorem left_lt {n : Nat} {L all L' : List (List Int)} (hL : Inc L) (ha : ∀ a ∈ L, ∀ b ∈ L, over n a b = true → a = b) (hall : ∀ m ∈ all, vm n m) (hsub : ∀ m ∈ L, m ∈ all) (hi : Inc L') (hm : ∀ m, m ∈ L' ↔ m ∈ all ∧ leastIn n all m = true) (hne : L' ≠ L) : left_ n L' < left_ n L := by
  have cov : ∀ x ∈ L, ∃ y ∈ L', over n x y = true := fun x hx => by
    obtain ⟨y, h1, h2, h3⟩ := least_below hall _ x rfl (hsub x hx)
    exact ⟨y, (hm y).2 ⟨h1, h2⟩, h3⟩
  have hex : ∃ y ∈ L', ∀ x ∈ L, over n y x = false := by
    refine Classical.byContradiction fun hno => hne ?_
    have hc : ∀ y ∈ L', ∃ x ∈ L, over n y x = true := fun y hy => by
      refine Classical.byContradiction fun h => hno ⟨y, hy, fun x hx => ?_⟩
      cases c : over n y x with
      | false => rfl
      | true => exact (h ⟨x, hx, c⟩).elim
    have eq_of : ∀ y ∈ L', ∀ x ∈ all, over n y x = true → y = x := fun y hy x hx h => by
      have hl := List.all_eq_true.1 ((hm y).1 hy).2 x hx
      simpa [h] using hl
    refine inc_ext L' L hi hL fun m => ⟨fun h => ?_, fun h => ?_⟩
    · obtain ⟨x, hx, ho⟩ := hc m h
      rw [eq_of m h x (hsub x hx) ho]; exact hx
    · obtain ⟨y, hy, ho⟩ := cov m h
      obtain ⟨x, hx, ho2⟩ := hc y hy
      have e1 := ha m h x hx (over_trans ho ho2)
      have e2 := eq_of y hy x (hsub x hx) ho2
      rw [e1, ← e2]; exact hy
  obtain ⟨y, hy, hyn⟩ := hex
  have vy := hall y ((hm y).1 hy).1
  refine countP_lt _ _ _ (fun x _ hx => ?_) y (mem_cube n y vy) ?_ ?_
  · simp only [Bool.not_eq_true', List.any_eq_false, Bool.not_eq_true] at hx ⊢
    intro z hz
    cases c : over n x z with
    | false => rfl
    | true =>
      obtain ⟨y2, h2, h3⟩ := cov z hz
      have := hx y2 h2
      rw [over_trans c h3] at this; cases this
  · simp only [Bool.not_eq_true', List.any_eq_false, Bool.not_eq_true]
    exact hyn
  · simp only [Bool.not_eq_false', List.any_eq_true]
    exact ⟨y, hy, over_refl n y⟩
end Go.Proofs.Ytiglhdibibbkjaa.Lib
