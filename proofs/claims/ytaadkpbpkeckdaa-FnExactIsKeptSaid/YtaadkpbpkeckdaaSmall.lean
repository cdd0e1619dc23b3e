import Derived.Test.YtaadkpbpkeckdaaF1
import Derived.Test.YtaadkpbpkeckdaaF3
import Derived.Test.YtaadkpbpkeckdaaBits
namespace Go.Proofs.Ytaadkpbpkeckdaa.Lib
open Go.RowKit Go.Proofs.Ytaadkpbpkeckdaa.F Go.Proofs.YtaadkpbpkeckdaaW.PrintWords Go.Proofs.YtaadkpbpkeckdaaW.PrintLast Go.Proofs.YtaadkpbpkeckdaaW.PrintMore
def ints (S : List Nat) : List Int := S.map fun r : Nat => (r : Int)
theorem ints_length (S : List Nat) : (ints S).length = S.length := by simp [ints]
theorem ints_snoc (S : List Nat) (x : Nat) : ints S ++ [(x : Int)] = ints (S ++ [x]) := by simp [ints]
theorem rd_ints (S : List Nat) (i : Nat) (h : i < S.length) : rd (ints S) (i : Int) = (S[i] : Int) := by
  rw [rdN (ints S) i (by rw [ints_length]; exact h)]; simp [ints]
def fresh (S : List Nat) (x : Nat) : Bool := !(S.any fun r => decide (r &&& x = r))
def smallFrom (P : Nat → Bool) : Nat → Nat → List Nat → List Nat
  | _, 0, S => S
  | x, d + 1, S => smallFrom P (x + 1) d (if (P x && fresh S x) = true then S ++ [x] else S)
theorem smallFrom_ok (P : Nat → Bool) : ∀ (d x : Nat) (S : List Nat), (∀ r ∈ S, r < x) → S.length ≤ x → (∀ r ∈ smallFrom P x d S, r < x + d) ∧ (smallFrom P x d S).length ≤ x + d := by
  intro d
  induction d with
  | zero => intro x S h1 h2; exact ⟨h1, h2⟩
  | succ d ih =>
    intro x S h1 h2
    have h := ih (x + 1) (if (P x && fresh S x) = true then S ++ [x] else S) ?_ ?_
    · rw [show x + (d + 1) = x + 1 + d by omega]; exact h
    · intro r hr
      split at hr
      · rcases List.mem_append.1 hr with hr | hr
        · have := h1 r hr; omega
        · rw [List.mem_singleton.1 hr]; omega
      · have := h1 r hr; omega
    · split
      · rw [List.length_append, List.length_singleton]; omega
      · omega
theorem contains_small (S : List Nat) (x : Nat) (hS : ∀ r ∈ S, r < 65536) (hx : x < 65536) (hl : S.length ≤ 65536) : Evt (fun k => slices_ContainsFunc_int_int_at_impl_smallSets_1.f k (ints S) (x : Int)) (!fresh S x) := by
  refine Evt.cast (containsFunc_gen (fun k (y : Int) => impl_smallSets_1.f y (x : Int)) (fun y => Go.bits .andNot .i64 y (x : Int) == 0) (rd (ints S)) (fun k i => slices_IndexFunc_int_int_at_impl_smallSets_1.l0 k (ints S) ((ints S).length : Int) i (x : Int)) _ (ints S) ?_ ?_ ?_ ?_ (by show _ ≤ _; rw [ints_length]; omega)) ?_
  · intro k; rfl
  · intro k i; simp only [slices_IndexFunc_int_int_at_impl_smallSets_1.l0]
  · intro y hy; exact Evt.ok _
  · intro i hi; exact rdN _ i hi
  · unfold fresh ints
    rw [Bool.not_not, List.any_map]
    have key : ∀ (T : List Nat), (∀ r ∈ T, r < 65536) → (T.any ((fun y => Go.bits .andNot .i64 y (x : Int) == 0) ∘ fun r : Nat => (r : Int))) = T.any fun r => decide (r &&& x = r) := by
      intro T
      induction T with
      | nil => intro _; rfl
      | cons r T ih =>
        intro h
        have hr := h r (List.mem_cons_self ..)
        rw [List.any_cons, List.any_cons, ih (fun z hz => h z (List.mem_cons_of_mem _ hz))]
        congr 1
        show (Go.bits .andNot .i64 (r : Int) (x : Int) == 0) = decide (r &&& x = r)
        rw [andNot_n r x (by omega) (by omega)]
        have hw := without_add r x (by omega) (by omega)
        rw [Bool.eq_iff_iff, beq_iff_eq, decide_eq_true_eq]
        omega
    exact key S hS
theorem smallSets_gen' (p : Int) (n : Nat) (hp : p = (n : Int)) (hn : n ≤ 10) (P : Nat → Bool) (F : Nat → Int → Option Bool) (L : Nat → List Int → Int → Option (List Int))
    (hL : ∀ k S x, L (k + 1) S x = if 0 ≤ p then (if x < (shl .i64 1 p) then ((F k x).bind fun t => (if t = true then ((slices_ContainsFunc_int_int_at_impl_smallSets_1.f k S x).bind fun t' => (if t' = true then (L k S (wrap64 (x + 1))) else (if S.length < 17592186044416 then (L k (S ++ [x]) (wrap64 (x + 1))) else (none)))) else (L k S (wrap64 (x + 1))))) else (some S)) else (none))
    (hF : ∀ x : Nat, x < 2 ^ n → Evt (fun k => F k (x : Int)) (P x)) : ∀ (d x : Nat) (S : List Nat), x + d = 2 ^ n → (∀ r ∈ S, r < x) → S.length ≤ x → Evt (fun k => L k (ints S) (x : Int)) (ints (smallFrom P x d S)) := by
  have h10 : (2 : Nat) ^ n ≤ 1024 := Nat.pow_le_pow_right (by omega) hn
  have hsh : shl .i64 1 p = ((2 ^ n : Nat) : Int) := by rw [shl_one p (by omega) (by omega), hp, Int.toNat_natCast]
  intro d
  induction d with
  | zero =>
    intro x S hx _ _
    refine Evt.step ?_
    simp only [hL, hsh]
    exact Evt.pos (by omega) (Evt.neg (by omega) (Evt.ok _))
  | succ d ih =>
    intro x S hx h1 h2
    have ew : wrap64 ((x : Int) + 1) = ((x + 1 : Nat) : Int) := wrapN x 2000 (by omega) (by omega)
    refine Evt.step ?_
    simp only [hL, hsh, ew]
    refine Evt.pos (by omega) (Evt.pos (by omega) (Evt.bind (hF x (by omega)) ?_))
    unfold smallFrom
    cases hP : P x with
    | false =>
      exact Evt.neg (by decide) ((ih (x + 1) S (by omega) (fun r hr => by have := h1 r hr; omega) (by omega)).cast (by simp))
    | true =>
      refine Evt.pos rfl (Evt.bind (contains_small S x (fun r hr => by have := h1 r hr; omega) (by omega) (by omega)) ?_)
      cases hf : fresh S x with
      | false => exact Evt.pos rfl ((ih (x + 1) S (by omega) (fun r hr => by have := h1 r hr; omega) (by omega)).cast (by simp))
      | true =>
        refine Evt.neg (by decide) (Evt.pos (by rw [ints_length]; omega) ?_)
        rw [ints_snoc]
        exact (ih (x + 1) (S ++ [x]) (by omega) (fun r hr => by
          rcases List.mem_append.1 hr with hr | hr
          · have := h1 r hr; omega
          · rw [List.mem_singleton.1 hr]; omega) (by rw [List.length_append, List.length_singleton]; omega)).cast (by simp)
theorem smallSets_gen (p : Int) (n : Nat) (hp : p = (n : Int)) (hn : n ≤ 10) (P : Nat → Bool) (F : Nat → Int → Option Bool) (L : Nat → List Int → Int → Option (List Int))
    (hL : ∀ k S x, L (k + 1) S x = if 0 ≤ p then (if x < (shl .i64 1 p) then ((F k x).bind fun t => (if t = true then ((slices_ContainsFunc_int_int_at_impl_smallSets_1.f k S x).bind fun t' => (if t' = true then (L k S (wrap64 (x + 1))) else (if S.length < 17592186044416 then (L k (S ++ [x]) (wrap64 (x + 1))) else (none)))) else (L k S (wrap64 (x + 1))))) else (some S)) else (none))
    (hF : ∀ x : Nat, x < 65536 → Evt (fun k => F k (x : Int)) (P x)) : ∀ (d x : Nat) (S : List Nat), x + d = 2 ^ n → (∀ r ∈ S, r < x) → S.length ≤ x → Evt (fun k => L k (ints S) (x : Int)) (ints (smallFrom P x d S)) :=
  smallSets_gen' p n hp hn P F L hL (fun x hx => hF x (by have : (2 : Nat) ^ n ≤ 1024 := Nat.pow_le_pow_right (by omega) hn; omega))
theorem rows_gen {ρ : Type} (n : Nat) (hn : n ≤ 10) (P : Nat → Bool) (L0 : Nat → List Int → Int → Option ρ) (L1 : Nat → List Int → Int → Bool → List Int → Int → Int → Option ρ)
    (h1 : ∀ k S x b T i, L1 (k + 1) S x b T (T.length : Int) i = if i < (T.length : Int) then (if 0 ≤ i then (if i < (T.length : Int) then (if b = true then (L1 k S x ((Go.bits .and .i64 (rd T i) x) != (rd T i)) T (T.length : Int) (wrap64 (i + 1))) else (L1 k S x false T (T.length : Int) (wrap64 (i + 1)))) else (none)) else (none)) else (if b = true then (if S.length < 17592186044416 then (L0 k (S ++ [x]) (wrap64 (x + 1))) else (none)) else (L0 k S (wrap64 (x + 1)))))
    (h0 : ∀ (S : List Nat) (x : Nat), x < 2 ^ n → S.length ≤ 1024 → ∀ r, Evt (fun k => L1 k (ints S) (x : Int) (P x) (ints S) ((ints S).length : Int) 0) r → Evt (fun k => L0 (k + 1) (ints S) (x : Int)) r)
    (E : List Nat → ρ) (hE : ∀ S : List Nat, (∀ r ∈ S, r < 2 ^ n) → S.length ≤ 2 ^ n → Evt (fun k => L0 (k + 1) (ints S) ((2 ^ n : Nat) : Int)) (E S)) :
    ∀ (d x : Nat) (S : List Nat), x + d = 2 ^ n → (∀ r ∈ S, r < x) → S.length ≤ x → Evt (fun k => L0 k (ints S) (x : Int)) (E (smallFrom P x d S)) := by
  have h10 : (2 : Nat) ^ n ≤ 1024 := Nat.pow_le_pow_right (by omega) hn
  intro d
  induction d with
  | zero =>
    intro x S hx hs1 hs2
    obtain rfl : x = 2 ^ n := by omega
    exact Evt.step (hE S hs1 hs2)
  | succ d ih =>
    intro x S hx hs1 hs2
    have ew : wrap64 ((x : Int) + 1) = ((x + 1 : Nat) : Int) := wrapN x 2000 (by omega) (by omega)
    refine Evt.step (h0 S x (by omega) (by omega) _ ?_)
    have key : ∀ i, i ≤ S.length → ∀ b : Bool, (b && fresh (S.drop i) x) = (P x && fresh S x) → Evt (fun k => L1 k (ints S) (x : Int) b (ints S) ((ints S).length : Int) (i : Int)) (E (smallFrom P x (d + 1) S)) := by
      refine down (P := fun i (b : Bool) => (b && fresh (S.drop i) x) = (P x && fresh S x) → Evt (fun k => L1 k (ints S) (x : Int) b (ints S) ((ints S).length : Int) (i : Int)) (E (smallFrom P x (d + 1) S))) ?_ ?_
      · intro b hb
        have hb' : (P x && fresh S x) = b := by rw [← hb, List.drop_length]; simp [fresh]
        refine Evt.step (Evt.fn ?_ (fun k => h1 k (ints S) (x : Int) b (ints S) (S.length : Int)))
        simp only [ew, ints_length]
        refine Evt.neg (natNotLt _) ?_
        unfold smallFrom
        rw [hb']
        cases b with
        | true =>
          refine Evt.pos rfl (Evt.pos (by omega) ?_)
          rw [ints_snoc, if_pos rfl]
          exact ih (x + 1) (S ++ [x]) (by omega) (fun r hr => by
            rcases List.mem_append.1 hr with hr | hr
            · have := hs1 r hr; omega
            · rw [List.mem_singleton.1 hr]; omega) (by rw [List.length_append, List.length_singleton]; omega)
        | false =>
          rw [if_neg (by decide)]
          exact Evt.neg (by decide) (ih (x + 1) S (by omega) (fun r hr => by have := hs1 r hr; omega) (by omega))
      · intro i hi ihi b hb
        have hr := hs1 S[i] (List.getElem_mem hi)
        have ht : ((Go.bits .and .i64 (S[i] : Int) (x : Int)) != (S[i] : Int)) = !decide (S[i] &&& x = S[i]) := by
          rw [and_n S[i] x (by omega) (by omega), Bool.eq_iff_iff]
          simp only [bne_iff_ne, ne_eq, Bool.not_eq_true', decide_eq_false_iff_not]
          constructor
          · intro h e; exact h (by rw [e])
          · intro h e; exact h (by omega)
        have hd : fresh (S.drop i) x = (!decide (S[i] &&& x = S[i]) && fresh (S.drop (i + 1)) x) := by
          unfold fresh
          rw [dropN S i hi, List.any_cons, Bool.not_or]
        rw [hd] at hb
        refine Evt.step (Evt.fn ?_ (fun k => h1 k (ints S) (x : Int) b (ints S) (i : Int)))
        simp only [rd_ints S i hi, ints_length]
        rw [wrapN i S.length hi (by omega), ht]
        refine Evt.pos (natLt _ _ hi) (Evt.pos (by omega) (Evt.pos (natLt _ _ hi) ?_))
        cases hbb : b with
        | true =>
          have h := ihi (!decide (S[i] &&& x = S[i])) (by rw [← hb, hbb]; simp)
          rw [ints_length] at h
          exact Evt.pos rfl h
        | false =>
          have h := ihi false (by rw [← hb, hbb]; simp)
          rw [ints_length] at h
          exact Evt.neg (by decide) h
    exact key 0 (Nat.zero_le _) (P x) (by rw [List.drop_zero])
/-! Bits as places, on both sides. -/
theorem l1Set_ev (m : Nat) (hm : m < 65536) : Evt (fun k => spec_l1Set.f k (m : Int)) (picks (fun i => m.testBit i) 0 16) := by
  have hu : ∀ i : Nat, i ≤ 16 → IntKind.u64.wrap (i : Int) = (i : Int) := by
    intro i hi
    have : (i : Int) % 18446744073709551616 = (i : Int) := by omega
    first
      | exact this
      | (unfold IntKind.wrap; simp [IntKind.bits, IntKind.signed]; omega)
  have key : ∀ i, i ≤ 16 → ∀ s : List Int, s.length ≤ i → Evt (fun k => spec_l1Set.l0 k (m : Int) s (i : Int)) (s ++ picks (fun i => m.testBit i) i (16 - i)) := by
    refine down (P := fun i (s : List Int) => s.length ≤ i → Evt (fun k => spec_l1Set.l0 k (m : Int) s (i : Int)) (s ++ picks (fun i => m.testBit i) i (16 - i))) ?_ ?_
    · intro s hs
      refine Evt.step ?_
      simp only [spec_l1Set.l0]
      rw [hu 16 (by omega), shr_nat m 16 (by omega)]
      have h0 : m / 2 ^ 16 = 0 := Nat.div_eq_of_lt (by omega)
      rw [h0]
      exact Evt.pos (by omega) (Evt.neg (by omega) ((Evt.ok _).cast (by simp [picks])))
    · intro i hi ih s hs
      obtain ⟨d, hd⟩ : ∃ d, 16 - i = d + 1 := ⟨16 - i - 1, by omega⟩
      have e : picks (fun i => m.testBit i) i (16 - i) = (if m.testBit i then [(i : Int)] else []) ++ picks (fun i => m.testBit i) (i + 1) (16 - (i + 1)) := by
        unfold picks
        rw [hd, List.range'_succ, List.filter_cons, show 16 - (i + 1) = d by omega]
        cases m.testBit i <;> simp
      refine Evt.step ?_
      simp only [spec_l1Set.l0]
      rw [hu i (by omega), shr_nat m i (by omega), wrapN i 16 hi (by omega)]
      refine Evt.pos (by omega) ?_
      by_cases h0 : m / 2 ^ i = 0
      · refine Evt.neg (by rw [h0]; decide) ((Evt.ok _).cast ?_)
        have : picks (fun i => m.testBit i) i (16 - i) = [] := by
          unfold picks
          rw [List.filter_eq_nil_iff.2 ?_]; · rfl
          intro j hj
          have hj' := List.mem_range'_1.1 hj
          have : m < 2 ^ j := Nat.lt_of_lt_of_le ((Nat.div_eq_zero_iff_lt (Nat.two_pow_pos i)).1 h0) (Nat.pow_le_pow_right (by omega) hj'.1)
          rw [Nat.testBit_lt_two_pow this]; decide
        rw [this]; simp
      · have hlt : m / 2 ^ i < 65536 := Nat.lt_of_le_of_lt (Nat.div_le_self _ _) hm
        refine Evt.pos (Int.natCast_pos.2 (Nat.pos_of_ne_zero h0)) ?_
        have hb : Go.bits .and .i64 ((m / 2 ^ i : Nat) : Int) 1 = ((m / 2 ^ i &&& 1 : Nat) : Int) := and_n _ 1 (by omega) (by omega)
        rw [hb, Nat.and_one_is_mod]
        have ht : m.testBit i = decide (m / 2 ^ i % 2 = 1) := Nat.testBit_eq_decide_div_mod_eq
        rw [e]
        by_cases h1 : m / 2 ^ i % 2 = 1
        · rw [ht, decide_eq_true h1]
          exact Evt.pos (by omega) (Evt.pos (by omega) ((ih (s ++ [(i : Int)]) (by simp; omega)).cast (by simp)))
        · rw [ht, decide_eq_false h1]
          exact Evt.neg (by omega) ((ih s (by omega)).cast (by simp))
  unfold spec_l1Set.f
  exact (key 0 (Nat.zero_le _) [] (Nat.zero_le _)).cast (by simp)
def bitsL (m : Nat) : List Int := picks (fun i => m.testBit i) 0 16
theorem bitsL_mem (m : Nat) (x : Int) : x ∈ bitsL m ↔ ∃ i : Nat, x = (i : Int) ∧ i < 16 ∧ m.testBit i = true := mem_picks _ 16 x
theorem bitsL_in (m : Nat) : ∀ q ∈ bitsL m, 0 ≤ q ∧ q < 16 := fun q hq => by obtain ⟨i, rfl, h, _⟩ := (bitsL_mem m q).1 hq; omega
theorem bitsL_length (m : Nat) : (bitsL m).length ≤ 16 := picks_length _ 0 16
theorem bitsL_short (m : Nat) : Short (bitsL m) := by have := bitsL_length m; show (bitsL m).length ≤ _; omega
theorem mask_bitsL (m : Nat) (hm : m < 65536) : mask (bitsL m) = m := by
  refine Nat.eq_of_testBit_eq fun i => ?_
  rw [mask_bit _ (fun q hq => (bitsL_in m q hq).1), Bool.eq_iff_iff, decide_eq_true_eq, bitsL_mem]
  constructor
  · rintro ⟨j, hj, _, h⟩
    obtain rfl : i = j := by omega
    exact h
  · intro h
    refine ⟨i, rfl, ?_, h⟩
    refine Nat.lt_of_not_le fun hi => ?_
    have : m < 2 ^ i := Nat.lt_of_lt_of_le hm (Nat.le_trans (by decide : 65536 ≤ 2 ^ 16) (Nat.pow_le_pow_right (by decide) hi))
    rw [Nat.testBit_lt_two_pow this] at h
    cases h
def setsL (S : List Nat) : List (List Int) := S.map bitsL
theorem setsOf_gen (G : Nat → Int → Option (List Int)) (hG : ∀ m : Nat, m < 65536 → Evt (fun k => G k (m : Int)) (bitsL m)) (L : Nat → List (List Int) → List Int → Int → Int → Option (List (List Int)))
    (hL : ∀ k s T i, L (k + 1) s T (T.length : Int) i = if i < (T.length : Int) then (if 0 ≤ i then (if i < (T.length : Int) then ((G k (rd T i)).bind fun t => (if s.length < 5864062014805 then (L k (s ++ [t]) T (T.length : Int) (wrap64 (i + 1))) else (none))) else (none)) else (none)) else (some s))
    (S : List Nat) (hS : ∀ r ∈ S, r < 65536) (hl : S.length ≤ 65536) : Evt (fun k => L k [] (ints S) ((ints S).length : Int) 0) (setsL S) := by
  have key : ∀ i, i ≤ S.length → ∀ s : List (List Int), s.length ≤ i → Evt (fun k => L k s (ints S) ((ints S).length : Int) (i : Int)) (s ++ setsL (S.drop i)) := by
    refine down (P := fun i (s : List (List Int)) => s.length ≤ i → Evt (fun k => L k s (ints S) ((ints S).length : Int) (i : Int)) (s ++ setsL (S.drop i))) ?_ ?_
    · intro s _
      refine Evt.step (Evt.fn ?_ (fun k => hL k s (ints S) (S.length : Int)))
      simp only [ints_length]
      exact Evt.neg (natNotLt _) ((Evt.ok _).cast (by simp [setsL]))
    · intro i hi ih s hs
      have h := ih (s ++ [bitsL S[i]]) (by rw [List.length_append, List.length_singleton]; omega)
      refine Evt.step (Evt.fn ?_ (fun k => hL k s (ints S) (i : Int)))
      simp only [rd_ints S i hi]
      rw [ints_length] at h ⊢
      rw [wrapN i S.length hi (by omega)]
      refine Evt.pos (natLt _ _ hi) (Evt.pos (by omega) (Evt.pos (natLt _ _ hi) (Evt.bind (hG S[i] (hS _ (List.getElem_mem hi))) (Evt.pos (by omega) (h.cast ?_)))))
      rw [dropN S i hi]
      simp only [setsL, List.map_cons, List.append_assoc, List.singleton_append]
  exact (key 0 (Nat.zero_le _) [] (Nat.zero_le _)).cast (by simp)
theorem wrap_u64 (n : Nat) (hn : n ≤ 16) : IntKind.u64.wrap (n : Int) = (n : Int) := by
  have : (n : Int) % 18446744073709551616 = (n : Int) := by omega
  first
    | exact this
    | (unfold IntKind.wrap; simp [IntKind.bits, IntKind.signed]; omega)
end Go.Proofs.Ytaadkpbpkeckdaa.Lib
