import Derived.Test.YtaadkpbpkeckdaaF0
import Derived.Test.YtaadkpbpkeckdaaF1
import Derived.Test.YtaadkpbpkeckdaaF2
import Derived.Test.YtaadkpbpkeckdaaF3
import Derived.Test.YtaadkpbpkeckdaaSmall
import Derived.Test.YtaadkpbpkeckdaaPlaces
import Derived.Test.YtaadkpbpkeckdaaPlain
import Derived.Test.YtaadkpbpkeckdaaSum0
import Derived.Test.YtaadkpbpkeckdaaGetD
namespace Go.Proofs.Ytaadkpbpkeckdaa.Lib
open Go.RowKit Go.Proofs.Ytaadkpbpkeckdaa.F Go.Proofs.YtaadkpbpkeckdaaW.PrintWords Go.Proofs.YtaadkpbpkeckdaaW.PrintLast Go.Proofs.YtaadkpbpkeckdaaW.PrintMore
theorem isSmall_ev (p : Int) (ts : List Tr) (hs : SmallN ts) : Evt (fun k => impl_isSmall.f k p ts) (plain p ts && decide (p ≤ 10)) := by
  unfold impl_isSmall.f
  cases hp : plain p ts with
  | false => exact Evt.bind ((isPlain_ev p ts hs).cast hp) (Evt.neg (by decide) (Evt.ok _))
  | true => exact Evt.bind ((isPlain_ev p ts hs).cast hp) (Evt.pos rfl ((Evt.ok _).cast (by simp)))
theorem setsL_ok (P : Nat → Bool) (n : Nat) (hn : n ≤ 10) : (setsL (smallFrom P 1 (2 ^ n - 1) [])).length ≤ 1024 ∧ (∀ m ∈ setsL (smallFrom P 1 (2 ^ n - 1) []), m.length ≤ 16) := by
  have h10 : (2 : Nat) ^ n ≤ 1024 := Nat.pow_le_pow_right (by omega) hn
  have h1 : 1 ≤ (2 : Nat) ^ n := Nat.one_le_two_pow
  have h := smallFrom_ok P (2 ^ n - 1) 1 [] (fun r hr => by cases hr) (Nat.zero_le _)
  refine ⟨by unfold setsL; rw [List.length_map]; omega, fun m hm => ?_⟩
  simp only [setsL, List.mem_map] at hm
  obtain ⟨r, _, rfl⟩ := hm
  exact bitsL_length r
def cnt (x : Nat) (ps : List Int) : Nat := (ps.filter fun q => x.testBit q.toNat).length
def popc (a : Nat) : Nat := (picks (fun i => a.testBit i) 0 10).length
def invB (ts : List Tr) (x : Nat) : Bool := ts.all fun t => decide (cnt x t.f0 = cnt x t.f1)
theorem ones_all : ∀ a : Fin 1024, bits_OnesCount64.f ((a.val : Nat) : Int) = some ((popc a.val : Nat) : Int) := by decide +kernel
theorem ones_eq (a : Nat) (ha : a < 1024) : bits_OnesCount.f (a : Int) = some ((popc a : Nat) : Int) := by
  unfold bits_OnesCount.f
  rw [ones_all ⟨a, ha⟩, Option.bind_some]
theorem wrap_u64n (n : Nat) (hn : n < 65536) : IntKind.u64.wrap (n : Int) = (n : Int) := by
  have : (n : Int) % 18446744073709551616 = (n : Int) := by omega
  first
    | exact this
    | (unfold IntKind.wrap; simp [IntKind.bits, IntKind.signed]; omega)
theorem bit_lt {r n i : Nat} (hr : r < 2 ^ n) (hi : r.testBit i = true) : i < n := by
  refine Nat.lt_of_not_le fun h => ?_
  have : r < 2 ^ i := Nat.lt_of_lt_of_le hr (Nat.pow_le_pow_right (by omega) h)
  rw [Nat.testBit_lt_two_pow this] at hi
  cases hi
theorem popc_cnt (ps : List Int) (hps : ∀ q ∈ ps, 0 ≤ q ∧ q < 16) (hr : ps.Pairwise (· < ·)) (x n : Nat) (hn : n ≤ 10) (hx : x < 2 ^ n) : popc (mask ps &&& x) = cnt x ps := by
  unfold popc cnt
  congr 1
  refine rising_ext _ _ ((picks_pairwise _ _)) (hr.sublist List.filter_sublist) (fun y => ?_)
  rw [mem_picks, List.mem_filter]
  constructor
  · rintro ⟨i, rfl, hi, h⟩
    rw [Nat.testBit_and, mask_bit ps (fun q hq => (hps q hq).1), Bool.and_eq_true, decide_eq_true_eq] at h
    exact ⟨h.1, by rw [Int.toNat_natCast]; exact h.2⟩
  · rintro ⟨hy, h⟩
    have hb := hps y hy
    have hlt := bit_lt hx h
    refine ⟨y.toNat, by omega, by omega, ?_⟩
    rw [Nat.testBit_and, mask_bit ps (fun q hq => (hps q hq).1), Bool.and_eq_true, decide_eq_true_eq]
    exact ⟨by rw [show ((y.toNat : Nat) : Int) = y by omega]; exact hy, h⟩
def bitV (n x : Nat) : List Int := (List.range n).map fun q => if x.testBit q then 1 else 0
theorem bitV_length (n x : Nat) : (bitV n x).length = n := by simp [bitV]
theorem l7Row_ev (p : Int) (ts : List Tr) (n : Nat) (hpn : p = (n : Int)) (hn : n ≤ 10) (x : Nat) (hx : x < 2 ^ n) : Evt (fun k => spec_l7Row.f k p ts (x : Int)) (bitV n x) := by
  have h10 : (2 : Nat) ^ n ≤ 1024 := Nat.pow_le_pow_right (by omega) hn
  have hlen := bitsL_length x
  have key : ∀ i, i ≤ (bitsL x).length → ∀ w : List Int, (w.length = n ∧ ∀ q, q < n → w.getD q 0 = if (q : Int) ∈ (bitsL x).take i then 1 else 0) → Evt (fun k => spec_l7Row.l0 k w (bitsL x) ((bitsL x).length : Int) (i : Int)) (bitV n x) := by
    refine down (P := fun i (w : List Int) => (w.length = n ∧ ∀ q, q < n → w.getD q 0 = if (q : Int) ∈ (bitsL x).take i then 1 else 0) → Evt (fun k => spec_l7Row.l0 k w (bitsL x) ((bitsL x).length : Int) (i : Int)) (bitV n x)) ?_ ?_
    · rintro w ⟨h1, h2⟩
      refine Evt.step ?_
      simp only [spec_l7Row.l0]
      refine Evt.neg (natNotLt _) ((Evt.ok _).cast ?_)
      refine ext_getD (by rw [h1, bitV_length]) fun q hq => ?_
      have hq' : q < n := by omega
      rw [h2 q hq', List.take_length]
      unfold bitV
      rw [getD_map_range n _ q hq']
      have hm : (q : Int) ∈ bitsL x ↔ x.testBit q = true := by
        rw [bitsL_mem]
        constructor
        · rintro ⟨j, hj, _, h⟩
          obtain rfl : q = j := by omega
          exact h
        · intro h; exact ⟨q, rfl, by omega, h⟩
      by_cases h : x.testBit q = true
      · rw [if_pos (hm.2 h), if_pos h]
      · rw [if_neg (fun h' => h (hm.1 h')), if_neg h]
    · rintro i hi ih w ⟨h1, h2⟩
      obtain ⟨j, hj, _, hb⟩ := (bitsL_mem x _).1 (List.getElem_mem hi)
      have hjn := bit_lt hx hb
      refine Evt.step ?_
      simp only [spec_l7Row.l0]
      rw [rdN _ i hi, hj, wrapN i _ hi (by omega), Int.toNat_natCast]
      refine Evt.pos (natLt _ _ hi) (Evt.pos (by omega) (Evt.pos (natLt _ _ hi) (Evt.pos (by omega) (Evt.pos (by omega) (ih _ ⟨by simp [h1], fun q hq => ?_⟩)))))
      rw [getD_set w j q 1 (by omega), takeN (bitsL x) i hi, hj]
      by_cases e : q = j
      · subst e
        rw [if_pos rfl, if_pos (by simp)]
      · rw [if_neg e, h2 q hq]
        have e' : ¬ (q : Int) = (j : Int) := by omega
        simp [e']
  unfold spec_l7Row.f
  refine Evt.pos (by omega) (Evt.pos (by omega) (Evt.bind (l1Set_ev x (by omega)) ?_))
  refine key 0 (Nat.zero_le _) _ ⟨by rw [List.length_replicate]; omega, fun q hq => ?_⟩
  rw [List.take_zero]
  simp [List.getD_eq_getElem?_getD, List.getElem?_replicate, hpn, hq]
theorem sumOn_bitV (n x : Nat) : ∀ (ps : List Int), (∀ q ∈ ps, 0 ≤ q ∧ q < (n : Int)) → ∀ s : Nat, s + ps.length ≤ 1000 → sumOn (bitV n x) (s : Int) ps = ((s + cnt x ps : Nat) : Int) := by
  intro ps
  induction ps with
  | nil => intro _ s _; simp [sumOn, cnt]
  | cons q ps ih =>
    intro h s hs
    have hq := h q (List.mem_cons_self ..)
    have hl : s + (ps.length + 1) ≤ 1000 := hs
    have hrd : rd (bitV n x) q = if x.testBit q.toNat then 1 else 0 := by
      obtain ⟨i, rfl⟩ : ∃ i : Nat, q = (i : Int) := ⟨q.toNat, by omega⟩
      rw [rdD]
      unfold bitV
      rw [getD_map_range n _ i (by omega), Int.toNat_natCast]
    have ih' := ih (fun z hz => h z (List.mem_cons_of_mem _ hz))
    unfold sumOn cnt at *
    rw [List.foldl_cons, hrd, List.filter_cons]
    cases hb : x.testBit q.toNat with
    | true =>
      rw [if_pos rfl, if_pos rfl, show wrap64 ((s : Int) + 1) = ((s + 1 : Nat) : Int) by unfold wrap64; omega, ih' (s + 1) (by omega), List.length_cons]
      congr 1; omega
    | false =>
      rw [if_neg (by decide), if_neg (by decide), show wrap64 ((s : Int) + 0) = ((s : Nat) : Int) by unfold wrap64; omega, ih' s (by omega)]
theorem inv_same (p : Int) (ts : List Tr) (hg : goodNet p ts = true) (n : Nat) (hpn : p = (n : Int)) (x : Nat) : ts.all (evenT (bitV n x)) = invB ts x := by
  have hf := goodNet_facts hg
  have hp := inv_places (w := bitV n x) hg (by rw [bitV_length, hpn])
  unfold invB
  refine Bool.eq_iff_iff.2 ?_
  simp only [List.all_eq_true]
  refine forall_congr' fun t => forall_congr' fun ht => ?_
  obtain ⟨_, r0, r1, _⟩ := hf.2.2.2 t ht
  subst hpn
  have l0 := rising_len r0
  have l1 := rising_len r1
  have hb := hp t ht
  rw [bitV_length] at hb
  have s0 := sumOn_bitV n x t.f0 hb.1 0 (by omega)
  have s1 := sumOn_bitV n x t.f1 hb.2 0 (by omega)
  simp only [Nat.zero_add] at s0 s1
  unfold evenT
  rw [decide_eq_true_eq, decide_eq_true_eq, show (0 : Int) = ((0 : Nat) : Int) from rfl, s0, s1]
  omega
theorem l7Small_ev (p : Int) (ts : List Tr) (n : Nat) (hpn : p = (n : Int)) (hn : n ≤ 10) (hs : SmallN ts) (hg : goodNet p ts = true) : Evt (fun k => spec_l7Small.f k p ts) (setsL (smallFrom (invB ts) 1 (2 ^ n - 1) [])) := by
  have h10 : (2 : Nat) ^ n ≤ 1024 := Nat.pow_le_pow_right (by omega) hn
  have h1 : 1 ≤ (2 : Nat) ^ n := Nat.one_le_two_pow
  have hsh : shl .i64 1 p = ((2 ^ n : Nat) : Int) := by rw [shl_one p (by omega) (by omega), hpn, Int.toNat_natCast]
  have hw : IntKind.u64.wrap p = p := by rw [hpn]; exact wrap_u64n n (by omega)
  unfold spec_l7Small.f
  refine rows_gen n hn (invB ts) (fun k S x => spec_l7Small.l0 k S x p ts) (fun k S x b T m i => spec_l7Small.l1 k S x b T m i p ts) ?_ ?_ setsL ?_ (2 ^ n - 1) 1 [] (by omega) (fun r hr => by cases hr) (Nat.zero_le _)
  · intro k S x b T i; simp only [spec_l7Small.l1]
  · intro S x hx hS r hr
    simp only [spec_l7Small.l0, hw, hsh]
    exact Evt.pos (by omega) (Evt.pos (by omega) (Evt.bind (l7Row_ev p ts n hpn hn x hx) (Evt.bind ((l7Invariant_ev p ts (bitV n x) hs hg (by rw [bitV_length, hpn])).cast (inv_same p ts hg n hpn x)) hr)))
  · intro S hS hl
    simp only [spec_l7Small.l0, hw, hsh]
    exact Evt.pos (by omega) (Evt.neg (by omega) (setsOf_gen (fun k x => spec_l1Set.f k x) (fun m hm => l1Set_ev m hm) (fun k s T m i => spec_l7Small.l2 k s T m i) (fun k s T i => by simp only [spec_l7Small.l2]) S (fun r hr => by have := hS r hr; omega) (by omega)))
theorem inv1_ev (p : Int) (ts : List Tr) (hs : SmallN ts) (hg : goodNet p ts = true) (n : Nat) (hn : n ≤ 10) (x : Nat) (hx : x < 2 ^ n) : Evt (fun k => impl_smallInvariants_1.f k (x : Int) p ts) (invB ts x) := by
  have h10 : (2 : Nat) ^ n ≤ 1024 := Nat.pow_le_pow_right (by omega) hn
  have hf := goodNet_facts hg
  have hpl := good_inPlaces hg
  have hone : ∀ ps : List Int, Short ps → (∀ q ∈ ps, 0 ≤ q ∧ q < 16) → ps.Pairwise (· < ·) → Evt (fun k => (impl_maskOf.f k ps).bind fun t => bits_OnesCount.f (IntKind.u64.wrap (Go.bits .and .i64 t (x : Int)))) ((cnt x ps : Nat) : Int) := by
    intro ps h1 h2 h3
    refine Evt.bind (maskOf_ev ps h1 h2) (Evt.of fun k => ?_)
    have hm := mask_lt ps h2
    have hle : mask ps &&& x ≤ x := Nat.and_le_right
    rw [and_n _ _ (by omega) (by omega), wrap_u64n _ (by omega), ones_eq _ (by omega), popc_cnt ps h2 h3 x n hn hx]
  unfold impl_smallInvariants_1.f
  have hc : Evt (fun k => slices_ContainsFunc_impl_Trans_impl_Trans_at_impl_smallInvariants_1_1.f k ts (x : Int)) (ts.any fun t => !decide (cnt x t.f0 = cnt x t.f1)) := by
    refine containsFunc_gen (fun k (t : Tr) => impl_smallInvariants_1_1.f k t.f0 t.f1 t.f2 (x : Int)) (fun t => !decide (cnt x t.f0 = cnt x t.f1)) (rd_T79 ts) (fun k i => slices_IndexFunc_impl_Trans_impl_Trans_at_impl_smallInvariants_1_1.l0 k ts (ts.length : Int) i (x : Int)) _ ts ?_ ?_ ?_ ?_ hs.short
    · intro k; rfl
    · intro k i; simp only [slices_IndexFunc_impl_Trans_impl_Trans_at_impl_smallInvariants_1_1.l0]
    · intro t ht
      have hsm := hs.2 t ht
      obtain ⟨_, r0, r1, _⟩ := hf.2.2.2 t ht
      have a0 := hone t.f0 hsm.s0 (hpl t ht).1 (rising_pairwise r0)
      have a1 := hone t.f1 hsm.s1 (hpl t ht).2 (rising_pairwise r1)
      obtain ⟨K0, hK0⟩ := a0
      obtain ⟨K1, hK1⟩ := a1
      refine ⟨K0 + K1, fun k hk => ?_⟩
      have e0 := hK0 k (by omega)
      have e1 := hK1 k (by omega)
      show impl_smallInvariants_1_1.f k t.f0 t.f1 t.f2 (x : Int) = _
      unfold impl_smallInvariants_1_1.f
      obtain ⟨m0, h0, e0⟩ := Option.bind_eq_some_iff.1 e0
      obtain ⟨m1, h1, e1⟩ := Option.bind_eq_some_iff.1 e1
      rw [h0, Option.bind_some, e0, Option.bind_some, h1, Option.bind_some, e1, Option.bind_some]
      congr 1
      rw [Bool.eq_iff_iff]
      simp only [bne_iff_ne, ne_eq, Bool.not_eq_true', decide_eq_false_iff_not]
      omega
    · intro i hi; exact rdG ts _ i hi
  exact Evt.bind hc ((Evt.ok _).cast (any_not ts _))
theorem smallInv_ev (p : Int) (ts : List Tr) (hs : SmallN ts) (hg : goodNet p ts = true) (n : Nat) (hpn : p = (n : Int)) (hn : n ≤ 10) : Evt (fun k => impl_smallInvariants.f k p ts) (ints (smallFrom (invB ts) 1 (2 ^ n - 1) [])) := by
  have h1 : 1 ≤ (2 : Nat) ^ n := Nat.one_le_two_pow
  unfold impl_smallInvariants.f impl_smallSets_at_impl_smallInvariants_1.f
  refine Evt.bind (a := ints (smallFrom (invB ts) 1 (2 ^ n - 1) [])) ?_ (Evt.ok _)
  have key : ∀ (d x : Nat) (S : List Nat), x + d = 2 ^ n → (∀ r ∈ S, r < x) → S.length ≤ x → Evt (fun k => impl_smallSets_at_impl_smallInvariants_1.l0 k (ints S) p ts (x : Int) p ts) (ints (smallFrom (invB ts) x d S)) :=
    smallSets_gen' p n hpn hn (invB ts) (fun k x => impl_smallInvariants_1.f k x p ts) (fun k S x => impl_smallSets_at_impl_smallInvariants_1.l0 k S p ts x p ts) (fun k S x => by simp only [impl_smallSets_at_impl_smallInvariants_1.l0]) (fun x hx => inv1_ev p ts hs hg n hn x hx)
  exact key (2 ^ n - 1) 1 [] (by omega) (fun r hr => by cases hr) (Nat.zero_le _)
end Go.Proofs.Ytaadkpbpkeckdaa.Lib
