import Derived.Test.YtaadkpbpkeckdaaF0
import Derived.Test.YtaadkpbpkeckdaaF1
import Derived.Test.YtaadkpbpkeckdaaF2
import Derived.Test.YtaadkpbpkeckdaaF3
import Derived.Test.YtaadkpbpkeckdaaSmallInv
namespace Go.Proofs.Ytaadkpbpkeckdaa.Lib
open Go.RowKit Go.Proofs.Ytaadkpbpkeckdaa.F Go.Proofs.YtaadkpbpkeckdaaW.PrintWords Go.Proofs.YtaadkpbpkeckdaaW.PrintLast Go.Proofs.YtaadkpbpkeckdaaW.PrintMore
def orAll (S : List Nat) : Nat := S.foldl (fun a r => a ||| r) 0
theorem orFrom_bit (i : Nat) : ∀ (S : List Nat) (a : Nat), (S.foldl (fun a r => a ||| r) a).testBit i = (a.testBit i || S.any fun r => r.testBit i) := by
  intro S
  induction S with
  | nil => intro a; simp
  | cons r S ih => intro a; rw [List.foldl_cons, ih, Nat.testBit_or, List.any_cons, Bool.or_assoc]
theorem orFrom_lt (n : Nat) : ∀ (S : List Nat) (a : Nat), (∀ r ∈ S, r < 2 ^ n) → a < 2 ^ n → S.foldl (fun a r => a ||| r) a < 2 ^ n := by
  intro S
  induction S with
  | nil => intro a _ h; exact h
  | cons r S ih => intro a h ha; rw [List.foldl_cons]; exact ih _ (fun z hz => h z (List.mem_cons_of_mem _ hz)) (Nat.or_lt_two_pow ha (h r (List.mem_cons_self ..)))
def inAny (S : List Nat) (q : Nat) : Bool := S.any fun r => r.testBit q
def flags (n : Nat) (f : Nat → Bool) : List Bool := (List.range n).map f
theorem flags_length (n : Nat) (f : Nat → Bool) : (flags n f).length = n := by simp [flags]
theorem flags_set (n : Nat) (f g : Nat → Bool) (i : Nat) (h : ∀ q, q < n → g q = if q = i then true else f q) : (flags n f).set i true = flags n g := by
  unfold flags
  refine List.ext_getElem (by simp) fun q h1 h2 => ?_
  rw [List.getElem_set, List.getElem_map, List.getElem_map, List.getElem_range, h q (by simpa using h2)]
  by_cases e : i = q
  · subst e; simp
  · simp [e, Ne.symm e]
theorem rdOf_flags (n : Nat) (f : Nat → Bool) (i : Nat) (h : i < n) : rdOf false (flags n f) (i : Int) = f i := by
  unfold rdOf flags
  rw [Int.toNat_natCast]
  simp [List.getD_eq_getElem?_getD, h]
theorem flags_ext (n : Nat) (f g : Nat → Bool) (h : ∀ q, q < n → f q = g q) : flags n f = flags n g := by
  unfold flags
  exact List.map_congr_left fun q hq => h q (List.mem_range.1 hq)
theorem specKept_ev (n : Nat) (hn : n ≤ 10) (S : List Nat) (hS : ∀ r ∈ S, r < 2 ^ n) (hl : S.length ≤ 1024) : Evt (fun k => spec_IsKept.l0 k (flags n fun _ => false) (setsL S) ((setsL S).length : Int) 0) ((List.range n).all (inAny S), true) := by
  have h10 : (2 : Nat) ^ n ≤ 1024 := Nat.pow_le_pow_right (by omega) hn
  have hsl : (setsL S).length = S.length := by simp [setsL]
  have l2 : Evt (fun k => spec_IsKept.l2 k (flags n (inAny S)) (n : Int) 0) ((List.range n).all (inAny S), true) := by
    have key : ∀ i, i ≤ n → ∀ _ : Unit, Evt (fun k => spec_IsKept.l2 k (flags n (inAny S)) (n : Int) (i : Int)) ((List.range' i (n - i)).all (inAny S), true) := by
      refine down (P := fun i _ => Evt (fun k => spec_IsKept.l2 k (flags n (inAny S)) (n : Int) (i : Int)) ((List.range' i (n - i)).all (inAny S), true)) ?_ ?_
      · intro _
        refine Evt.step ?_
        simp only [spec_IsKept.l2]
        exact Evt.neg (natNotLt _) ((Evt.ok _).cast (by simp))
      · intro i hi ih _
        have e : List.range' i (n - i) = i :: List.range' (i + 1) (n - (i + 1)) := by
          obtain ⟨m, hm⟩ : ∃ m, n - i = m + 1 := ⟨n - i - 1, by omega⟩
          rw [hm, List.range'_succ, show n - (i + 1) = m by omega]
        have hr := rdOf_flags n (inAny S) i hi
        refine Evt.step ?_
        simp only [spec_IsKept.l2]
        rw [hr, e, List.all_cons, flags_length, wrapN i n hi (by omega)]
        refine Evt.pos (natLt _ _ hi) (Evt.pos (by omega) (Evt.pos (natLt _ _ hi) ?_))
        cases hb : inAny S i with
        | true => exact Evt.pos rfl ((ih ()).cast (by simp))
        | false => exact Evt.neg (by decide) ((Evt.ok _).cast (by simp))
    exact (key 0 (Nat.zero_le _) ()).cast (by rw [List.range_eq_range', Nat.sub_zero])
  have key : ∀ i, i ≤ S.length → ∀ _ : Unit, Evt (fun k => spec_IsKept.l0 k (flags n (inAny (S.take i))) (setsL S) (S.length : Int) (i : Int)) ((List.range n).all (inAny S), true) := by
    refine down (P := fun i _ => Evt (fun k => spec_IsKept.l0 k (flags n (inAny (S.take i))) (setsL S) (S.length : Int) (i : Int)) ((List.range n).all (inAny S), true)) ?_ ?_
    · intro _
      refine Evt.step ?_
      simp only [spec_IsKept.l0]
      rw [List.take_length, flags_length]
      exact Evt.neg (natNotLt _) l2
    · intro i hi ih _
      have hr := hS S[i] (List.getElem_mem hi)
      have er : rd_L1 (setsL S) (i : Int) = bitsL S[i] := by
        have h' : i < (setsL S).length := by omega
        have e : rd_L1 (setsL S) (i : Int) = (setsL S)[i] := rdG (setsL S) _ i h'
        rw [e]; simp [setsL]
      have ih' := ih ()
      generalize hx : S[i] = x at *
      have hlen := bitsL_length x
      have inner : ∀ j, j ≤ (bitsL x).length → ∀ _ : Unit, Evt (fun k => spec_IsKept.l1 k (flags n fun q => inAny (S.take i) q || decide ((q : Int) ∈ (bitsL x).take j)) (setsL S) (S.length : Int) (i : Int) (bitsL x) ((bitsL x).length : Int) (j : Int)) ((List.range n).all (inAny S), true) := by
        refine down (P := fun j _ => Evt (fun k => spec_IsKept.l1 k (flags n fun q => inAny (S.take i) q || decide ((q : Int) ∈ (bitsL x).take j)) (setsL S) (S.length : Int) (i : Int) (bitsL x) ((bitsL x).length : Int) (j : Int)) ((List.range n).all (inAny S), true)) ?_ ?_
        · intro _
          have e : (flags n fun q => inAny (S.take i) q || decide ((q : Int) ∈ (bitsL x).take (bitsL x).length)) = flags n (inAny (S.take (i + 1))) := by
            refine flags_ext n _ _ fun q hq => ?_
            rw [List.take_length]
            unfold inAny
            rw [takeN S i hi, List.any_append, hx]
            congr 1
            rw [List.any_cons, List.any_nil, Bool.or_false, Bool.eq_iff_iff, decide_eq_true_eq, bitsL_mem]
            constructor
            · rintro ⟨z, hz, _, hb⟩
              obtain rfl : q = z := by omega
              exact hb
            · intro hb; exact ⟨q, rfl, by omega, hb⟩
          rw [e]
          refine Evt.step ?_
          simp only [spec_IsKept.l1]
          rw [wrapN i _ hi (by omega)]
          exact Evt.neg (natNotLt _) ih'
        · intro j hj ihj _
          obtain ⟨z, hz, _, hb⟩ := (bitsL_mem x _).1 (List.getElem_mem hj)
          have hzn := bit_lt hr hb
          have h := ihj ()
          rw [← flags_set n (fun q => inAny (S.take i) q || decide ((q : Int) ∈ (bitsL x).take j)) _ z (fun q hq => by
            rw [takeN (bitsL x) j hj, hz]
            by_cases e : q = z
            · subst e; simp
            · have e' : ¬ (q : Int) = (z : Int) := by omega
              simp [e, e'])] at h
          refine Evt.step ?_
          simp only [spec_IsKept.l1]
          rw [rdN _ j hj, hz, wrapN j _ hj (by omega), Int.toNat_natCast, flags_length]
          exact Evt.pos (natLt _ _ hj) (Evt.pos (by omega) (Evt.pos (natLt _ _ hj) (Evt.pos (by omega) (Evt.pos (by omega) h))))
      have h0 := inner 0 (Nat.zero_le _) ()
      rw [flags_ext n _ (inAny (S.take i)) (fun q _ => by simp)] at h0
      refine Evt.step ?_
      simp only [spec_IsKept.l0, er]
      rw [hsl]
      exact Evt.pos (natLt _ _ hi) (Evt.pos (by omega) (Evt.pos (natLt _ _ hi) h0))
  rw [hsl]
  have h := key 0 (Nat.zero_le _) ()
  rw [flags_ext n _ (fun _ => false) (fun q _ => by simp [inAny])] at h
  exact h
theorem implKept_ev (p : Int) (ts : List Tr) (n : Nat) (hpn : p = (n : Int)) (hn : n ≤ 10) (S : List Nat) (hS : ∀ r ∈ S, r < 2 ^ n) (hl : S.length ≤ 1024) : Evt (fun k => impl_IsKept.l0 k 0 (ints S) ((ints S).length : Int) 0 p ts) (decide (orAll S = 2 ^ n - 1), true) := by
  have h10 : (2 : Nat) ^ n ≤ 1024 := Nat.pow_le_pow_right (by omega) hn
  have h1 : 1 ≤ (2 : Nat) ^ n := Nat.one_le_two_pow
  have hsh : shl .i64 1 p = ((2 ^ n : Nat) : Int) := by rw [shl_one p (by omega) (by omega), hpn, Int.toNat_natCast]
  have key : ∀ i, i ≤ S.length → ∀ _ : Unit, Evt (fun k => impl_IsKept.l0 k ((orAll (S.take i) : Nat) : Int) (ints S) (S.length : Int) (i : Int) p ts) (decide (orAll S = 2 ^ n - 1), true) := by
    refine down (P := fun i _ => Evt (fun k => impl_IsKept.l0 k ((orAll (S.take i) : Nat) : Int) (ints S) (S.length : Int) (i : Int) p ts) (decide (orAll S = 2 ^ n - 1), true)) ?_ ?_
    · intro _
      have hlt : orAll S < 2 ^ n := orFrom_lt n S 0 hS (by omega)
      refine Evt.step ?_
      simp only [impl_IsKept.l0, hsh]
      rw [List.take_length]
      refine Evt.neg (natNotLt _) (Evt.pos (by omega) ((Evt.ok _).cast (Prod.ext ?_ rfl)))
      show (((orAll S : Nat) : Int) == wrap64 (((2 ^ n : Nat) : Int) - 1)) = decide (orAll S = 2 ^ n - 1)
      rw [show wrap64 (((2 ^ n : Nat) : Int) - 1) = ((2 ^ n - 1 : Nat) : Int) by unfold wrap64; omega, Bool.eq_iff_iff, beq_iff_eq, decide_eq_true_eq]
      omega
    · intro i hi ih _
      have hr := hS S[i] (List.getElem_mem hi)
      have hlt : orAll (S.take i) < 2 ^ n := orFrom_lt n _ 0 (fun r h => hS r (List.mem_of_mem_take h)) (by omega)
      have h := ih ()
      have e : orAll (S.take (i + 1)) = orAll (S.take i) ||| S[i] := by
        unfold orAll
        rw [takeN S i hi, List.foldl_append, List.foldl_cons, List.foldl_nil]
      rw [e] at h
      refine Evt.step ?_
      simp only [impl_IsKept.l0, rd_ints S i hi, ints_length]
      rw [wrapN i _ hi (by omega), or_n _ _ (by omega) (by omega)]
      exact Evt.pos (natLt _ _ hi) (Evt.pos (by omega) (Evt.pos (natLt _ _ hi) h))
  rw [ints_length]
  exact key 0 (Nat.zero_le _) ()
theorem kept_same (n : Nat) (S : List Nat) (hS : ∀ r ∈ S, r < 2 ^ n) : (List.range n).all (inAny S) = decide (orAll S = 2 ^ n - 1) := by
  have h1 : 1 ≤ (2 : Nat) ^ n := Nat.one_le_two_pow
  have hb : ∀ i, (orAll S).testBit i = inAny S i := fun i => by
    unfold orAll inAny
    rw [orFrom_bit]; simp
  rw [Bool.eq_iff_iff, List.all_eq_true, decide_eq_true_eq]
  constructor
  · intro h
    refine Nat.eq_of_testBit_eq fun i => ?_
    rw [hb, Nat.testBit_two_pow_sub_one]
    by_cases hi : i < n
    · rw [h i (List.mem_range.2 hi), decide_eq_true hi]
    · rw [decide_eq_false hi]
      have hlt : orAll S < 2 ^ n := orFrom_lt n S 0 hS (by omega)
      have hlt2 : orAll S < 2 ^ i := Nat.lt_of_lt_of_le hlt (Nat.pow_le_pow_right (by omega) (by omega))
      rw [← hb, Nat.testBit_lt_two_pow hlt2]
  · intro h i hi
    rw [← hb, h, Nat.testBit_two_pow_sub_one, decide_eq_true (List.mem_range.1 hi)]
theorem core_IsKept (p : Int) (ts : List Tr) (hs : SmallN ts) : ∃ x : Bool × Bool, Evt (fun k => spec_IsKept.f k p ts) x ∧ Evt (fun k => impl_IsKept.f k p ts) x := by
  unfold spec_IsKept.f impl_IsKept.f spec_SmallInvariants.f
  cases hp : plain p ts with
  | false => exact ⟨(false, false), Evt.bind (a := ([], false)) (Evt.bind ((l7Plain_ev p ts hs).cast hp) (Evt.neg (by decide) (Evt.ok _))) (Evt.neg (by decide) (Evt.ok _)), Evt.bind ((isSmall_ev p ts hs).cast (r' := false) (by rw [hp]; rfl)) (Evt.neg (by decide) (Evt.ok _))⟩
  | true =>
    by_cases h10 : p > 10
    · exact ⟨(false, false), Evt.bind (a := ([], false)) (Evt.bind ((l7Plain_ev p ts hs).cast hp) (Evt.pos rfl (Evt.pos h10 (Evt.ok _)))) (Evt.neg (by decide) (Evt.ok _)), Evt.bind ((isSmall_ev p ts hs).cast (r' := false) (by rw [hp, decide_eq_false (by omega)]; rfl)) (Evt.neg (by decide) (Evt.ok _))⟩
    · have hg := plain_good hp
      have hf := goodNet_facts hg
      obtain ⟨n, hpn⟩ : ∃ n : Nat, p = (n : Int) := ⟨p.toNat, by omega⟩
      have hn : n ≤ 10 := by omega
      have h2 : (2 : Nat) ^ n ≤ 1024 := Nat.pow_le_pow_right (by omega) hn
      have h1 : 1 ≤ (2 : Nat) ^ n := Nat.one_le_two_pow
      have hok := smallFrom_ok (invB ts) (2 ^ n - 1) 1 [] (fun r hr => by cases hr) (Nat.zero_le _)
      have hA := l7Small_ev p ts n hpn hn hs hg
      have hB := smallInv_ev p ts hs hg n hpn hn
      generalize smallFrom (invB ts) 1 (2 ^ n - 1) [] = S at *
      have hS : ∀ r ∈ S, r < 2 ^ n := fun r hr => by have := hok.1 r hr; omega
      have hz : List.replicate p.toNat false = flags n fun _ => false := by
        unfold flags
        rw [hpn, Int.toNat_natCast]
        refine List.ext_getElem (by simp) fun i a b => by simp
      refine ⟨(decide (orAll S = 2 ^ n - 1), true), Evt.bind (a := (setsL S, true)) (Evt.bind ((l7Plain_ev p ts hs).cast hp) (Evt.pos rfl (Evt.neg h10 (Evt.bind hA (Evt.ok _))))) (Evt.pos rfl (Evt.pos (by omega) (Evt.pos (by omega) ?_))), Evt.bind ((isSmall_ev p ts hs).cast (r' := true) (by rw [hp, decide_eq_true (by omega)]; rfl)) (Evt.pos rfl (Evt.bind hB (implKept_ev p ts n hpn hn S hS (by omega))))⟩
      rw [hz]
      exact (specKept_ev n hn S hS (by omega)).cast (by rw [kept_same n S hS])
end Go.Proofs.Ytaadkpbpkeckdaa.Lib
