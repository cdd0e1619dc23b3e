import Derived.Test.YtaadkpbpkeckdaaF2
import Derived.Test.YtaadkpbpkeckdaaNetLib
import Derived.Laws.BitsLemmas
namespace Go.Proofs.Ytaadkpbpkeckdaa.Lib
open Go.RowKit Go.Proofs.Ytaadkpbpkeckdaa.F Go.Proofs.YtaadkpbpkeckdaaW.PrintWords Go.Proofs.YtaadkpbpkeckdaaW.PrintLast Go.Proofs.YtaadkpbpkeckdaaW.PrintMore
theorem ofInt_nat (a : Nat) (ha : a < 18446744073709551616) : (BitVec.ofInt 64 (a : Int)).toNat = a := by
  rw [BitVec.ofInt_natCast, BitVec.toNat_ofNat]; exact Nat.mod_eq_of_lt (by omega)
theorem and_n (a b : Nat) (ha : a < 9223372036854775808) (hb : b < 9223372036854775808) : Go.bits .and .i64 (a : Int) (b : Int) = ((a &&& b : Nat) : Int) := by
  have hx : a &&& b ≤ a := Nat.and_le_left
  show IntKind.i64.wrap ((BitVec.ofInt 64 (a : Int) &&& BitVec.ofInt 64 (b : Int)).toNat : Int) = _
  rw [BitVec.toNat_and, ofInt_nat a (by omega), ofInt_nat b (by omega), IntKind.wrap_i64]
  omega
theorem or_n (a b : Nat) (ha : a < 9223372036854775808) (hb : b < 9223372036854775808) : Go.bits .or .i64 (a : Int) (b : Int) = ((a ||| b : Nat) : Int) := by
  have hx : a ||| b < 2 ^ 63 := Nat.or_lt_two_pow (by omega) (by omega)
  show IntKind.i64.wrap ((BitVec.ofInt 64 (a : Int) ||| BitVec.ofInt 64 (b : Int)).toNat : Int) = _
  rw [BitVec.toNat_or, ofInt_nat a (by omega), ofInt_nat b (by omega), IntKind.wrap_i64]
  omega
def without (a b : Nat) : Nat := (BitVec.ofInt 64 (a : Int) &&& ~~~ BitVec.ofInt 64 (b : Int)).toNat
theorem without_add (a b : Nat) (ha : a < 18446744073709551616) (hb : b < 18446744073709551616) : without a b + (a &&& b) = a := by
  have h0 : (BitVec.ofInt 64 (a : Int) &&& ~~~ BitVec.ofInt 64 (b : Int)) &&& (BitVec.ofInt 64 (a : Int) &&& BitVec.ofInt 64 (b : Int)) = 0#64 := by
    generalize BitVec.ofInt 64 (a : Int) = x; generalize BitVec.ofInt 64 (b : Int) = y
    ext i hi
    simp only [BitVec.getElem_and, BitVec.getElem_not, BitVec.getElem_zero]
    cases x[i] <;> cases y[i] <;> rfl
  have h1 : (BitVec.ofInt 64 (a : Int) &&& ~~~ BitVec.ofInt 64 (b : Int)) + (BitVec.ofInt 64 (a : Int) &&& BitVec.ofInt 64 (b : Int)) = BitVec.ofInt 64 (a : Int) := by
    rw [BitVec.add_eq_or_of_and_eq_zero _ _ h0]
    generalize BitVec.ofInt 64 (a : Int) = x; generalize BitVec.ofInt 64 (b : Int) = y
    ext i hi
    simp only [BitVec.getElem_or, BitVec.getElem_and, BitVec.getElem_not]
    cases x[i] <;> cases y[i] <;> rfl
  have h2 := BitVec.toNat_add_of_and_eq_zero h0
  rw [h1, ofInt_nat a ha, BitVec.toNat_and (BitVec.ofInt 64 (a : Int)) (BitVec.ofInt 64 (b : Int)), ofInt_nat a ha, ofInt_nat b hb] at h2
  exact h2.symm
theorem without_bit (a b i : Nat) (ha : a < 18446744073709551616) (hb : b < 18446744073709551616) : (without a b).testBit i = (a.testBit i && !b.testBit i) := by
  unfold without
  have e1 : a.testBit i = (BitVec.ofInt 64 (a : Int)).getLsbD i := by show _ = (BitVec.ofInt 64 (a : Int)).toNat.testBit i; rw [ofInt_nat a ha]
  have e2 : b.testBit i = (BitVec.ofInt 64 (b : Int)).getLsbD i := by show _ = (BitVec.ofInt 64 (b : Int)).toNat.testBit i; rw [ofInt_nat b hb]
  rw [e1, e2]
  show (BitVec.ofInt 64 (a : Int) &&& ~~~ BitVec.ofInt 64 (b : Int)).getLsbD i = _
  rw [BitVec.getLsbD_and, BitVec.getLsbD_not]
  by_cases h : i < 64
  · simp [h]
  · rw [BitVec.getLsbD_of_ge _ i (by omega)]; simp
theorem andNot_n (a b : Nat) (ha : a < 9223372036854775808) (hb : b < 9223372036854775808) : Go.bits .andNot .i64 (a : Int) (b : Int) = (without a b : Int) := by
  have h := without_add a b (by omega) (by omega)
  show IntKind.i64.wrap ((without a b : Nat) : Int) = _
  rw [IntKind.wrap_i64]
  omega
def mask (l : List Int) : Nat := l.foldl (fun s q => s ||| 2 ^ q.toNat) 0
theorem maskFrom_bit (l : List Int) (hl : ∀ q ∈ l, 0 ≤ q) (i : Nat) : ∀ s : Nat, (l.foldl (fun s q => s ||| 2 ^ q.toNat) s).testBit i = (s.testBit i || decide ((i : Int) ∈ l)) := by
  induction l with
  | nil => intro s; simp
  | cons x l ih =>
    intro s
    have hx := hl x (List.mem_cons_self ..)
    rw [List.foldl_cons, ih (fun q hq => hl q (List.mem_cons_of_mem _ hq)), Nat.testBit_or, Nat.testBit_two_pow]
    by_cases e : (i : Int) = x
    · have : x.toNat = i := by omega
      simp [e, this]
    · have : ¬ x.toNat = i := by omega
      simp [e, this]
theorem mask_bit (l : List Int) (hl : ∀ q ∈ l, 0 ≤ q) (i : Nat) : (mask l).testBit i = decide ((i : Int) ∈ l) := by
  unfold mask; rw [maskFrom_bit l hl i 0]; simp
theorem maskFrom_lt (l : List Int) (hl : ∀ q ∈ l, 0 ≤ q ∧ q < 16) : ∀ s : Nat, s < 65536 → l.foldl (fun s q => s ||| 2 ^ q.toNat) s < 65536 := by
  induction l with
  | nil => intro s hs; exact hs
  | cons x l ih =>
    intro s hs
    have hx := hl x (List.mem_cons_self ..)
    rw [List.foldl_cons]
    refine ih (fun q hq => hl q (List.mem_cons_of_mem _ hq)) _ ?_
    have h2 : 2 ^ x.toNat < 2 ^ 16 := Nat.pow_lt_pow_right (by omega) (by omega)
    exact Nat.or_lt_two_pow (n := 16) hs h2
theorem mask_lt (l : List Int) (hl : ∀ q ∈ l, 0 ≤ q ∧ q < 16) : mask l < 65536 := maskFrom_lt l hl 0 (by omega)
theorem shl_one (q : Int) (h0 : 0 ≤ q) (h1 : q < 16) : shl .i64 1 q = ((2 ^ q.toNat : Nat) : Int) := by
  have h2 : 2 ^ q.toNat < 2 ^ 16 := Nat.pow_lt_pow_right (by omega) (by omega)
  unfold shl
  rw [Nat.min_eq_left (by show q.toNat ≤ 64; omega), Int.one_mul, IntKind.wrap_i64]
  have e : ((2 : Int) ^ q.toNat) = ((2 ^ q.toNat : Nat) : Int) := by rw [Int.natCast_pow]; rfl
  rw [e]
  generalize 2 ^ q.toNat = b at h2 ⊢
  omega
theorem maskOf_ev (l : List Int) (hs : Short l) (hl : ∀ q ∈ l, 0 ≤ q ∧ q < 16) : Evt (fun k => impl_maskOf.f k l) (mask l : Int) := by
  have hs' : l.length ≤ 17592186044415 := hs
  have key : ∀ i, i ≤ l.length → ∀ s : Nat, s < 65536 → Evt (fun k => impl_maskOf.l0 k (s : Int) l (l.length : Int) i) (((l.drop i).foldl (fun s q => s ||| 2 ^ q.toNat) s : Nat) : Int) := by
    refine down (P := fun i (s : Nat) => s < 65536 → Evt (fun k => impl_maskOf.l0 k (s : Int) l (l.length : Int) i) (((l.drop i).foldl (fun s q => s ||| 2 ^ q.toNat) s : Nat) : Int)) ?_ ?_
    · intro s hs
      refine Evt.step ?_
      simp only [impl_maskOf.l0]
      exact Evt.neg (natNotLt _) ((Evt.ok _).cast (by simp))
    · intro i hi ih s hs
      have hx := hl l[i] (List.getElem_mem hi)
      have h2 : 2 ^ l[i].toNat < 2 ^ 16 := Nat.pow_lt_pow_right (by omega) (by omega)
      refine Evt.step ?_
      simp only [impl_maskOf.l0]
      rw [rdN l i hi, wrapN i _ hi (by omega), shl_one _ hx.1 hx.2, or_n s _ (by omega) (by omega), dropN l i hi]
      exact Evt.pos (natLt _ _ hi) (Evt.pos (by omega) (Evt.pos (natLt _ _ hi) (Evt.pos hx.1 (ih _ (Nat.or_lt_two_pow (n := 16) hs h2)))))
  unfold impl_maskOf.f
  exact (key 0 (Nat.zero_le _) 0 (by omega)).cast (by simp [mask])
theorem and_zero (l : List Int) (x : Nat) (hl : ∀ q ∈ l, 0 ≤ q) : (mask l &&& x = 0) ↔ ∀ i : Nat, (i : Int) ∈ l → x.testBit i = false := by
  constructor
  · intro h i hi
    have := congrArg (fun z => z.testBit i) h
    simp only [Nat.testBit_and, Nat.zero_testBit, mask_bit l hl i, decide_eq_true hi, Bool.true_and] at this
    exact this
  · intro h
    apply Nat.eq_of_testBit_eq
    intro i
    rw [Nat.testBit_and, mask_bit l hl i, Nat.zero_testBit]
    by_cases hi : (i : Int) ∈ l
    · rw [h i hi]; simp
    · simp [hi]
def sub (z x : Nat) : Prop := ∀ i, z.testBit i = true → x.testBit i = true
theorem sub_antisymm {a b : Nat} (h : sub a b) (h' : sub b a) : a = b :=
  Nat.eq_of_testBit_eq fun i => by
    cases ha : a.testBit i with
    | true => exact (h i ha).symm
    | false =>
      cases hb : b.testBit i with
      | false => rfl
      | true => rw [h' i hb] at ha; cases ha
end Go.Proofs.Ytaadkpbpkeckdaa.Lib
