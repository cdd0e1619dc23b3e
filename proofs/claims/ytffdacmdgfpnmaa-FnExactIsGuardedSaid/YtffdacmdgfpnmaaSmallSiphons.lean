import Derived.Test.YtffdacmdgfpnmaaF2
import Derived.Test.YtffdacmdgfpnmaaF3
import Derived.Test.YtffdacmdgfpnmaaSmall
import Derived.Test.YtffdacmdgfpnmaaBigSiphonLoop
namespace Go.Proofs.Ytffdacmdgfpnmaa.Lib
open Go.RowKit Go.Proofs.Ytffdacmdgfpnmaa.F Go.Proofs.YtffdacmdgfpnmaaW.PrintWords Go.Proofs.YtffdacmdgfpnmaaW.PrintLast Go.Proofs.YtffdacmdgfpnmaaW.PrintMore
def sipB (ts : List Tr) (x : Nat) : Bool := ts.all (keepsT true (bitsL x))
theorem isSiphon_ev (p : Int) (ts : List Tr) (hs : SmallN ts) (hp : ∀ t ∈ ts, inPlaces t) (x : Nat) (hx : x < 65536) : Evt (fun k => impl_isSiphon.f k p ts (x : Int)) (sipB ts x) := by
  obtain ⟨y, h1, h2, h3⟩ := bigTrap_ex true p ts hs hp x hx
  unfold impl_isSiphon.f
  refine Evt.bind (a := (y : Int)) h1 ((Evt.ok _).cast ?_)
  have hk := okSet_all true ts (bitsL x) hp (fun q hq => (bitsL_in x q hq).1)
  rw [mask_bitsL x hx] at hk
  have hb := big_self h3
  rw [Bool.eq_iff_iff, beq_iff_eq]
  unfold sipB
  rw [← hk, ← hb]
  omega
theorem l8Small_ev (p : Int) (ts : List Tr) (n : Nat) (hpn : p = (n : Int)) (hn : n ≤ 10) (hs : SmallN ts) : Evt (fun k => spec_l8Small.f k p ts) (setsL (smallFrom (sipB ts) 1 (2 ^ n - 1) [])) := by
  have h10 : (2 : Nat) ^ n ≤ 1024 := Nat.pow_le_pow_right (by omega) hn
  have h1 : 1 ≤ (2 : Nat) ^ n := Nat.one_le_two_pow
  have hsh : shl .i64 1 p = ((2 ^ n : Nat) : Int) := by rw [shl_one p (by omega) (by omega), hpn, Int.toNat_natCast]
  have hw : IntKind.u64.wrap p = p := by rw [hpn]; exact wrap_u64 n (by omega)
  unfold spec_l8Small.f
  refine rows_gen n hn (sipB ts) (fun k S x => spec_l8Small.l0 k S x p ts) (fun k S x b T m i => spec_l8Small.l1 k S x b T m i p ts) ?_ ?_ setsL ?_ (2 ^ n - 1) 1 [] (by omega) (fun r hr => by cases hr) (Nat.zero_le _)
  · intro k S x b T i; simp only [spec_l8Small.l1]
  · intro S x hx hS r hr
    simp only [spec_l8Small.l0, hw, hsh]
    exact Evt.pos (by omega) (Evt.pos (by omega) (Evt.bind (l1Set_ev x (by omega)) (Evt.bind (l8LoopBigSiphon_ev p ts (bitsL x) hs (bitsL_short x)) hr)))
  · intro S hS hl
    simp only [spec_l8Small.l0, hw, hsh]
    exact Evt.pos (by omega) (Evt.neg (by omega) (setsOf_gen (fun k x => spec_l1Set.f k x) (fun m hm => l1Set_ev m hm) (fun k s T m i => spec_l8Small.l2 k s T m i) (fun k s T i => by simp only [spec_l8Small.l2]) S (fun r hr => by have := hS r hr; omega) (by omega)))
theorem isSmall_ev (p : Int) (ts : List Tr) (hs : SmallN ts) : Evt (fun k => impl_isSmall.f k p ts) (plain p ts && decide (p ≤ 10)) := by
  unfold impl_isSmall.f
  cases hp : plain p ts with
  | false => exact Evt.bind ((isPlain_ev p ts hs).cast hp) (Evt.neg (by decide) (Evt.ok _))
  | true => exact Evt.bind ((isPlain_ev p ts hs).cast hp) (Evt.pos rfl ((Evt.ok _).cast (by simp)))
theorem setsL_ok (P : Nat → Bool) (n : Nat) (hn : n ≤ 10) : (setsL (smallFrom P 1 (2 ^ n - 1) [])).length ≤ 1024 ∧ (∀ m ∈ setsL (smallFrom P 1 (2 ^ n - 1) []), m.length ≤ 16) := by
  have h10 : (2 : Nat) ^ n ≤ 1024 := Nat.pow_le_pow_right (by omega) hn
  have h1 : 1 ≤ (2 : Nat) ^ n := Nat.one_le_two_pow
  have h := smallFrom_ok P (2 ^ n - 1) 1 [] (fun r hr => by cases hr) (Nat.zero_le _)
  refine ⟨by unfold setsL; rw [List.length_map]; omega, fun m hm => ?_⟩
  simp only [setsL, List.mem_map] at hm
  obtain ⟨r, _, rfl⟩ := hm
  exact bitsL_length r
end Go.Proofs.Ytffdacmdgfpnmaa.Lib
