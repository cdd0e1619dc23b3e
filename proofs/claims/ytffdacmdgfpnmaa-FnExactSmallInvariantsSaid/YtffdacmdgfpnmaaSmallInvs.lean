import Derived.Test.YtffdacmdgfpnmaaF7
import Derived.Test.YtffdacmdgfpnmaaF8
import Derived.Test.YtffdacmdgfpnmaaSmallInv
namespace Go.Proofs.Ytffdacmdgfpnmaa.Lib
open Go.RowKit Go.Proofs.Ytffdacmdgfpnmaa.F Go.Proofs.YtffdacmdgfpnmaaW.PrintWords Go.Proofs.YtffdacmdgfpnmaaW.PrintLast Go.Proofs.YtffdacmdgfpnmaaW.PrintMore
theorem core_SmallInvariants (p : Int) (ts : List Tr) (hs : SmallN ts) : ∃ x : List (List Int) × Bool, Evt (fun k => spec_SmallInvariants.f k p ts) x ∧ Evt (fun k => impl_SmallInvariants.f k p ts) x ∧ x.1.length ≤ 1024 ∧ ∀ m ∈ x.1, m.length ≤ 16 := by
  unfold spec_SmallInvariants.f impl_SmallInvariants.f
  cases hp : plain p ts with
  | false => exact ⟨([], false), Evt.bind ((l7Plain_ev p ts hs).cast hp) (Evt.neg (by decide) (Evt.ok _)), Evt.bind ((isSmall_ev p ts hs).cast (r' := false) (by rw [hp]; rfl)) (Evt.neg (by decide) (Evt.ok _)), Nat.zero_le _, fun m hm => by cases hm⟩
  | true =>
    by_cases h10 : p > 10
    · exact ⟨([], false), Evt.bind ((l7Plain_ev p ts hs).cast hp) (Evt.pos rfl (Evt.pos h10 (Evt.ok _))), Evt.bind ((isSmall_ev p ts hs).cast (r' := false) (by rw [hp, decide_eq_false (by omega)]; rfl)) (Evt.neg (by decide) (Evt.ok _)), Nat.zero_le _, fun m hm => by cases hm⟩
    · have hg := plain_good hp
      have hf := goodNet_facts hg
      obtain ⟨n, hpn⟩ : ∃ n : Nat, p = (n : Int) := ⟨p.toNat, by omega⟩
      have hn : n ≤ 10 := by omega
      have h2 : (2 : Nat) ^ n ≤ 1024 := Nat.pow_le_pow_right (by omega) hn
      have h1 : 1 ≤ (2 : Nat) ^ n := Nat.one_le_two_pow
      have hok := smallFrom_ok (invB ts) (2 ^ n - 1) 1 [] (fun r hr => by cases hr) (Nat.zero_le _)
      exact ⟨(setsL (smallFrom (invB ts) 1 (2 ^ n - 1) []), true), Evt.bind ((l7Plain_ev p ts hs).cast hp) (Evt.pos rfl (Evt.neg h10 (Evt.bind (l7Small_ev p ts n hpn hn hs hg) (Evt.ok _)))), Evt.bind ((isSmall_ev p ts hs).cast (r' := true) (by rw [hp, decide_eq_true (by omega)]; rfl)) (Evt.pos rfl (Evt.bind (smallInv_ev p ts hs hg n hpn hn) (Evt.bind (setsOf_ev _ (fun r hr => by have := hok.1 r hr; omega) (by omega)) (Evt.ok _)))), setsL_ok (invB ts) n hn⟩
end Go.Proofs.Ytffdacmdgfpnmaa.Lib
