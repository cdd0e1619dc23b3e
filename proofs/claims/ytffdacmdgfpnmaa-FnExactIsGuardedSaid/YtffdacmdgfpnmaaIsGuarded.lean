import Derived.Test.YtffdacmdgfpnmaaF0
import Derived.Test.YtffdacmdgfpnmaaF2
import Derived.Test.YtffdacmdgfpnmaaF3
import Derived.Test.YtffdacmdgfpnmaaF5
import Derived.Test.YtffdacmdgfpnmaaF6
import Derived.Test.YtffdacmdgfpnmaaSmallSiphons
import Derived.Test.YtffdacmdgfpnmaaBigTrapLoop
import Derived.Test.YtffdacmdgfpnmaaMarks
namespace Go.Proofs.Ytffdacmdgfpnmaa.Lib
open Go.RowKit Go.Proofs.Ytffdacmdgfpnmaa.F Go.Proofs.YtffdacmdgfpnmaaW.PrintWords Go.Proofs.YtffdacmdgfpnmaaW.PrintLast Go.Proofs.YtffdacmdgfpnmaaW.PrintMore
theorem rdLS (S : List Nat) (i : Nat) (h : i < S.length) : rd_L1 (setsL S) (i : Int) = bitsL S[i] := by
  have h' : i < (setsL S).length := by simp [setsL, h]
  have e : rd_L1 (setsL S) (i : Int) = (setsL S)[i] := rdG (setsL S) _ i h'
  rw [e]; simp [setsL]
theorem guard_one (p : Int) (ts : List Tr) (hs : SmallN ts) (hp : ∀ t ∈ ts, inPlaces t) (n : Nat) (m : List Int) (hm : m.length = n) (hn : n ≤ 10) (r : Nat) (hr : r < 2 ^ n) :
    ∃ y : List Int, Evt (fun k => spec_l8BigTrap.f k p ts (bitsL r)) y ∧ y.length ≤ 16 ∧ (∀ q ∈ y, 0 ≤ q ∧ q < (n : Int)) ∧ ∃ Y : Int, Evt (fun k => impl_bigTrap.f k p ts (r : Int) false) Y ∧ Evt (fun k => impl_setOf.f k Y) y := by
  have h10 : (2 : Nat) ^ n ≤ 1024 := Nat.pow_le_pow_right (by omega) hn
  have hb := bitsL_in r
  have hsh := bitsL_short r
  have hlen := bitsL_length r
  obtain ⟨y, hy, hsub, hbig⟩ := bigBigTrap_ex p ts (bitsL r) hs hsh hp hb
  rw [mask_bitsL r (by omega)] at hbig
  obtain ⟨Y, hY, hYr, hbig'⟩ := bigTrap_ex false p ts hs hp r (by omega)
  have e := isBig_unique hbig hbig'
  have hyb : ∀ q ∈ y, 0 ≤ q ∧ q < 16 := fun q hq => hb q (hsub.subset hq)
  have hyr : y.Pairwise (· < ·) := (picks_pairwise _ _).sublist hsub
  have hown : spec_l1Own.f (bitsL r) = some (bitsL r) := by
    simp only [spec_l1Own.f, Option.bind_some, List.nil_append, List.length_nil, Nat.zero_add]
    exact if_pos (by omega)
  refine ⟨y, by unfold spec_l8BigTrap.f; exact Evt.bind0 hown hy, by have := hsub.length_le; omega, fun q hq => ?_, (Y : Int), hY, ?_⟩
  · obtain ⟨i, rfl, _, hi⟩ := (bitsL_mem r q).1 (hsub.subset hq)
    refine ⟨by omega, Int.ofNat_lt.2 (Nat.lt_of_not_le fun h => ?_)⟩
    have : r < 2 ^ i := Nat.lt_of_lt_of_le hr (Nat.pow_le_pow_right (by omega) h)
    rw [Nat.testBit_lt_two_pow this] at hi
    cases hi
  · rw [← e]
    exact (setOf_ev (mask y) (mask_lt y hyb)).cast (picks_mask y hyb hyr)
theorem guard_in (p : Int) (ts : List Tr) (m : List Int) (n : Nat) (hm : m.length = n) (hn : n ≤ 10) (T : List (List Int)) (N i : Int) (y : List Int) (hyl : y.length ≤ 16) (hy : ∀ q ∈ y, 0 ≤ q ∧ q < (n : Int)) (r : Bool × Bool)
    (h1 : (y.any fun q => decide (rd m q > 0)) = true → Evt (fun k => spec_IsGuarded.l0 k m T N (wrap64 (i + 1)) p ts) r) (h2 : (y.any fun q => decide (rd m q > 0)) = false → r = (false, true)) :
    Evt (fun k => spec_IsGuarded.l1 k m false T N i y (y.length : Int) 0 p ts) r := by
  have key : ∀ j, j ≤ y.length → ∀ c : Bool, (c || (y.drop j).any fun q => decide (rd m q > 0)) = (y.any fun q => decide (rd m q > 0)) → Evt (fun k => spec_IsGuarded.l1 k m c T N i y (y.length : Int) (j : Int) p ts) r := by
    refine down (P := fun j (c : Bool) => (c || (y.drop j).any fun q => decide (rd m q > 0)) = (y.any fun q => decide (rd m q > 0)) → Evt (fun k => spec_IsGuarded.l1 k m c T N i y (y.length : Int) (j : Int) p ts) r) ?_ ?_
    · intro c hc
      rw [List.drop_length, List.any_nil, Bool.or_false] at hc
      refine Evt.step ?_
      simp only [spec_IsGuarded.l1]
      refine Evt.neg (natNotLt _) ?_
      cases hcc : c with
      | true => exact Evt.pos rfl (h1 (by rw [← hc, hcc]))
      | false => rw [h2 (by rw [← hc, hcc])]; exact Evt.neg (by decide) (Evt.ok _)
    · intro j hj ih c hc
      have hq := hy y[j] (List.getElem_mem hj)
      rw [dropN y j hj, List.any_cons] at hc
      refine Evt.step ?_
      simp only [spec_IsGuarded.l1]
      rw [rdN y j hj, wrapN j y.length hj (by omega)]
      refine Evt.pos (natLt _ _ hj) (Evt.pos (by omega) (Evt.pos (natLt _ _ hj) ?_))
      cases hcc : c with
      | true => exact Evt.pos rfl (ih true (by rw [← hc, hcc]; simp))
      | false => exact Evt.neg (by decide) (Evt.pos hq.1 (Evt.pos (by omega) (ih _ (by rw [← hc, hcc]; simp))))
  exact key 0 (Nat.zero_le _) false (by rw [List.drop_zero, Bool.false_or])
theorem guard2_ev (m : List Int) (n : Nat) (hm : m.length = n) (y : List Int) (hyl : y.length ≤ 16) (hy : ∀ q ∈ y, 0 ≤ q ∧ q < (n : Int)) : Evt (fun k => slices_ContainsFunc_int_int_at_impl_IsGuarded_2.f k y m) (y.any fun q => decide (rd m q > 0)) := by
  refine containsFunc_gen (fun k (q : Int) => impl_IsGuarded_2.f q m) (fun q => decide (rd m q > 0)) (rd y) (fun k i => slices_IndexFunc_int_int_at_impl_IsGuarded_2.l0 k y (y.length : Int) i m) _ y ?_ ?_ ?_ ?_ (by show y.length ≤ _; omega)
  · intro k; rfl
  · intro k i; simp only [slices_IndexFunc_int_int_at_impl_IsGuarded_2.l0]
  · intro q hq
    have := hy q hq
    unfold impl_IsGuarded_2.f
    exact Evt.pos this.1 (Evt.pos (by omega) (Evt.ok _))
  · intro i hi; exact rdN y i hi
theorem guard_ex (p : Int) (ts : List Tr) (hs : SmallN ts) (hp : ∀ t ∈ ts, inPlaces t) (n : Nat) (m : List Int) (hm : m.length = n) (hn : n ≤ 10) (S : List Nat) (hS : ∀ r ∈ S, r < 2 ^ n) (hl : S.length ≤ 1024) :
    ∃ b : Bool × Bool, Evt (fun k => spec_IsGuarded.l0 k m (setsL S) (S.length : Int) 0 p ts) b ∧ Evt (fun k => impl_IsGuarded.l0 k (ints S) (S.length : Int) 0 p ts m) b := by
  have hsl : (setsL S).length = S.length := by simp [setsL]
  have key : ∀ i, i ≤ S.length → ∀ _ : Unit, ∃ b : Bool × Bool, Evt (fun k => spec_IsGuarded.l0 k m (setsL S) (S.length : Int) (i : Int) p ts) b ∧ Evt (fun k => impl_IsGuarded.l0 k (ints S) (S.length : Int) (i : Int) p ts m) b := by
    refine down (P := fun i _ => ∃ b : Bool × Bool, Evt (fun k => spec_IsGuarded.l0 k m (setsL S) (S.length : Int) (i : Int) p ts) b ∧ Evt (fun k => impl_IsGuarded.l0 k (ints S) (S.length : Int) (i : Int) p ts m) b) ?_ ?_
    · intro _
      refine ⟨(true, true), Evt.step ?_, Evt.step ?_⟩
      · simp only [spec_IsGuarded.l0]; exact Evt.neg (natNotLt _) (Evt.ok _)
      · simp only [impl_IsGuarded.l0]; exact Evt.neg (natNotLt _) (Evt.ok _)
    · intro i hi ih _
      obtain ⟨b, b1, b2⟩ := ih ()
      obtain ⟨y, y1, y2, y3, Y, y4, y5⟩ := guard_one p ts hs hp n m hm hn S[i] (hS _ (List.getElem_mem hi))
      have ew := wrapN i S.length hi (by omega)
      have hc := guard2_ev m n hm y y2 y3
      rw [← ew] at b1 b2
      cases hany : (y.any fun q => decide (rd m q > 0)) with
      | true =>
        refine ⟨b, Evt.step ?_, Evt.step ?_⟩
        · simp only [spec_IsGuarded.l0, rdLS S i hi, hsl]
          exact Evt.pos (natLt _ _ hi) (Evt.pos (by omega) (Evt.pos (natLt _ _ hi) (Evt.bind y1 (guard_in p ts m n hm hn _ _ _ y y2 y3 b (fun _ => b1) (fun h => by rw [hany] at h; cases h)))))
        · simp only [impl_IsGuarded.l0, rd_ints S i hi, ints_length]
          exact Evt.pos (natLt _ _ hi) (Evt.pos (by omega) (Evt.pos (natLt _ _ hi) (Evt.bind y4 (Evt.bind y5 (Evt.bind (hc.cast hany) (Evt.pos rfl b2))))))
      | false =>
        refine ⟨(false, true), Evt.step ?_, Evt.step ?_⟩
        · simp only [spec_IsGuarded.l0, rdLS S i hi, hsl]
          exact Evt.pos (natLt _ _ hi) (Evt.pos (by omega) (Evt.pos (natLt _ _ hi) (Evt.bind y1 (guard_in p ts m n hm hn _ _ _ y y2 y3 _ (fun h => by rw [hany] at h; cases h) (fun _ => rfl)))))
        · simp only [impl_IsGuarded.l0, rd_ints S i hi, ints_length]
          exact Evt.pos (natLt _ _ hi) (Evt.pos (by omega) (Evt.pos (natLt _ _ hi) (Evt.bind y4 (Evt.bind y5 (Evt.bind (hc.cast hany) (Evt.neg (by decide) (Evt.ok _)))))))
  exact key 0 (Nat.zero_le _) ()
theorem core_IsGuarded (p : Int) (ts : List Tr) (x1 : List Int) (hs : SmallN ts) (h1 : Short x1) : ∃ x : Bool × Bool, Evt (fun k => spec_IsGuarded.f k p ts x1) x ∧ Evt (fun k => impl_IsGuarded.f k p ts x1) x := by
  have no1 : ∀ c : Bool, c = true → Evt (fun k => spec_IsGuarded.j0 k x1 c p ts) (false, false) := by
    intro c hc
    refine Evt.step ?_
    simp only [spec_IsGuarded.j0]
    exact Evt.pos hc (Evt.ok _)
  have no2 : ∀ c : Bool, c = true → Evt (fun k => impl_IsGuarded.j0 k c p ts x1) (false, false) := by
    intro c hc
    refine Evt.step ?_
    simp only [impl_IsGuarded.j0]
    exact Evt.pos hc (Evt.ok _)
  unfold spec_IsGuarded.f impl_IsGuarded.f
  cases hp : plain p ts with
  | false => exact ⟨(false, false), Evt.bind ((l7Plain_ev p ts hs).cast hp) (Evt.neg (by decide) (no1 _ rfl)), Evt.bind ((isSmall_ev p ts hs).cast (r' := false) (by rw [hp]; rfl)) (Evt.neg (by decide) (no2 _ rfl))⟩
  | true =>
    by_cases h10 : p > 10
    · exact ⟨(false, false), Evt.bind ((l7Plain_ev p ts hs).cast hp) (Evt.pos rfl (Evt.pos h10 (no1 _ rfl))), Evt.bind ((isSmall_ev p ts hs).cast (r' := false) (by rw [hp, decide_eq_false (by omega)]; rfl)) (Evt.neg (by decide) (no2 _ rfl))⟩
    · have hsm := (isSmall_ev p ts hs).cast (r' := true) (by rw [hp, decide_eq_true (by omega)]; rfl)
      cases hm : goodMark p x1 with
      | false => exact ⟨(false, false), Evt.bind ((l7Plain_ev p ts hs).cast hp) (Evt.pos rfl (Evt.neg h10 (Evt.bind ((specGoodMark_ev p x1 h1).cast hm) (no1 _ rfl)))), Evt.bind hsm (Evt.pos rfl (Evt.bind ((goodMark_ev p x1 h1).cast hm) (no2 _ rfl)))⟩
      | true =>
        have hmb := goodMark_bounds hm
        have hg := plain_good hp
        obtain ⟨n, hpn⟩ : ∃ n : Nat, p = (n : Int) := ⟨p.toNat, by omega⟩
        have hn : n ≤ 10 := by omega
        have h2 : (2 : Nat) ^ n ≤ 1024 := Nat.pow_le_pow_right (by omega) hn
        have h1' : 1 ≤ (2 : Nat) ^ n := Nat.one_le_two_pow
        have hpl := good_inPlaces hg
        have hok := smallFrom_ok (sipB ts) (2 ^ n - 1) 1 [] (fun r hr => by cases hr) (Nat.zero_le _)
        have hI : Evt (fun k => impl_smallSets_at_impl_IsGuarded_1.f k p ts p ts) (ints (smallFrom (sipB ts) 1 (2 ^ n - 1) [])) := by
          unfold impl_smallSets_at_impl_IsGuarded_1.f
          refine smallSets_gen p n hpn hn (sipB ts) (fun k x => impl_IsGuarded_1.f k x p ts) (fun k S x => impl_smallSets_at_impl_IsGuarded_1.l0 k S p ts x p ts) ?_ ?_ (2 ^ n - 1) 1 [] (by omega) (fun r hr => by cases hr) (Nat.zero_le _)
          · intro k S x; simp only [impl_smallSets_at_impl_IsGuarded_1.l0]
          · intro x hx
            unfold impl_IsGuarded_1.f
            exact Evt.bind (isSiphon_ev p ts hs hpl x hx) (Evt.ok _)
        have hS := l8Small_ev p ts n hpn hn hs
        generalize smallFrom (sipB ts) 1 (2 ^ n - 1) [] = S at *
        obtain ⟨b, b1, b2⟩ := guard_ex p ts hs hpl n x1 (by omega) hn S (fun r hr => by have := hok.1 r hr; omega) (by omega)
        refine ⟨b, Evt.bind ((l7Plain_ev p ts hs).cast hp) (Evt.pos rfl (Evt.neg h10 (Evt.bind ((specGoodMark_ev p x1 h1).cast hm) (Evt.step ?_)))), Evt.bind hsm (Evt.pos rfl (Evt.bind ((goodMark_ev p x1 h1).cast hm) (Evt.step ?_)))⟩
        · simp only [spec_IsGuarded.j0]
          refine Evt.neg (by decide) (Evt.bind hS ?_)
          rw [show (setsL S).length = S.length by simp [setsL]]
          exact b1
        · simp only [impl_IsGuarded.j0]
          refine Evt.neg (by decide) (Evt.bind hI ?_)
          rw [ints_length]
          exact b2
end Go.Proofs.Ytffdacmdgfpnmaa.Lib
