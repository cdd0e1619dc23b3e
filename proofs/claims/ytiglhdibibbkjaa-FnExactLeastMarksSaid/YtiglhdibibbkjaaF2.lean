-- Written by a program of this session (fork.py, fprint.sh). Lean checks it.
import Derived.Test.YtiglhdibibbkjaaF0
import Derived.Test.YtiglhdibibbkjaaF1
namespace Go.Proofs.Ytiglhdibibbkjaa.F
open Go.RowKit Go.Proofs.YtiglhdibibbkjaaW.PrintWords Go.Proofs.YtiglhdibibbkjaaW.PrintLast Go.Proofs.YtiglhdibibbkjaaW.PrintMore
attribute [local go_sem] max2_int min2_int max_two min_two max_three min_three max_four min_four   -- for this text's walks alone
set_option linter.unusedVariables false
set_option linter.unusedSimpArgs false

theorem impl_leastMarks.cmp_rounds (x y : List Int) (hx : x.length ≤ 9223372036854775807) : ∃ k, slices_Compare_int_int.f k x y = some (Least.lexCmp x y) := by
  have key : ∀ d i, x.length - i = d → i ≤ x.length → i ≤ y.length → ∃ k, slices_Compare_int_int.l0 k x y x (x.length : Int) (i : Int) = some (Least.lexCmp (x.drop i) (y.drop i)) := by
    intro d
    induction d with
    | zero =>
      intro i hd h1 h2
      refine ⟨1, ?_⟩
      have ei : i = x.length := by omega
      simp only [slices_Compare_int_int.l0]
      rw [if_neg (by omega), (show List.drop _ x = [] from List.drop_eq_nil_of_le (by omega))]
      by_cases c : (x.length : Int) < (y.length : Int)
      · rw [if_pos c, List.drop_eq_getElem_cons (l := y) (by omega)]; rfl
      · rw [if_neg c, (show List.drop _ y = [] from List.drop_eq_nil_of_le (by omega))]; rfl
    | succ d ih =>
      intro i hd h1 h2
      have hi : i < x.length := by omega
      have rx : rd x (i : Int) = x[i] := by simp [rd, List.getD_eq_getElem?_getD, List.getElem?_eq_getElem hi]
      have dx : x.drop i = x[i] :: x.drop (i + 1) := List.drop_eq_getElem_cons hi
      by_cases c : i < y.length
      · have ry : rd y (i : Int) = y[i] := by simp [rd, List.getD_eq_getElem?_getD, List.getElem?_eq_getElem c]
        have dy : y.drop i = y[i] :: y.drop (i + 1) := List.drop_eq_getElem_cons c
        obtain ⟨k, hk⟩ := ih (i + 1) (by omega) (by omega) (by omega)
        refine ⟨k + 1, ?_⟩
        simp only [slices_Compare_int_int.l0]
        rw [if_pos (by omega), if_pos (by omega), if_pos (by omega), if_neg (by omega), if_pos (by omega), rx, ry, dx, dy]
        simp only [Least.lexCmp, cmp_Compare_int.f, cmp_isNaN_int.f, bne_self_eq_false, Option.bind_some, Bool.false_eq_true, if_false]
        rcases Int.lt_trichotomy x[i] y[i] with q | q | q
        · rw [if_pos q, if_pos q]; rfl
        · rw [if_neg (by omega), if_neg (by omega), if_neg (by omega), if_neg (by omega)]
          simp only [Option.bind_some, if_true]
          rw [show wrap64 ((i : Int) + 1) = ((i + 1 : Nat) : Int) by unfold wrap64; omega]
          exact hk
        · rw [if_neg (by omega), if_pos (by omega), if_neg (by omega), if_pos q]; rfl
      · refine ⟨1, ?_⟩
        simp only [slices_Compare_int_int.l0]
        rw [if_pos (by omega), if_pos (by omega), if_pos (by omega), if_pos (by omega), dx, (show List.drop _ y = [] from List.drop_eq_nil_of_le (by omega))]; rfl
  obtain ⟨k, hk⟩ := key _ 0 rfl (Nat.zero_le _) (Nat.zero_le _)
  exact ⟨k, by unfold slices_Compare_int_int.f; exact hk⟩
theorem impl_leastMarks.eq_rounds (x y : List Int) (hx : x.length ≤ 9223372036854775807) : ∃ k, slices_Equal_int_int.f k x y = some (decide (x = y)) := by
  by_cases hl : x.length = y.length
  · have key : ∀ d i, x.length - i = d → i ≤ x.length → x.take i = y.take i → ∃ k, slices_Equal_int_int.l0 k x y (x.length : Int) (i : Int) = some (decide (x = y)) := by
      intro d
      induction d with
      | zero =>
        intro i hd h1 h2
        refine ⟨1, ?_⟩
        simp only [slices_Equal_int_int.l0]
        rw [if_neg (by omega)]
        rw [List.take_of_length_le (by omega), List.take_of_length_le (by omega)] at h2
        rw [decide_eq_true h2]
      | succ d ih =>
        intro i hd h1 h2
        have hi : i < x.length := by omega
        have rx : rd x (i : Int) = x[i] := by simp [rd, List.getD_eq_getElem?_getD, List.getElem?_eq_getElem hi]
        have ry : rd y (i : Int) = y[i]'(by omega) := by simp [rd, List.getD_eq_getElem?_getD, List.getElem?_eq_getElem (show i < y.length by omega)]
        by_cases c : x[i] = y[i]'(by omega)
        · obtain ⟨k, hk⟩ := ih (i + 1) (by omega) (by omega) (by rw [List.take_succ_eq_append_getElem hi, List.take_succ_eq_append_getElem (by omega), h2, c])
          refine ⟨k + 1, ?_⟩
          simp only [slices_Equal_int_int.l0]
          rw [if_pos (by omega), if_pos (by omega), if_pos (by omega), if_pos (by omega), rx, ry, if_pos c, show wrap64 ((i : Int) + 1) = ((i + 1 : Nat) : Int) by unfold wrap64; omega]
          exact hk
        · refine ⟨1, ?_⟩
          simp only [slices_Equal_int_int.l0]
          rw [if_pos (by omega), if_pos (by omega), if_pos (by omega), if_pos (by omega), rx, ry, if_neg c, decide_eq_false (fun e => c (by subst e; rfl))]
    obtain ⟨k, hk⟩ := key _ 0 rfl (Nat.zero_le _) rfl
    exact ⟨k, by unfold slices_Equal_int_int.f; rw [if_pos (by omega)]; exact hk⟩
  · exact ⟨0, by unfold slices_Equal_int_int.f; rw [if_neg (by omega), decide_eq_false (fun e => hl (by rw [e]))]⟩
theorem impl_leastMarks.cmp_ : Least.Comp 79 fun x y => .int .i64 (Least.lexCmp x y) := by
  intro W A c x A' c' y hx hcx hy hcy
  obtain ⟨k, hk⟩ := impl_leastMarks.cmp_rounds x y hx.2.1
  refine (slices_Compare_int_int.calls k A c x A' c' y _ W hx hcx hy hcy hk).mono ?_
  rintro e w' ⟨rfl, ⟨nd, rfl⟩⟩
  exact ⟨rfl, nd, rfl⟩
theorem impl_leastMarks.eq_ : Least.Comp 81 fun x y => .bool (decide (x = y)) := by
  intro W A c x A' c' y hx hcx hy hcy
  obtain ⟨k, hk⟩ := impl_leastMarks.eq_rounds x y hx.2.1
  refine (slices_Equal_int_int.calls k A c x A' c' y _ W hx hcx hy hcy hk).mono ?_
  rintro e w' ⟨rfl, ⟨nd, rfl⟩⟩
  exact ⟨rfl, nd, rfl⟩
theorem impl_leastMarks.hz_ : ∀ (A : Option Addr) (c : Nat) (w : World), Calls Try.prog 77 #[.slice A 0 c] w fun e W => ∃ A' c', e = .returned (.slice A' 0 c') ∧ Below w.heap.size w W := by
  intro A c w
  refine (slices_Clone_int_int_77.calls (fun _ => True) A c [] [] w ⟨A, c, rfl, Nat.zero_le _, fun W' _ => ⟨rfl, by simp, fun h => absurd h (Nat.lt_irrefl 0)⟩⟩ (by simp [slices_Clone_int_int_77.f])).mono ?_
  rintro e w' ⟨v, rfl, hn, hb⟩
  obtain ⟨A', c', rfl⟩ := Kd.N_slice hn
  exact ⟨A', c', rfl, hb⟩
/-! ### impl_leastMarks: function 47 -/
mutual
def impl_leastMarks.l0 : Nat → List (List Int) → List (List Int) → List (List Int) → Int → Int → Option ((List (List Int)))
  | 0, _, _, _, _, _ => none
  | k + 1, x3, x4, x16, x17, x18 => if x18 < x17 then (if 0 ≤ x18 then (if x18 < (x16.length : Int) then (impl_leastMarks.l1 k x3 x4 x18 (rd_L1 x16 x18) true x16 x17 x18 x3 (x3.length : Int) 0) else (none)) else (none)) else (some x4)
def impl_leastMarks.l1 : Nat → List (List Int) → List (List Int) → Int → List Int → Bool → List (List Int) → Int → Int → List (List Int) → Int → Int → Option ((List (List Int)))
  | 0, _, _, _, _, _, _, _, _, _, _, _ => none
  | k + 1, x3, x4, x5, x6, x7, x16, x17, x18, x23, x24, x25 => if x25 < x24 then (if 0 ≤ x25 then (if x25 < (x23.length : Int) then (if x7 = true then (if x5 = x25 then (impl_leastMarks.l1 k x3 x4 x5 x6 true x16 x17 x18 x23 x24 (wrap64 (x25 + 1))) else ((impl_covers.f k x6 (rd_L1 x23 x25)).bind fun t201 => (impl_leastMarks.l1 k x3 x4 x5 x6 (!t201) x16 x17 x18 x23 x24 (wrap64 (x25 + 1))))) else (impl_leastMarks.l1 k x3 x4 x5 x6 false x16 x17 x18 x23 x24 (wrap64 (x25 + 1)))) else (none)) else (none)) else (if x7 = true then ((slices_Clone_int_int_82.f x6).bind fun t202 => (if x4.length < 5864062014805 then (impl_leastMarks.l0 k x3 (x4 ++ [t202]) x16 x17 (wrap64 (x18 + 1))) else (none))) else (impl_leastMarks.l0 k x3 x4 x16 x17 (wrap64 (x18 + 1))))
end
def impl_leastMarks.t (k : Nat) (l0 : List (List Int)) : Option ((List (List Int))) := impl_leastMarks.l0 k l0 ([] : List (List Int)) l0 (l0.length : Int) 0
def impl_leastMarks.f (k : Nat) (l0 : List (List Int)) : Option ((List (List Int))) := if l0.length ≤ 1000000 then (impl_leastMarks.t k (Go.Lib.compact (Least.sortL l0))) else (none)
set_option maxHeartbeats 8000000 in
set_option maxRecDepth 100000 in
theorem impl_leastMarks.calls (k : Nat) (AA_ : Option Addr) (cA_ : Nat) (lA_ : List (List Int)) (r : List (List Int)) (wA_ : World) (hr0 : Kd.C (Kd.slice 3 (Kd.int .i64)) wA_ AA_ lA_.length lA_) (hc0 : lA_.length ≤ cA_) (h : impl_leastMarks.f k lA_ = some r) :
    Calls Try.prog 47 #[.slice AA_ lA_.length cA_] wA_ fun e w' => ∃ v0_ : Value, e = .returned (v0_) ∧ Kd.S (Kd.slice 3 (Kd.int .i64)) 32 w' wA_.heap.size (fun _ => True) v0_ r ∧ Below wA_.heap.size wA_ w' := by
  unfold impl_leastMarks.f at h; obtain ⟨hm_, h⟩ := ifp_ h; have HX_ := q_ (Least.clone_st impl_leastMarks.hz_ AA_ cA_ lA_ wA_ hr0 hc0 hm_); have HY_ := q_ h; clear h hr0 hc0 hm_; go_enter Try.func47, Try.ntmps47; go_wp2_with (first | (go_at_call 77; refine HX_.out.mono ?_; rintro e w1_ ⟨v1_, d1_, rfl, st_, hd_⟩; clear HX_; have S1_ := q_ st_; have D1_ := q_ hd_; clear st_ hd_) | (go_at_call 78; refine (Least.sort_st impl_leastMarks.cmp_ S1_.out).mono ?_; rintro e w2_ ⟨rfl, d2_, st_, hd_⟩; have S2_ := q_ st_; have D2_ := q_ hd_; clear S1_ st_ hd_) | (go_at_call 80; refine (Least.compact_st impl_leastMarks.eq_ S2_.out).mono ?_; rintro e w ⟨hc_⟩; obtain ⟨A0, c0, l0, hl_, rfl, hr0, hc0, hb_⟩ := hc_; have HR0 := q_ hr0; have HC0 := q_ hc0; have HBA := q_ hb_; have HL_ := q_ (hl_.trans (by rw [D2_.out, D1_.out])); clear hl_ hr0 hc0 hb_ S2_ D1_ D2_)); have HB := q_ (Below.refl w.heap.size w); have H : (impl_leastMarks.l0 k l0 ([] : List (List Int)) l0 (l0.length : Int) 0) = some r := (by rw [HL_.out]; exact HY_.out); clear HL_ HY_; have H' := q_ H; clear H; go_loopg [4, 18] k (fun kq v4 v18 w' => ∃ (x4_1 : List (List Int)) (x18_1 : Int), v18 = .int .i64 x18_1 ∧ Aside0 (impl_leastMarks.l0 kq l0 x4_1 l0 (l0.length : Int) x18_1 = some r) ∧ Aside0 (kq ≤ k) ∧ Aside0 (Kd.S (Kd.slice 3 (Kd.int .i64)) 32 w' w.heap.size (fun _ => True) v4 x4_1) ∧ Aside0 (Below w.heap.size w w'))
  case atStart => exact ⟨(([] : List (List Int))), (0), eqv, H', ⟨Nat.le_refl _⟩, ⟨by first | exact Kd.S_nil _ _ _ _ _ | exact Kd.N_nil _ _ _ _ _ | exact Kd.V_nil _ _ _ _ _ | exact Kd.Q_nil _ _ _ _ _ | exact Kd.R_nil _ _ _ _ _⟩, ⟨by exact bv HB.out⟩⟩
  case round =>
   clear H'; obtain ⟨x4_1, x18_1, rfl, HA, HK1, HO_4, HB⟩ := hrel
   cases gk with
   | zero => exact absurd HA.out (by simp [impl_leastMarks.l0])
   | succ k1 =>
    have H := HA.out; clear HA; simp only [impl_leastMarks.l0] at H
    by_cases c2 : x18_1 < (l0.length : Int)
    ·rw [if_pos c2] at H; have c2b0 : decide (x18_1 < (l0.length : Int)) = true := decide_eq_true c2; clear c2
     obtain ⟨c3, H⟩ := ifp_ H; have c3b0 : decide (0 ≤ x18_1) = true := decide_eq_true c3; clear c3
     obtain ⟨c4, H⟩ := ifp_ H; have c4b0 : decide (x18_1 < (l0.length : Int)) = true := decide_eq_true c4; clear c4; have H' := q_ H; clear H; have p199 : 0 ≤ (x18_1 : Int) := od; have q199 : x18_1 < (l0.length : Int) := od; obtain ⟨ad199, A199_0, c199_0, e199, hx199_0, hl199_0, hi199_0⟩ := at_L1 HR0.out x18_1 p199 q199
     cases e199
     replace hx199_0 := cb_ HB.out hx199_0; have HR199_0 := q_ hi199_0; have HC199_0 := q_ hl199_0; clear hi199_0 hl199_0; replace p199 := eq_true p199; replace q199 := eq_true q199; go_wp2; go_loopg [7, 25] k1 (fun kq v7 v25 w' => ∃ (x7_2 : Bool) (x25_2 : Int), v7 = .bool x7_2 ∧ v25 = .int .i64 x25_2 ∧ Aside0 (impl_leastMarks.l1 kq l0 x4_1 x18_1 (rd_L1 l0 x18_1) x7_2 l0 (l0.length : Int) x18_1 l0 (l0.length : Int) x25_2 = some r) ∧ Aside0 (kq ≤ k1) ∧ Aside0 (Kd.S (Kd.slice 3 (Kd.int .i64)) 32 w' w.heap.size (fun _ => True) u4 x4_1) ∧ Aside0 (Below w.heap.size w w'))
     case atStart => exact ⟨(true), (0), eqv, eqv, H', ⟨Nat.le_refl _⟩, ⟨by exact Kd.S_v HO_4.out⟩, ⟨by exact bv HB.out⟩⟩
     case round =>
      clear H'; (try clear c2b0); (try clear c3b0); (try clear c4b0); (try clear hx199_0); (try clear p199); (try clear q199); obtain ⟨x7_2, x25_2, rfl, rfl, HA, HK2, HO_4, HB⟩ := hrel
      cases gk with
      | zero => exact absurd HA.out (by simp [impl_leastMarks.l1])
      | succ k2 =>
       have H := HA.out; clear HA; simp only [impl_leastMarks.l1] at H
       by_cases c5 : x25_2 < (l0.length : Int)
       ·rw [if_pos c5] at H; have c5b0 : decide (x25_2 < (l0.length : Int)) = true := decide_eq_true c5; clear c5
        obtain ⟨c6, H⟩ := ifp_ H; have c6b0 : decide (0 ≤ x25_2) = true := decide_eq_true c6; clear c6
        obtain ⟨c7, H⟩ := ifp_ H; have c7b0 : decide (x25_2 < (l0.length : Int)) = true := decide_eq_true c7; clear c7
        by_cases c8 : x7_2 = true
        ·subst c8; replace H := itt_ H
         by_cases c9 : x18_1 = x25_2
         ·rw [if_pos c9] at H; have c9b0 : (x18_1 == x25_2) = true := beq_iff_eq.mpr c9; have c9b1 : (x18_1 != x25_2) = false := bne_eq_false_iff_eq.mpr c9; clear c9; have H' := q_ H; clear H; have p200 : 0 ≤ (x25_2 : Int) := od; have q200 : x25_2 < (l0.length : Int) := od; obtain ⟨ad200, A200_0, c200_0, e200, hx200_0, hl200_0, hi200_0⟩ := at_L1 HR0.out x25_2 p200 q200; obtain rfl : ad199 = ad200 := (by injection e200); replace hx200_0 := cb_ HB.out hx200_0; have HR200_0 := q_ hi200_0; have HC200_0 := q_ hl200_0; clear hi200_0 hl200_0; replace p200 := eq_true p200; replace q200 := eq_true q200; go_wp2; go_roundg k2
          case measure => have := HK1.out; have := HK2.out; omega
          case rel => exact ⟨(true), (wrap64 (x25_2 + 1)), eqv, eqv, H', ⟨by have := HK1.out; have := HK2.out; omega⟩, ⟨by exact Kd.S_v HO_4.out⟩, ⟨by exact bv HB.out⟩⟩
         ·rw [if_neg c9] at H; have c9b0 : (x18_1 == x25_2) = false := beq_eq_false_iff_ne.mpr c9; have c9b1 : (x18_1 != x25_2) = true := bne_iff_ne.mpr c9; obtain ⟨t201, A10, H⟩ := bnd_ H; have H' := q_ H; clear H; have p200 : 0 ≤ (x25_2 : Int) := od; have q200 : x25_2 < (l0.length : Int) := od; obtain ⟨ad200, A200_0, c200_0, e200, hx200_0, hl200_0, hi200_0⟩ := at_L1 HR0.out x25_2 p200 q200; obtain rfl : ad199 = ad200 := (by injection e200); replace hx200_0 := cb_ HB.out hx200_0; have HR200_0 := q_ hi200_0; have HC200_0 := q_ hl200_0; clear hi200_0 hl200_0; replace p200 := eq_true p200; replace q200 := eq_true q200; go_wp2_with (first | (go_at_call 55; (with_reducible refine (impl_covers.calls k2 _ _ (rd_L1 l0 x18_1) _ _ (rd_L1 l0 x25_2) t201 _ ?side1 ?side2 ?side3 ?side4 A10.out).mono ?_); (case side1 => exact Kd.C_v ((Kd.C_below HR199_0.out HB.out))); (case side2 => exact HC199_0.out); (case side3 => exact Kd.C_v ((Kd.C_below HR200_0.out HB.out))); (case side4 => exact HC200_0.out); rintro e w' ⟨rfl, ⟨nd, rfl⟩⟩)); go_roundg k2
          case measure => have := HK1.out; have := HK2.out; omega
          case rel => exact ⟨(!t201), (wrap64 (x25_2 + 1)), eqv, eqv, H', ⟨by have := HK1.out; have := HK2.out; omega⟩, ⟨by exact Kd.S_v HO_4.out⟩, ⟨by exact bv HB.out⟩⟩
        ·replace c8 := Bool.eq_false_iff.mpr c8; subst c8; replace H := iff_ H; have H' := q_ H; clear H; have p200 : 0 ≤ (x25_2 : Int) := od; have q200 : x25_2 < (l0.length : Int) := od; obtain ⟨ad200, A200_0, c200_0, e200, hx200_0, hl200_0, hi200_0⟩ := at_L1 HR0.out x25_2 p200 q200; obtain rfl : ad199 = ad200 := (by injection e200); replace hx200_0 := cb_ HB.out hx200_0; have HR200_0 := q_ hi200_0; have HC200_0 := q_ hl200_0; clear hi200_0 hl200_0; replace p200 := eq_true p200; replace q200 := eq_true q200; go_wp2; go_roundg k2
         case measure => have := HK1.out; have := HK2.out; omega
         case rel => exact ⟨(false), (wrap64 (x25_2 + 1)), eqv, eqv, H', ⟨by have := HK1.out; have := HK2.out; omega⟩, ⟨by exact Kd.S_v HO_4.out⟩, ⟨by exact bv HB.out⟩⟩
       ·rw [if_neg c5] at H; have c5b0 : decide (x25_2 < (l0.length : Int)) = false := decide_eq_false c5; clear c5
        by_cases c11 : x7_2 = true
        ·subst c11; replace H := itt_ H; obtain ⟨t202, A12, H⟩ := bnd_ H
         obtain ⟨c13, H⟩ := ifp_ H; have LMc13 := q_ c13; clear c13; obtain ⟨y205, hy205⟩ : ∃ y_ : List (List Int), y_ = (x4_1 ++ [t202]) := ⟨_, rfl⟩; (replace H : (impl_leastMarks.l0 k2 l0 y205 l0 (l0.length : Int) (wrap64 (x18_1 + 1))) = some r := by first | (rw [hy205]; with_reducible exact H) | (have H2_ := (Option.bind_some _ _).symm.trans H; rw [hy205]; with_reducible exact H2_) | (have H2_ := (Option.bind_some _ _).symm.trans H; with_reducible exact H2_) | with_reducible exact H | (rw [hy205]; exact H) | exact H); have Ny205 := q_ hy205; clear hy205; have H' := q_ H; clear H; go_wp2_with (first | (refine goesM (some 46) rfl rfl Try.func82 #[.slice A199_0 (rd_L1 l0 x18_1).length c199_0] rfl ?_; (with_reducible refine (slices_Clone_int_int_82.calls _ _ (rd_L1 l0 x18_1) t202 _ ?side1 ?side2 A12.out).mono ?_); (case side1 => exact Kd.C_v ((Kd.C_below HR199_0.out HB.out))); (case side2 => exact HC199_0.out); rintro e w14 ⟨v203, rfl, ho0, hb⟩; refine ⟨_, rfl, ?_⟩; have HO204 := q_ (Kd.R_lower ho0 (below_size (by exact bv HB.out))); replace HO_4 := q_ (Kd.S_elder' (by exact Kd.S_v HO_4.out) (Kd.R_base ho0) hb); replace HB := q_ (below_step (by exact bv HB.out) hb); (try clear hb); (try clear hb2); (try clear hk); (try clear hi); (try clear ho0); obtain ⟨Ao16, co16, eo16⟩ := Kd.R_slice HO204.out; subst eo16) | ((with_reducible refine gate_builtin (b := .append) (xs := #[.tmp 44, .tmp 47]) rfl ?_); at_builtin; refine Kd.S_append (Kd.slice 3 (Kd.int .i64)) (w0 := w) w.heap.size rfl (.tmp 44) (.tmp 47) 22 32 (.slice none 0 0) 24 rfl Try.underlying22 info32 rfl (by decide) (by omega) u4 x4_1 t202 [.slice Ao16 t202.length co16] (fun _ => True) (fun k_ => some k_ = (.slice Ao16 t202.length co16 : Value).ownBlock) rfl rfl ?aP (fun k_ hk_ => ((Kd.R_mono (ok' := fun k_ => ((fun _ => True)) k_ ∧ some k_ ≠ (u4 : Value).ownBlock) (Kd.R_apart' (HO204.out) (Kd.S_typed HO_4.out) (by decide)) (fun k_ hk => ⟨trivial, hk.2⟩))).1 k_ hk_.symm) ?aF ?aO ?aB ?aS ?aL ?_; (case aP => exact Kd.M_row (Kd.R_mono (Kd.R_tight rfl (Kd.R_mono (ok' := fun k_ => ((fun _ => True)) k_ ∧ some k_ ≠ (u4 : Value).ownBlock) (Kd.R_apart' (HO204.out) (Kd.S_typed HO_4.out) (by decide)) (fun k_ hk => ⟨trivial, hk.2⟩))) (fun _ h_ => h_))); (case aB => exact (by exact bv HB.out)); (case aF => exact (fun _ _ => trivial)); (case aO => exact (by (with_reducible repeat (first | apply Kd.S_alloc | apply Kd.S_drewN | apply Kd.S_drew)); exact Kd.S_mono HO_4.out (fun k_ hk => ⟨trivial, fun e_ => hk.2 e_⟩))); (case aS => exact (below_size (by exact bv HB.out))); (case aL => have := LMc13.out; omega); intro v206 w15 ho hb hg hat; rw [← Ny205.out] at ho; have HO207 := q_ (ho); replace HB := q_ (hb); clear HO_4; clear HO204; clear ho hb hg hat)); go_roundg k2
         case measure => have := HK1.out; have := HK2.out; omega
         case rel => exact ⟨(y205), (wrap64 (x18_1 + 1)), eqv, H', ⟨by have := HK1.out; have := HK2.out; omega⟩, ⟨by exact Kd.S_v HO207.out⟩, ⟨by exact bv HB.out⟩⟩
        ·replace c11 := Bool.eq_false_iff.mpr c11; subst c11; replace H := iff_ H; have H' := q_ H; clear H; go_wp2; go_roundg k2
         case measure => have := HK1.out; have := HK2.out; omega
         case rel => exact ⟨(x4_1), (wrap64 (x18_1 + 1)), eqv, H', ⟨by have := HK1.out; have := HK2.out; omega⟩, ⟨by exact Kd.S_v HO_4.out⟩, ⟨by exact bv HB.out⟩⟩
    ·rw [if_neg c2] at H; have c2b0 : decide (x18_1 < (l0.length : Int)) = false := decide_eq_false c2; clear c2; obtain rfl := Option.some.inj H; go_wp2; go_ret; exact ⟨_, by first | rfl | (simp [errW_none, errW_some] <;> rfl) | (simp [*, errW_none, errW_some] <;> rfl), Kd.S_lower (by exact Kd.S_v HO_4.out) (below_size HBA.out), below_step HBA.out (by exact bv HB.out)⟩

/-! ### impl_LeastMarks: function 12 -/
def impl_LeastMarks.f (k : Nat) (a0 : Int) (l1 : List (List Int)) : Option ((List (List Int)) × Bool) := (impl_within.f a0 1 16).bind fun t208 => (if t208 = true then (if (l1.length : Int) > 400 then (some (([] : List (List Int)), false)) else ((impl_areMarks.f k a0 l1).bind fun t209 => (if t209 = true then ((impl_leastMarks.f k l1).bind fun t210 => (some (t210, true))) else (some (([] : List (List Int)), false))))) else (some (([] : List (List Int)), false)))
set_option maxHeartbeats 8000000 in
set_option maxRecDepth 100000 in
theorem impl_LeastMarks.calls (k : Nat) (a0 : Int) (A1 : Option Addr) (c1 : Nat) (l1 : List (List Int)) (r1 : List (List Int)) (r2 : Bool) (w : World) (hr1 : Kd.C (Kd.slice 3 (Kd.int .i64)) w A1 l1.length l1) (hc1 : l1.length ≤ c1) (h : impl_LeastMarks.f k a0 l1 = some (r1, r2)) :
    Calls Try.prog 12 #[.int .i64 a0, .slice A1 l1.length c1] w fun e w' => ∃ v0_ : Value, e = .returned (.tuple #[v0_, .bool r2]) ∧ Kd.S (Kd.slice 3 (Kd.int .i64)) 32 w' w.heap.size (fun _ => True) v0_ r1 ∧ Below w.heap.size w w' := by
  have HR1 := q_ hr1; have HC1 := q_ hc1; clear hr1 hc1; have HB := q_ (Below.refl w.heap.size w); have H : ((impl_within.f a0 1 16).bind fun t208 => (if t208 = true then (if (l1.length : Int) > 400 then (some (([] : List (List Int)), false)) else ((impl_areMarks.f k a0 l1).bind fun t209 => (if t209 = true then ((impl_leastMarks.f k l1).bind fun t210 => (some (t210, true))) else (some (([] : List (List Int)), false))))) else (some (([] : List (List Int)), false)))) = some (r1, r2) := h; clear h; obtain ⟨t208, A3, H⟩ := bnd_ H
  by_cases c4 : t208 = true
  ·subst c4; replace H := itt_ H
   by_cases c5 : (l1.length : Int) > 400
   ·rw [if_pos c5] at H; have c5b0 : decide (400 < (l1.length : Int)) = true := decide_eq_true c5; have c5b1 : decide (400 < l1.length) = true := decide_eq_true (by omega); clear c5; simp only [Option.some.injEq, Prod.mk.injEq] at H; obtain ⟨rfl, rfl⟩ := H; go_enter Try.func12, Try.ntmps12; go_wp2_with (first | (refine goesM (some 7) rfl rfl Try.func45 #[.int .i64 a0, .int .i64 1, .int .i64 16] rfl ?_; (with_reducible refine (impl_within.calls a0 1 16 true _ A3.out).mono ?_); rintro e w' ⟨rfl, ⟨nd, rfl⟩⟩; refine ⟨_, rfl, ?_⟩))
    go_ret2
    exact ⟨_, by first | rfl | (simp [errW_none, errW_some] <;> rfl) | (simp [*, errW_none, errW_some] <;> rfl), by first | exact Kd.S_nil _ _ _ _ _ | exact Kd.N_nil _ _ _ _ _ | exact Kd.V_nil _ _ _ _ _ | exact Kd.Q_nil _ _ _ _ _ | exact Kd.R_nil _ _ _ _ _, by exact bv HB.out⟩
   ·rw [if_neg c5] at H; have c5b0 : decide (400 < (l1.length : Int)) = false := decide_eq_false c5; have c5b1 : decide (400 < l1.length) = false := decide_eq_false (by omega); clear c5; obtain ⟨t209, A6, H⟩ := bnd_ H; have HC7 := q_ H; clear H; go_enter Try.func12, Try.ntmps12
    go_upto_if 19 with (first | (refine goesM (some 7) rfl rfl Try.func45 #[.int .i64 a0, .int .i64 1, .int .i64 16] rfl ?_; (with_reducible refine (impl_within.calls a0 1 16 true _ A3.out).mono ?_); rintro e w' ⟨rfl, ⟨nd, rfl⟩⟩; refine ⟨_, rfl, ?_⟩) | (go_at_call 46; (with_reducible refine (impl_areMarks.calls k a0 _ _ l1 t209 _ ?side1 ?side2 A6.out).mono ?_); (case side1 => exact Kd.C_v HR1.out); (case side2 => exact HC1.out); rintro e w8 ⟨rfl, hb⟩; replace HB := q_ (below_step (by exact bv HB.out) hb); (try clear hb); (try clear hb2); (try clear hk); (try clear hi)))
    (try simp only [Act.put, List.setIfInBounds_toArray, List.set_cons_zero, List.set_cons_succ]); have H := HC7.out; clear HC7
    by_cases c9 : t209 = true
    ·subst c9; replace H := itt_ H; obtain ⟨t210, A10, H⟩ := bnd_ H; simp only [Option.some.injEq, Prod.mk.injEq] at H; obtain ⟨rfl, rfl⟩ := H; go_wp2_with (first | (refine goesM (some 21) rfl rfl Try.func47 #[.slice A1 l1.length c1] rfl ?_; (with_reducible refine (impl_leastMarks.calls k _ _ l1 t210 _ ?side1 ?side2 A10.out).mono ?_); (case side1 => exact Kd.C_v ((Kd.C_below HR1.out HB.out))); (case side2 => exact HC1.out); rintro e w11 ⟨v211, rfl, ho0, hb⟩; refine ⟨_, rfl, ?_⟩; have HO212 := q_ (Kd.S_lower ho0 (below_size (by exact bv HB.out))); replace HB := q_ (below_step (by exact bv HB.out) hb); (try clear hb); (try clear hb2); (try clear hk); (try clear hi); (try clear ho0)))
     go_ret2
     exact ⟨_, by first | rfl | (simp [errW_none, errW_some] <;> rfl) | (simp [*, errW_none, errW_some] <;> rfl), by exact Kd.S_v HO212.out, by exact bv HB.out⟩
    ·replace c9 := Bool.eq_false_iff.mpr c9; subst c9; replace H := iff_ H; simp only [Option.some.injEq, Prod.mk.injEq] at H; obtain ⟨rfl, rfl⟩ := H; go_wp2
     go_ret2
     exact ⟨_, by first | rfl | (simp [errW_none, errW_some] <;> rfl) | (simp [*, errW_none, errW_some] <;> rfl), by first | exact Kd.S_nil _ _ _ _ _ | exact Kd.N_nil _ _ _ _ _ | exact Kd.V_nil _ _ _ _ _ | exact Kd.Q_nil _ _ _ _ _ | exact Kd.R_nil _ _ _ _ _, by exact bv HB.out⟩
  ·replace c4 := Bool.eq_false_iff.mpr c4; subst c4; replace H := iff_ H; simp only [Option.some.injEq, Prod.mk.injEq] at H; obtain ⟨rfl, rfl⟩ := H; go_enter Try.func12, Try.ntmps12; go_wp2_with (first | (refine goesM (some 7) rfl rfl Try.func45 #[.int .i64 a0, .int .i64 1, .int .i64 16] rfl ?_; (with_reducible refine (impl_within.calls a0 1 16 false _ A3.out).mono ?_); rintro e w' ⟨rfl, ⟨nd, rfl⟩⟩; refine ⟨_, rfl, ?_⟩))
   go_ret2
   exact ⟨_, by first | rfl | (simp [errW_none, errW_some] <;> rfl) | (simp [*, errW_none, errW_some] <;> rfl), by first | exact Kd.S_nil _ _ _ _ _ | exact Kd.N_nil _ _ _ _ _ | exact Kd.V_nil _ _ _ _ _ | exact Kd.Q_nil _ _ _ _ _ | exact Kd.R_nil _ _ _ _ _, by exact bv HB.out⟩

/-! ### laws_eqIntS: function 22 -/
def laws_eqIntS.l0 : Nat → List Int → List Int → Int → Option (Bool)
  | 0, _, _, _ => none
  | k + 1, x0, x1, x5 => if x5 < (x0.length : Int) then (if 0 ≤ x5 then (if x5 < (x1.length : Int) then (if (rd x0 x5) = (rd x1 x5) then (laws_eqIntS.l0 k x0 x1 (wrap64 (x5 + 1))) else (some false)) else (none)) else (none)) else (some true)
def laws_eqIntS.f (k : Nat) (l0 : List Int) (l1 : List Int) : Option (Bool) := if (l0.length : Int) = (l1.length : Int) then (laws_eqIntS.l0 k l0 l1 0) else (some false)
set_option maxHeartbeats 8000000 in
set_option maxRecDepth 100000 in
theorem laws_eqIntS.calls (k : Nat) (A0 : Option Addr) (c0 : Nat) (l0 : List Int) (A1 : Option Addr) (c1 : Nat) (l1 : List Int) (r : Bool) (w : World) (hr0 : Kd.C (Kd.int .i64) w A0 l0.length l0) (hc0 : l0.length ≤ c0) (hr1 : Kd.C (Kd.int .i64) w A1 l1.length l1) (hc1 : l1.length ≤ c1) (h : laws_eqIntS.f k l0 l1 = some r) :
    Calls Try.prog 22 #[.slice A0 l0.length c0, .slice A1 l1.length c1] w fun e w' => e = .returned (.bool r) ∧ Drawn0 w w' := by
  have HR0 := q_ hr0; have HC0 := q_ hc0; clear hr0 hc0; have HR1 := q_ hr1; have HC1 := q_ hc1; clear hr1 hc1; have H : (if (l0.length : Int) = (l1.length : Int) then (laws_eqIntS.l0 k l0 l1 0) else (some false)) = some r := h; clear h
  by_cases c3 : (l0.length : Int) = (l1.length : Int)
  ·rw [if_pos c3] at H; have c3b0 : ((l0.length : Int) == (l1.length : Int)) = true := beq_iff_eq.mpr c3; have c3b1 : ((l0.length : Int) != (l1.length : Int)) = false := bne_eq_false_iff_eq.mpr c3; (have c3b2 : (l0.length == l1.length) = true := by first | simpa using c3 | (simp at c3 ⊢; omega)); clear c3; have H' := q_ H; clear H; go_enter Try.func22, Try.ntmps22; go_wp2; (repeat (go_quiet (fail); try go_wp2)); go_loopg [5] k (fun kq v5 w' => ∃ (x5_1 : Int), v5 = .int .i64 x5_1 ∧ Aside0 (laws_eqIntS.l0 kq l0 l1 x5_1 = some r) ∧ Aside0 (kq ≤ k) ∧ Drawn0 w w')
   case atStart => exact ⟨(0), eqv, H', ⟨Nat.le_refl _⟩, by repeat (first | exact Drawn0.refl _ | apply Drawn0.step)⟩
   case round =>
    clear H'; (try clear c3b0); (try clear c3b1); (try clear c3b2); obtain ⟨x5_1, rfl, HA, HK1, ⟨m1, rfl⟩⟩ := hrel
    cases gk with
    | zero => exact absurd HA.out (by simp [laws_eqIntS.l0])
    | succ k1 =>
     have H := HA.out; clear HA; simp only [laws_eqIntS.l0] at H
     by_cases c4 : x5_1 < (l0.length : Int)
     ·rw [if_pos c4] at H; have c4b0 : decide (x5_1 < (l0.length : Int)) = true := decide_eq_true c4; clear c4
      obtain ⟨c5, H⟩ := ifp_ H; have c5b0 : decide (0 ≤ x5_1) = true := decide_eq_true c5; clear c5
      obtain ⟨c6, H⟩ := ifp_ H; have c6b0 : decide (x5_1 < (l1.length : Int)) = true := decide_eq_true c6; clear c6
      by_cases c7 : (rd l0 x5_1) = (rd l1 x5_1)
      ·rw [if_pos c7] at H; have c7b0 : ((rd l0 x5_1) == (rd l1 x5_1)) = true := beq_iff_eq.mpr c7; have c7b1 : ((rd l0 x5_1) != (rd l1 x5_1)) = false := bne_eq_false_iff_eq.mpr c7; clear c7; have H' := q_ H; clear H; have p213 : 0 ≤ (x5_1 : Int) := od; have q213 : x5_1 < (l0.length : Int) := od; obtain ⟨ad213, e213, hx213_0⟩ := Kd.at_int HR0.out x5_1 p213 q213
       cases e213
       replace p213 := eq_true p213; replace q213 := eq_true q213; have p214 : 0 ≤ (x5_1 : Int) := od; have q214 : x5_1 < (l1.length : Int) := od; obtain ⟨ad214, e214, hx214_0⟩ := Kd.at_int HR1.out x5_1 p214 q214
       cases e214
       replace p214 := eq_true p214; replace q214 := eq_true q214; go_wp2; (repeat (go_quiet (fail); try go_wp2)); go_roundg k1
       case measure => have := HK1.out; omega
       case rel => exact ⟨(wrap64 (x5_1 + 1)), eqv, H', ⟨by have := HK1.out; omega⟩, by repeat (first | exact Drawn0.refl _ | apply Drawn0.step)⟩
      ·rw [if_neg c7] at H; have c7b0 : ((rd l0 x5_1) == (rd l1 x5_1)) = false := beq_eq_false_iff_ne.mpr c7; have c7b1 : ((rd l0 x5_1) != (rd l1 x5_1)) = true := bne_iff_ne.mpr c7; obtain rfl := Option.some.inj H; have p213 : 0 ≤ (x5_1 : Int) := od; have q213 : x5_1 < (l0.length : Int) := od; obtain ⟨ad213, e213, hx213_0⟩ := Kd.at_int HR0.out x5_1 p213 q213
       cases e213
       replace p213 := eq_true p213; replace q213 := eq_true q213; have p214 : 0 ≤ (x5_1 : Int) := od; have q214 : x5_1 < (l1.length : Int) := od; obtain ⟨ad214, e214, hx214_0⟩ := Kd.at_int HR1.out x5_1 p214 q214
       cases e214
       replace p214 := eq_true p214; replace q214 := eq_true q214; go_wp2; (repeat (go_quiet (fail); try go_wp2)); go_ret; exact ⟨by first | rfl | (simp; done) | (simp [*]; done), by repeat (first | exact Drawn0.refl _ | apply Drawn0.step)⟩
     ·rw [if_neg c4] at H; have c4b0 : decide (x5_1 < (l0.length : Int)) = false := decide_eq_false c4; clear c4; obtain rfl := Option.some.inj H; go_wp2; (repeat (go_quiet (fail); try go_wp2)); go_ret; exact ⟨by first | rfl | (simp; done) | (simp [*]; done), by repeat (first | exact Drawn0.refl _ | apply Drawn0.step)⟩
  ·rw [if_neg c3] at H; have c3b0 : ((l0.length : Int) == (l1.length : Int)) = false := beq_eq_false_iff_ne.mpr c3; have c3b1 : ((l0.length : Int) != (l1.length : Int)) = true := bne_iff_ne.mpr c3; (have c3b2 : (l0.length == l1.length) = false := by first | simpa using c3 | (simp at c3 ⊢; omega)); obtain rfl := Option.some.inj H; go_enter Try.func22, Try.ntmps22; go_wp2; (repeat (go_quiet (fail); try go_wp2)); go_ret; exact ⟨by first | rfl | (simp; done) | (simp [*]; done), by repeat (first | exact Drawn0.refl _ | apply Drawn0.step)⟩

/-! ### laws_eqIntSS: function 13 -/
def laws_eqIntSS.l0 : Nat → List (List Int) → List (List Int) → Int → Option (Bool)
  | 0, _, _, _ => none
  | k + 1, x0, x1, x5 => if x5 < (x0.length : Int) then (if 0 ≤ x5 then (if x5 < (x1.length : Int) then ((laws_eqIntS.f k (rd_L1 x0 x5) (rd_L1 x1 x5)).bind fun t217 => (if t217 = true then (laws_eqIntSS.l0 k x0 x1 (wrap64 (x5 + 1))) else (some false))) else (none)) else (none)) else (some true)
def laws_eqIntSS.f (k : Nat) (l0 : List (List Int)) (l1 : List (List Int)) : Option (Bool) := if (l0.length : Int) = (l1.length : Int) then (laws_eqIntSS.l0 k l0 l1 0) else (some false)
set_option maxHeartbeats 8000000 in
set_option maxRecDepth 100000 in
theorem laws_eqIntSS.calls (k : Nat) (A0 : Option Addr) (c0 : Nat) (l0 : List (List Int)) (A1 : Option Addr) (c1 : Nat) (l1 : List (List Int)) (r : Bool) (w : World) (hr0 : Kd.C (Kd.slice 3 (Kd.int .i64)) w A0 l0.length l0) (hc0 : l0.length ≤ c0) (hr1 : Kd.C (Kd.slice 3 (Kd.int .i64)) w A1 l1.length l1) (hc1 : l1.length ≤ c1) (h : laws_eqIntSS.f k l0 l1 = some r) :
    Calls Try.prog 13 #[.slice A0 l0.length c0, .slice A1 l1.length c1] w fun e w' => e = .returned (.bool r) ∧ Drawn0 w w' := by
  have HR0 := q_ hr0; have HC0 := q_ hc0; clear hr0 hc0; have HR1 := q_ hr1; have HC1 := q_ hc1; clear hr1 hc1; have H : (if (l0.length : Int) = (l1.length : Int) then (laws_eqIntSS.l0 k l0 l1 0) else (some false)) = some r := h; clear h
  by_cases c3 : (l0.length : Int) = (l1.length : Int)
  ·rw [if_pos c3] at H; have c3b0 : ((l0.length : Int) == (l1.length : Int)) = true := beq_iff_eq.mpr c3; have c3b1 : ((l0.length : Int) != (l1.length : Int)) = false := bne_eq_false_iff_eq.mpr c3; (have c3b2 : (l0.length == l1.length) = true := by first | simpa using c3 | (simp at c3 ⊢; omega)); clear c3; have H' := q_ H; clear H; go_enter Try.func13, Try.ntmps13; go_wp2; (repeat (go_quiet (fail); try go_wp2)); go_loopg [5] k (fun kq v5 w' => ∃ (x5_1 : Int), v5 = .int .i64 x5_1 ∧ Aside0 (laws_eqIntSS.l0 kq l0 l1 x5_1 = some r) ∧ Aside0 (kq ≤ k) ∧ Drawn0 w w')
   case atStart => exact ⟨(0), eqv, H', ⟨Nat.le_refl _⟩, by repeat (first | exact Drawn0.refl _ | apply Drawn0.step)⟩
   case round =>
    clear H'; (try clear c3b0); (try clear c3b1); (try clear c3b2); obtain ⟨x5_1, rfl, HA, HK1, ⟨m1, rfl⟩⟩ := hrel
    cases gk with
    | zero => exact absurd HA.out (by simp [laws_eqIntSS.l0])
    | succ k1 =>
     have H := HA.out; clear HA; simp only [laws_eqIntSS.l0] at H
     by_cases c4 : x5_1 < (l0.length : Int)
     ·rw [if_pos c4] at H; have c4b0 : decide (x5_1 < (l0.length : Int)) = true := decide_eq_true c4; clear c4
      obtain ⟨c5, H⟩ := ifp_ H; have c5b0 : decide (0 ≤ x5_1) = true := decide_eq_true c5; clear c5
      obtain ⟨c6, H⟩ := ifp_ H; have c6b0 : decide (x5_1 < (l1.length : Int)) = true := decide_eq_true c6; clear c6; obtain ⟨t217, A7, H⟩ := bnd_ H; have HC8 := q_ H; clear H; have p215 : 0 ≤ (x5_1 : Int) := od; have q215 : x5_1 < (l0.length : Int) := od; obtain ⟨ad215, A215_0, c215_0, e215, hx215_0, hl215_0, hi215_0⟩ := at_L1 HR0.out x5_1 p215 q215
      cases e215
      have HR215_0 := q_ hi215_0; have HC215_0 := q_ hl215_0; clear hi215_0 hl215_0; replace p215 := eq_true p215; replace q215 := eq_true q215; have p216 : 0 ≤ (x5_1 : Int) := od; have q216 : x5_1 < (l1.length : Int) := od; obtain ⟨ad216, A216_0, c216_0, e216, hx216_0, hl216_0, hi216_0⟩ := at_L1 HR1.out x5_1 p216 q216
      cases e216
      have HR216_0 := q_ hi216_0; have HC216_0 := q_ hl216_0; clear hi216_0 hl216_0; replace p216 := eq_true p216; replace q216 := eq_true q216
      go_upto_if 26 with (first | (go_at_call 22; (with_reducible refine (laws_eqIntS.calls k1 _ _ (rd_L1 l0 x5_1) _ _ (rd_L1 l1 x5_1) t217 _ ?side1 ?side2 ?side3 ?side4 A7.out).mono ?_); (case side1 => exact Kd.C_v HR215_0.out); (case side2 => exact HC215_0.out); (case side3 => exact Kd.C_v HR216_0.out); (case side4 => exact HC216_0.out); rintro e w' ⟨rfl, ⟨nd, rfl⟩⟩; (try first | exact ⟨rfl, _, World.drewN_drewN _ _ _⟩ | exact ⟨rfl, _, Eq.trans (World.drewN_drewN _ _ _) (congrArg (World.drewN _) (Nat.add_assoc _ _ _))⟩)))
      (repeat (go_quiet (first | (go_at_call 22; (with_reducible refine (laws_eqIntS.calls k1 _ _ (rd_L1 l0 x5_1) _ _ (rd_L1 l1 x5_1) t217 _ ?side1 ?side2 ?side3 ?side4 A7.out).mono ?_); (case side1 => exact Kd.C_v HR215_0.out); (case side2 => exact HC215_0.out); (case side3 => exact Kd.C_v HR216_0.out); (case side4 => exact HC216_0.out); rintro e w' ⟨rfl, ⟨nd, rfl⟩⟩; (try first | exact ⟨rfl, _, World.drewN_drewN _ _ _⟩ | exact ⟨rfl, _, Eq.trans (World.drewN_drewN _ _ _) (congrArg (World.drewN _) (Nat.add_assoc _ _ _))⟩))); go_upto_if 26 with (first | (go_at_call 22; (with_reducible refine (laws_eqIntS.calls k1 _ _ (rd_L1 l0 x5_1) _ _ (rd_L1 l1 x5_1) t217 _ ?side1 ?side2 ?side3 ?side4 A7.out).mono ?_); (case side1 => exact Kd.C_v HR215_0.out); (case side2 => exact HC215_0.out); (case side3 => exact Kd.C_v HR216_0.out); (case side4 => exact HC216_0.out); rintro e w' ⟨rfl, ⟨nd, rfl⟩⟩; (try first | exact ⟨rfl, _, World.drewN_drewN _ _ _⟩ | exact ⟨rfl, _, Eq.trans (World.drewN_drewN _ _ _) (congrArg (World.drewN _) (Nat.add_assoc _ _ _))⟩))))); (try simp only [Act.put, List.setIfInBounds_toArray, List.set_cons_zero, List.set_cons_succ]); have H := HC8.out; clear HC8
      by_cases c9 : t217 = true
      ·subst c9; replace H := itt_ H; have H' := q_ H; clear H; go_wp2; (repeat (go_quiet (fail); try go_wp2)); go_roundg k1
       case measure => have := HK1.out; omega
       case rel => exact ⟨(wrap64 (x5_1 + 1)), eqv, H', ⟨by have := HK1.out; omega⟩, by repeat (first | exact Drawn0.refl _ | apply Drawn0.step)⟩
      ·replace c9 := Bool.eq_false_iff.mpr c9; subst c9; replace H := iff_ H; obtain rfl := Option.some.inj H; go_wp2; (repeat (go_quiet (fail); try go_wp2)); go_ret; exact ⟨by first | rfl | (simp; done) | (simp [*]; done), by repeat (first | exact Drawn0.refl _ | apply Drawn0.step)⟩
     ·rw [if_neg c4] at H; have c4b0 : decide (x5_1 < (l0.length : Int)) = false := decide_eq_false c4; clear c4; obtain rfl := Option.some.inj H; go_wp2; (repeat (go_quiet (fail); try go_wp2)); go_ret; exact ⟨by first | rfl | (simp; done) | (simp [*]; done), by repeat (first | exact Drawn0.refl _ | apply Drawn0.step)⟩
  ·rw [if_neg c3] at H; have c3b0 : ((l0.length : Int) == (l1.length : Int)) = false := beq_eq_false_iff_ne.mpr c3; have c3b1 : ((l0.length : Int) != (l1.length : Int)) = true := bne_iff_ne.mpr c3; (have c3b2 : (l0.length == l1.length) = false := by first | simpa using c3 | (simp at c3 ⊢; omega)); obtain rfl := Option.some.inj H; go_enter Try.func13, Try.ntmps13; go_wp2; (repeat (go_quiet (fail); try go_wp2)); go_ret; exact ⟨by first | rfl | (simp; done) | (simp [*]; done), by repeat (first | exact Drawn0.refl _ | apply Drawn0.step)⟩

/-! ### laws_markIntS: function 26 -/
def laws_markIntS.l0 : Nat → List Int → Int → Int → Option (Int × List Int)
  | 0, _, _, _ => none
  | k + 1, x0, x1, x5 => if x5 < (x0.length : Int) then (if 0 ≤ x5 then (laws_markIntS.l0 k (x0.set (x5 : Int).toNat x1) (wrap64 (x1 + 1)) (wrap64 (x5 + 1))) else (none)) else (some (x1, x0))
def laws_markIntS.f (k : Nat) (l0 : List Int) (a1 : Int) : Option (Int × List Int) := laws_markIntS.l0 k l0 a1 0
set_option maxHeartbeats 8000000 in
set_option maxRecDepth 100000 in
theorem laws_markIntS.calls (k : Nat) (P0_ : Nat → Prop) (u9000_ : Value) (l0 : List Int) (a1 : Int) (r1 : Int) (r2 : List Int) (w0 w : World) (hB : Below w0.heap.size w0 w) (ho0 : Kd.R (Kd.int .i64) 3 w w0.heap.size P0_ u9000_ l0) (h : laws_markIntS.f k l0 a1 = some (r1, r2)) :
    Calls Try.prog 26 #[u9000_, .int .i64 a1] w fun e w' => e = .returned (.int .i64 r1) ∧ Kd.R (Kd.int .i64) 3 w' w0.heap.size (fun k_ => (P0_ k_ ∨ w.heap.size ≤ k_)) u9000_ r2 ∧ Below w0.heap.size w0 w' ∧ Kept w w' (fun k_ => P0_ k_) := by
  have HO0 := q_ (show Kd.R (Kd.int .i64) 3 w w0.heap.size (fun k_ => (P0_ k_ ∨ w.heap.size ≤ k_)) u9000_ l0 from Kd.R_mono ho0 (fun k_ hk => (.inl hk))); have HK := q_ (Kept.refl w (fun k_ => P0_ k_)); have HW0 := q_ hB.size; have HB := q_ hB; clear hB; have H : (laws_markIntS.l0 k l0 a1 0) = some (r1, r2) := h; clear h; have H' := q_ H; clear H; go_enter Try.func26, Try.ntmps26; go_wp2; go_loopg [1, 5] k (fun kq v1 v5 w' => ∃ (x0_1 : List Int) (x1_1 : Int) (x5_1 : Int), v1 = .int .i64 x1_1 ∧ v5 = .int .i64 x5_1 ∧ Aside0 (laws_markIntS.l0 kq x0_1 x1_1 x5_1 = some (r1, r2)) ∧ Aside0 (kq ≤ k) ∧ Aside0 (Kd.R (Kd.int .i64) 3 w' w0.heap.size (fun k_ => (P0_ k_ ∨ w.heap.size ≤ k_)) u9000_ x0_1) ∧ Aside0 (Kept w w' (fun k_ => P0_ k_)) ∧ Aside0 (Below w0.heap.size w0 w'))
  case atStart => exact ⟨(l0), (a1), (0), eqv, eqv, H', ⟨Nat.le_refl _⟩, ⟨by exact Kd.R_v HO0.out⟩, ⟨by exact kv HK.out⟩, ⟨by exact bv HB.out⟩⟩
  case round =>
   clear H'; obtain ⟨x0_1, x1_1, x5_1, rfl, rfl, HA, HK1, HO_0, HK, HB⟩ := hrel
   cases gk with
   | zero => exact absurd HA.out (by simp [laws_markIntS.l0])
   | succ k1 =>
    have H := HA.out; clear HA; simp only [laws_markIntS.l0] at H
    by_cases c3 : x5_1 < (x0_1.length : Int)
    ·rw [if_pos c3] at H; have c3b0 : decide (x5_1 < (x0_1.length : Int)) = true := decide_eq_true c3; clear c3
     obtain ⟨c4, H⟩ := ifp_ H; have c4b0 : decide (0 ≤ x5_1) = true := decide_eq_true c4; clear c4; obtain ⟨y218, hy218⟩ : ∃ y_ : List Int, y_ = (x0_1.set (x5_1 : Int).toNat x1_1) := ⟨_, rfl⟩; (replace H : (laws_markIntS.l0 k1 y218 (wrap64 (x1_1 + 1)) (wrap64 (x5_1 + 1))) = some (r1, r2) := by first | (rw [hy218]; with_reducible exact H) | (have H2_ := (Option.bind_some _ _).symm.trans H; rw [hy218]; with_reducible exact H2_) | (have H2_ := (Option.bind_some _ _).symm.trans H; with_reducible exact H2_) | with_reducible exact H | (rw [hy218]; exact H) | exact H); have Ny218 := q_ hy218; clear hy218; have H' := q_ H; clear H; obtain ⟨Ao6, co6, eo6⟩ := Kd.R_slice HO_0.out; subst eo6; have p5 : 0 ≤ (x5_1 : Int) := od; have q5 : (x5_1 : Int) < ((x0_1.length : Int) : Int) := od; obtain ⟨go5, co5, eo5, gb5, gl5, cl5, HG5⟩ := Kd.R_form HO_0.out (by omega); (first | cases eo5 | (injection eo5 with ea_ en_ ec_; (first | subst ea_ | (injection ea_ with ea_; subst ea_)); subst ec_; clear en_)); have GB5 := q_ gb5; have GG5 := q_ HG5; clear gb5 gl5 HG5; have HMgo5 := q_ (show (P0_ go5 ∨ w.heap.size ≤ go5) from (HO_0.out.1 _ rfl)); obtain ⟨hx5_0, hf5_0⟩ := Kd.R_celln 0 HO_0.out (x5_1 : Int) p5 q5; replace p5 := eq_true p5; replace q5 := eq_true q5; have HP7 := Kd.R_putg HO_0.out (x5_1 : Int) x1_1; go_wp2_with (first | ((with_reducible refine gate_store (t := 3) (p := 15) rfl ?_); refine store_event (t := 3) (p := 15) (v := ?vo_w8) (w1 := (wr.setCell ⟨go5, (x5_1 : Int).toNat, none⟩ (.int .i64 x1_1))) ?hg ?ho ?hn ?hr ?_; (case ho => rfl); (case hg => rfl); (case hn => rfl); (case hr => first | (go_simp; done) | (go_simp; rfl)); intro w8 hw; have hg : wr.grownBy w8 (some go5) := (by rw [hw]; exact HP7.2); have hp_ : Kd.R (Kd.int .i64) 3 w8 w0.heap.size (fun k_ => (P0_ k_ ∨ w.heap.size ≤ k_)) (.slice (some ⟨go5, 0, none⟩) x0_1.length co6) y218 := (by rw [hw, Ny218.out]; exact HP7.1); clear HP7; have n0_ := q_ (hp_); replace HB := q_ ((by rw [hw]; exact below_set (HB.out) GB5.out : Below w0.heap.size w0 w8)); replace HK := q_ (Kept.of_grown (S := (fun k_ => P0_ k_)) hg (by exact kv HK.out) (fun k_ e_ => (HO_0.out.1 k_ e_))); clear HO_0; have HO_0 := n0_; clear n0_; clear hg hw hp_)); go_roundg k1
     case measure => have := HK1.out; omega
     case rel => exact ⟨(y218), (wrap64 (x1_1 + 1)), (wrap64 (x5_1 + 1)), eqv, eqv, H', ⟨by have := HK1.out; omega⟩, ⟨by exact Kd.R_v HO_0.out⟩, ⟨by exact kv HK.out⟩, ⟨by exact bv HB.out⟩⟩
    ·rw [if_neg c3] at H; have c3b0 : decide (x5_1 < (x0_1.length : Int)) = false := decide_eq_false c3; clear c3; simp only [Option.some.injEq, Prod.mk.injEq] at H; obtain ⟨rfl, rfl⟩ := H; obtain ⟨Ao9, co9, eo9⟩ := Kd.R_slice HO_0.out; subst eo9; go_wp2; go_ret; exact ⟨by first | rfl | (simp [errW_none, errW_some] <;> rfl) | (simp [*, errW_none, errW_some] <;> rfl), by exact Kd.R_v HO_0.out, by exact bv HB.out, by exact kv HK.out⟩

/-! ### laws_markIntSS: function 14 -/
/-- markIntS on the row inside element i: all else stays, the element has its marks. -/
theorem laws_markIntSS.inner {w0 w : World} {g n cap kq : Nat} {P : Nat → Prop} {xs : List (List Int)} {i a1 r1 : Int} {r2 : List Int} (h0 : 0 ≤ i) (h1 : i < n) (hB : Below w0.heap.size w0 w) (hS : Kd.S (Kd.slice 3 (Kd.int .i64)) 32 w w0.heap.size P (.slice (some ⟨g, 0, none⟩) n cap) xs) (h : laws_markIntS.f kq (rd_L1 xs i) a1 = some (r1, r2)) :
    ∃ v, w.cell? ⟨g, i.toNat, none⟩ = some v ∧ Calls Try.prog 26 #[v, .int .i64 a1] w fun e w' => e = .returned (.int .i64 r1) ∧ Kd.S (Kd.slice 3 (Kd.int .i64)) 32 w' w0.heap.size P (.slice (some ⟨g, 0, none⟩) n cap) (xs.set i.toNat r2) ∧ Below w0.heap.size w0 w' ∧ Kept w w' P := by
  obtain ⟨oki, c, hcl, hM, hcc, hoki, hH⟩ := Kd.S_lend hS [] i h0 h1
  obtain ⟨v, rfl, hR⟩ := hM
  refine ⟨v, by have h2 := hcc 0 v rfl; rw [show (Kd.slice 3 (Kd.int .i64)).sz = 1 from rfl, Nat.mul_one, Nat.add_zero] at h2; exact h2, (laws_markIntS.calls kq oki v _ a1 r1 r2 w0 w hB hR h).mono ?_⟩
  rintro e w' ⟨he, hR', hb, hk⟩
  exact ⟨he, Kd.H_back (Kd.H_kept hH hk (fun k _ hn => hn)) (⟨v, rfl, Kd.R_reok rfl hR' (fun k e => hR.1 k e)⟩ : (Kd.slice 3 (Kd.int .i64)).M w' w0.heap.size oki r2 [v]) (fun _ h => h), hb, hk.mono (fun k h => (hoki k h).1)⟩
def laws_markIntSS.l0 : Nat → List (List Int) → Int → Int → Option (Int × List (List Int))
  | 0, _, _, _ => none
  | k + 1, x0, x1, x5 => if x5 < (x0.length : Int) then (if 0 ≤ x5 then ((laws_markIntS.f k (rd_L1 x0 x5) x1).bind fun p => (laws_markIntSS.l0 k (x0.set (x5 : Int).toNat p.2) p.1 (wrap64 (x5 + 1)))) else (none)) else (some (x1, x0))
def laws_markIntSS.f (k : Nat) (l0 : List (List Int)) (a1 : Int) : Option (Int × List (List Int)) := laws_markIntSS.l0 k l0 a1 0
set_option maxHeartbeats 8000000 in
set_option maxRecDepth 100000 in
theorem laws_markIntSS.calls (k : Nat) (P0_ : Nat → Prop) (u9000_ : Value) (l0 : List (List Int)) (a1 : Int) (r1 : Int) (r2 : List (List Int)) (w0 w : World) (hB : Below w0.heap.size w0 w) (ho0 : Kd.S (Kd.slice 3 (Kd.int .i64)) 32 w w0.heap.size P0_ u9000_ l0) (h : laws_markIntSS.f k l0 a1 = some (r1, r2)) :
    Calls Try.prog 14 #[u9000_, .int .i64 a1] w fun e w' => e = .returned (.int .i64 r1) ∧ Kd.S (Kd.slice 3 (Kd.int .i64)) 32 w' w0.heap.size P0_ u9000_ r2 ∧ Below w0.heap.size w0 w' ∧ Kept w w' (fun k_ => P0_ k_) := by
  obtain ⟨Ao, co, eo⟩ := Kd.S_slice ho0
  subst eo
  have hgo : l0.length = 0 ∨ ∃ go, Ao = some ⟨go, 0, none⟩ := by
    by_cases hz : l0.length = 0
    · exact .inl hz
    · obtain ⟨g, cap, e, _⟩ := Kd.S_form ho0 (by omega)
      injection e with e1 _ _
      exact .inr ⟨g, e1⟩
  have HK := Aside0.mk (Kept.refl w P0_)
  have HB := Aside0.mk hB
  have H : (laws_markIntSS.l0 k l0 a1 0) = some (r1, r2) := h
  clear h
  have H' := Aside0.mk H
  clear H
  have HS := Aside0.mk ho0
  clear hB ho0
  obtain ⟨nl, hnl⟩ : ∃ nl, nl = l0.length := ⟨_, rfl⟩
  rw [← hnl] at HS hgo
  rw [← hnl]
  clear hnl
  go_enter Try.func14, Try.ntmps14
  go_wp2
  go_loopg [1, 5] k (fun kq v1 v5 w' => ∃ (x0_1 : List (List Int)) (x1_1 : Int) (x5_1 : Int), v1 = .int .i64 x1_1 ∧ v5 = .int .i64 x5_1 ∧ Aside0 (laws_markIntSS.l0 kq x0_1 x1_1 x5_1 = some (r1, r2)) ∧ Aside0 (kq ≤ k) ∧ Aside0 (Kd.S (Kd.slice 3 (Kd.int .i64)) 32 w' w0.heap.size P0_ (.slice Ao nl co) x0_1) ∧ Aside0 (Kept w w' P0_) ∧ Aside0 (Below w0.heap.size w0 w'))
  case atStart => exact ⟨(l0), (a1), (0), (by first | rfl | (simp; done) | (simp [*]; done)), (by first | rfl | (simp; done) | (simp [*]; done)), H', ⟨Nat.le_refl _⟩, ⟨by (with_reducible repeat (first | apply Kd.S_alloc | apply Kd.S_drewN | apply Kd.S_drew)); exact HS.out⟩, ⟨by repeat (first | (with_reducible first | exact HK.out | apply Kept.alloc | apply Kept.drewN | apply Kept.drew) | exact HK.out)⟩, ⟨by repeat (first | (with_reducible first | exact HB.out | apply below_alloc | apply pw_below_drewN | apply below_drew1) | exact HB.out)⟩⟩
  case round =>
    clear H' HS HK HB
    try clear c1
    try clear p2
    obtain ⟨x0_1, x1_1, x5_1, rfl, rfl, HA, HK1, HS, HK, HB⟩ := hrel
    have hlen := (Kd.S_reads' HS.out).1
    cases gk with
    | zero => exact absurd HA.out (by simp [laws_markIntSS.l0])
    | succ k1 =>
      have H := HA.out
      clear HA
      simp only [laws_markIntSS.l0] at H
      rw [← hlen] at H
      clear hlen
      by_cases c3 : x5_1 < (nl : Int)
      · rw [if_pos c3] at H
        have c3b0 : decide (x5_1 < (nl : Int)) = true := decide_eq_true c3
        by_cases c4 : 0 ≤ x5_1
        · rw [if_pos c4] at H
          have c4b0 : decide (0 ≤ x5_1) = true := decide_eq_true c4
          replace H := Option.bind_eq_some_iff.mp H
          obtain ⟨⟨p1, p2⟩, A0, H⟩ := H
          have H' := Aside0.mk H
          clear H
          obtain ⟨go, rfl⟩ := hgo.resolve_left (by omega)
          obtain ⟨v0, hx0, hcall⟩ := laws_markIntSS.inner c4 c3 HB.out HS.out A0
          have HC := Aside0.mk hcall
          clear hcall A0
          clear c3 c4
          have p5 : 0 ≤ (x5_1 : Int) := of_decide_eq_true (by first | (with_reducible assumption) | assumption)
          have q5 : (x5_1 : Int) < (nl : Int) := of_decide_eq_true (by first | (with_reducible assumption) | assumption)
          replace p5 := eq_true p5
          replace q5 := eq_true q5
          go_wp2_with (first | ((with_reducible refine gate_callee (f := 26) rfl ?_); refine goesL_ (some 17) rfl rfl Try.func26 (by kernel_rfl) rfl #[v0, .int .i64 x1_1] rfl (by (try simp only [List.map_toArray, List.map_cons, List.map_nil]); first | done | rfl) ?_; (refine HC.out.mono ?_); rintro e w8 ⟨rfl, hS, hb, hk⟩; refine ⟨_, rfl, ?_⟩; have n0_ := Aside0.mk hS; have n1_ := Aside0.mk hb; have n2_ := Aside0.mk (Kept.then_ HK.out hk (fun k_ h_ => .inl h_)); clear HS; clear HB; clear HK; have HS := n0_; have HB := n1_; have HK := n2_; clear n0_ n1_ n2_; clear hS hb hk))
          go_roundg k1
          case measure => have := HK1.out; omega
          case rel => exact ⟨(x0_1.set (x5_1 : Int).toNat p2), (p1), (wrap64 (x5_1 + 1)), (by first | rfl | (simp; done) | (simp [*]; done)), (by first | rfl | (simp; done) | (simp [*]; done)), H', ⟨by have := HK1.out; omega⟩, ⟨by (with_reducible repeat (first | apply Kd.S_alloc | apply Kd.S_drewN | apply Kd.S_drew)); exact HS.out⟩, ⟨by repeat (first | (with_reducible first | exact HK.out | apply Kept.alloc | apply Kept.drewN | apply Kept.drew) | exact HK.out)⟩, ⟨by repeat (first | (with_reducible first | exact HB.out | apply below_alloc | apply pw_below_drewN | apply below_drew1) | exact HB.out)⟩⟩
        · rw [if_neg c4] at H
          exact absurd H (by simp)
      · rw [if_neg c3] at H
        have c3b0 : decide (x5_1 < (nl : Int)) = false := decide_eq_false c3
        clear c3
        simp only [Option.some.injEq, Prod.mk.injEq] at H
        obtain ⟨rfl, rfl⟩ := H
        go_wp2
        go_ret
        exact ⟨by first | rfl | (simp [errW_none, errW_some] <;> rfl) | (simp [*, errW_none, errW_some] <;> rfl), by (with_reducible repeat (first | apply Kd.S_alloc | apply Kd.S_drewN | apply Kd.S_drew)); exact HS.out, by repeat (first | (with_reducible first | exact HB.out | apply below_alloc | apply pw_below_drewN | apply below_drew1) | exact HB.out), by repeat (first | (with_reducible first | exact HK.out | apply Kept.alloc | apply Kept.drewN | apply Kept.drew) | exact HK.out)⟩

/-! ### laws_heldIntS: function 31 -/
def laws_heldIntS.l0 : Nat → List Int → Int → Int → Option (Int)
  | 0, _, _, _ => none
  | k + 1, x0, x1, x5 => if x5 < (x0.length : Int) then (if 0 ≤ x5 then (if (rd x0 x5) = x1 then (laws_heldIntS.l0 k x0 (wrap64 (x1 + 1)) (wrap64 (x5 + 1))) else (some (-1))) else (none)) else (some x1)
def laws_heldIntS.f (k : Nat) (l0 : List Int) (a1 : Int) : Option (Int) := laws_heldIntS.l0 k l0 a1 0
set_option maxHeartbeats 8000000 in
set_option maxRecDepth 100000 in
theorem laws_heldIntS.calls (k : Nat) (A0 : Option Addr) (c0 : Nat) (l0 : List Int) (a1 : Int) (r : Int) (w : World) (hr0 : Kd.C (Kd.int .i64) w A0 l0.length l0) (hc0 : l0.length ≤ c0) (h : laws_heldIntS.f k l0 a1 = some r) :
    Calls Try.prog 31 #[.slice A0 l0.length c0, .int .i64 a1] w fun e w' => e = .returned (.int .i64 r) ∧ Drawn0 w w' := by
  have HR0 := q_ hr0; have HC0 := q_ hc0; clear hr0 hc0; have H : (laws_heldIntS.l0 k l0 a1 0) = some r := h; clear h; have H' := q_ H; clear H; go_enter Try.func31, Try.ntmps31; go_wp2; go_loopg [1, 5] k (fun kq v1 v5 w' => ∃ (x1_1 : Int) (x5_1 : Int), v1 = .int .i64 x1_1 ∧ v5 = .int .i64 x5_1 ∧ Aside0 (laws_heldIntS.l0 kq l0 x1_1 x5_1 = some r) ∧ Aside0 (kq ≤ k) ∧ Drawn0 w w')
  case atStart => exact ⟨(a1), (0), eqv, eqv, H', ⟨Nat.le_refl _⟩, by repeat (first | exact Drawn0.refl _ | apply Drawn0.step)⟩
  case round =>
   clear H'; obtain ⟨x1_1, x5_1, rfl, rfl, HA, HK1, ⟨m1, rfl⟩⟩ := hrel
   cases gk with
   | zero => exact absurd HA.out (by simp [laws_heldIntS.l0])
   | succ k1 =>
    have H := HA.out; clear HA; simp only [laws_heldIntS.l0] at H
    by_cases c3 : x5_1 < (l0.length : Int)
    ·rw [if_pos c3] at H; have c3b0 : decide (x5_1 < (l0.length : Int)) = true := decide_eq_true c3; clear c3
     obtain ⟨c4, H⟩ := ifp_ H; have c4b0 : decide (0 ≤ x5_1) = true := decide_eq_true c4; clear c4
     by_cases c5 : (rd l0 x5_1) = x1_1
     ·rw [if_pos c5] at H; have c5b0 : ((rd l0 x5_1) == x1_1) = true := beq_iff_eq.mpr c5; have c5b1 : ((rd l0 x5_1) != x1_1) = false := bne_eq_false_iff_eq.mpr c5; clear c5; have H' := q_ H; clear H; have p219 : 0 ≤ (x5_1 : Int) := od; have q219 : x5_1 < (l0.length : Int) := od; obtain ⟨ad219, e219, hx219_0⟩ := Kd.at_int HR0.out x5_1 p219 q219
      cases e219
      replace p219 := eq_true p219; replace q219 := eq_true q219; go_wp2; go_roundg k1
      case measure => have := HK1.out; omega
      case rel => exact ⟨(wrap64 (x1_1 + 1)), (wrap64 (x5_1 + 1)), eqv, eqv, H', ⟨by have := HK1.out; omega⟩, by repeat (first | exact Drawn0.refl _ | apply Drawn0.step)⟩
     ·rw [if_neg c5] at H; have c5b0 : ((rd l0 x5_1) == x1_1) = false := beq_eq_false_iff_ne.mpr c5; have c5b1 : ((rd l0 x5_1) != x1_1) = true := bne_iff_ne.mpr c5; obtain rfl := Option.some.inj H; have p219 : 0 ≤ (x5_1 : Int) := od; have q219 : x5_1 < (l0.length : Int) := od; obtain ⟨ad219, e219, hx219_0⟩ := Kd.at_int HR0.out x5_1 p219 q219
      cases e219
      replace p219 := eq_true p219; replace q219 := eq_true q219; go_wp2; go_ret; exact ⟨by first | rfl | (simp; done) | (simp [*]; done), by repeat (first | exact Drawn0.refl _ | apply Drawn0.step)⟩
    ·rw [if_neg c3] at H; have c3b0 : decide (x5_1 < (l0.length : Int)) = false := decide_eq_false c3; clear c3; obtain rfl := Option.some.inj H; go_wp2; go_ret; exact ⟨by first | rfl | (simp; done) | (simp [*]; done), by repeat (first | exact Drawn0.refl _ | apply Drawn0.step)⟩

/-! ### laws_heldIntSS: function 15 -/
def laws_heldIntSS.l0 : Nat → List (List Int) → Int → Int → Option (Int)
  | 0, _, _, _ => none
  | k + 1, x0, x1, x5 => if x5 < (x0.length : Int) then (if 0 ≤ x5 then ((laws_heldIntS.f k (rd_L1 x0 x5) x1).bind fun t221 => (if t221 < 0 then (some (-1)) else (laws_heldIntSS.l0 k x0 t221 (wrap64 (x5 + 1))))) else (none)) else (some x1)
def laws_heldIntSS.f (k : Nat) (l0 : List (List Int)) (a1 : Int) : Option (Int) := laws_heldIntSS.l0 k l0 a1 0
set_option maxHeartbeats 8000000 in
set_option maxRecDepth 100000 in
theorem laws_heldIntSS.calls (k : Nat) (A0 : Option Addr) (c0 : Nat) (l0 : List (List Int)) (a1 : Int) (r : Int) (w : World) (hr0 : Kd.C (Kd.slice 3 (Kd.int .i64)) w A0 l0.length l0) (hc0 : l0.length ≤ c0) (h : laws_heldIntSS.f k l0 a1 = some r) :
    Calls Try.prog 15 #[.slice A0 l0.length c0, .int .i64 a1] w fun e w' => e = .returned (.int .i64 r) ∧ Drawn0 w w' := by
  have HR0 := q_ hr0; have HC0 := q_ hc0; clear hr0 hc0; have H : (laws_heldIntSS.l0 k l0 a1 0) = some r := h; clear h; have H' := q_ H; clear H; go_enter Try.func15, Try.ntmps15; go_wp2; go_loopg [1, 5] k (fun kq v1 v5 w' => ∃ (x1_1 : Int) (x5_1 : Int), v1 = .int .i64 x1_1 ∧ v5 = .int .i64 x5_1 ∧ Aside0 (laws_heldIntSS.l0 kq l0 x1_1 x5_1 = some r) ∧ Aside0 (kq ≤ k) ∧ Drawn0 w w')
  case atStart => exact ⟨(a1), (0), eqv, eqv, H', ⟨Nat.le_refl _⟩, by repeat (first | exact Drawn0.refl _ | apply Drawn0.step)⟩
  case round =>
   clear H'; obtain ⟨x1_1, x5_1, rfl, rfl, HA, HK1, ⟨m1, rfl⟩⟩ := hrel
   cases gk with
   | zero => exact absurd HA.out (by simp [laws_heldIntSS.l0])
   | succ k1 =>
    have H := HA.out; clear HA; simp only [laws_heldIntSS.l0] at H
    by_cases c3 : x5_1 < (l0.length : Int)
    ·rw [if_pos c3] at H; have c3b0 : decide (x5_1 < (l0.length : Int)) = true := decide_eq_true c3; clear c3
     obtain ⟨c4, H⟩ := ifp_ H; have c4b0 : decide (0 ≤ x5_1) = true := decide_eq_true c4; clear c4; obtain ⟨t221, A5, H⟩ := bnd_ H; have HC6 := q_ H; clear H; have p220 : 0 ≤ (x5_1 : Int) := od; have q220 : x5_1 < (l0.length : Int) := od; obtain ⟨ad220, A220_0, c220_0, e220, hx220_0, hl220_0, hi220_0⟩ := at_L1 HR0.out x5_1 p220 q220
     cases e220
     have HR220_0 := q_ hi220_0; have HC220_0 := q_ hl220_0; clear hi220_0 hl220_0; replace p220 := eq_true p220; replace q220 := eq_true q220
     go_upto_if 19 with (first | (refine goesM (some 17) rfl rfl Try.func31 #[.slice A220_0 (rd_L1 l0 x5_1).length c220_0, .int .i64 x1_1] rfl ?_; (with_reducible refine (laws_heldIntS.calls k1 _ _ (rd_L1 l0 x5_1) x1_1 t221 _ ?side1 ?side2 A5.out).mono ?_); (case side1 => exact Kd.C_v HR220_0.out); (case side2 => exact HC220_0.out); rintro e w' ⟨rfl, ⟨nd, rfl⟩⟩; refine ⟨_, rfl, ?_⟩))
     (try simp only [Act.put, List.setIfInBounds_toArray, List.set_cons_zero, List.set_cons_succ]); have H := HC6.out; clear HC6
     by_cases c7 : t221 < 0
     ·rw [if_pos c7] at H; have c7b0 : decide (t221 < 0) = true := decide_eq_true c7; clear c7; (first | rw [c7b0] | (simp only [i64_w, i32_w]; rw [c7b0]) | skip); obtain rfl := Option.some.inj H; go_wp2; go_ret; exact ⟨by first | rfl | (simp; done) | (simp [*]; done), by repeat (first | exact Drawn0.refl _ | apply Drawn0.step)⟩
     ·rw [if_neg c7] at H; have c7b0 : decide (t221 < 0) = false := decide_eq_false c7; clear c7; (first | rw [c7b0] | (simp only [i64_w, i32_w]; rw [c7b0]) | skip); have H' := q_ H; clear H; go_wp2; go_roundg k1
      case measure => have := HK1.out; omega
      case rel => exact ⟨(t221), (wrap64 (x5_1 + 1)), eqv, eqv, H', ⟨by have := HK1.out; omega⟩, by repeat (first | exact Drawn0.refl _ | apply Drawn0.step)⟩
    ·rw [if_neg c3] at H; have c3b0 : decide (x5_1 < (l0.length : Int)) = false := decide_eq_false c3; clear c3; obtain rfl := Option.some.inj H; go_wp2; go_ret; exact ⟨by first | rfl | (simp; done) | (simp [*]; done), by repeat (first | exact Drawn0.refl _ | apply Drawn0.step)⟩

/-! ### laws_FnExactLeastMarks: function 3 -/
def laws_FnExactLeastMarks.f (k : Nat) (a0 : Int) (l1 : List (List Int)) : Option (Bool) := (laws_szIntSS.f k l1 1048576).bind fun t222 => (if t222 < 0 then (some true) else ((laws_toIntSS.f k l1).bind fun t223 => ((spec_LeastMarks.f k a0 t223).bind fun bt226 => ((laws_toIntSS.f k l1).bind fun t230 => ((impl_LeastMarks.f k a0 t230).bind fun bt233 => ((laws_eqIntSS.f k bt233.1 bt226.1).bind fun t237 => (if t237 = true then (if (bt233.2 != bt226.2) = true then (none) else ((laws_toIntSS.f k l1).bind fun t238 => ((laws_eqIntSS.f k t230 t238).bind fun t241 => (if t241 = true then ((laws_markIntSS.f k t230 1).bind fun bt242 => (if bt242.1 < 0 then (none) else ((laws_eqIntSS.f k bt233.1 bt226.1).bind fun t244 => (if t244 = true then ((laws_markIntSS.f k bt233.1 1).bind fun bt245 => ((laws_heldIntSS.f k bt245.2 1).bind fun t247 => (if t247 < 0 then (none) else (if t247 = bt245.1 then ((laws_toIntSS.f k l1).bind fun t248 => ((impl_LeastMarks.f k a0 t248).bind fun bt251 => ((laws_eqIntSS.f k bt251.1 bt226.1).bind fun t255 => (if t255 = true then (if (bt251.2 != bt226.2) = true then (none) else ((laws_heldIntSS.f k bt245.2 1).bind fun t256 => (if t256 < 0 then (none) else (if t256 = bt245.1 then (some true) else (none))))) else (none))))) else (none))))) else (none))))) else (none))))) else (none))))))))
set_option maxHeartbeats 8000000 in
set_option maxRecDepth 100000 in
theorem laws_FnExactLeastMarks.calls (k : Nat) (a0 : Int) (A1 : Option Addr) (c1 : Nat) (l1 : List (List Int)) (r : Bool) (w : World) (hr1 : Kd.C (Kd.slice 3 (Kd.int .i64)) w A1 l1.length l1) (hc1 : l1.length ≤ c1) (h : laws_FnExactLeastMarks.f k a0 l1 = some r) :
    Calls Try.prog 3 #[.int .i64 a0, .slice A1 l1.length c1] w fun e w' => e = .returned (.bool r) ∧ Below w.heap.size w w' := by
  have HR1 := q_ hr1; have HC1 := q_ hc1; clear hr1 hc1; have HB := q_ (Below.refl w.heap.size w); have H : ((laws_szIntSS.f k l1 1048576).bind fun t222 => (if t222 < 0 then (some true) else ((laws_toIntSS.f k l1).bind fun t223 => ((spec_LeastMarks.f k a0 t223).bind fun bt226 => ((laws_toIntSS.f k l1).bind fun t230 => ((impl_LeastMarks.f k a0 t230).bind fun bt233 => ((laws_eqIntSS.f k bt233.1 bt226.1).bind fun t237 => (if t237 = true then (if (bt233.2 != bt226.2) = true then (none) else ((laws_toIntSS.f k l1).bind fun t238 => ((laws_eqIntSS.f k t230 t238).bind fun t241 => (if t241 = true then ((laws_markIntSS.f k t230 1).bind fun bt242 => (if bt242.1 < 0 then (none) else ((laws_eqIntSS.f k bt233.1 bt226.1).bind fun t244 => (if t244 = true then ((laws_markIntSS.f k bt233.1 1).bind fun bt245 => ((laws_heldIntSS.f k bt245.2 1).bind fun t247 => (if t247 < 0 then (none) else (if t247 = bt245.1 then ((laws_toIntSS.f k l1).bind fun t248 => ((impl_LeastMarks.f k a0 t248).bind fun bt251 => ((laws_eqIntSS.f k bt251.1 bt226.1).bind fun t255 => (if t255 = true then (if (bt251.2 != bt226.2) = true then (none) else ((laws_heldIntSS.f k bt245.2 1).bind fun t256 => (if t256 < 0 then (none) else (if t256 = bt245.1 then (some true) else (none))))) else (none))))) else (none))))) else (none))))) else (none))))) else (none))))))))) = some r := h; clear h; obtain ⟨t222, A3, H⟩ := bnd_ H
  by_cases c4 : t222 < 0
  ·rw [if_pos c4] at H; have c4b0 : decide (t222 < 0) = true := decide_eq_true c4; clear c4; obtain rfl := Option.some.inj H; go_enter Try.func3, Try.ntmps3; go_wp2_with (first | (refine goesM (some 18) rfl rfl Try.func9 #[.slice A1 l1.length c1, .int .i64 1048576] rfl ?_; (with_reducible refine (laws_szIntSS.calls k _ _ l1 1048576 t222 _ ?side1 ?side2 A3.out).mono ?_); (case side1 => exact Kd.C_v HR1.out); (case side2 => exact HC1.out); rintro e w' ⟨rfl, ⟨nd, rfl⟩⟩; refine ⟨_, rfl, ?_⟩)); go_ret; exact fin_ (by exact bv HB.out)
  ·rw [if_neg c4] at H; have c4b0 : decide (t222 < 0) = false := decide_eq_false c4; clear c4; obtain ⟨t223, A5, H⟩ := bnd_ H; replace H := Option.bind_eq_some_iff.mp H; obtain ⟨⟨t226, t229⟩, A60, H⟩ := H; replace H : ((laws_toIntSS.f k l1).bind fun t230 => ((impl_LeastMarks.f k a0 t230).bind fun bt233 => ((laws_eqIntSS.f k bt233.1 t226).bind fun t237 => (if t237 = true then (if (bt233.2 != t229) = true then (none) else ((laws_toIntSS.f k l1).bind fun t238 => ((laws_eqIntSS.f k t230 t238).bind fun t241 => (if t241 = true then ((laws_markIntSS.f k t230 1).bind fun bt242 => (if bt242.1 < 0 then (none) else ((laws_eqIntSS.f k bt233.1 t226).bind fun t244 => (if t244 = true then ((laws_markIntSS.f k bt233.1 1).bind fun bt245 => ((laws_heldIntSS.f k bt245.2 1).bind fun t247 => (if t247 < 0 then (none) else (if t247 = bt245.1 then ((laws_toIntSS.f k l1).bind fun t248 => ((impl_LeastMarks.f k a0 t248).bind fun bt251 => ((laws_eqIntSS.f k bt251.1 t226).bind fun t255 => (if t255 = true then (if (bt251.2 != t229) = true then (none) else ((laws_heldIntSS.f k bt245.2 1).bind fun t256 => (if t256 < 0 then (none) else (if t256 = bt245.1 then (some true) else (none))))) else (none))))) else (none))))) else (none))))) else (none))))) else (none))))) = some r := H; have A6 := q_ A60; clear A60; obtain ⟨t230, A7, H⟩ := bnd_ H; replace H := Option.bind_eq_some_iff.mp H; obtain ⟨⟨t233, t234⟩, A80, H⟩ := H; replace H : ((laws_eqIntSS.f k t233 t226).bind fun t237 => (if t237 = true then (if (t234 != t229) = true then (none) else ((laws_toIntSS.f k l1).bind fun t238 => ((laws_eqIntSS.f k t230 t238).bind fun t241 => (if t241 = true then ((laws_markIntSS.f k t230 1).bind fun bt242 => (if bt242.1 < 0 then (none) else ((laws_eqIntSS.f k t233 t226).bind fun t244 => (if t244 = true then ((laws_markIntSS.f k t233 1).bind fun bt245 => ((laws_heldIntSS.f k bt245.2 1).bind fun t247 => (if t247 < 0 then (none) else (if t247 = bt245.1 then ((laws_toIntSS.f k l1).bind fun t248 => ((impl_LeastMarks.f k a0 t248).bind fun bt251 => ((laws_eqIntSS.f k bt251.1 t226).bind fun t255 => (if t255 = true then (if (bt251.2 != t229) = true then (none) else ((laws_heldIntSS.f k bt245.2 1).bind fun t256 => (if t256 < 0 then (none) else (if t256 = bt245.1 then (some true) else (none))))) else (none))))) else (none))))) else (none))))) else (none))))) else (none))) = some r := H; have A8 := q_ A80; clear A80; obtain ⟨t237, A9, H⟩ := bnd_ H
   by_cases c10 : t237 = true
   case neg => (replace c10 := Bool.eq_false_iff.mpr c10); subst c10; rw [if_neg (show ¬ (false = true) by decide)] at H; exact absurd H (by simp)
   subst c10; replace H := itt_ H
   obtain ⟨c11, H⟩ := ifn_ H; (have c11b0 : (t234 != t229) = false := by simpa using c11); (try (have c11b1 : decide (t234 = t229) = true := by simpa using c11)); (try (have c11b2 : (t234 == t229) = true := by simpa using c11)); clear c11; obtain ⟨t238, A12, H⟩ := bnd_ H; obtain ⟨t241, A13, H⟩ := bnd_ H
   by_cases c14 : t241 = true
   case neg => (replace c14 := Bool.eq_false_iff.mpr c14); subst c14; rw [if_neg (show ¬ (false = true) by decide)] at H; exact absurd H (by simp)
   subst c14; replace H := itt_ H; replace H := Option.bind_eq_some_iff.mp H; obtain ⟨⟨t242, t243⟩, A150, H⟩ := H; replace H : (if t242 < 0 then (none) else ((laws_eqIntSS.f k t233 t226).bind fun t244 => (if t244 = true then ((laws_markIntSS.f k t233 1).bind fun bt245 => ((laws_heldIntSS.f k bt245.2 1).bind fun t247 => (if t247 < 0 then (none) else (if t247 = bt245.1 then ((laws_toIntSS.f k l1).bind fun t248 => ((impl_LeastMarks.f k a0 t248).bind fun bt251 => ((laws_eqIntSS.f k bt251.1 t226).bind fun t255 => (if t255 = true then (if (bt251.2 != t229) = true then (none) else ((laws_heldIntSS.f k bt245.2 1).bind fun t256 => (if t256 < 0 then (none) else (if t256 = bt245.1 then (some true) else (none))))) else (none))))) else (none))))) else (none)))) = some r := H; have A15 := q_ A150; clear A150
   obtain ⟨c16, H⟩ := ifn_ H; have c16b0 : decide (t242 < 0) = false := decide_eq_false c16; clear c16; obtain ⟨t244, A17, H⟩ := bnd_ H
   by_cases c18 : t244 = true
   case neg => (replace c18 := Bool.eq_false_iff.mpr c18); subst c18; rw [if_neg (show ¬ (false = true) by decide)] at H; exact absurd H (by simp)
   subst c18; replace H := itt_ H; replace H := Option.bind_eq_some_iff.mp H; obtain ⟨⟨t245, t246⟩, A190, H⟩ := H; replace H : ((laws_heldIntSS.f k t246 1).bind fun t247 => (if t247 < 0 then (none) else (if t247 = t245 then ((laws_toIntSS.f k l1).bind fun t248 => ((impl_LeastMarks.f k a0 t248).bind fun bt251 => ((laws_eqIntSS.f k bt251.1 t226).bind fun t255 => (if t255 = true then (if (bt251.2 != t229) = true then (none) else ((laws_heldIntSS.f k t246 1).bind fun t256 => (if t256 < 0 then (none) else (if t256 = t245 then (some true) else (none))))) else (none))))) else (none)))) = some r := H; have A19 := q_ A190; clear A190; obtain ⟨t247, A20, H⟩ := bnd_ H
   obtain ⟨c21, H⟩ := ifn_ H; have c21b0 : decide (t247 < 0) = false := decide_eq_false c21; clear c21
   obtain ⟨c22, H⟩ := ifp_ H; have c22b0 : (t247 == t245) = true := beq_iff_eq.mpr c22; have c22b1 : (t247 != t245) = false := bne_eq_false_iff_eq.mpr c22; clear c22; obtain ⟨t248, A23, H⟩ := bnd_ H; replace H := Option.bind_eq_some_iff.mp H; obtain ⟨⟨t251, t252⟩, A240, H⟩ := H; replace H : ((laws_eqIntSS.f k t251 t226).bind fun t255 => (if t255 = true then (if (t252 != t229) = true then (none) else ((laws_heldIntSS.f k t246 1).bind fun t256 => (if t256 < 0 then (none) else (if t256 = t245 then (some true) else (none))))) else (none))) = some r := H; have A24 := q_ A240; clear A240; obtain ⟨t255, A25, H⟩ := bnd_ H
   by_cases c26 : t255 = true
   case neg => (replace c26 := Bool.eq_false_iff.mpr c26); subst c26; rw [if_neg (show ¬ (false = true) by decide)] at H; exact absurd H (by simp)
   subst c26; replace H := itt_ H
   obtain ⟨c27, H⟩ := ifn_ H; (have c27b0 : (t252 != t229) = false := by simpa using c27); (try (have c27b1 : decide (t252 = t229) = true := by simpa using c27)); (try (have c27b2 : (t252 == t229) = true := by simpa using c27)); clear c27; obtain ⟨t256, A28, H⟩ := bnd_ H
   obtain ⟨c29, H⟩ := ifn_ H; have c29b0 : decide (t256 < 0) = false := decide_eq_false c29; clear c29
   obtain ⟨c30, H⟩ := ifp_ H; have c30b0 : (t256 == t245) = true := beq_iff_eq.mpr c30; have c30b1 : (t256 != t245) = false := bne_eq_false_iff_eq.mpr c30; clear c30; obtain rfl := Option.some.inj H; go_enter Try.func3, Try.ntmps3; go_wp2_with (first | (refine goesM (some 18) rfl rfl Try.func9 #[.slice A1 l1.length c1, .int .i64 1048576] rfl ?_; (with_reducible refine (laws_szIntSS.calls k _ _ l1 1048576 t222 _ ?side1 ?side2 A3.out).mono ?_); (case side1 => exact Kd.C_v HR1.out); (case side2 => exact HC1.out); rintro e w' ⟨rfl, ⟨nd, rfl⟩⟩; refine ⟨_, rfl, ?_⟩) | (refine goesM (some 24) rfl rfl Try.func11 #[.slice A1 l1.length c1] rfl ?_; (with_reducible refine (laws_toIntSS.calls k _ _ l1 t223 _ ?side1 ?side2 A5.out).mono ?_); (case side1 => exact Kd.C_v HR1.out); (case side2 => exact HC1.out); rintro e w31 ⟨v224, rfl, ho0, hb⟩; refine ⟨_, rfl, ?_⟩; have HO225 := q_ (Kd.S_lower (Kd.S_iv (lo := w.heap.size) ho0 (Nat.le_refl _)) (below_size (by exact bv HB.out))); have HZw31 := q_ ((hz_ hb : w.heap.size ≤ w31.heap.size)); replace HB := q_ (below_step (by exact bv HB.out) hb); (try clear hb); (try clear hb2); (try clear hk); (try clear hi); (try clear ho0); obtain ⟨Ao32, co32, eo32⟩ := Kd.S_slice HO225.out; subst eo32) | (refine goesM (some 25) rfl rfl Try.func10 #[.int .i64 a0, .slice Ao32 t223.length co32] rfl ?_; (with_reducible refine (spec_LeastMarks.calls k a0 _ _ t223 t226 t229 _ ?side1 ?side2 A6.out).mono ?_); (case side1 => exact Kd.C_v ((Kd.S_reads' HO225.out).2.2)); (case side2 => exact (Kd.S_reads' HO225.out).2.1); rintro e w33 ⟨v227, rfl, ho0, hb⟩; refine ⟨_, rfl, ?_⟩; have HO228 := q_ (Kd.V_lower (Kd.V_mono (ok' := fun k_ => some k_ ≠ (.slice Ao32 t223.length co32 : Value).ownBlock ∧ (w31.heap.size ≤ k_ ∧ k_ < w33.heap.size)) (Kd.V_bound ho0) (fun k_ hk_ => ⟨(Kd.fresh' (Kd.S_lt (by exact Kd.S_v HO225.out)) k_ hk_.1), ⟨Nat.le_trans (Nat.le_refl _) hk_.1, hk_.2⟩⟩)) (below_size (by exact bv HB.out))); have HZw33 := q_ ((hz_ hb : w31.heap.size ≤ w33.heap.size)); replace HO225 := q_ (Kd.S_below (by exact Kd.S_v HO225.out) hb); replace HB := q_ (below_step (by exact bv HB.out) hb); (try clear hb); (try clear hb2); (try clear hk); (try clear hi); (try clear ho0); clear HO225) | (refine goesM (some 29) rfl rfl Try.func11 #[.slice A1 l1.length c1] rfl ?_; (with_reducible refine (laws_toIntSS.calls k _ _ l1 t230 _ ?side1 ?side2 A7.out).mono ?_); (case side1 => exact Kd.C_v ((Kd.C_below HR1.out HB.out))); (case side2 => exact HC1.out); rintro e w34 ⟨v231, rfl, ho0, hb⟩; refine ⟨_, rfl, ?_⟩; have HO232 := q_ (Kd.S_lower (Kd.S_iv (lo := w33.heap.size) ho0 (Nat.le_refl _)) (below_size (by exact bv HB.out))); have HZw34 := q_ ((hz_ hb : w33.heap.size ≤ w34.heap.size)); replace HO228 := q_ (Kd.V_elder' (by exact Kd.V_v HO228.out) (Kd.S_base ho0) hb); replace HB := q_ (below_step (by exact bv HB.out) hb); (try clear hb); (try clear hb2); (try clear hk); (try clear hi); (try clear ho0); obtain ⟨Ao35, co35, eo35⟩ := Kd.S_slice HO232.out; subst eo35) | (refine goesM (some 33) rfl rfl Try.func12 #[.int .i64 a0, .slice Ao35 t230.length co35] rfl ?_; (with_reducible refine (impl_LeastMarks.calls k a0 _ _ t230 t233 t234 _ ?side1 ?side2 A8.out).mono ?_); (case side1 => exact Kd.C_v ((Kd.S_reads' HO232.out).2.2)); (case side2 => exact (Kd.S_reads' HO232.out).2.1); rintro e w36 ⟨v235, rfl, ho0, hb⟩; refine ⟨_, rfl, ?_⟩; have HO236 := q_ (Kd.S_lower (Kd.S_new' (Kd.S_iv (lo := w34.heap.size) ho0 (Nat.le_refl _)) (Kd.S_lt (by exact Kd.S_v HO232.out))) (below_size (by exact bv HB.out))); have HZw36 := q_ ((hz_ hb : w34.heap.size ≤ w36.heap.size)); replace HO228 := q_ (Kd.V_elder' (by exact Kd.V_v HO228.out) (Kd.S_base ho0) hb); replace HO232 := q_ (Kd.S_elder' (by exact Kd.S_v HO232.out) (Kd.S_base ho0) hb); replace HB := q_ (below_step (by exact bv HB.out) hb); (try clear hb); (try clear hb2); (try clear hk); (try clear hi); (try clear ho0); obtain ⟨Ao37, co37, eo37⟩ := Kd.S_slice HO236.out; subst eo37; obtain ⟨Ao38, co38, eo38⟩ := Kd.V_slice HO228.out; subst eo38) | (refine goesM (some 38) rfl rfl Try.func13 #[.slice Ao37 t233.length co37, .slice Ao38 t226.length co38] rfl ?_; (with_reducible refine (laws_eqIntSS.calls k _ _ t233 _ _ t226 true _ ?side1 ?side2 ?side3 ?side4 A9.out).mono ?_); (case side1 => exact Kd.C_v ((Kd.S_reads' HO236.out).2.2)); (case side2 => exact (Kd.S_reads' HO236.out).2.1); (case side3 => exact Kd.C_v ((Kd.V_reads' HO228.out).2.2)); (case side4 => exact (Kd.V_reads' HO228.out).2.1); rintro e w' ⟨rfl, ⟨nd, rfl⟩⟩; refine ⟨_, rfl, ?_⟩) | (refine goesM (some 47) rfl rfl Try.func11 #[.slice A1 l1.length c1] rfl ?_; (with_reducible refine (laws_toIntSS.calls k _ _ l1 t238 _ ?side1 ?side2 A12.out).mono ?_); (case side1 => exact (Kd.C_below HR1.out (by exact bv HB.out))); (case side2 => exact HC1.out); rintro e w39 ⟨v239, rfl, ho0, hb⟩; refine ⟨_, rfl, ?_⟩; have HO240 := q_ (Kd.S_lower (Kd.S_new' (Kd.S_new' (Kd.S_iv (lo := w36.heap.size) ho0 (Nat.le_refl _)) (Kd.S_lt (by exact Kd.S_v HO232.out))) (Kd.S_lt (by exact Kd.S_v HO236.out))) (below_size (by exact bv HB.out))); have HZw39 := q_ ((hz_ hb : w36.heap.size ≤ w39.heap.size)); replace HO228 := q_ (Kd.V_elder' (by exact Kd.V_v HO228.out) (Kd.S_base ho0) hb); replace HO232 := q_ (Kd.S_elder' (by exact Kd.S_v HO232.out) (Kd.S_base ho0) hb); replace HO236 := q_ (Kd.S_elder' (by exact Kd.S_v HO236.out) (Kd.S_base ho0) hb); replace HB := q_ (below_step (by exact bv HB.out) hb); (try clear hb); (try clear hb2); (try clear hk); (try clear hi); (try clear ho0); obtain ⟨Ao40, co40, eo40⟩ := Kd.S_slice HO240.out; subst eo40) | (refine goesM (some 48) rfl rfl Try.func13 #[.slice Ao35 t230.length co35, .slice Ao40 t238.length co40] rfl ?_; (with_reducible refine (laws_eqIntSS.calls k _ _ t230 _ _ t238 true _ ?side1 ?side2 ?side3 ?side4 A13.out).mono ?_); (case side1 => exact Kd.C_v ((Kd.S_reads' HO232.out).2.2)); (case side2 => exact (Kd.S_reads' HO232.out).2.1); (case side3 => exact Kd.C_v ((Kd.S_reads' HO240.out).2.2)); (case side4 => exact (Kd.S_reads' HO240.out).2.1); rintro e w' ⟨rfl, ⟨nd, rfl⟩⟩; refine ⟨_, rfl, ?_⟩; clear HO240) | (refine goesM (some 52) rfl rfl Try.func14 #[.slice Ao35 t230.length co35, .int .i64 1] rfl ?_; (with_reducible refine (laws_markIntSS.calls k (fun k_ => (w33.heap.size ≤ k_ ∧ k_ < w34.heap.size)) (.slice Ao35 t230.length co35) t230 1 t242 t243 w _ ?side1 ?side2 A15.out).mono ?_); (case side1 => exact bv HB.out); (case side2 => exact Kd.S_mono (Kd.S_v HO232.out) (fun k_ hk => hk.1.1.2)); rintro e w41 ⟨rfl, hy0, hb, hkp⟩; refine ⟨_, rfl, ?_⟩; have HZw41 := q_ ((hkp.1 : w39.heap.size ≤ w41.heap.size)); replace HO228 := q_ (Kd.V_kept (by exact Kd.V_v HO228.out) hkp (fun k_ hk_ hs_ => (fun h_ => by have i1_ := hk_.1.1.1.2; have i2_ := h_; have z0_ := HZw31.out; have z1_ := HZw33.out; have z2_ := HZw34.out; have z3_ := HZw36.out; have z4_ := HZw39.out; omega) hs_)); replace HO232 := q_ (hy0); replace HO236 := q_ (Kd.S_kept (by exact Kd.S_v HO236.out) hkp (fun k_ hk_ hs_ => (fun h_ => by have i1_ := hk_.1.1.2; have i2_ := h_; have z0_ := HZw31.out; have z1_ := HZw33.out; have z2_ := HZw34.out; have z3_ := HZw36.out; have z4_ := HZw39.out; omega) hs_)); replace HB := q_ (hb); (try clear hb); (try clear hkp); (try clear hy0); clear HO232) | (go_at_call 13; (with_reducible refine (laws_eqIntSS.calls k _ _ t233 _ _ t226 true _ ?side1 ?side2 ?side3 ?side4 A17.out).mono ?_); (case side1 => exact Kd.C_v ((Kd.S_reads' HO236.out).2.2)); (case side2 => exact (Kd.S_reads' HO236.out).2.1); (case side3 => exact Kd.C_v ((Kd.V_reads' HO228.out).2.2)); (case side4 => exact (Kd.V_reads' HO228.out).2.1); rintro e w' ⟨rfl, ⟨nd, rfl⟩⟩) | (refine goesM (some 68) rfl rfl Try.func14 #[.slice Ao37 t233.length co37, .int .i64 1] rfl ?_; (with_reducible refine (laws_markIntSS.calls k (fun k_ => (w34.heap.size ≤ k_ ∧ k_ < w36.heap.size)) (.slice Ao37 t233.length co37) t233 1 t245 t246 w _ ?side1 ?side2 A19.out).mono ?_); (case side1 => exact bv HB.out); (case side2 => exact Kd.S_mono (Kd.S_v HO236.out) (fun k_ hk => hk.1.1.2)); rintro e w42 ⟨rfl, hy0, hb, hkp⟩; refine ⟨_, rfl, ?_⟩; have HZw42 := q_ ((hkp.1 : w41.heap.size ≤ w42.heap.size)); replace HO228 := q_ (Kd.V_kept (by exact Kd.V_v HO228.out) hkp (fun k_ hk_ hs_ => (fun h_ => by have i1_ := hk_.1.1.1.2; have i2_ := h_; have z0_ := HZw31.out; have z1_ := HZw33.out; have z2_ := HZw34.out; have z3_ := HZw36.out; have z4_ := HZw39.out; have z5_ := HZw41.out; omega) hs_)); replace HO236 := q_ (hy0); replace HB := q_ (hb); (try clear hb); (try clear hkp); (try clear hy0)) | ((with_reducible refine gate_callee (f := 15) rfl ?_); refine goesL_ (some 71) rfl rfl Try.func15 (by kernel_rfl) rfl #[.slice Ao37 t246.length co37, .int .i64 1] rfl (by (try simp only [List.map_toArray, List.map_cons, List.map_nil]); first | done | (rw [show t246.length = t233.length from (Kd.S_reads' HO236.out).1.symm] <;> rfl) | rfl | (simp only [List.length_drop, List.length_take]; rfl)) ?_; (with_reducible refine (laws_heldIntSS.calls k _ _ t246 1 t247 _ ?side1 ?side2 A20.out).mono ?_); (case side1 => exact Kd.C_v ((Kd.S_reads' HO236.out).2.2)); (case side2 => rw [show t246.length = t233.length from (Kd.S_reads' HO236.out).1.symm]; exact (Kd.S_reads' HO236.out).2.1); rintro e w' ⟨rfl, ⟨nd, rfl⟩⟩; refine ⟨_, rfl, ?_⟩) | (refine goesM (some 80) rfl rfl Try.func11 #[.slice A1 l1.length c1] rfl ?_; (with_reducible refine (laws_toIntSS.calls k _ _ l1 t248 _ ?side1 ?side2 A23.out).mono ?_); (case side1 => exact (Kd.C_below HR1.out (by exact bv HB.out))); (case side2 => exact HC1.out); rintro e w43 ⟨v249, rfl, ho0, hb⟩; refine ⟨_, rfl, ?_⟩; have HO250 := q_ (Kd.S_lower (Kd.S_new' (Kd.S_iv (lo := w42.heap.size) ho0 (Nat.le_refl _)) (Kd.S_lt (by exact Kd.S_v HO236.out))) (below_size (by exact bv HB.out))); have HZw43 := q_ ((hz_ hb : w42.heap.size ≤ w43.heap.size)); replace HO228 := q_ (Kd.V_elder' (by exact Kd.V_v HO228.out) (Kd.S_base ho0) hb); replace HO236 := q_ (Kd.S_elder' (by exact Kd.S_v HO236.out) (Kd.S_base ho0) hb); replace HB := q_ (below_step (by exact bv HB.out) hb); (try clear hb); (try clear hb2); (try clear hk); (try clear hi); (try clear ho0); obtain ⟨Ao44, co44, eo44⟩ := Kd.S_slice HO250.out; subst eo44) | (refine goesM (some 81) rfl rfl Try.func12 #[.int .i64 a0, .slice Ao44 t248.length co44] rfl ?_; (with_reducible refine (impl_LeastMarks.calls k a0 _ _ t248 t251 t252 _ ?side1 ?side2 A24.out).mono ?_); (case side1 => exact Kd.C_v ((Kd.S_reads' HO250.out).2.2)); (case side2 => exact (Kd.S_reads' HO250.out).2.1); rintro e w45 ⟨v253, rfl, ho0, hb⟩; refine ⟨_, rfl, ?_⟩; have HO254 := q_ (Kd.S_lower (Kd.S_new' (Kd.S_new' (Kd.S_iv (lo := w43.heap.size) ho0 (Nat.le_refl _)) (Kd.S_lt (by exact Kd.S_v HO236.out))) (Kd.S_lt (by exact Kd.S_v HO250.out))) (below_size (by exact bv HB.out))); have HZw45 := q_ ((hz_ hb : w43.heap.size ≤ w45.heap.size)); replace HO228 := q_ (Kd.V_elder' (by exact Kd.V_v HO228.out) (Kd.S_base ho0) hb); replace HO236 := q_ (Kd.S_elder' (by exact Kd.S_v HO236.out) (Kd.S_base ho0) hb); replace HO250 := q_ (Kd.S_elder' (by exact Kd.S_v HO250.out) (Kd.S_base ho0) hb); replace HB := q_ (below_step (by exact bv HB.out) hb); (try clear hb); (try clear hb2); (try clear hk); (try clear hi); (try clear ho0); clear HO250; obtain ⟨Ao46, co46, eo46⟩ := Kd.S_slice HO254.out; subst eo46) | (refine goesM (some 86) rfl rfl Try.func13 #[.slice Ao46 t251.length co46, .slice Ao38 t226.length co38] rfl ?_; (with_reducible refine (laws_eqIntSS.calls k _ _ t251 _ _ t226 true _ ?side1 ?side2 ?side3 ?side4 A25.out).mono ?_); (case side1 => exact Kd.C_v ((Kd.S_reads' HO254.out).2.2)); (case side2 => exact (Kd.S_reads' HO254.out).2.1); (case side3 => exact Kd.C_v ((Kd.V_reads' HO228.out).2.2)); (case side4 => exact (Kd.V_reads' HO228.out).2.1); rintro e w' ⟨rfl, ⟨nd, rfl⟩⟩; refine ⟨_, rfl, ?_⟩; clear HO228 HO254) | ((with_reducible refine gate_callee (f := 15) rfl ?_); refine goesL_ (some 95) rfl rfl Try.func15 (by kernel_rfl) rfl #[.slice Ao37 t246.length co37, .int .i64 1] rfl (by (try simp only [List.map_toArray, List.map_cons, List.map_nil]); first | done | (rw [show t246.length = t233.length from (Kd.S_reads' HO236.out).1.symm] <;> rfl) | rfl | (simp only [List.length_drop, List.length_take]; rfl)) ?_; (with_reducible refine (laws_heldIntSS.calls k _ _ t246 1 t256 _ ?side1 ?side2 A28.out).mono ?_); (case side1 => exact Kd.C_v ((Kd.S_reads' HO236.out).2.2)); (case side2 => rw [show t246.length = t233.length from (Kd.S_reads' HO236.out).1.symm]; exact (Kd.S_reads' HO236.out).2.1); rintro e w' ⟨rfl, ⟨nd, rfl⟩⟩; refine ⟨_, rfl, ?_⟩)); go_ret; exact fin_ (by exact bv HB.out)

/-- THE ONE PURE STATEMENT of laws_FnExactLeastMarks: yours. -/
def laws_FnExactLeastMarks.Pure : Prop := ∀ (a0 : Int) (l1 : List (List Int)), ((Lit.int .i64 a0).wf = true) → ((l1.length ≤ maxLen ∧ ∀ e1_ ∈ l1, (e1_.length ≤ maxLen ∧ ∀ e2_ ∈ e1_, (Lit.int .i64 e2_).wf = true))) → ∃ k, laws_FnExactLeastMarks.f k a0 l1 = some true
theorem laws_FnExactLeastMarks.walk (P : laws_FnExactLeastMarks.Pure) (a0 : Int) (A1 : Option Addr) (c1 : Nat) (l1 : List (List Int)) (w : World) (hr1 : Kd.C (Kd.slice 3 (Kd.int .i64)) w A1 l1.length l1) (hc1 : l1.length ≤ c1) (g0_ : (Lit.int .i64 a0).wf = true) (g1_ : (l1.length ≤ maxLen ∧ ∀ e1_ ∈ l1, (e1_.length ≤ maxLen ∧ ∀ e2_ ∈ e1_, (Lit.int .i64 e2_).wf = true))) :
   Calls Try.prog 3 #[.int .i64 a0, .slice A1 l1.length c1] w fun e w' => e = .returned (.bool true) ∧ Below w.heap.size w w' := by
  obtain ⟨k, h⟩ := P a0 l1 g0_ g1_; refine (laws_FnExactLeastMarks.calls k a0 _ _ l1 true w hr1 hc1 h).mono ?_; rintro e w' ⟨rfl, hd⟩; exact ⟨rfl, hd⟩

end Go.Proofs.Ytiglhdibibbkjaa.F
