-- Written by a program of this session (fork.py, fprint.sh). Lean checks it.
import Derived.Test.YtiglhdibibbkjaaF0
namespace Go.Proofs.Ytiglhdibibbkjaa.F
open Go.RowKit Go.Proofs.YtiglhdibibbkjaaW.PrintWords Go.Proofs.YtiglhdibibbkjaaW.PrintLast Go.Proofs.YtiglhdibibbkjaaW.PrintMore
attribute [local go_sem] max2_int min2_int max_two min_two max_three min_three max_four min_four   -- for this text's walks alone
set_option linter.unusedVariables false
set_option linter.unusedSimpArgs false

/-! ### laws_szIntS: function 41 -/
def laws_szIntS.f (l0 : List Int) (a1 : Int) : Option (Int) := if (wrap64 (a1 - (l0.length : Int))) < 0 then (some (-1)) else (some (wrap64 (a1 - (l0.length : Int))))
set_option maxHeartbeats 8000000 in
set_option maxRecDepth 100000 in
theorem laws_szIntS.calls (A0 : Option Addr) (c0 : Nat) (l0 : List Int) (a1 : Int) (r : Int) (w : World) (hr0 : Kd.C (Kd.int .i64) w A0 l0.length l0) (hc0 : l0.length ≤ c0) (h : laws_szIntS.f l0 a1 = some r) :
    Calls Try.prog 41 #[.slice A0 l0.length c0, .int .i64 a1] w fun e w' => e = .returned (.int .i64 r) ∧ Drawn0 w w' := by
  have HR0 := q_ hr0; have HC0 := q_ hc0; clear hr0 hc0; have H : (if (wrap64 (a1 - (l0.length : Int))) < 0 then (some (-1)) else (some (wrap64 (a1 - (l0.length : Int))))) = some r := h; clear h
  by_cases c3 : (wrap64 (a1 - (l0.length : Int))) < 0
  ·rw [if_pos c3] at H; have c3b0 : decide ((wrap64 (a1 - (l0.length : Int))) < 0) = true := decide_eq_true c3; clear c3; obtain rfl := Option.some.inj H; go_enter Try.func41, Try.ntmps41; go_wp2; go_ret; exact ⟨by first | rfl | (simp; done) | (simp [*]; done), by repeat (first | exact Drawn0.refl _ | apply Drawn0.step)⟩
  ·rw [if_neg c3] at H; have c3b0 : decide ((wrap64 (a1 - (l0.length : Int))) < 0) = false := decide_eq_false c3; clear c3; obtain rfl := Option.some.inj H; go_enter Try.func41, Try.ntmps41; go_wp2; go_ret; exact ⟨by first | rfl | (simp; done) | (simp [*]; done), by repeat (first | exact Drawn0.refl _ | apply Drawn0.step)⟩

/-! ### laws_szTrans: function 83 -/
def laws_szTrans.f (l0_0 : List Int) (l0_1 : List Int) (l0_2 : List Int) (a1 : Int) : Option (Int) := (laws_szIntS.f l0_0 a1).bind fun t102 => (if t102 < 0 then (some (-1)) else ((laws_szIntS.f l0_1 t102).bind fun t103 => (if t103 < 0 then (some (-1)) else ((laws_szIntS.f l0_2 t103).bind fun t104 => (if t104 < 0 then (some (-1)) else (some t104))))))
set_option maxHeartbeats 8000000 in
set_option maxRecDepth 100000 in
theorem laws_szTrans.calls (A0_0 : Option Addr) (c0_0 : Nat) (l0_0 : List Int) (A0_1 : Option Addr) (c0_1 : Nat) (l0_1 : List Int) (A0_2 : Option Addr) (c0_2 : Nat) (l0_2 : List Int) (a1 : Int) (r : Int) (w : World) (hr0_0 : Kd.C (Kd.int .i64) w A0_0 l0_0.length l0_0) (hc0_0 : l0_0.length ≤ c0_0) (hr0_1 : Kd.C (Kd.int .i64) w A0_1 l0_1.length l0_1) (hc0_1 : l0_1.length ≤ c0_1) (hr0_2 : Kd.C (Kd.int .i64) w A0_2 l0_2.length l0_2) (hc0_2 : l0_2.length ≤ c0_2) (h : laws_szTrans.f l0_0 l0_1 l0_2 a1 = some r) :
    Calls Try.prog 83 #[.agg #[.slice A0_0 l0_0.length c0_0, .slice A0_1 l0_1.length c0_1, .slice A0_2 l0_2.length c0_2], .int .i64 a1] w fun e w' => e = .returned (.int .i64 r) ∧ Below w.heap.size w w' := by
  have hu104 := Try.underlying104
  have HR0_0 := q_ hr0_0; have HC0_0 := q_ hc0_0; clear hr0_0 hc0_0; have HR0_1 := q_ hr0_1; have HC0_1 := q_ hc0_1; clear hr0_1 hc0_1; have HR0_2 := q_ hr0_2; have HC0_2 := q_ hc0_2; clear hr0_2 hc0_2; have HB := q_ (Below.refl w.heap.size w); have H : ((laws_szIntS.f l0_0 a1).bind fun t102 => (if t102 < 0 then (some (-1)) else ((laws_szIntS.f l0_1 t102).bind fun t103 => (if t103 < 0 then (some (-1)) else ((laws_szIntS.f l0_2 t103).bind fun t104 => (if t104 < 0 then (some (-1)) else (some t104))))))) = some r := h; clear h; obtain ⟨t102, A3, H⟩ := bnd_ H; have HC4 := q_ H; clear H; go_enter Try.func83, Try.ntmps83
  go_upto_if 10 with (first | (refine boxE 2 #[.slice A0_0 l0_0.length c0_0, .slice A0_1 l0_1.length c0_1, .slice A0_2 l0_2.length c0_2] 104 ?_; intro gb101 hg w5 hbox hb; have BK101 := q_ (hbox); have GW101 := q_ (gw_ hg HB.out); have GE101 := q_ (gw_ hg HB.out); replace HB := q_ (bs HB.out hb); clear hb hbox hg; obtain ⟨hcz6_0, hcz6_1, hcz6_2, hfz6_0, hfz6_1, hfz6_2⟩ := cz3 BK101.out) | (refine goesM (some 8) rfl rfl Try.func41 #[.slice A0_0 l0_0.length c0_0, .int .i64 a1] rfl ?_; (with_reducible refine (laws_szIntS.calls _ _ l0_0 a1 t102 _ ?side1 ?side2 A3.out).mono ?_); (case side1 => exact Kd.C_v ((Kd.C_below HR0_0.out HB.out))); (case side2 => exact HC0_0.out); rintro e w' ⟨rfl, ⟨nd, rfl⟩⟩; refine ⟨_, rfl, ?_⟩))
  (try simp only [Act.put, List.setIfInBounds_toArray, List.set_cons_zero, List.set_cons_succ]); have H := HC4.out; clear HC4
  by_cases c7 : t102 < 0
  ·rw [if_pos c7] at H; have c7b0 : decide (t102 < 0) = true := decide_eq_true c7; clear c7; (first | rw [c7b0] | (simp only [i64_w, i32_w]; rw [c7b0]) | skip); obtain rfl := Option.some.inj H; go_wp2; go_ret; exact fin_ (by exact bv HB.out)
  ·rw [if_neg c7] at H; have c7b0 : decide (t102 < 0) = false := decide_eq_false c7; clear c7; (first | rw [c7b0] | (simp only [i64_w, i32_w]; rw [c7b0]) | skip); obtain ⟨t103, A8, H⟩ := bnd_ H; have HC9 := q_ H; clear H; obtain ⟨hcz10_0, hcz10_1, hcz10_2, hfz10_0, hfz10_1, hfz10_2⟩ := cz3 BK101.out
   go_upto_if 16 with (first | (refine goesM (some 14) rfl rfl Try.func41 #[.slice A0_1 l0_1.length c0_1, .int .i64 t102] rfl ?_; (with_reducible refine (laws_szIntS.calls _ _ l0_1 t102 t103 _ ?side1 ?side2 A8.out).mono ?_); (case side1 => exact Kd.C_v ((Kd.C_below HR0_1.out HB.out))); (case side2 => exact HC0_1.out); rintro e w' ⟨rfl, ⟨nd, rfl⟩⟩; refine ⟨_, rfl, ?_⟩))
   (try simp only [Act.put, List.setIfInBounds_toArray, List.set_cons_zero, List.set_cons_succ]); have H := HC9.out; clear HC9
   by_cases c11 : t103 < 0
   ·rw [if_pos c11] at H; have c11b0 : decide (t103 < 0) = true := decide_eq_true c11; clear c11; (first | rw [c11b0] | (simp only [i64_w, i32_w]; rw [c11b0]) | skip); obtain rfl := Option.some.inj H; go_wp2; go_ret; exact fin_ (by exact bv HB.out)
   ·rw [if_neg c11] at H; have c11b0 : decide (t103 < 0) = false := decide_eq_false c11; clear c11; (first | rw [c11b0] | (simp only [i64_w, i32_w]; rw [c11b0]) | skip); obtain ⟨t104, A12, H⟩ := bnd_ H; have HC13 := q_ H; clear H; obtain ⟨hcz14_0, hcz14_1, hcz14_2, hfz14_0, hfz14_1, hfz14_2⟩ := cz3 BK101.out
    go_upto_if 22 with (first | (refine goesM (some 20) rfl rfl Try.func41 #[.slice A0_2 l0_2.length c0_2, .int .i64 t103] rfl ?_; (with_reducible refine (laws_szIntS.calls _ _ l0_2 t103 t104 _ ?side1 ?side2 A12.out).mono ?_); (case side1 => exact Kd.C_v ((Kd.C_below HR0_2.out HB.out))); (case side2 => exact HC0_2.out); rintro e w' ⟨rfl, ⟨nd, rfl⟩⟩; refine ⟨_, rfl, ?_⟩))
    (try simp only [Act.put, List.setIfInBounds_toArray, List.set_cons_zero, List.set_cons_succ]); have H := HC13.out; clear HC13
    by_cases c15 : t104 < 0
    ·rw [if_pos c15] at H; have c15b0 : decide (t104 < 0) = true := decide_eq_true c15; clear c15; (first | rw [c15b0] | (simp only [i64_w, i32_w]; rw [c15b0]) | skip); obtain rfl := Option.some.inj H; go_wp2; go_ret; exact fin_ (by exact bv HB.out)
    ·rw [if_neg c15] at H; have c15b0 : decide (t104 < 0) = false := decide_eq_false c15; clear c15; (first | rw [c15b0] | (simp only [i64_w, i32_w]; rw [c15b0]) | skip); obtain rfl := Option.some.inj H; go_wp2; go_ret; exact fin_ (by exact bv HB.out)

/-! ### laws_szTransS: function 48 -/
def laws_szTransS.l0 : Nat → List (S104) → Int → Int → Option (Int)
  | 0, _, _, _ => none
  | k + 1, x0, x1, x5 => if x5 < (x0.length : Int) then (if 0 ≤ x5 then ((laws_szTrans.f ((rd_T104 x0 x5).f0) ((rd_T104 x0 x5).f1) ((rd_T104 x0 x5).f2) x1).bind fun t106 => (if t106 < 0 then (some (-1)) else (laws_szTransS.l0 k x0 t106 (wrap64 (x5 + 1))))) else (none)) else (some x1)
def laws_szTransS.f (k : Nat) (l0 : List (S104)) (a1 : Int) : Option (Int) := if (wrap64 (a1 - (l0.length : Int))) < 0 then (some (-1)) else (laws_szTransS.l0 k l0 (wrap64 (a1 - (l0.length : Int))) 0)
set_option maxHeartbeats 8000000 in
set_option maxRecDepth 100000 in
theorem laws_szTransS.calls (k : Nat) (A0 : Option Addr) (c0 : Nat) (l0 : List (S104)) (a1 : Int) (r : Int) (w : World) (hr0 : Kd.C k104 w A0 l0.length l0) (hc0 : l0.length ≤ c0) (h : laws_szTransS.f k l0 a1 = some r) :
    Calls Try.prog 48 #[.slice A0 l0.length c0, .int .i64 a1] w fun e w' => e = .returned (.int .i64 r) ∧ Below w.heap.size w w' := by
  have hu104 := Try.underlying104
  have HR0 := q_ hr0; have HC0 := q_ hc0; clear hr0 hc0; have HB := q_ (Below.refl w.heap.size w); have H : (if (wrap64 (a1 - (l0.length : Int))) < 0 then (some (-1)) else (laws_szTransS.l0 k l0 (wrap64 (a1 - (l0.length : Int))) 0)) = some r := h; clear h
  by_cases c3 : (wrap64 (a1 - (l0.length : Int))) < 0
  ·rw [if_pos c3] at H; have c3b0 : decide ((wrap64 (a1 - (l0.length : Int))) < 0) = true := decide_eq_true c3; clear c3; obtain rfl := Option.some.inj H; go_enter Try.func48, Try.ntmps48; go_wp2; go_ret; exact fin_ (by exact bv HB.out)
  ·rw [if_neg c3] at H; have c3b0 : decide ((wrap64 (a1 - (l0.length : Int))) < 0) = false := decide_eq_false c3; clear c3; have H' := q_ H; clear H; go_enter Try.func48, Try.ntmps48; go_wp2; go_loopg [1, 5] k (fun kq v1 v5 w' => ∃ (x1_1 : Int) (x5_1 : Int), v1 = .int .i64 x1_1 ∧ v5 = .int .i64 x5_1 ∧ Aside0 (laws_szTransS.l0 kq l0 x1_1 x5_1 = some r) ∧ Aside0 (kq ≤ k) ∧ Aside0 (Below w.heap.size w w'))
   case atStart => exact ⟨(wrap64 (a1 - (l0.length : Int))), (0), eqv, eqv, H', ⟨Nat.le_refl _⟩, ⟨by exact bv HB.out⟩⟩
   case round =>
    clear H'; (try clear c3b0); obtain ⟨x1_1, x5_1, rfl, rfl, HA, HK1, HB⟩ := hrel
    cases gk with
    | zero => exact absurd HA.out (by simp [laws_szTransS.l0])
    | succ k1 =>
     have H := HA.out; clear HA; simp only [laws_szTransS.l0] at H
     by_cases c4 : x5_1 < (l0.length : Int)
     ·rw [if_pos c4] at H; have c4b0 : decide (x5_1 < (l0.length : Int)) = true := decide_eq_true c4; clear c4
      obtain ⟨c5, H⟩ := ifp_ H; have c5b0 : decide (0 ≤ x5_1) = true := decide_eq_true c5; clear c5; obtain ⟨t106, A6, H⟩ := bnd_ H; have HC7 := q_ H; clear H; have p105 : 0 ≤ (x5_1 : Int) := od; have q105 : x5_1 < (l0.length : Int) := od; obtain ⟨ad105, A105_0, c105_0, A105_1, c105_1, A105_2, c105_2, e105, hx105_0, hx105_1, hx105_2, hl105_0, hi105_0, hl105_1, hi105_1, hl105_2, hi105_2⟩ := at_T104 HR0.out x5_1 p105 q105
      cases e105
      replace hx105_0 := cb_ HB.out hx105_0; replace hx105_1 := cb_ HB.out hx105_1; replace hx105_2 := cb_ HB.out hx105_2; have HR105_0 := q_ hi105_0; have HC105_0 := q_ hl105_0; clear hi105_0 hl105_0; have HR105_1 := q_ hi105_1; have HC105_1 := q_ hl105_1; clear hi105_1 hl105_1; have HR105_2 := q_ hi105_2; have HC105_2 := q_ hl105_2; clear hi105_2 hl105_2; replace p105 := eq_true p105; replace q105 := eq_true q105
      go_upto_if 25 with (first | (refine goesM (some 23) rfl rfl Try.func83 #[.agg #[.slice A105_0 ((rd_T104 l0 x5_1).f0).length c105_0, .slice A105_1 ((rd_T104 l0 x5_1).f1).length c105_1, .slice A105_2 ((rd_T104 l0 x5_1).f2).length c105_2], .int .i64 x1_1] rfl ?_; (with_reducible refine (laws_szTrans.calls _ _ ((rd_T104 l0 x5_1).f0) _ _ ((rd_T104 l0 x5_1).f1) _ _ ((rd_T104 l0 x5_1).f2) x1_1 t106 _ ?side1 ?side2 ?side3 ?side4 ?side5 ?side6 A6.out).mono ?_); (case side1 => exact Kd.C_v ((Kd.C_below HR105_0.out HB.out))); (case side2 => exact HC105_0.out); (case side3 => exact Kd.C_v ((Kd.C_below HR105_1.out HB.out))); (case side4 => exact HC105_1.out); (case side5 => exact Kd.C_v ((Kd.C_below HR105_2.out HB.out))); (case side6 => exact HC105_2.out); rintro e w8 ⟨rfl, hb⟩; refine ⟨_, rfl, ?_⟩; replace HB := q_ (below_step (by exact bv HB.out) hb); (try clear hb); (try clear hb2); (try clear hk); (try clear hi)))
      (try simp only [Act.put, List.setIfInBounds_toArray, List.set_cons_zero, List.set_cons_succ]); have H := HC7.out; clear HC7
      by_cases c9 : t106 < 0
      ·rw [if_pos c9] at H; have c9b0 : decide (t106 < 0) = true := decide_eq_true c9; clear c9; (first | rw [c9b0] | (simp only [i64_w, i32_w]; rw [c9b0]) | skip); obtain rfl := Option.some.inj H; go_wp2; go_ret; exact fin_ (by exact bv HB.out)
      ·rw [if_neg c9] at H; have c9b0 : decide (t106 < 0) = false := decide_eq_false c9; clear c9; (first | rw [c9b0] | (simp only [i64_w, i32_w]; rw [c9b0]) | skip); have H' := q_ H; clear H; go_wp2; go_roundg k1
       case measure => have := HK1.out; omega
       case rel => exact ⟨(t106), (wrap64 (x5_1 + 1)), eqv, eqv, H', ⟨by have := HK1.out; omega⟩, ⟨by exact bv HB.out⟩⟩
     ·rw [if_neg c4] at H; have c4b0 : decide (x5_1 < (l0.length : Int)) = false := decide_eq_false c4; clear c4; obtain rfl := Option.some.inj H; go_wp2; go_ret; exact fin_ (by exact bv HB.out)

/-! ### laws_szNet: function 16 -/
def laws_szNet.f (k : Nat) (a0_0 : Int) (l0_1 : List (S104)) (a1 : Int) : Option (Int) := (laws_szTransS.f k l0_1 a1).bind fun t108 => (if t108 < 0 then (some (-1)) else (some t108))
set_option maxHeartbeats 8000000 in
set_option maxRecDepth 100000 in
theorem laws_szNet.calls (k : Nat) (a0_0 : Int) (A0_1 : Option Addr) (c0_1 : Nat) (l0_1 : List (S104)) (a1 : Int) (r : Int) (w : World) (hr0_1 : Kd.C k104 w A0_1 l0_1.length l0_1) (hc0_1 : l0_1.length ≤ c0_1) (h : laws_szNet.f k a0_0 l0_1 a1 = some r) :
    Calls Try.prog 16 #[.agg #[.int .i64 a0_0, .slice A0_1 l0_1.length c0_1], .int .i64 a1] w fun e w' => e = .returned (.int .i64 r) ∧ Below w.heap.size w w' := by
  have hu31 := Try.underlying31
  have HR0_1 := q_ hr0_1; have HC0_1 := q_ hc0_1; clear hr0_1 hc0_1; have HB := q_ (Below.refl w.heap.size w); have H : ((laws_szTransS.f k l0_1 a1).bind fun t108 => (if t108 < 0 then (some (-1)) else (some t108))) = some r := h; clear h; obtain ⟨t108, A3, H⟩ := bnd_ H; have HC4 := q_ H; clear H; go_enter Try.func16, Try.ntmps16
  go_upto_if 10 with (first | (refine boxE 2 #[.int .i64 a0_0, .slice A0_1 l0_1.length c0_1] 31 ?_; intro gb107 hg w5 hbox hb; have BK107 := q_ (hbox); have GW107 := q_ (gw_ hg HB.out); have GE107 := q_ (gw_ hg HB.out); replace HB := q_ (bs HB.out hb); clear hb hbox hg; obtain ⟨hcz6_0, hcz6_1, hfz6_0, hfz6_1⟩ := cz2 BK107.out) | (refine goesM (some 8) rfl rfl Try.func48 #[.slice A0_1 l0_1.length c0_1, .int .i64 a1] rfl ?_; (with_reducible refine (laws_szTransS.calls k _ _ l0_1 a1 t108 _ ?side1 ?side2 A3.out).mono ?_); (case side1 => exact Kd.C_v ((Kd.C_below HR0_1.out HB.out))); (case side2 => exact HC0_1.out); rintro e w7 ⟨rfl, hb⟩; refine ⟨_, rfl, ?_⟩; replace BK107 := q_ (bb BK107.out hb); replace HB := q_ (below_step (by exact bv HB.out) hb); (try clear hb); (try clear hb2); (try clear hk); (try clear hi)))
  (try simp only [Act.put, List.setIfInBounds_toArray, List.set_cons_zero, List.set_cons_succ]); have H := HC4.out; clear HC4
  by_cases c8 : t108 < 0
  ·rw [if_pos c8] at H; have c8b0 : decide (t108 < 0) = true := decide_eq_true c8; clear c8; (first | rw [c8b0] | (simp only [i64_w, i32_w]; rw [c8b0]) | skip); obtain rfl := Option.some.inj H; go_wp2; go_ret; exact fin_ (by exact bv HB.out)
  ·rw [if_neg c8] at H; have c8b0 : decide (t108 < 0) = false := decide_eq_false c8; clear c8; (first | rw [c8b0] | (simp only [i64_w, i32_w]; rw [c8b0]) | skip); obtain rfl := Option.some.inj H; go_wp2; go_ret; exact fin_ (by exact bv HB.out)

/-! ### laws_toIntS: function 19 -/
def laws_toIntS.l0 : Nat → List Int → List Int → Int → Option (List Int)
  | 0, _, _, _ => none
  | k + 1, x0, x3, x4 => if x4 < (x0.length : Int) then (if 0 ≤ x4 then (if x4 < (x3.length : Int) then (laws_toIntS.l0 k x0 (x3.set (x4 : Int).toNat (rd x0 x4)) (wrap64 (x4 + 1))) else (none)) else (none)) else (some x3)
def laws_toIntS.f (k : Nat) (l0 : List Int) : Option (List Int) := if 0 ≤ (l0.length : Int) then (if ((l0.length : Int) : Int).toNat ≤ 35184372088832 then (laws_toIntS.l0 k l0 (List.replicate ((l0.length : Int) : Int).toNat 0) 0) else (none)) else (none)
set_option maxHeartbeats 8000000 in
set_option maxRecDepth 100000 in
theorem laws_toIntS.calls (k : Nat) (A0 : Option Addr) (c0 : Nat) (l0 : List Int) (r : List Int) (w : World) (hr0 : Kd.C (Kd.int .i64) w A0 l0.length l0) (hc0 : l0.length ≤ c0) (h : laws_toIntS.f k l0 = some r) :
    Calls Try.prog 19 #[.slice A0 l0.length c0] w fun e w' => ∃ v0_ : Value, e = .returned (v0_) ∧ Kd.R (Kd.int .i64) 3 w' w.heap.size (fun _ => True) v0_ r ∧ Below w.heap.size w w' := by
  have HR0 := q_ hr0; have HC0 := q_ hc0; clear hr0 hc0; have HB := q_ (Below.refl w.heap.size w); have H : (if 0 ≤ (l0.length : Int) then (if ((l0.length : Int) : Int).toNat ≤ 35184372088832 then (laws_toIntS.l0 k l0 (List.replicate ((l0.length : Int) : Int).toNat 0) 0) else (none)) else (none)) = some r := h; clear h
  obtain ⟨c2, H⟩ := ifp_ H; have c2b0 := eq_true c2; have c2b1 : decide (0 ≤ (l0.length : Int)) = true := decide_eq_true c2; clear c2
  obtain ⟨c3, H⟩ := ifp_ H; have c3b0 := eq_true c3; have c3b1 : decide (((l0.length : Int) : Int).toNat ≤ 35184372088832) = true := decide_eq_true c3; clear c3; obtain ⟨y109, hy109⟩ : ∃ y_ : List Int, y_ = (List.replicate ((l0.length : Int) : Int).toNat 0) := ⟨_, rfl⟩; (replace H : (laws_toIntS.l0 k l0 y109 0) = some r := by first | (rw [hy109]; with_reducible exact H) | (have H2_ := (Option.bind_some _ _).symm.trans H; rw [hy109]; with_reducible exact H2_) | (have H2_ := (Option.bind_some _ _).symm.trans H; with_reducible exact H2_) | with_reducible exact H | (rw [hy109]; exact H) | exact H); have Ny109 := q_ hy109; clear hy109; have H' := q_ H; clear H; go_enter Try.func19, Try.ntmps19; go_wp2_with (first | ((with_reducible refine gate_dst (N := 7) rfl ?_); refine Kd.R_make (Kd.int .i64) _ 3 rfl (N := 7) rfl 32 _ _ rfl (l0.length : Int) rfl rfl Try.underlying32 (.int .i64 0) 8 info3 rfl (by decide) (by omega) 0 (ok := fun _ => True) (okp := fun _ => True) rfl (fun _ hk => hk) trivial (od) (Nat.le_trans (Nat.mul_le_mul_right _ (od : (l0.length : Int).toNat ≤ 35184372088832)) (by omega)) (Below.refl _ _) (Nat.le_refl _) ?_; intro v110 w4 ho5 hb hg_ hnew_; clear hg_ hnew_; (first | rw [← Ny109.out] at ho5 | (simp only [Int.reduceToNat] at ho5; rw [← Ny109.out] at ho5)); have HO111 := q_ (Kd.R_lower ho5 (below_size (by exact bv HB.out))); replace HB := q_ (below_step (by exact bv HB.out) hb); clear hb ho5)); go_loopg [4] k (fun kq v4 w' => ∃ (x3_1 : List Int) (x4_1 : Int), v4 = .int .i64 x4_1 ∧ Aside0 (laws_toIntS.l0 kq l0 x3_1 x4_1 = some r) ∧ Aside0 (kq ≤ k) ∧ Aside0 (Kd.R (Kd.int .i64) 3 w' w.heap.size (fun _ => True) v110 x3_1) ∧ Aside0 (Below w.heap.size w w'))
  case atStart => exact ⟨(y109), (0), eqv, H', ⟨Nat.le_refl _⟩, ⟨by exact Kd.R_v HO111.out⟩, ⟨by exact bv HB.out⟩⟩
  case round =>
   clear H'; (try clear c2b0); (try clear c2b1); (try clear c3b0); (try clear c3b1); obtain ⟨x3_1, x4_1, rfl, HA, HK1, HO_3, HB⟩ := hrel
   cases gk with
   | zero => exact absurd HA.out (by simp [laws_toIntS.l0])
   | succ k1 =>
    have H := HA.out; clear HA; simp only [laws_toIntS.l0] at H
    by_cases c6 : x4_1 < (l0.length : Int)
    ·rw [if_pos c6] at H; have c6b0 : decide (x4_1 < (l0.length : Int)) = true := decide_eq_true c6; clear c6
     obtain ⟨c7, H⟩ := ifp_ H; have c7b0 : decide (0 ≤ x4_1) = true := decide_eq_true c7; clear c7
     obtain ⟨c8, H⟩ := ifp_ H; have c8b0 : decide (x4_1 < (x3_1.length : Int)) = true := decide_eq_true c8; clear c8; obtain ⟨y113, hy113⟩ : ∃ y_ : List Int, y_ = (x3_1.set (x4_1 : Int).toNat (rd l0 x4_1)) := ⟨_, rfl⟩; (replace H : (laws_toIntS.l0 k1 l0 y113 (wrap64 (x4_1 + 1))) = some r := by first | (rw [hy113]; with_reducible exact H) | (have H2_ := (Option.bind_some _ _).symm.trans H; rw [hy113]; with_reducible exact H2_) | (have H2_ := (Option.bind_some _ _).symm.trans H; with_reducible exact H2_) | with_reducible exact H | (rw [hy113]; exact H) | exact H); have Ny113 := q_ hy113; clear hy113; have H' := q_ H; clear H; have p112 : 0 ≤ (x4_1 : Int) := od; have q112 : x4_1 < (l0.length : Int) := od; obtain ⟨ad112, e112, hx112_0⟩ := Kd.at_int HR0.out x4_1 p112 q112
     cases e112
     replace hx112_0 := cb_ HB.out hx112_0; replace p112 := eq_true p112; replace q112 := eq_true q112; have p9 : 0 ≤ (x4_1 : Int) := od; have q9 : (x4_1 : Int) < ((x3_1.length : Int) : Int) := od; obtain ⟨go9, co9, eo9, gb9, gl9, cl9, HG9⟩ := Kd.R_form HO_3.out (by omega); (first | cases eo9 | (injection eo9 with ea_ en_ ec_; (first | subst ea_ | (injection ea_ with ea_; subst ea_)); subst ec_; clear en_)); have GB9 := q_ gb9; have GG9 := q_ HG9; clear gb9 gl9 HG9; obtain ⟨hx9_0, hf9_0⟩ := Kd.R_celln 0 HO_3.out (x4_1 : Int) p9 q9; replace p9 := eq_true p9; replace q9 := eq_true q9; have HP10 := Kd.R_putg HO_3.out (x4_1 : Int) (rd l0 x4_1); go_wp2_with (first | ((with_reducible refine gate_store (t := 3) (p := 20) rfl ?_); refine store_event (t := 3) (p := 20) (v := ?vo_w11) (w1 := (wr.setCell ⟨go9, (x4_1 : Int).toNat, none⟩ (.int .i64 (rd l0 x4_1)))) ?hg ?ho ?hn ?hr ?_; (case ho => rfl); (case hg => rfl); (case hn => rfl); (case hr => first | (go_simp; done) | (go_simp; rfl)); intro w11 hw; have hg : wr.grownBy w11 (some go9) := (by rw [hw]; exact HP10.2); have hp_ : Kd.R (Kd.int .i64) 3 w11 w.heap.size (fun _ => True) (.slice (some ⟨go9, 0, none⟩) x3_1.length co9) y113 := (by rw [hw, Ny113.out]; exact HP10.1); clear HP10; replace HO_3 := q_ (hp_); replace HB := q_ ((by rw [hw]; exact below_set (HB.out) GB9.out : Below w.heap.size w w11)); clear hg hw hp_)); go_roundg k1
     case measure => have := HK1.out; omega
     case rel => exact ⟨(y113), (wrap64 (x4_1 + 1)), eqv, H', ⟨by have := HK1.out; omega⟩, ⟨by exact Kd.R_v HO_3.out⟩, ⟨by exact bv HB.out⟩⟩
    ·rw [if_neg c6] at H; have c6b0 : decide (x4_1 < (l0.length : Int)) = false := decide_eq_false c6; clear c6; obtain rfl := Option.some.inj H; go_wp2; go_ret; exact ⟨_, by first | rfl | (simp [errW_none, errW_some] <;> rfl) | (simp [*, errW_none, errW_some] <;> rfl), by exact Kd.R_v HO_3.out, by exact bv HB.out⟩

/-! ### laws_toTrans: function 84 -/
def laws_toTrans.f (k : Nat) (l0_0 : List Int) (l0_1 : List Int) (l0_2 : List Int) : Option (List Int × List Int × List Int) := (laws_toIntS.f k l0_0).bind fun t117 => ((laws_toIntS.f k l0_1).bind fun t120 => ((laws_toIntS.f k l0_2).bind fun t123 => (some (t117, t120, t123))))
set_option maxHeartbeats 8000000 in
set_option maxRecDepth 100000 in
theorem laws_toTrans.calls (k : Nat) (A0_0 : Option Addr) (c0_0 : Nat) (l0_0 : List Int) (A0_1 : Option Addr) (c0_1 : Nat) (l0_1 : List Int) (A0_2 : Option Addr) (c0_2 : Nat) (l0_2 : List Int) (r1 : List Int) (r2 : List Int) (r3 : List Int) (w : World) (hr0_0 : Kd.C (Kd.int .i64) w A0_0 l0_0.length l0_0) (hc0_0 : l0_0.length ≤ c0_0) (hr0_1 : Kd.C (Kd.int .i64) w A0_1 l0_1.length l0_1) (hc0_1 : l0_1.length ≤ c0_1) (hr0_2 : Kd.C (Kd.int .i64) w A0_2 l0_2.length l0_2) (hc0_2 : l0_2.length ≤ c0_2) (h : laws_toTrans.f k l0_0 l0_1 l0_2 = some (r1, r2, r3)) :
    Calls Try.prog 84 #[.agg #[.slice A0_0 l0_0.length c0_0, .slice A0_1 l0_1.length c0_1, .slice A0_2 l0_2.length c0_2]] w fun e w' => ∃ v0_ v1_ v2_ : Value, e = .returned (.agg #[v0_, v1_, v2_]) ∧ Kd.R (Kd.int .i64) 3 w' w.heap.size (fun k_ => some k_ ≠ (v1_ : Value).ownBlock ∧ some k_ ≠ (v2_ : Value).ownBlock) v0_ r1 ∧ Kd.R (Kd.int .i64) 3 w' w.heap.size (fun k_ => some k_ ≠ (v0_ : Value).ownBlock ∧ some k_ ≠ (v2_ : Value).ownBlock) v1_ r2 ∧ Kd.R (Kd.int .i64) 3 w' w.heap.size (fun k_ => some k_ ≠ (v0_ : Value).ownBlock ∧ some k_ ≠ (v1_ : Value).ownBlock) v2_ r3 ∧ Below w.heap.size w w' := by
  have hu104 := Try.underlying104
  have hu105 := Try.underlying105
  have HR0_0 := q_ hr0_0; have HC0_0 := q_ hc0_0; clear hr0_0 hc0_0; have HR0_1 := q_ hr0_1; have HC0_1 := q_ hc0_1; clear hr0_1 hc0_1; have HR0_2 := q_ hr0_2; have HC0_2 := q_ hc0_2; clear hr0_2 hc0_2; have HB := q_ (Below.refl w.heap.size w); have H : ((laws_toIntS.f k l0_0).bind fun t117 => ((laws_toIntS.f k l0_1).bind fun t120 => ((laws_toIntS.f k l0_2).bind fun t123 => (some (t117, t120, t123))))) = some (r1, r2, r3) := h; clear h; obtain ⟨t117, A2, H⟩ := bnd_ H; obtain ⟨t120, A3, H⟩ := bnd_ H; obtain ⟨t123, A4, H⟩ := bnd_ H; simp only [Option.some.injEq, Prod.mk.injEq] at H; obtain ⟨rfl, rfl, rfl⟩ := H; go_enter Try.func84, Try.ntmps84; go_wp2_with (first | (refine boxE 1 #[.slice A0_0 l0_0.length c0_0, .slice A0_1 l0_1.length c0_1, .slice A0_2 l0_2.length c0_2] 104 ?_; intro gb114 hg w5 hbox hb; have BK114 := q_ (hbox); have GW114 := q_ (gw_ hg HB.out); have GE114 := q_ (gw_ hg HB.out); replace HB := q_ (bs HB.out hb); clear hb hbox hg) | (refine boxE 2 #[.slice none 0 0, .slice none 0 0, .slice none 0 0] 105 ?_; intro gb115 hg w6 hbox hb; have BK115 := q_ (hbox); have GW115 := q_ (gw_ hg HB.out); have GE115 := q_ (gw_ hg HB.out); have NB114_115 := q_ (nb_ hg BK114.out); have NB115_114 := q_ (bn_ hg BK114.out); replace BK114 := q_ (bb BK114.out hb); replace HB := q_ (bs HB.out hb); clear hb hbox hg) | (refine boxE 3 #[.slice none 0 0, .slice none 0 0, .slice none 0 0] 105 ?_; intro gb116 hg w7 hbox hb; have BK116 := q_ (hbox); have GW116 := q_ (gw_ hg HB.out); have GE116 := q_ (gw_ hg HB.out); have NB114_116 := q_ (nb_ hg BK114.out); have NB116_114 := q_ (bn_ hg BK114.out); have NB115_116 := q_ (nb_ hg BK115.out); have NB116_115 := q_ (bn_ hg BK115.out); replace BK114 := q_ (bb BK114.out hb); replace BK115 := q_ (bb BK115.out hb); replace HB := q_ (bs HB.out hb); clear hb hbox hg; have hnb8 := NB114_115.out; have hnc8 := NB115_114.out; have hnb9 := NB114_116.out; have hnc9 := NB116_114.out; obtain ⟨hcz10_0, hcz10_1, hcz10_2, hfz10_0, hfz10_1, hfz10_2⟩ := cz3 BK114.out) | (refine goesM (some 6) rfl rfl Try.func19 #[.slice A0_0 l0_0.length c0_0] rfl ?_; (with_reducible refine (laws_toIntS.calls k _ _ l0_0 t117 _ ?side1 ?side2 A2.out).mono ?_); (case side1 => exact Kd.C_v ((Kd.C_below HR0_0.out HB.out))); (case side2 => exact HC0_0.out); rintro e w11 ⟨v118, rfl, ho0, hb⟩; refine ⟨_, rfl, ?_⟩; have HO119 := q_ (Kd.R_lower ho0 (below_size (by exact bv HB.out))); replace BK114 := q_ (bb BK114.out hb); replace BK115 := q_ (bb BK115.out hb); replace BK116 := q_ (bb BK116.out hb); replace HB := q_ (below_step (by exact bv HB.out) hb); (try clear hb); (try clear hb2); (try clear hk); (try clear hi); (try clear ho0); obtain ⟨Ao12, co12, eo12⟩ := Kd.R_slice HO119.out; subst eo12; have hnb13 := NB116_115.out; have hnc13 := NB115_116.out; obtain ⟨hcz14_0, hcz14_1, hcz14_2, hfz14_0, hfz14_1, hfz14_2⟩ := cz3 BK116.out; obtain ⟨hcz15_0, hcz15_1, hcz15_2, hfz15_0, hfz15_1, hfz15_2⟩ := cz3 BK114.out) | (refine goesM (some 10) rfl rfl Try.func19 #[.slice A0_1 l0_1.length c0_1] rfl ?_; (with_reducible refine (laws_toIntS.calls k _ _ l0_1 t120 _ ?side1 ?side2 A3.out).mono ?_); (case side1 => exact Kd.C_below HR0_1.out (by exact (below_set HB.out GE116.out))); (case side2 => exact HC0_1.out); rintro e w16 ⟨v121, rfl, ho0, hb⟩; refine ⟨_, rfl, ?_⟩; have HO122 := q_ (Kd.R_lower (Kd.R_new' ho0 (Kd.R_lt (by exact (Kd.R_mono (Kd.R_far (p := ⟨gb116, 0, none⟩) (Kd.R_types HO119.out BK116.out (by decide)) (fun _ hk => hk.2) (.slice Ao12 t117.length co12)) (fun _ h_ => h_.1))))) (below_size (by exact (below_set HB.out GE116.out)))); replace HO119 := q_ (Kd.R_elder' (by exact (Kd.R_mono (Kd.R_far (p := ⟨gb116, 0, none⟩) (Kd.R_types HO119.out BK116.out (by decide)) (fun _ hk => hk.2) (.slice Ao12 t117.length co12)) (fun _ h_ => h_.1))) (Kd.R_base ho0) hb); replace BK114 := q_ (blk_below (g := gb114) (o := .cells #[.slice A0_0 l0_0.length c0_0, .slice A0_1 l0_1.length c0_1, .slice A0_2 l0_2.length c0_2] 104 (0, 0)) (by exact (blk_far BK114.out NB114_116.out _)) hb); replace BK115 := q_ (blk_below (g := gb115) (o := .cells #[.slice none 0 0, .slice none 0 0, .slice none 0 0] 105 (0, 0)) (by exact (blk_far BK115.out NB115_116.out _)) hb); replace BK116 := q_ (blk_below (g := gb116) (o := .cells #[.slice Ao12 t117.length co12, .slice none 0 0, .slice none 0 0] 105 (0, 0)) (by exact (blk_put BK116.out 0 _ rfl)) hb); replace HB := q_ (below_step (by exact (below_set HB.out GE116.out)) hb); (try clear hb); (try clear hb2); (try clear hk); (try clear hi); (try clear ho0); obtain ⟨Ao17, co17, eo17⟩ := Kd.R_slice HO122.out; subst eo17; obtain ⟨hcz18_0, hcz18_1, hcz18_2, hfz18_0, hfz18_1, hfz18_2⟩ := cz3 BK116.out; obtain ⟨hcz19_0, hcz19_1, hcz19_2, hfz19_0, hfz19_1, hfz19_2⟩ := cz3 BK114.out) | (refine goesM (some 14) rfl rfl Try.func19 #[.slice A0_2 l0_2.length c0_2] rfl ?_; (with_reducible refine (laws_toIntS.calls k _ _ l0_2 t123 _ ?side1 ?side2 A4.out).mono ?_); (case side1 => exact Kd.C_below HR0_2.out (by exact (below_set HB.out GE116.out))); (case side2 => exact HC0_2.out); rintro e w20 ⟨v124, rfl, ho0, hb⟩; refine ⟨_, rfl, ?_⟩; have HO125 := q_ (Kd.R_lower (Kd.R_new' (Kd.R_new' ho0 (Kd.R_lt (by exact (Kd.R_mono (Kd.R_far (p := ⟨gb116, 1, none⟩) (Kd.R_types HO119.out BK116.out (by decide)) (fun _ hk => hk.2) (.slice Ao17 t120.length co17)) (fun _ h_ => h_.1))))) (Kd.R_lt (by exact (Kd.R_mono (Kd.R_far (p := ⟨gb116, 1, none⟩) (Kd.R_types HO122.out BK116.out (by decide)) (fun _ hk => hk.2) (.slice Ao17 t120.length co17)) (fun _ h_ => h_.1))))) (below_size (by exact (below_set HB.out GE116.out)))); replace HO119 := q_ (Kd.R_elder' (by exact (Kd.R_mono (Kd.R_far (p := ⟨gb116, 1, none⟩) (Kd.R_types HO119.out BK116.out (by decide)) (fun _ hk => hk.2) (.slice Ao17 t120.length co17)) (fun _ h_ => h_.1))) (Kd.R_base ho0) hb); replace HO122 := q_ (Kd.R_elder' (by exact (Kd.R_mono (Kd.R_far (p := ⟨gb116, 1, none⟩) (Kd.R_types HO122.out BK116.out (by decide)) (fun _ hk => hk.2) (.slice Ao17 t120.length co17)) (fun _ h_ => h_.1))) (Kd.R_base ho0) hb); replace BK114 := q_ (blk_below (g := gb114) (o := .cells #[.slice A0_0 l0_0.length c0_0, .slice A0_1 l0_1.length c0_1, .slice A0_2 l0_2.length c0_2] 104 (0, 0)) (by exact (blk_far BK114.out NB114_116.out _)) hb); replace BK115 := q_ (blk_below (g := gb115) (o := .cells #[.slice none 0 0, .slice none 0 0, .slice none 0 0] 105 (0, 0)) (by exact (blk_far BK115.out NB115_116.out _)) hb); replace BK116 := q_ (blk_below (g := gb116) (o := .cells #[.slice Ao12 t117.length co12, .slice Ao17 t120.length co17, .slice none 0 0] 105 (0, 0)) (by exact (blk_put BK116.out 1 _ rfl)) hb); replace HB := q_ (below_step (by exact (below_set HB.out GE116.out)) hb); (try clear hb); (try clear hb2); (try clear hk); (try clear hi); (try clear ho0); obtain ⟨Ao21, co21, eo21⟩ := Kd.R_slice HO125.out; subst eo21; obtain ⟨hcz22_0, hcz22_1, hcz22_2, hfz22_0, hfz22_1, hfz22_2⟩ := cz3 BK116.out; obtain ⟨hcz23_0, hcz23_1, hcz23_2, hfz23_0, hfz23_1, hfz23_2⟩ := cz3 BK115.out)); refine bodyPost_ret (results_cell_row rfl _ _ gb115 105 #[.slice Ao12 t117.length co12, .slice Ao17 t120.length co17, .slice Ao21 t123.length co21] (0, 0) _ rfl (by exact (blk_put (blk_put (blk_put (blk_far BK115.out NB115_116.out _) 0 _ rfl) 1 _ rfl) 2 _ rfl)) Try.underlying105 rfl (by kernel_rfl)) rfl ?_; exact ⟨_, _, _, by first | rfl | (simp [errW_none, errW_some] <;> rfl) | (simp [*, errW_none, errW_some] <;> rfl), by exact Kd.R_mono (Kd.R_far (p := ⟨gb115, 2, none⟩) (Kd.R_far (p := ⟨gb115, 1, none⟩) (Kd.R_far (p := ⟨gb115, 0, none⟩) (Kd.R_far (p := ⟨gb116, 2, none⟩) (Kd.R_types (Kd.R_types HO119.out BK116.out (by decide)) BK115.out (by decide)) (fun _ hk => hk.1.2) (.slice Ao21 t123.length co21)) (fun _ hk => hk.2) (.slice Ao12 t117.length co12)) (fun _ hk => hk.2) (.slice Ao17 t120.length co17)) (fun _ hk => hk.2) (.slice Ao21 t123.length co21)) (fun _ hk => ⟨hk.1.1.1.2, hk.1.1.2⟩), by exact Kd.R_mono (Kd.R_far (p := ⟨gb115, 2, none⟩) (Kd.R_far (p := ⟨gb115, 1, none⟩) (Kd.R_far (p := ⟨gb115, 0, none⟩) (Kd.R_far (p := ⟨gb116, 2, none⟩) (Kd.R_types (Kd.R_types HO122.out BK116.out (by decide)) BK115.out (by decide)) (fun _ hk => hk.1.2) (.slice Ao21 t123.length co21)) (fun _ hk => hk.2) (.slice Ao12 t117.length co12)) (fun _ hk => hk.2) (.slice Ao17 t120.length co17)) (fun _ hk => hk.2) (.slice Ao21 t123.length co21)) (fun _ hk => ⟨hk.1.1.1.2, hk.1.1.2⟩), by exact Kd.R_mono (Kd.R_far (p := ⟨gb115, 2, none⟩) (Kd.R_far (p := ⟨gb115, 1, none⟩) (Kd.R_far (p := ⟨gb115, 0, none⟩) (Kd.R_far (p := ⟨gb116, 2, none⟩) (Kd.R_types (Kd.R_types HO125.out BK116.out (by decide)) BK115.out (by decide)) (fun _ hk => hk.1.2) (.slice Ao21 t123.length co21)) (fun _ hk => hk.2) (.slice Ao12 t117.length co12)) (fun _ hk => hk.2) (.slice Ao17 t120.length co17)) (fun _ hk => hk.2) (.slice Ao21 t123.length co21)) (fun _ hk => ⟨hk.1.1.1.2, hk.1.1.2⟩), by exact (below_set (below_set (below_set (below_set HB.out GE116.out) GE115.out) GE115.out) GE115.out)⟩

/-! ### laws_toTransS: function 50 -/
def laws_toTransS.l0 : Nat → List (S104) → List (S105) → Int → Option ((List (S105)))
  | 0, _, _, _ => none
  | k + 1, x0, x3, x4 => if x4 < (x0.length : Int) then (if 0 ≤ x4 then ((laws_toTrans.f k ((rd_T104 x0 x4).f0) ((rd_T104 x0 x4).f1) ((rd_T104 x0 x4).f2)).bind fun bt130 => (if x4 < (x3.length : Int) then (laws_toTransS.l0 k x0 (x3.set (x4 : Int).toNat (⟨bt130.1, bt130.2.1, bt130.2.2⟩ : S105)) (wrap64 (x4 + 1))) else (none))) else (none)) else (some x3)
def laws_toTransS.f (k : Nat) (l0 : List (S104)) : Option ((List (S105))) := if 0 ≤ (l0.length : Int) then (if ((l0.length : Int) : Int).toNat ≤ 3909374676536 then (laws_toTransS.l0 k l0 (List.replicate ((l0.length : Int) : Int).toNat z105) 0) else (none)) else (none)
set_option maxHeartbeats 8000000 in
set_option maxRecDepth 100000 in
theorem laws_toTransS.calls (k : Nat) (A0 : Option Addr) (c0 : Nat) (l0 : List (S104)) (r : List (S105)) (w : World) (hr0 : Kd.C k104 w A0 l0.length l0) (hc0 : l0.length ≤ c0) (h : laws_toTransS.f k l0 = some r) :
    Calls Try.prog 50 #[.slice A0 l0.length c0] w fun e w' => ∃ v0_ : Value, e = .returned (v0_) ∧ Kd.S k105 105 w' w.heap.size (fun _ => True) v0_ r ∧ Below w.heap.size w w' := by
  have hu104 := Try.underlying104
  have hu105 := Try.underlying105
  have HR0 := q_ hr0; have HC0 := q_ hc0; clear hr0 hc0; have HB := q_ (Below.refl w.heap.size w); have H : (if 0 ≤ (l0.length : Int) then (if ((l0.length : Int) : Int).toNat ≤ 3909374676536 then (laws_toTransS.l0 k l0 (List.replicate ((l0.length : Int) : Int).toNat z105) 0) else (none)) else (none)) = some r := h; clear h
  obtain ⟨c2, H⟩ := ifp_ H; have c2b0 := eq_true c2; have c2b1 : decide (0 ≤ (l0.length : Int)) = true := decide_eq_true c2; clear c2
  obtain ⟨c3, H⟩ := ifp_ H; have c3b0 := eq_true c3; have c3b1 : decide (((l0.length : Int) : Int).toNat ≤ 3909374676536) = true := decide_eq_true c3; clear c3; obtain ⟨y126, hy126⟩ : ∃ y_ : List (S105), y_ = (List.replicate ((l0.length : Int) : Int).toNat z105) := ⟨_, rfl⟩; (replace H : (laws_toTransS.l0 k l0 y126 0) = some r := by first | (rw [hy126]; with_reducible exact H) | (have H2_ := (Option.bind_some _ _).symm.trans H; rw [hy126]; with_reducible exact H2_) | (have H2_ := (Option.bind_some _ _).symm.trans H; with_reducible exact H2_) | with_reducible exact H | (rw [hy126]; exact H) | exact H); have Ny126 := q_ hy126; clear hy126; have H' := q_ H; clear H; go_enter Try.func50, Try.ntmps50; go_wp2_with (first | ((with_reducible refine gate_dst (N := 7) rfl ?_); refine Kd.S_make k105 _ 105 rfl (N := 7) rfl 36 _ _ rfl (l0.length : Int) rfl rfl Try.underlying36 (.agg #[(.slice none 0 0), (.slice none 0 0), (.slice none 0 0)]) 72 info105 rfl (by decide) (by omega) z105 (ok := fun _ => True) (okp := fun _ => True) (k105_mkM _ _ _ z105 (Kd.R_nil _ _ _ _ _) (Kd.R_nil _ _ _ _ _) (Kd.R_nil _ _ _ _ _)) (fun _ hk => hk) trivial (od) (Nat.le_trans (Nat.mul_le_mul_right _ (od : (l0.length : Int).toNat ≤ 3909374676536)) (by omega)) (Below.refl _ _) (Nat.le_refl _) ?_; intro v127 w4 ho5 hb hg_ hnew_; clear hg_ hnew_; (first | rw [← Ny126.out] at ho5 | (simp only [Int.reduceToNat] at ho5; rw [← Ny126.out] at ho5)); have HO128 := q_ (Kd.S_lower ho5 (below_size (by exact bv HB.out))); replace HB := q_ (below_step (by exact bv HB.out) hb); clear hb ho5)); go_loopg [4] k (fun kq v4 w' => ∃ (x3_1 : List (S105)) (x4_1 : Int), v4 = .int .i64 x4_1 ∧ Aside0 (laws_toTransS.l0 kq l0 x3_1 x4_1 = some r) ∧ Aside0 (kq ≤ k) ∧ Aside0 (Kd.S k105 105 w' w.heap.size (fun _ => True) v127 x3_1) ∧ Aside0 (Below w.heap.size w w'))
  case atStart => exact ⟨(y126), (0), eqv, H', ⟨Nat.le_refl _⟩, ⟨by exact Kd.S_v HO128.out⟩, ⟨by exact bv HB.out⟩⟩
  case round =>
   clear H'; (try clear c2b0); (try clear c2b1); (try clear c3b0); (try clear c3b1); obtain ⟨x3_1, x4_1, rfl, HA, HK1, HO_3, HB⟩ := hrel
   cases gk with
   | zero => exact absurd HA.out (by simp [laws_toTransS.l0])
   | succ k1 =>
    have H := HA.out; clear HA; simp only [laws_toTransS.l0] at H
    by_cases c6 : x4_1 < (l0.length : Int)
    ·rw [if_pos c6] at H; have c6b0 : decide (x4_1 < (l0.length : Int)) = true := decide_eq_true c6; clear c6
     obtain ⟨c7, H⟩ := ifp_ H; have c7b0 : decide (0 ≤ x4_1) = true := decide_eq_true c7; clear c7; replace H := Option.bind_eq_some_iff.mp H; obtain ⟨⟨t130, t133, t136⟩, A80, H⟩ := H; replace H : (if x4_1 < (x3_1.length : Int) then (laws_toTransS.l0 k1 l0 (x3_1.set (x4_1 : Int).toNat (⟨t130, t133, t136⟩ : S105)) (wrap64 (x4_1 + 1))) else (none)) = some r := H; have A8 := q_ A80; clear A80
     obtain ⟨c9, H⟩ := ifp_ H; have c9b0 : decide (x4_1 < (x3_1.length : Int)) = true := decide_eq_true c9; clear c9; obtain ⟨y139, hy139⟩ : ∃ y_ : List (S105), y_ = (x3_1.set (x4_1 : Int).toNat (⟨t130, t133, t136⟩ : S105)) := ⟨_, rfl⟩; (replace H : (laws_toTransS.l0 k1 l0 y139 (wrap64 (x4_1 + 1))) = some r := by first | (rw [hy139]; with_reducible exact H) | (have H2_ := (Option.bind_some _ _).symm.trans H; rw [hy139]; with_reducible exact H2_) | (have H2_ := (Option.bind_some _ _).symm.trans H; with_reducible exact H2_) | with_reducible exact H | (rw [hy139]; exact H) | exact H); have Ny139 := q_ hy139; clear hy139; have H' := q_ H; clear H; have p129 : 0 ≤ (x4_1 : Int) := od; have q129 : x4_1 < (l0.length : Int) := od; obtain ⟨ad129, A129_0, c129_0, A129_1, c129_1, A129_2, c129_2, e129, hx129_0, hx129_1, hx129_2, hl129_0, hi129_0, hl129_1, hi129_1, hl129_2, hi129_2⟩ := at_T104 HR0.out x4_1 p129 q129
     cases e129
     replace hx129_0 := cb_ HB.out hx129_0; replace hx129_1 := cb_ HB.out hx129_1; replace hx129_2 := cb_ HB.out hx129_2; have HR129_0 := q_ hi129_0; have HC129_0 := q_ hl129_0; clear hi129_0 hl129_0; have HR129_1 := q_ hi129_1; have HC129_1 := q_ hl129_1; clear hi129_1 hl129_1; have HR129_2 := q_ hi129_2; have HC129_2 := q_ hl129_2; clear hi129_2 hl129_2; replace p129 := eq_true p129; replace q129 := eq_true q129; go_wp2_with (first | (refine goesM (some 20) rfl rfl Try.func84 #[.agg #[.slice A129_0 ((rd_T104 l0 x4_1).f0).length c129_0, .slice A129_1 ((rd_T104 l0 x4_1).f1).length c129_1, .slice A129_2 ((rd_T104 l0 x4_1).f2).length c129_2]] rfl ?_; (with_reducible refine (laws_toTrans.calls k1 _ _ ((rd_T104 l0 x4_1).f0) _ _ ((rd_T104 l0 x4_1).f1) _ _ ((rd_T104 l0 x4_1).f2) t130 t133 t136 _ ?side1 ?side2 ?side3 ?side4 ?side5 ?side6 A8.out).mono ?_); (case side1 => exact Kd.C_v ((Kd.C_below HR129_0.out HB.out))); (case side2 => exact HC129_0.out); (case side3 => exact Kd.C_v ((Kd.C_below HR129_1.out HB.out))); (case side4 => exact HC129_1.out); (case side5 => exact Kd.C_v ((Kd.C_below HR129_2.out HB.out))); (case side6 => exact HC129_2.out); rintro e w11 ⟨v131, v134, v137, rfl, ho0, ho1, ho2, hb⟩; refine ⟨_, rfl, ?_⟩; have HO132 := q_ (Kd.R_lower ho0 (below_size (by exact bv HB.out))); have HO135 := q_ (Kd.R_lower ho1 (below_size (by exact bv HB.out))); have HO138 := q_ (Kd.R_lower ho2 (below_size (by exact bv HB.out))); replace HO_3 := q_ (Kd.S_mono (Kd.S_told (Kd.S_told (Kd.S_told (Kd.S_old (by exact Kd.S_v HO_3.out) hb) (Kd.R_base ho0)) (Kd.R_base ho1)) (Kd.R_base ho2)) (fun _ h_ => h_.1)); replace HB := q_ (below_step (by exact bv HB.out) hb); (try clear hb); (try clear hb2); (try clear hk); (try clear hi); (try clear ho0); (try clear ho1); (try clear ho2); have p10 : 0 ≤ (x4_1 : Int) := od; have q10 : (x4_1 : Int) < ((x3_1.length : Int) : Int) := od; obtain ⟨go10, co10, eo10, gb10, gl10, cl10, HG10⟩ := Kd.S_form HO_3.out (by omega); (first | cases eo10 | (injection eo10 with ea_ en_ ec_; (first | subst ea_ | (injection ea_ with ea_; subst ea_)); subst ec_; clear en_)); have GB10 := q_ gb10; have GG10 := q_ HG10; clear gb10 gl10 HG10; obtain ⟨_, ce10, hcl10, hM10, hcc10, hfr10, _, _⟩ := Kd.S_elem HO_3.out z105 (x4_1 : Int) p10 q10; obtain ⟨ve10_0, ve10_1, ve10_2, rfl, ge10_0, ge10_1, ge10_2⟩ := k105_openM hM10; have hx10_0 : w11.cell? ⟨go10, (x4_1 : Int).toNat * 3, none⟩ = some (ve10_0) := hcc10 0 _ rfl; have hx10_1 : w11.cell? ⟨go10, (x4_1 : Int).toNat * 3 + 1, none⟩ = some (ve10_1) := hcc10 1 _ rfl; have hx10_2 : w11.cell? ⟨go10, (x4_1 : Int).toNat * 3 + 2, none⟩ = some (ve10_2) := hcc10 2 _ rfl; have hf10_0 : w11.frozen? ⟨go10, (x4_1 : Int).toNat * 3, none⟩ = false := hfr10 0; have hf10_1 : w11.frozen? ⟨go10, (x4_1 : Int).toNat * 3 + 1, none⟩ = false := hfr10 1; have hf10_2 : w11.frozen? ⟨go10, (x4_1 : Int).toNat * 3 + 2, none⟩ = false := hfr10 2; clear hcl10 hcc10 hfr10; (try clear hM10); replace p10 := eq_true p10; replace q10 := eq_true q10; obtain ⟨Ao14, co14, eo14⟩ := Kd.R_slice HO132.out; subst eo14; obtain ⟨Ao15, co15, eo15⟩ := Kd.R_slice HO135.out; subst eo15; obtain ⟨Ao16, co16, eo16⟩ := Kd.R_slice HO138.out; subst eo16; have n_ := q_ (Kd.S_mono (ok' := (fun k_ => some k_ ≠ (.slice Ao14 t130.length co14 : Value).ownBlock ∧ some k_ ≠ (.slice Ao15 t133.length co15 : Value).ownBlock ∧ some k_ ≠ (.slice Ao16 t136.length co16 : Value).ownBlock)) HO_3.out (fun k_ hk => ⟨hk.1.1.2, ⟨hk.1.2, hk.2⟩⟩)); clear HO_3; have HO_3 := n_; clear n_; have HX12 := q_ (show Kd.S k105 105 w11 w.heap.size (fun k_ => ((fun _ => True)) k_ ∧ ¬ ((fun k_ => some k_ = (.slice Ao14 t130.length co14 : Value).ownBlock ∨ some k_ = (.slice Ao15 t133.length co15 : Value).ownBlock ∨ some k_ = (.slice Ao16 t136.length co16 : Value).ownBlock)) k_) (.slice (some ⟨go10, 0, none⟩) x3_1.length co10) x3_1 from (by (with_reducible repeat (first | apply Kd.S_alloc | apply Kd.S_drewN | apply Kd.S_drew)); exact Kd.S_mono HO_3.out (fun k_ hk => ⟨trivial, fun e_ => e_.elim (fun h_ => hk.1 h_) (fun h_ => h_.elim (fun h_ => hk.2.1 h_) (fun h_ => hk.2.2 h_))⟩))); obtain ⟨oki12, ce12, hcl12, hM12, hcc12, hfr12, hoki12, hH12⟩ := Kd.S_elem HX12.out z105 (x4_1 : Int) (od) (by have h_ : (x4_1 : Int) < ((x3_1.length : Int) : Int) := od; first | exact h_ | (have e_ := (Kd.S_reads' HO_3.out).1; omega) | simpa using h_); obtain ⟨ve12_0, ve12_1, ve12_2, rfl, ge12_0, ge12_1, ge12_2⟩ := k105_openM hM12; have HP12 := Kd.S_seg hH12 (od) (by have h_ : (x4_1 : Int) < ((x3_1.length : Int) : Int) := od; first | exact h_ | (have e_ := (Kd.S_reads' HO_3.out).1; omega) | simpa using h_) (seg := [.slice Ao14 t130.length co14, .slice Ao15 t133.length co15, .slice Ao16 t136.length co16]) (j := 0) (show 3 ≤ 3 from by decide) (x' := (⟨t130, t133, t136⟩ : S105)) (k105_mkM _ _ _ (⟨t130, t133, t136⟩ : S105) (Kd.R_mono (Kd.R_tight rfl (Kd.R_mono (ok' := fun k_ => ((fun _ => True)) k_ ∧ k_ ≠ go10) (Kd.R_apart' (HO132.out) (Kd.S_typed HO_3.out) (by decide)) (fun k_ hk => ⟨trivial, fun e_ => (hk.2) (by rw [e_]; rfl)⟩))) (fun _ h_ => Or.inr (Or.inl h_))) (Kd.R_mono (Kd.R_tight rfl (Kd.R_mono (ok' := fun k_ => ((fun _ => True)) k_ ∧ k_ ≠ go10) (Kd.R_apart' (HO135.out) (Kd.S_typed HO_3.out) (by decide)) (fun k_ hk => ⟨trivial, fun e_ => (hk.2) (by rw [e_]; rfl)⟩))) (fun _ h_ => Or.inr (Or.inr (Or.inl h_)))) (Kd.R_mono (Kd.R_tight rfl (Kd.R_mono (ok' := fun k_ => ((fun _ => True)) k_ ∧ k_ ≠ go10) (Kd.R_apart' (HO138.out) (Kd.S_typed HO_3.out) (by decide)) (fun k_ hk => ⟨trivial, fun e_ => (hk.2) (by rw [e_]; rfl)⟩))) (fun _ h_ => Or.inr (Or.inr (Or.inr (h_)))))) (fun _ hk => hk) (fun k_ hk_ => hk_.elim (fun h_ => ((Kd.R_mono (ok' := fun k_ => ((fun _ => True)) k_ ∧ k_ ≠ go10) (Kd.R_apart' (HO132.out) (Kd.S_typed HO_3.out) (by decide)) (fun k_ hk => ⟨trivial, fun e_ => (hk.2) (by rw [e_]; rfl)⟩))).1 k_ h_.symm) (fun h_ => h_.elim (fun h_ => ((Kd.R_mono (ok' := fun k_ => ((fun _ => True)) k_ ∧ k_ ≠ go10) (Kd.R_apart' (HO135.out) (Kd.S_typed HO_3.out) (by decide)) (fun k_ hk => ⟨trivial, fun e_ => (hk.2) (by rw [e_]; rfl)⟩))).1 k_ h_.symm) (fun h_ => ((Kd.R_mono (ok' := fun k_ => ((fun _ => True)) k_ ∧ k_ ≠ go10) (Kd.R_apart' (HO138.out) (Kd.S_typed HO_3.out) (by decide)) (fun k_ hk => ⟨trivial, fun e_ => (hk.2) (by rw [e_]; rfl)⟩))).1 k_ h_.symm))); have hx12_0 := hcc12 0 _ rfl; (try simp only [show (k105).sz = 3 from rfl, Nat.mul_one, Nat.add_zero] at hx12_0); have hf12_0 := hfr12 0; (try simp only [show (k105).sz = 3 from rfl, Nat.mul_one, Nat.add_zero] at hf12_0); have hx12_1 := hcc12 1 _ rfl; (try simp only [show (k105).sz = 3 from rfl, Nat.mul_one, Nat.add_zero] at hx12_1); have hf12_1 := hfr12 1; (try simp only [show (k105).sz = 3 from rfl, Nat.mul_one, Nat.add_zero] at hf12_1); have hx12_2 := hcc12 2 _ rfl; (try simp only [show (k105).sz = 3 from rfl, Nat.mul_one, Nat.add_zero] at hx12_2); have hf12_2 := hfr12 2; (try simp only [show (k105).sz = 3 from rfl, Nat.mul_one, Nat.add_zero] at hf12_2); clear hcl12 hcc12 hfr12; (try clear hM12); clear hoki12 hH12) | ((with_reducible refine gate_store (t := 105) (p := 21) rfl ?_); refine store_event (t := 105) (p := 21) (v := ?vo_w13) (w1 := (((w11.setCell ⟨go10, (x4_1 : Int).toNat * 3, none⟩ (.slice Ao14 t130.length co14)).setCell ⟨go10, (x4_1 : Int).toNat * 3 + 1, none⟩ (.slice Ao15 t133.length co15)).setCell ⟨go10, (x4_1 : Int).toNat * 3 + 2, none⟩ (.slice Ao16 t136.length co16))) ?hg ?ho ?hn ?hr ?_; (case ho => rfl); (case hg => rfl); (case hn => rfl); (case hr => first | (go_simp; done) | (go_simp; rfl)); intro w13 hw; have hg : w11.grownBy w13 (some go10) := (by rw [hw]; exact HP12.2); have hp_ : Kd.S k105 105 w13 w.heap.size (fun _ => True) (.slice (some ⟨go10, 0, none⟩) x3_1.length co10) y139 := (by rw [hw, Ny139.out]; exact HP12.1); clear HP12; replace HO_3 := q_ (hp_); replace HB := q_ ((by rw [hw]; exact below_set (below_set (below_set (HB.out) GB10.out) GB10.out) GB10.out : Below w.heap.size w w13)); clear HO132; clear HO135; clear HO138; clear hg hw hp_)); go_roundg k1
     case measure => have := HK1.out; omega
     case rel => exact ⟨(y139), (wrap64 (x4_1 + 1)), eqv, H', ⟨by have := HK1.out; omega⟩, ⟨by exact Kd.S_v HO_3.out⟩, ⟨by exact bv HB.out⟩⟩
    ·rw [if_neg c6] at H; have c6b0 : decide (x4_1 < (l0.length : Int)) = false := decide_eq_false c6; clear c6; obtain rfl := Option.some.inj H; go_wp2; go_ret; exact ⟨_, by first | rfl | (simp [errW_none, errW_some] <;> rfl) | (simp [*, errW_none, errW_some] <;> rfl), by exact Kd.S_v HO_3.out, by exact bv HB.out⟩

/-! ### laws_toNet: function 18 -/
def laws_toNet.f (k : Nat) (a0_0 : Int) (l0_1 : List (S104)) : Option (Int × (List (S105))) := (laws_toTransS.f k l0_1).bind fun t143 => (some (a0_0, t143))
set_option maxHeartbeats 8000000 in
set_option maxRecDepth 100000 in
theorem laws_toNet.calls (k : Nat) (a0_0 : Int) (A0_1 : Option Addr) (c0_1 : Nat) (l0_1 : List (S104)) (r1 : Int) (r2 : List (S105)) (w : World) (hr0_1 : Kd.C k104 w A0_1 l0_1.length l0_1) (hc0_1 : l0_1.length ≤ c0_1) (h : laws_toNet.f k a0_0 l0_1 = some (r1, r2)) :
    Calls Try.prog 18 #[.agg #[.int .i64 a0_0, .slice A0_1 l0_1.length c0_1]] w fun e w' => ∃ v1_ : Value, e = .returned (.agg #[.int .i64 r1, v1_]) ∧ Kd.S k105 105 w' w.heap.size (fun _ => True) v1_ r2 ∧ Below w.heap.size w w' := by
  have hu31 := Try.underlying31
  have hu38 := Try.underlying38
  have HR0_1 := q_ hr0_1; have HC0_1 := q_ hc0_1; clear hr0_1 hc0_1; have HB := q_ (Below.refl w.heap.size w); have H : ((laws_toTransS.f k l0_1).bind fun t143 => (some (a0_0, t143))) = some (r1, r2) := h; clear h; obtain ⟨t143, A2, H⟩ := bnd_ H; simp only [Option.some.injEq, Prod.mk.injEq] at H; obtain ⟨rfl, rfl⟩ := H; go_enter Try.func18, Try.ntmps18; go_wp2_with (first | (refine boxE 1 #[.int .i64 a0_0, .slice A0_1 l0_1.length c0_1] 31 ?_; intro gb140 hg w3 hbox hb; have BK140 := q_ (hbox); have GW140 := q_ (gw_ hg HB.out); have GE140 := q_ (gw_ hg HB.out); replace HB := q_ (bs HB.out hb); clear hb hbox hg) | (refine boxE 2 #[.int .i64 0, .slice none 0 0] 38 ?_; intro gb141 hg w4 hbox hb; have BK141 := q_ (hbox); have GW141 := q_ (gw_ hg HB.out); have GE141 := q_ (gw_ hg HB.out); have NB140_141 := q_ (nb_ hg BK140.out); have NB141_140 := q_ (bn_ hg BK140.out); replace BK140 := q_ (bb BK140.out hb); replace HB := q_ (bs HB.out hb); clear hb hbox hg) | (refine boxE 3 #[.int .i64 0, .slice none 0 0] 38 ?_; intro gb142 hg w5 hbox hb; have BK142 := q_ (hbox); have GW142 := q_ (gw_ hg HB.out); have GE142 := q_ (gw_ hg HB.out); have NB140_142 := q_ (nb_ hg BK140.out); have NB142_140 := q_ (bn_ hg BK140.out); have NB141_142 := q_ (nb_ hg BK141.out); have NB142_141 := q_ (bn_ hg BK141.out); replace BK140 := q_ (bb BK140.out hb); replace BK141 := q_ (bb BK141.out hb); replace HB := q_ (bs HB.out hb); clear hb hbox hg; have hnb6 := NB140_141.out; have hnc6 := NB141_140.out; have hnb7 := NB140_142.out; have hnc7 := NB142_140.out; obtain ⟨hcz8_0, hcz8_1, hfz8_0, hfz8_1⟩ := cz2 BK140.out; have hnb9 := NB142_141.out; have hnc9 := NB141_142.out; obtain ⟨hcz10_0, hcz10_1, hfz10_0, hfz10_1⟩ := cz2 BK142.out) | (refine goesM (some 9) rfl rfl Try.func50 #[.slice A0_1 l0_1.length c0_1] rfl ?_; (with_reducible refine (laws_toTransS.calls k _ _ l0_1 t143 _ ?side1 ?side2 A2.out).mono ?_); (case side1 => exact Kd.C_below HR0_1.out (by exact (below_set HB.out GE142.out))); (case side2 => exact HC0_1.out); rintro e w11 ⟨v144, rfl, ho0, hb⟩; refine ⟨_, rfl, ?_⟩; have HO145 := q_ (Kd.S_lower ho0 (below_size (by exact (below_set HB.out GE142.out)))); replace BK140 := q_ (blk_below (g := gb140) (o := .cells #[.int .i64 a0_0, .slice A0_1 l0_1.length c0_1] 31 (0, 0)) (by exact (blk_far BK140.out NB140_142.out _)) hb); replace BK141 := q_ (blk_below (g := gb141) (o := .cells #[.int .i64 0, .slice none 0 0] 38 (0, 0)) (by exact (blk_far BK141.out NB141_142.out _)) hb); replace BK142 := q_ (blk_below (g := gb142) (o := .cells #[.int .i64 a0_0, .slice none 0 0] 38 (0, 0)) (by exact (blk_put BK142.out 0 _ rfl)) hb); replace HB := q_ (below_step (by exact (below_set HB.out GE142.out)) hb); (try clear hb); (try clear hb2); (try clear hk); (try clear hi); (try clear ho0); obtain ⟨Ao12, co12, eo12⟩ := Kd.S_slice HO145.out; subst eo12; obtain ⟨hcz13_0, hcz13_1, hfz13_0, hfz13_1⟩ := cz2 BK142.out; obtain ⟨hcz14_0, hcz14_1, hfz14_0, hfz14_1⟩ := cz2 BK141.out)); refine bodyPost_ret (results_cell_row rfl _ _ gb141 38 #[.int .i64 a0_0, .slice Ao12 t143.length co12] (0, 0) _ rfl (by exact (blk_put (blk_put (blk_far BK141.out NB141_142.out _) 0 _ rfl) 1 _ rfl)) Try.underlying38 rfl (by kernel_rfl)) rfl ?_; exact ⟨_, by first | rfl | (simp [errW_none, errW_some] <;> rfl) | (simp [*, errW_none, errW_some] <;> rfl), by exact Kd.S_mono (Kd.S_far (p := ⟨gb141, 1, none⟩) (Kd.S_far (p := ⟨gb141, 0, none⟩) (Kd.S_far (p := ⟨gb142, 1, none⟩) (Kd.S_types (Kd.S_types HO145.out BK142.out (by decide)) BK141.out (by decide)) (fun _ hk => hk.1.2) (.slice Ao12 t143.length co12)) (fun _ hk => hk.2) (.int .i64 a0_0)) (fun _ hk => hk.2) (.slice Ao12 t143.length co12)) (fun _ hk => trivial), by exact (below_set (below_set (below_set HB.out GE142.out) GE141.out) GE141.out)⟩

/-! ### laws_eqIntS: function 22 -/
def laws_eqIntS.l0 : Nat → List Int → List Int → Int → Option (Bool)
  | 0, _, _, _ => none
  | k + 1, x0, x1, x5 => if x5 < (x0.length : Int) then (if 0 ≤ x5 then (if x5 < (x1.length : Int) then (if (rd x0 x5) = (rd x1 x5) then (laws_eqIntS.l0 k x0 x1 (wrap64 (x5 + 1))) else (some false)) else (none)) else (none)) else (some true)
def laws_eqIntS.f (k : Nat) (l0 : List Int) (l1 : List Int) : Option (Bool) := if (l0.length : Int) = (l1.length : Int) then (laws_eqIntS.l0 k l0 l1 0) else (some false)
set_option maxHeartbeats 8000000 in
set_option maxRecDepth 100000 in
theorem laws_eqIntS.calls (k : Nat) (A0 : Option Addr) (c0 : Nat) (l0 : List Int) (A1 : Option Addr) (c1 : Nat) (l1 : List Int) (r : Bool) (w : World) (hr0 : Kd.C (Kd.int .i64) w A0 l0.length l0) (hc0 : l0.length ≤ c0) (hr1 : Kd.C (Kd.int .i64) w A1 l1.length l1) (hc1 : l1.length ≤ c1) (h : laws_eqIntS.f k l0 l1 = some r) :
    Calls Try.prog 22 #[.slice A0 l0.length c0, .slice A1 l1.length c1] w fun e w' => e = .returned (.bool r) ∧ Drawn0 w w' := by
  have HR0 := q_ hr0; have HC0 := q_ hc0; clear hr0 hc0; have HR1 := q_ hr1; have HC1 := q_ hc1; clear hr1 hc1; have H : (if (l0.length : Int) = (l1.length : Int) then (laws_eqIntS.l0 k l0 l1 0) else (some false)) = some r := h; clear h
  by_cases c3 : (l0.length : Int) = (l1.length : Int)
  ·rw [if_pos c3] at H; have c3b0 : ((l0.length : Int) == (l1.length : Int)) = true := beq_iff_eq.mpr c3; have c3b1 : ((l0.length : Int) != (l1.length : Int)) = false := bne_eq_false_iff_eq.mpr c3; (have c3b2 : (l0.length == l1.length) = true := by first | simpa using c3 | (simp at c3 ⊢; omega)); clear c3; have H' := q_ H; clear H; go_enter Try.func22, Try.ntmps22; go_wp2; (repeat (go_quiet (fail); try go_wp2)); go_loopg [5] k (fun kq v5 w' => ∃ (x5_1 : Int), v5 = .int .i64 x5_1 ∧ Aside0 (laws_eqIntS.l0 kq l0 l1 x5_1 = some r) ∧ Aside0 (kq ≤ k) ∧ Drawn0 w w')
   case atStart => exact ⟨(0), eqv, H', ⟨Nat.le_refl _⟩, by repeat (first | exact Drawn0.refl _ | apply Drawn0.step)⟩
   case round =>
    clear H'; (try clear c3b0); (try clear c3b1); (try clear c3b2); obtain ⟨x5_1, rfl, HA, HK1, ⟨m1, rfl⟩⟩ := hrel
    cases gk with
    | zero => exact absurd HA.out (by simp [laws_eqIntS.l0])
    | succ k1 =>
     have H := HA.out; clear HA; simp only [laws_eqIntS.l0] at H
     by_cases c4 : x5_1 < (l0.length : Int)
     ·rw [if_pos c4] at H; have c4b0 : decide (x5_1 < (l0.length : Int)) = true := decide_eq_true c4; clear c4
      obtain ⟨c5, H⟩ := ifp_ H; have c5b0 : decide (0 ≤ x5_1) = true := decide_eq_true c5; clear c5
      obtain ⟨c6, H⟩ := ifp_ H; have c6b0 : decide (x5_1 < (l1.length : Int)) = true := decide_eq_true c6; clear c6
      by_cases c7 : (rd l0 x5_1) = (rd l1 x5_1)
      ·rw [if_pos c7] at H; have c7b0 : ((rd l0 x5_1) == (rd l1 x5_1)) = true := beq_iff_eq.mpr c7; have c7b1 : ((rd l0 x5_1) != (rd l1 x5_1)) = false := bne_eq_false_iff_eq.mpr c7; clear c7; have H' := q_ H; clear H; have p146 : 0 ≤ (x5_1 : Int) := od; have q146 : x5_1 < (l0.length : Int) := od; obtain ⟨ad146, e146, hx146_0⟩ := Kd.at_int HR0.out x5_1 p146 q146
       cases e146
       replace p146 := eq_true p146; replace q146 := eq_true q146; have p147 : 0 ≤ (x5_1 : Int) := od; have q147 : x5_1 < (l1.length : Int) := od; obtain ⟨ad147, e147, hx147_0⟩ := Kd.at_int HR1.out x5_1 p147 q147
       cases e147
       replace p147 := eq_true p147; replace q147 := eq_true q147; go_wp2; (repeat (go_quiet (fail); try go_wp2)); go_roundg k1
       case measure => have := HK1.out; omega
       case rel => exact ⟨(wrap64 (x5_1 + 1)), eqv, H', ⟨by have := HK1.out; omega⟩, by repeat (first | exact Drawn0.refl _ | apply Drawn0.step)⟩
      ·rw [if_neg c7] at H; have c7b0 : ((rd l0 x5_1) == (rd l1 x5_1)) = false := beq_eq_false_iff_ne.mpr c7; have c7b1 : ((rd l0 x5_1) != (rd l1 x5_1)) = true := bne_iff_ne.mpr c7; obtain rfl := Option.some.inj H; have p146 : 0 ≤ (x5_1 : Int) := od; have q146 : x5_1 < (l0.length : Int) := od; obtain ⟨ad146, e146, hx146_0⟩ := Kd.at_int HR0.out x5_1 p146 q146
       cases e146
       replace p146 := eq_true p146; replace q146 := eq_true q146; have p147 : 0 ≤ (x5_1 : Int) := od; have q147 : x5_1 < (l1.length : Int) := od; obtain ⟨ad147, e147, hx147_0⟩ := Kd.at_int HR1.out x5_1 p147 q147
       cases e147
       replace p147 := eq_true p147; replace q147 := eq_true q147; go_wp2; (repeat (go_quiet (fail); try go_wp2)); go_ret; exact ⟨by first | rfl | (simp; done) | (simp [*]; done), by repeat (first | exact Drawn0.refl _ | apply Drawn0.step)⟩
     ·rw [if_neg c4] at H; have c4b0 : decide (x5_1 < (l0.length : Int)) = false := decide_eq_false c4; clear c4; obtain rfl := Option.some.inj H; go_wp2; (repeat (go_quiet (fail); try go_wp2)); go_ret; exact ⟨by first | rfl | (simp; done) | (simp [*]; done), by repeat (first | exact Drawn0.refl _ | apply Drawn0.step)⟩
  ·rw [if_neg c3] at H; have c3b0 : ((l0.length : Int) == (l1.length : Int)) = false := beq_eq_false_iff_ne.mpr c3; have c3b1 : ((l0.length : Int) != (l1.length : Int)) = true := bne_iff_ne.mpr c3; (have c3b2 : (l0.length == l1.length) = false := by first | simpa using c3 | (simp at c3 ⊢; omega)); obtain rfl := Option.some.inj H; go_enter Try.func22, Try.ntmps22; go_wp2; (repeat (go_quiet (fail); try go_wp2)); go_ret; exact ⟨by first | rfl | (simp; done) | (simp [*]; done), by repeat (first | exact Drawn0.refl _ | apply Drawn0.step)⟩

/-! ### laws_eqTrans: function 90 -/
def laws_eqTrans.f (k : Nat) (l0_0 : List Int) (l0_1 : List Int) (l0_2 : List Int) (l1_0 : List Int) (l1_1 : List Int) (l1_2 : List Int) : Option (Bool) := (laws_eqIntS.f k l0_0 l1_0).bind fun t150 => (if t150 = true then ((laws_eqIntS.f k l0_1 l1_1).bind fun t151 => (if t151 = true then ((laws_eqIntS.f k l0_2 l1_2).bind fun t152 => (if t152 = true then (some true) else (some false))) else (some false))) else (some false))
set_option maxHeartbeats 8000000 in
set_option maxRecDepth 100000 in
theorem laws_eqTrans.calls (k : Nat) (A0_0 : Option Addr) (c0_0 : Nat) (l0_0 : List Int) (A0_1 : Option Addr) (c0_1 : Nat) (l0_1 : List Int) (A0_2 : Option Addr) (c0_2 : Nat) (l0_2 : List Int) (A1_0 : Option Addr) (c1_0 : Nat) (l1_0 : List Int) (A1_1 : Option Addr) (c1_1 : Nat) (l1_1 : List Int) (A1_2 : Option Addr) (c1_2 : Nat) (l1_2 : List Int) (r : Bool) (w : World) (hr0_0 : Kd.C (Kd.int .i64) w A0_0 l0_0.length l0_0) (hc0_0 : l0_0.length ≤ c0_0) (hr0_1 : Kd.C (Kd.int .i64) w A0_1 l0_1.length l0_1) (hc0_1 : l0_1.length ≤ c0_1) (hr0_2 : Kd.C (Kd.int .i64) w A0_2 l0_2.length l0_2) (hc0_2 : l0_2.length ≤ c0_2) (hr1_0 : Kd.C (Kd.int .i64) w A1_0 l1_0.length l1_0) (hc1_0 : l1_0.length ≤ c1_0) (hr1_1 : Kd.C (Kd.int .i64) w A1_1 l1_1.length l1_1) (hc1_1 : l1_1.length ≤ c1_1) (hr1_2 : Kd.C (Kd.int .i64) w A1_2 l1_2.length l1_2) (hc1_2 : l1_2.length ≤ c1_2) (h : laws_eqTrans.f k l0_0 l0_1 l0_2 l1_0 l1_1 l1_2 = some r) :
    Calls Try.prog 90 #[.agg #[.slice A0_0 l0_0.length c0_0, .slice A0_1 l0_1.length c0_1, .slice A0_2 l0_2.length c0_2], .agg #[.slice A1_0 l1_0.length c1_0, .slice A1_1 l1_1.length c1_1, .slice A1_2 l1_2.length c1_2]] w fun e w' => e = .returned (.bool r) ∧ Below w.heap.size w w' := by
  have hu105 := Try.underlying105
  have HR0_0 := q_ hr0_0; have HC0_0 := q_ hc0_0; clear hr0_0 hc0_0; have HR0_1 := q_ hr0_1; have HC0_1 := q_ hc0_1; clear hr0_1 hc0_1; have HR0_2 := q_ hr0_2; have HC0_2 := q_ hc0_2; clear hr0_2 hc0_2; have HR1_0 := q_ hr1_0; have HC1_0 := q_ hc1_0; clear hr1_0 hc1_0; have HR1_1 := q_ hr1_1; have HC1_1 := q_ hc1_1; clear hr1_1 hc1_1; have HR1_2 := q_ hr1_2; have HC1_2 := q_ hc1_2; clear hr1_2 hc1_2; have HB := q_ (Below.refl w.heap.size w); have H : ((laws_eqIntS.f k l0_0 l1_0).bind fun t150 => (if t150 = true then ((laws_eqIntS.f k l0_1 l1_1).bind fun t151 => (if t151 = true then ((laws_eqIntS.f k l0_2 l1_2).bind fun t152 => (if t152 = true then (some true) else (some false))) else (some false))) else (some false))) = some r := h; clear h; obtain ⟨t150, A3, H⟩ := bnd_ H; have HC4 := q_ H; clear H; go_enter Try.func90, Try.ntmps90
  go_upto_if 10 with (first | (refine boxE 2 #[.slice A0_0 l0_0.length c0_0, .slice A0_1 l0_1.length c0_1, .slice A0_2 l0_2.length c0_2] 105 ?_; intro gb148 hg w5 hbox hb; have BK148 := q_ (hbox); have GW148 := q_ (gw_ hg HB.out); have GE148 := q_ (gw_ hg HB.out); replace HB := q_ (bs HB.out hb); clear hb hbox hg) | (refine boxE 3 #[.slice A1_0 l1_0.length c1_0, .slice A1_1 l1_1.length c1_1, .slice A1_2 l1_2.length c1_2] 105 ?_; intro gb149 hg w6 hbox hb; have BK149 := q_ (hbox); have GW149 := q_ (gw_ hg HB.out); have GE149 := q_ (gw_ hg HB.out); have NB148_149 := q_ (nb_ hg BK148.out); have NB149_148 := q_ (bn_ hg BK148.out); replace BK148 := q_ (bb BK148.out hb); replace HB := q_ (bs HB.out hb); clear hb hbox hg; have hnb7 := NB148_149.out; have hnc7 := NB149_148.out; obtain ⟨hcz8_0, hcz8_1, hcz8_2, hfz8_0, hfz8_1, hfz8_2⟩ := cz3 BK148.out; obtain ⟨hcz9_0, hcz9_1, hcz9_2, hfz9_0, hfz9_1, hfz9_2⟩ := cz3 BK149.out) | (refine goesM (some 9) rfl rfl Try.func22 #[.slice A0_0 l0_0.length c0_0, .slice A1_0 l1_0.length c1_0] rfl ?_; (with_reducible refine (laws_eqIntS.calls k _ _ l0_0 _ _ l1_0 t150 _ ?side1 ?side2 ?side3 ?side4 A3.out).mono ?_); (case side1 => exact Kd.C_v ((Kd.C_below HR0_0.out HB.out))); (case side2 => exact HC0_0.out); (case side3 => exact Kd.C_v ((Kd.C_below HR1_0.out HB.out))); (case side4 => exact HC1_0.out); rintro e w' ⟨rfl, ⟨nd, rfl⟩⟩; refine ⟨_, rfl, ?_⟩))
  (try simp only [Act.put, List.setIfInBounds_toArray, List.set_cons_zero, List.set_cons_succ]); have H := HC4.out; clear HC4
  by_cases c10 : t150 = true
  ·subst c10; replace H := itt_ H; obtain ⟨t151, A11, H⟩ := bnd_ H; have HC12 := q_ H; clear H; have hnb13 := NB148_149.out; have hnc13 := NB149_148.out; obtain ⟨hcz14_0, hcz14_1, hcz14_2, hfz14_0, hfz14_1, hfz14_2⟩ := cz3 BK148.out; obtain ⟨hcz15_0, hcz15_1, hcz15_2, hfz15_0, hfz15_1, hfz15_2⟩ := cz3 BK149.out
   go_upto_if 16 with (first | (refine goesM (some 15) rfl rfl Try.func22 #[.slice A0_1 l0_1.length c0_1, .slice A1_1 l1_1.length c1_1] rfl ?_; (with_reducible refine (laws_eqIntS.calls k _ _ l0_1 _ _ l1_1 t151 _ ?side1 ?side2 ?side3 ?side4 A11.out).mono ?_); (case side1 => exact Kd.C_v ((Kd.C_below HR0_1.out HB.out))); (case side2 => exact HC0_1.out); (case side3 => exact Kd.C_v ((Kd.C_below HR1_1.out HB.out))); (case side4 => exact HC1_1.out); rintro e w' ⟨rfl, ⟨nd, rfl⟩⟩; refine ⟨_, rfl, ?_⟩))
   (try simp only [Act.put, List.setIfInBounds_toArray, List.set_cons_zero, List.set_cons_succ]); have H := HC12.out; clear HC12
   by_cases c16 : t151 = true
   ·subst c16; replace H := itt_ H; obtain ⟨t152, A17, H⟩ := bnd_ H; have HC18 := q_ H; clear H; have hnb19 := NB148_149.out; have hnc19 := NB149_148.out; obtain ⟨hcz20_0, hcz20_1, hcz20_2, hfz20_0, hfz20_1, hfz20_2⟩ := cz3 BK148.out; obtain ⟨hcz21_0, hcz21_1, hcz21_2, hfz21_0, hfz21_1, hfz21_2⟩ := cz3 BK149.out
    go_upto_if 22 with (first | (refine goesM (some 21) rfl rfl Try.func22 #[.slice A0_2 l0_2.length c0_2, .slice A1_2 l1_2.length c1_2] rfl ?_; (with_reducible refine (laws_eqIntS.calls k _ _ l0_2 _ _ l1_2 t152 _ ?side1 ?side2 ?side3 ?side4 A17.out).mono ?_); (case side1 => exact Kd.C_v ((Kd.C_below HR0_2.out HB.out))); (case side2 => exact HC0_2.out); (case side3 => exact Kd.C_v ((Kd.C_below HR1_2.out HB.out))); (case side4 => exact HC1_2.out); rintro e w' ⟨rfl, ⟨nd, rfl⟩⟩; refine ⟨_, rfl, ?_⟩))
    (try simp only [Act.put, List.setIfInBounds_toArray, List.set_cons_zero, List.set_cons_succ]); have H := HC18.out; clear HC18
    by_cases c22 : t152 = true
    ·subst c22; replace H := itt_ H; obtain rfl := Option.some.inj H; go_wp2; go_ret; exact fin_ (by exact bv HB.out)
    ·replace c22 := Bool.eq_false_iff.mpr c22; subst c22; replace H := iff_ H; obtain rfl := Option.some.inj H; go_wp2; go_ret; exact fin_ (by exact bv HB.out)
   ·replace c16 := Bool.eq_false_iff.mpr c16; subst c16; replace H := iff_ H; obtain rfl := Option.some.inj H; go_wp2; go_ret; exact fin_ (by exact bv HB.out)
  ·replace c10 := Bool.eq_false_iff.mpr c10; subst c10; replace H := iff_ H; obtain rfl := Option.some.inj H; go_wp2; go_ret; exact fin_ (by exact bv HB.out)

/-! ### laws_eqTransS: function 56 -/
def laws_eqTransS.l0 : Nat → List (S105) → List (S105) → Int → Option (Bool)
  | 0, _, _, _ => none
  | k + 1, x0, x1, x5 => if x5 < (x0.length : Int) then (if 0 ≤ x5 then (if x5 < (x1.length : Int) then ((laws_eqTrans.f k ((rd_T105 x0 x5).f0) ((rd_T105 x0 x5).f1) ((rd_T105 x0 x5).f2) ((rd_T105 x1 x5).f0) ((rd_T105 x1 x5).f1) ((rd_T105 x1 x5).f2)).bind fun t155 => (if t155 = true then (laws_eqTransS.l0 k x0 x1 (wrap64 (x5 + 1))) else (some false))) else (none)) else (none)) else (some true)
def laws_eqTransS.f (k : Nat) (l0 : List (S105)) (l1 : List (S105)) : Option (Bool) := if (l0.length : Int) = (l1.length : Int) then (laws_eqTransS.l0 k l0 l1 0) else (some false)
def laws_eqTransS.T6 : Bool × List (List Nat × List Nat) := (true, [([], []), ([], []), ([0, 1], [0, 1]), ([2], [2]), ([], []), ([], []), ([4, 5], [4, 5]), ([6], [6]), ([3, 7], [3, 7]), ([8], [8])])
def laws_eqTransS.B6 : List Nat := [0, 0, 3, 7, 0, 0, 48, 112, 255, 511]
theorem laws_eqTransS.tab6 : rtab .any (opsOf Try.f56 6) = laws_eqTransS.T6 := by kernel_rfl
theorem laws_eqTransS.bits6 : waitsOk laws_eqTransS.T6.2 laws_eqTransS.B6 = true := by kernel_rfl
set_option maxHeartbeats 8000000 in
set_option maxRecDepth 100000 in
theorem laws_eqTransS.calls (k : Nat) (A0 : Option Addr) (c0 : Nat) (l0 : List (S105)) (A1 : Option Addr) (c1 : Nat) (l1 : List (S105)) (r : Bool) (w : World) (hr0 : Kd.C k105 w A0 l0.length l0) (hc0 : l0.length ≤ c0) (hr1 : Kd.C k105 w A1 l1.length l1) (hc1 : l1.length ≤ c1) (h : laws_eqTransS.f k l0 l1 = some r) :
    Calls Try.prog 56 #[.slice A0 l0.length c0, .slice A1 l1.length c1] w fun e w' => e = .returned (.bool r) ∧ Below w.heap.size w w' := by
  have hu105 := Try.underlying105
  have HR0 := q_ hr0; have HC0 := q_ hc0; clear hr0 hc0; have HR1 := q_ hr1; have HC1 := q_ hc1; clear hr1 hc1; have HB := q_ (Below.refl w.heap.size w); have H : (if (l0.length : Int) = (l1.length : Int) then (laws_eqTransS.l0 k l0 l1 0) else (some false)) = some r := h; clear h
  by_cases c3 : (l0.length : Int) = (l1.length : Int)
  ·rw [if_pos c3] at H; have c3b0 : ((l0.length : Int) == (l1.length : Int)) = true := beq_iff_eq.mpr c3; have c3b1 : ((l0.length : Int) != (l1.length : Int)) = false := bne_eq_false_iff_eq.mpr c3; (have c3b2 : (l0.length == l1.length) = true := by first | simpa using c3 | (simp at c3 ⊢; omega)); clear c3; have H' := q_ H; clear H; go_enter Try.func56, Try.ntmps56; go_wp2; go_loopg [5] k (fun kq v5 w' => ∃ (x5_1 : Int), v5 = .int .i64 x5_1 ∧ Aside0 (laws_eqTransS.l0 kq l0 l1 x5_1 = some r) ∧ Aside0 (kq ≤ k) ∧ Aside0 (Below w.heap.size w w'))
   case atStart => exact ⟨(0), eqv, H', ⟨Nat.le_refl _⟩, ⟨by exact bv HB.out⟩⟩
   case round =>
    clear H'; (try clear c3b0); (try clear c3b1); (try clear c3b2); obtain ⟨x5_1, rfl, HA, HK1, HB⟩ := hrel
    cases gk with
    | zero => exact absurd HA.out (by simp [laws_eqTransS.l0])
    | succ k1 =>
     have H := HA.out; clear HA; simp only [laws_eqTransS.l0] at H
     by_cases c4 : x5_1 < (l0.length : Int)
     ·rw [if_pos c4] at H; have c4b0 : decide (x5_1 < (l0.length : Int)) = true := decide_eq_true c4; clear c4
      obtain ⟨c5, H⟩ := ifp_ H; have c5b0 : decide (0 ≤ x5_1) = true := decide_eq_true c5; clear c5
      obtain ⟨c6, H⟩ := ifp_ H; have c6b0 : decide (x5_1 < (l1.length : Int)) = true := decide_eq_true c6; clear c6; obtain ⟨t155, A7, H⟩ := bnd_ H; have HC8 := q_ H; clear H
      try go_wp2
      replace HB := q_ (below_drew1 HB.out); have p153 : 0 ≤ (x5_1 : Int) := od; have q153 : x5_1 < (l0.length : Int) := od; obtain ⟨ad153, A153_0, c153_0, A153_1, c153_1, A153_2, c153_2, e153, hx153_0, hx153_1, hx153_2, hl153_0, hi153_0, hl153_1, hi153_1, hl153_2, hi153_2⟩ := at_T105 HR0.out x5_1 p153 q153; have hw153_2 := hx153_2; have hw153_1 := hx153_1; have hw153_0 := hx153_0
      cases e153
      replace hx153_0 := cb_ HB.out hx153_0; replace hx153_1 := cb_ HB.out hx153_1; replace hx153_2 := cb_ HB.out hx153_2; have HR153_0 := q_ hi153_0; have HC153_0 := q_ hl153_0; clear hi153_0 hl153_0; have HR153_1 := q_ hi153_1; have HC153_1 := q_ hl153_1; clear hi153_1 hl153_1; have HR153_2 := q_ hi153_2; have HC153_2 := q_ hl153_2; clear hi153_2 hl153_2; replace p153 := eq_true p153; replace q153 := eq_true q153; have p154 : 0 ≤ (x5_1 : Int) := od; have q154 : x5_1 < (l1.length : Int) := od; obtain ⟨ad154, A154_0, c154_0, A154_1, c154_1, A154_2, c154_2, e154, hx154_0, hx154_1, hx154_2, hl154_0, hi154_0, hl154_1, hi154_1, hl154_2, hi154_2⟩ := at_T105 HR1.out x5_1 p154 q154; have hw154_2 := hx154_2; have hw154_1 := hx154_1; have hw154_0 := hx154_0
      cases e154
      replace hx154_0 := cb_ HB.out hx154_0; replace hx154_1 := cb_ HB.out hx154_1; replace hx154_2 := cb_ HB.out hx154_2; have HR154_0 := q_ hi154_0; have HC154_0 := q_ hl154_0; clear hi154_0 hl154_0; have HR154_1 := q_ hi154_1; have HC154_1 := q_ hl154_1; clear hi154_1 hl154_1; have HR154_2 := q_ hi154_2; have HC154_2 := q_ hl154_2; clear hi154_2 hl154_2; replace p154 := eq_true p154; replace q154 := eq_true q154; refine start_ (n := 10) (S := fun w' => w'.cell? (ad153.add ((x5_1).toNat * 3)) = some (.slice A153_0 ((rd_T105 l0 x5_1).f0).length c153_0) ∧ w'.cell? ⟨(ad153.add ((x5_1).toNat * 3)).block, (ad153.add ((x5_1).toNat * 3)).off + 1, none⟩ = some (.slice A153_1 ((rd_T105 l0 x5_1).f1).length c153_1) ∧ w'.cell? ⟨(ad153.add ((x5_1).toNat * 3)).block, (ad153.add ((x5_1).toNat * 3)).off + 2, none⟩ = some (.slice A153_2 ((rd_T105 l0 x5_1).f2).length c153_2) ∧ w'.cell? (ad154.add ((x5_1).toNat * 3)) = some (.slice A154_0 ((rd_T105 l1 x5_1).f0).length c154_0) ∧ w'.cell? ⟨(ad154.add ((x5_1).toNat * 3)).block, (ad154.add ((x5_1).toNat * 3)).off + 1, none⟩ = some (.slice A154_1 ((rd_T105 l1 x5_1).f1).length c154_1) ∧ w'.cell? ⟨(ad154.add ((x5_1).toNat * 3)).block, (ad154.add ((x5_1).toNat * 3)).off + 2, none⟩ = some (.slice A154_2 ((rd_T105 l1 x5_1).f2).length c154_2)) (ds := []) #[false, false, false, false, false, false, false, false, false, false] (by kernel_rfl) rfl rfl ⟨((HB.out.cell (World.block_lt_of_cell? w _ hw153_0)).trans hw153_0), ((HB.out.cell (World.block_lt_of_cell? w _ hw153_1)).trans hw153_1), ((HB.out.cell (World.block_lt_of_cell? w _ hw153_2)).trans hw153_2), ((HB.out.cell (World.block_lt_of_cell? w _ hw154_0)).trans hw154_0), ((HB.out.cell (World.block_lt_of_cell? w _ hw154_1)).trans hw154_1), ((HB.out.cell (World.block_lt_of_cell? w _ hw154_2)).trans hw154_2)⟩ (fun hHeld => ?_); refine with_tabW laws_eqTransS.tab6 laws_eqTransS.bits6 (fun HT_ HW_ => ?_); generalize wr.drew = w9 at HB HR153_0 HR153_1 HR153_2 HR154_0 HR154_1 HR154_2 hx153_0 hx153_1 hx153_2 hx154_0 hx154_1 hx154_2 hHeld ⊢; refine pureA (i := 0) (N := some 17) #[true, false, false, false, false, false, false, false, false, false] rfl rfl (any_of HT_.out (by kernel_rfl)) ?_
      refine pureA (i := 1) (N := some 18) #[true, true, false, false, false, false, false, false, false, false] rfl rfl (any_of HT_.out (by kernel_rfl)) ?_
      refine pureA (i := 2) (N := some 19) #[true, true, true, false, false, false, false, false, false, false] rfl rfl (any_of HT_.out (by kernel_rfl)) ?_
      refine pureA (i := 4) (N := some 21) #[true, true, true, false, true, false, false, false, false, false] rfl rfl (any_of HT_.out (by kernel_rfl)) ?_
      refine pureA (i := 5) (N := some 22) #[true, true, true, false, true, true, false, false, false, false] rfl rfl (any_of HT_.out (by kernel_rfl)) ?_
      refine pureA (i := 6) (N := some 23) #[true, true, true, false, true, true, true, false, false, false] rfl rfl (any_of HT_.out (by kernel_rfl)) ?_
      refine takeA (i := 3) (N := some 20) #[true, true, true, true, true, true, true, false, false, false] rfl rfl (take_ofW HT_.out HW_.out (by kernel_rfl)) (Or.inl ⟨by rfl, by rintro w' ⟨s0, s1, s2, s3, s4, s5⟩; go_simp; (with_reducible rfl)⟩) hHeld ?_
      refine takeA (i := 7) (N := some 24) #[true, true, true, true, true, true, true, true, false, false] rfl rfl (take_ofW HT_.out HW_.out (by kernel_rfl)) (Or.inl ⟨by rfl, by rintro w' ⟨s0, s1, s2, s3, s4, s5⟩; go_simp; (with_reducible rfl)⟩) hHeld ?_
      refine one_ (i := 8) (N := some 25) #[true, true, true, true, true, true, true, true, true, false] rfl rfl (one_of HT_.out (by kernel_rfl)) (by decide) (fun K hK => ?_); refine goesN Try.func90 #[.agg #[.slice A153_0 ((rd_T105 l0 x5_1).f0).length c153_0, .slice A153_1 ((rd_T105 l0 x5_1).f1).length c153_1, .slice A153_2 ((rd_T105 l0 x5_1).f2).length c153_2], .agg #[.slice A154_0 ((rd_T105 l1 x5_1).f0).length c154_0, .slice A154_1 ((rd_T105 l1 x5_1).f1).length c154_1, .slice A154_2 ((rd_T105 l1 x5_1).f2).length c154_2]] (by rfl) rfl rfl ?_; (with_reducible refine (laws_eqTrans.calls k1 _ _ ((rd_T105 l0 x5_1).f0) _ _ ((rd_T105 l0 x5_1).f1) _ _ ((rd_T105 l0 x5_1).f2) _ _ ((rd_T105 l1 x5_1).f0) _ _ ((rd_T105 l1 x5_1).f1) _ _ ((rd_T105 l1 x5_1).f2) t155 _ ?side1 ?side2 ?side3 ?side4 ?side5 ?side6 ?side7 ?side8 ?side9 ?side10 ?side11 ?side12 A7.out).mono ?_)
      (case side1 => exact Kd.C_v ((Kd.C_below HR153_0.out HB.out)))
      (case side2 => exact HC153_0.out)
      (case side3 => exact Kd.C_v ((Kd.C_below HR153_1.out HB.out)))
      (case side4 => exact HC153_1.out)
      (case side5 => exact Kd.C_v ((Kd.C_below HR153_2.out HB.out)))
      (case side6 => exact HC153_2.out)
      (case side7 => exact Kd.C_v ((Kd.C_below HR154_0.out HB.out)))
      (case side8 => exact HC154_0.out)
      (case side9 => exact Kd.C_v ((Kd.C_below HR154_1.out HB.out)))
      (case side10 => exact HC154_1.out)
      (case side11 => exact Kd.C_v ((Kd.C_below HR154_2.out HB.out)))
      (case side12 => exact HC154_2.out)
      rintro e w10 ⟨rfl, hb⟩; refine ⟨_, rfl, ?_⟩; replace HB := q_ (below_step (by exact bv HB.out) hb); (try clear hb); (try clear hb2); (try clear hk); (try clear hi); refine hK.out _ _ ⟨((HB.out.cell (World.block_lt_of_cell? w _ hw153_0)).trans hw153_0), ((HB.out.cell (World.block_lt_of_cell? w _ hw153_1)).trans hw153_1), ((HB.out.cell (World.block_lt_of_cell? w _ hw153_2)).trans hw153_2), ((HB.out.cell (World.block_lt_of_cell? w _ hw154_0)).trans hw154_0), ((HB.out.cell (World.block_lt_of_cell? w _ hw154_1)).trans hw154_1), ((HB.out.cell (World.block_lt_of_cell? w _ hw154_2)).trans hw154_2)⟩ (fun hHeld => ?_); clear hK K; refine norm_ (a' := ?_) ?_ ?_; rotate_left
      ·show Act.put _ (some 25) _ = _
       simp only [Act.put, List.setIfInBounds_toArray, List.set_cons_zero, List.set_cons_succ, i64_w, i32_w]; rfl
      refine pureA (i := 9) (N := some 26) #[true, true, true, true, true, true, true, true, true, true] rfl rfl (any_of HT_.out (by kernel_rfl)) ?_
      refine done_ (done_of HT_.out (by kernel_rfl)) ?_
      go_upto_if 26 with (fail)
      have H := HC8.out; clear HC8
      by_cases c11 : t155 = true
      ·subst c11; replace H := itt_ H; have H' := q_ H; clear H; go_wp2; go_roundg k1
       case measure => have := HK1.out; omega
       case rel => exact ⟨(wrap64 (x5_1 + 1)), eqv, H', ⟨by have := HK1.out; omega⟩, ⟨by exact bv HB.out⟩⟩
      ·replace c11 := Bool.eq_false_iff.mpr c11; subst c11; replace H := iff_ H; obtain rfl := Option.some.inj H; go_wp2; go_ret; exact fin_ (by exact bv HB.out)
     ·rw [if_neg c4] at H; have c4b0 : decide (x5_1 < (l0.length : Int)) = false := decide_eq_false c4; clear c4; obtain rfl := Option.some.inj H; go_wp2; go_ret; exact fin_ (by exact bv HB.out)
  ·rw [if_neg c3] at H; have c3b0 : ((l0.length : Int) == (l1.length : Int)) = false := beq_eq_false_iff_ne.mpr c3; have c3b1 : ((l0.length : Int) != (l1.length : Int)) = true := bne_iff_ne.mpr c3; (have c3b2 : (l0.length == l1.length) = false := by first | simpa using c3 | (simp at c3 ⊢; omega)); obtain rfl := Option.some.inj H; go_enter Try.func56, Try.ntmps56; go_wp2; go_ret; exact fin_ (by exact bv HB.out)

/-! ### laws_eqNet: function 21 -/
def laws_eqNet.f (k : Nat) (a0_0 : Int) (l0_1 : List (S105)) (a1_0 : Int) (l1_1 : List (S105)) : Option (Bool) := if a0_0 = a1_0 then ((laws_eqTransS.f k l0_1 l1_1).bind fun t158 => (if t158 = true then (some true) else (some false))) else (some false)
set_option maxHeartbeats 8000000 in
set_option maxRecDepth 100000 in
theorem laws_eqNet.calls (k : Nat) (a0_0 : Int) (A0_1 : Option Addr) (c0_1 : Nat) (l0_1 : List (S105)) (a1_0 : Int) (A1_1 : Option Addr) (c1_1 : Nat) (l1_1 : List (S105)) (r : Bool) (w : World) (hr0_1 : Kd.C k105 w A0_1 l0_1.length l0_1) (hc0_1 : l0_1.length ≤ c0_1) (hr1_1 : Kd.C k105 w A1_1 l1_1.length l1_1) (hc1_1 : l1_1.length ≤ c1_1) (h : laws_eqNet.f k a0_0 l0_1 a1_0 l1_1 = some r) :
    Calls Try.prog 21 #[.agg #[.int .i64 a0_0, .slice A0_1 l0_1.length c0_1], .agg #[.int .i64 a1_0, .slice A1_1 l1_1.length c1_1]] w fun e w' => e = .returned (.bool r) ∧ Below w.heap.size w w' := by
  have hu38 := Try.underlying38
  have HR0_1 := q_ hr0_1; have HC0_1 := q_ hc0_1; clear hr0_1 hc0_1; have HR1_1 := q_ hr1_1; have HC1_1 := q_ hc1_1; clear hr1_1 hc1_1; have HB := q_ (Below.refl w.heap.size w); have H : (if a0_0 = a1_0 then ((laws_eqTransS.f k l0_1 l1_1).bind fun t158 => (if t158 = true then (some true) else (some false))) else (some false)) = some r := h; clear h; have HC3 := q_ H; clear H; go_enter Try.func21, Try.ntmps21
  go_upto_if 9 with (first | (refine boxE 2 #[.int .i64 a0_0, .slice A0_1 l0_1.length c0_1] 38 ?_; intro gb156 hg w4 hbox hb; have BK156 := q_ (hbox); have GW156 := q_ (gw_ hg HB.out); have GE156 := q_ (gw_ hg HB.out); replace HB := q_ (bs HB.out hb); clear hb hbox hg) | (refine boxE 3 #[.int .i64 a1_0, .slice A1_1 l1_1.length c1_1] 38 ?_; intro gb157 hg w5 hbox hb; have BK157 := q_ (hbox); have GW157 := q_ (gw_ hg HB.out); have GE157 := q_ (gw_ hg HB.out); have NB156_157 := q_ (nb_ hg BK156.out); have NB157_156 := q_ (bn_ hg BK156.out); replace BK156 := q_ (bb BK156.out hb); replace HB := q_ (bs HB.out hb); clear hb hbox hg; have hnb6 := NB156_157.out; have hnc6 := NB157_156.out; obtain ⟨hcz7_0, hcz7_1, hfz7_0, hfz7_1⟩ := cz2 BK156.out; obtain ⟨hcz8_0, hcz8_1, hfz8_0, hfz8_1⟩ := cz2 BK157.out))
  (try simp only [Act.put, List.setIfInBounds_toArray, List.set_cons_zero, List.set_cons_succ]); have H := HC3.out; clear HC3
  by_cases c9 : a0_0 = a1_0
  ·rw [if_pos c9] at H; have c9b0 : (a0_0 == a1_0) = true := beq_iff_eq.mpr c9; have c9b1 : (a0_0 != a1_0) = false := bne_eq_false_iff_eq.mpr c9; clear c9; (first | rw [c9b0] | rw [c9b1] | (simp only [i64_w, i32_w]; rw [c9b0]) | skip); obtain ⟨t158, A10, H⟩ := bnd_ H; have HC11 := q_ H; clear H; have hnb12 := NB156_157.out; have hnc12 := NB157_156.out; obtain ⟨hcz13_0, hcz13_1, hfz13_0, hfz13_1⟩ := cz2 BK156.out; obtain ⟨hcz14_0, hcz14_1, hfz14_0, hfz14_1⟩ := cz2 BK157.out
   go_upto_if 15 with (first | (refine goesM (some 14) rfl rfl Try.func56 #[.slice A0_1 l0_1.length c0_1, .slice A1_1 l1_1.length c1_1] rfl ?_; (with_reducible refine (laws_eqTransS.calls k _ _ l0_1 _ _ l1_1 t158 _ ?side1 ?side2 ?side3 ?side4 A10.out).mono ?_); (case side1 => exact Kd.C_v ((Kd.C_below HR0_1.out HB.out))); (case side2 => exact HC0_1.out); (case side3 => exact Kd.C_v ((Kd.C_below HR1_1.out HB.out))); (case side4 => exact HC1_1.out); rintro e w15 ⟨rfl, hb⟩; refine ⟨_, rfl, ?_⟩; replace BK156 := q_ (bb BK156.out hb); replace BK157 := q_ (bb BK157.out hb); replace HB := q_ (below_step (by exact bv HB.out) hb); (try clear hb); (try clear hb2); (try clear hk); (try clear hi)))
   (try simp only [Act.put, List.setIfInBounds_toArray, List.set_cons_zero, List.set_cons_succ]); have H := HC11.out; clear HC11
   by_cases c16 : t158 = true
   ·subst c16; replace H := itt_ H; obtain rfl := Option.some.inj H; go_wp2; go_ret; exact fin_ (by exact bv HB.out)
   ·replace c16 := Bool.eq_false_iff.mpr c16; subst c16; replace H := iff_ H; obtain rfl := Option.some.inj H; go_wp2; go_ret; exact fin_ (by exact bv HB.out)
  ·rw [if_neg c9] at H; have c9b0 : (a0_0 == a1_0) = false := beq_eq_false_iff_ne.mpr c9; have c9b1 : (a0_0 != a1_0) = true := bne_iff_ne.mpr c9; (first | rw [c9b0] | rw [c9b1] | (simp only [i64_w, i32_w]; rw [c9b0]) | skip); obtain rfl := Option.some.inj H; go_wp2; go_ret; exact fin_ (by exact bv HB.out)

/-! ### laws_markIntS: function 26 -/
def laws_markIntS.l0 : Nat → List Int → Int → Int → Option (Int × List Int)
  | 0, _, _, _ => none
  | k + 1, x0, x1, x5 => if x5 < (x0.length : Int) then (if 0 ≤ x5 then (laws_markIntS.l0 k (x0.set (x5 : Int).toNat x1) (wrap64 (x1 + 1)) (wrap64 (x5 + 1))) else (none)) else (some (x1, x0))
def laws_markIntS.f (k : Nat) (l0 : List Int) (a1 : Int) : Option (Int × List Int) := laws_markIntS.l0 k l0 a1 0
set_option maxHeartbeats 8000000 in
set_option maxRecDepth 100000 in
theorem laws_markIntS.calls (k : Nat) (P0_ : Nat → Prop) (u9000_ : Value) (l0 : List Int) (a1 : Int) (r1 : Int) (r2 : List Int) (w0 w : World) (hB : Below w0.heap.size w0 w) (ho0 : Kd.R (Kd.int .i64) 3 w w0.heap.size P0_ u9000_ l0) (h : laws_markIntS.f k l0 a1 = some (r1, r2)) :
    Calls Try.prog 26 #[u9000_, .int .i64 a1] w fun e w' => e = .returned (.int .i64 r1) ∧ Kd.R (Kd.int .i64) 3 w' w0.heap.size (fun k_ => (P0_ k_ ∨ w.heap.size ≤ k_)) u9000_ r2 ∧ Below w0.heap.size w0 w' ∧ Kept w w' (fun k_ => P0_ k_) := by
  have HO0 := q_ (show Kd.R (Kd.int .i64) 3 w w0.heap.size (fun k_ => (P0_ k_ ∨ w.heap.size ≤ k_)) u9000_ l0 from Kd.R_mono ho0 (fun k_ hk => (.inl hk))); have HK := q_ (Kept.refl w (fun k_ => P0_ k_)); have HW0 := q_ hB.size; have HB := q_ hB; clear hB; have H : (laws_markIntS.l0 k l0 a1 0) = some (r1, r2) := h; clear h; have H' := q_ H; clear H; go_enter Try.func26, Try.ntmps26; go_wp2; go_loopg [1, 5] k (fun kq v1 v5 w' => ∃ (x0_1 : List Int) (x1_1 : Int) (x5_1 : Int), v1 = .int .i64 x1_1 ∧ v5 = .int .i64 x5_1 ∧ Aside0 (laws_markIntS.l0 kq x0_1 x1_1 x5_1 = some (r1, r2)) ∧ Aside0 (kq ≤ k) ∧ Aside0 (Kd.R (Kd.int .i64) 3 w' w0.heap.size (fun k_ => (P0_ k_ ∨ w.heap.size ≤ k_)) u9000_ x0_1) ∧ Aside0 (Kept w w' (fun k_ => P0_ k_)) ∧ Aside0 (Below w0.heap.size w0 w'))
  case atStart => exact ⟨(l0), (a1), (0), eqv, eqv, H', ⟨Nat.le_refl _⟩, ⟨by exact Kd.R_v HO0.out⟩, ⟨by exact kv HK.out⟩, ⟨by exact bv HB.out⟩⟩
  case round =>
   clear H'; obtain ⟨x0_1, x1_1, x5_1, rfl, rfl, HA, HK1, HO_0, HK, HB⟩ := hrel
   cases gk with
   | zero => exact absurd HA.out (by simp [laws_markIntS.l0])
   | succ k1 =>
    have H := HA.out; clear HA; simp only [laws_markIntS.l0] at H
    by_cases c3 : x5_1 < (x0_1.length : Int)
    ·rw [if_pos c3] at H; have c3b0 : decide (x5_1 < (x0_1.length : Int)) = true := decide_eq_true c3; clear c3
     obtain ⟨c4, H⟩ := ifp_ H; have c4b0 : decide (0 ≤ x5_1) = true := decide_eq_true c4; clear c4; obtain ⟨y159, hy159⟩ : ∃ y_ : List Int, y_ = (x0_1.set (x5_1 : Int).toNat x1_1) := ⟨_, rfl⟩; (replace H : (laws_markIntS.l0 k1 y159 (wrap64 (x1_1 + 1)) (wrap64 (x5_1 + 1))) = some (r1, r2) := by first | (rw [hy159]; with_reducible exact H) | (have H2_ := (Option.bind_some _ _).symm.trans H; rw [hy159]; with_reducible exact H2_) | (have H2_ := (Option.bind_some _ _).symm.trans H; with_reducible exact H2_) | with_reducible exact H | (rw [hy159]; exact H) | exact H); have Ny159 := q_ hy159; clear hy159; have H' := q_ H; clear H; obtain ⟨Ao6, co6, eo6⟩ := Kd.R_slice HO_0.out; subst eo6; have p5 : 0 ≤ (x5_1 : Int) := od; have q5 : (x5_1 : Int) < ((x0_1.length : Int) : Int) := od; obtain ⟨go5, co5, eo5, gb5, gl5, cl5, HG5⟩ := Kd.R_form HO_0.out (by omega); (first | cases eo5 | (injection eo5 with ea_ en_ ec_; (first | subst ea_ | (injection ea_ with ea_; subst ea_)); subst ec_; clear en_)); have GB5 := q_ gb5; have GG5 := q_ HG5; clear gb5 gl5 HG5; have HMgo5 := q_ (show (P0_ go5 ∨ w.heap.size ≤ go5) from (HO_0.out.1 _ rfl)); obtain ⟨hx5_0, hf5_0⟩ := Kd.R_celln 0 HO_0.out (x5_1 : Int) p5 q5; replace p5 := eq_true p5; replace q5 := eq_true q5; have HP7 := Kd.R_putg HO_0.out (x5_1 : Int) x1_1; go_wp2_with (first | ((with_reducible refine gate_store (t := 3) (p := 15) rfl ?_); refine store_event (t := 3) (p := 15) (v := ?vo_w8) (w1 := (wr.setCell ⟨go5, (x5_1 : Int).toNat, none⟩ (.int .i64 x1_1))) ?hg ?ho ?hn ?hr ?_; (case ho => rfl); (case hg => rfl); (case hn => rfl); (case hr => first | (go_simp; done) | (go_simp; rfl)); intro w8 hw; have hg : wr.grownBy w8 (some go5) := (by rw [hw]; exact HP7.2); have hp_ : Kd.R (Kd.int .i64) 3 w8 w0.heap.size (fun k_ => (P0_ k_ ∨ w.heap.size ≤ k_)) (.slice (some ⟨go5, 0, none⟩) x0_1.length co6) y159 := (by rw [hw, Ny159.out]; exact HP7.1); clear HP7; have n0_ := q_ (hp_); replace HB := q_ ((by rw [hw]; exact below_set (HB.out) GB5.out : Below w0.heap.size w0 w8)); replace HK := q_ (Kept.of_grown (S := (fun k_ => P0_ k_)) hg (by exact kv HK.out) (fun k_ e_ => (HO_0.out.1 k_ e_))); clear HO_0; have HO_0 := n0_; clear n0_; clear hg hw hp_)); go_roundg k1
     case measure => have := HK1.out; omega
     case rel => exact ⟨(y159), (wrap64 (x1_1 + 1)), (wrap64 (x5_1 + 1)), eqv, eqv, H', ⟨by have := HK1.out; omega⟩, ⟨by exact Kd.R_v HO_0.out⟩, ⟨by exact kv HK.out⟩, ⟨by exact bv HB.out⟩⟩
    ·rw [if_neg c3] at H; have c3b0 : decide (x5_1 < (x0_1.length : Int)) = false := decide_eq_false c3; clear c3; simp only [Option.some.injEq, Prod.mk.injEq] at H; obtain ⟨rfl, rfl⟩ := H; obtain ⟨Ao9, co9, eo9⟩ := Kd.R_slice HO_0.out; subst eo9; go_wp2; go_ret; exact ⟨by first | rfl | (simp [errW_none, errW_some] <;> rfl) | (simp [*, errW_none, errW_some] <;> rfl), by exact Kd.R_v HO_0.out, by exact bv HB.out, by exact kv HK.out⟩

/-! ### laws_markTransS: function 59 -/
/-- The block g holds m cells of the type t. -/
def Blk (w : World) (g m t : Nat) : Prop := ∃ cs : Array Value, w.heap[g]? = some (.cells cs t (0, 0)) ∧ cs.size = m
theorem Blk.kept {w w' : World} {g m t : Nat} {S : Nat → Prop} (h : Blk w g m t) (hk : Kept w w' S) (hs : ¬ S g) : Blk w' g m t := by
  obtain ⟨cs, h1, h2⟩ := h
  exact ⟨cs, (hk.2 g (blk_lt h1) hs).trans h1, h2⟩
theorem Blk.set {w : World} {g m t : Nat} (h : Blk w g m t) (i : Nat) (u : Value) : Blk (w.setCell ⟨g, i, none⟩ u) g m t := by
  obtain ⟨cs, h1, h2⟩ := h
  exact ⟨_, blk_set h1 i u, by simp [h2]⟩
theorem Blk.cell {w : World} {g m t : Nat} (h : Blk w g m t) (i : Nat) (hi : i < m) : ∃ u, w.cell? ⟨g, i, none⟩ = some u := by
  obtain ⟨cs, h1, h2⟩ := h
  exact ⟨cs[i]'(by omega), (blk_cell h1 i).trans (Array.getElem?_eq_getElem (by omega))⟩
theorem Blk.frozen {w : World} {g m t : Nat} (h : Blk w g m t) (i : Nat) : w.frozen? ⟨g, i, none⟩ = false := by
  obtain ⟨cs, h1, h2⟩ := h
  exact blk_frozen h1 i
theorem Blk.alloc {w : World} {g m t : Nat} (h : Blk w g m t) (o : Obj) : Blk (w.alloc o) g m t := by
  obtain ⟨cs, h1, h2⟩ := h
  exact ⟨cs, blk_alloc h1 o, h2⟩
theorem Blk.drew {w : World} {g m t : Nat} (h : Blk w g m t) : Blk w.drew g m t := h
theorem Blk.drewN {w : World} {g m t : Nat} (h : Blk w g m t) (n : Nat) : Blk (w.drewN n) g m t := h

set_option maxHeartbeats 8000000 in
set_option maxRecDepth 100000 in
theorem laws_markIntS.raw (k : Nat) (g n cap m t : Nat) (l0 : List Int) (a1 : Int) (r1 : Int) (r2 : List Int) (w0 w : World) (hB : Below w0.heap.size w0 w) (hg : w0.heap.size ≤ g) (hblk : Blk w g m t) (hn : l0.length = n) (hm : n ≤ m) (h : laws_markIntS.f k l0 a1 = some (r1, r2)) :
    Calls Try.prog 26 #[.slice (some ⟨g, 0, none⟩) n cap, .int .i64 a1] w fun e w' => e = .returned (.int .i64 r1) ∧ Blk w' g m t ∧ Below w0.heap.size w0 w' ∧ Kept w w' (fun k_ => k_ = g) := by
  have HO0 := Aside0.mk hblk
  have HK := Aside0.mk (Kept.refl w (fun k_ => k_ = g))
  have HB := Aside0.mk hB
  clear hB hblk
  have H : (laws_markIntS.l0 k l0 a1 0) = some (r1, r2) := h
  clear h
  have H' := Aside0.mk H
  have HN := Aside0.mk hn
  clear H hn
  go_enter Try.func26, Try.ntmps26
  go_wp2
  go_loopg [1, 5] k (fun kq v1 v5 w' => ∃ (x0_1 : List Int) (x1_1 : Int) (x5_1 : Int), v1 = .int .i64 x1_1 ∧ v5 = .int .i64 x5_1 ∧ Aside0 (laws_markIntS.l0 kq x0_1 x1_1 x5_1 = some (r1, r2)) ∧ Aside0 (kq ≤ k) ∧ Aside0 (x0_1.length = n) ∧ Aside0 (Blk w' g m t) ∧ Aside0 (Kept w w' (fun k_ => k_ = g)) ∧ Aside0 (Below w0.heap.size w0 w'))
  case atStart => exact ⟨(l0), (a1), (0), (by first | rfl | (simp; done) | (simp [*]; done)), (by first | rfl | (simp; done) | (simp [*]; done)), H', ⟨Nat.le_refl _⟩, HN, ⟨by (with_reducible repeat (first | apply Blk.alloc | apply Blk.drewN | apply Blk.drew)); exact HO0.out⟩, ⟨by repeat (first | (with_reducible first | exact HK.out | apply Kept.alloc | apply Kept.drewN | apply Kept.drew) | exact HK.out)⟩, ⟨by repeat (first | (with_reducible first | exact HB.out | apply below_alloc | apply pw_below_drewN | apply below_drew1) | exact HB.out)⟩⟩
  case round =>
    clear H' HN HO0 HK HB
    try clear c1
    try clear p2
    obtain ⟨x0_1, x1_1, x5_1, rfl, rfl, HA, HK1, HN, HO_0, HK, HB⟩ := hrel
    cases gk with
    | zero => exact absurd HA.out (by simp [laws_markIntS.l0])
    | succ k1 =>
      have H := HA.out
      clear HA
      simp only [laws_markIntS.l0] at H
      rw [HN.out] at H
      by_cases c3 : x5_1 < (n : Int)
      · rw [if_pos c3] at H
        have c3b0 : decide (x5_1 < (n : Int)) = true := decide_eq_true c3
        by_cases c4 : 0 ≤ x5_1
        · rw [if_pos c4] at H
          have c4b0 : decide (0 ≤ x5_1) = true := decide_eq_true c4
          have H' := Aside0.mk H
          clear H
          obtain ⟨uo, hx5_0⟩ := Blk.cell HO_0.out (x5_1 : Int).toNat (by omega)
          have hf5_0 := Blk.frozen HO_0.out (x5_1 : Int).toNat
          clear c3 c4
          have p5 : 0 ≤ (x5_1 : Int) := of_decide_eq_true (by first | (with_reducible assumption) | assumption)
          have q5 : (x5_1 : Int) < (n : Int) := of_decide_eq_true (by first | (with_reducible assumption) | assumption)
          replace p5 := eq_true p5
          replace q5 := eq_true q5
          go_wp2_with (first | ((with_reducible refine gate_store (t := 3) (p := 15) rfl ?_); refine store_event (t := 3) (p := 15) (v := ?vo_w8) (w1 := (wr.setCell ⟨g, (x5_1 : Int).toNat, none⟩ (.int .i64 x1_1))) ?hg ?ho ?hn ?hr ?_; (case ho => rfl); (case hg => rfl); (case hn => rfl); (case hr => first | (go_simp; done) | (go_simp; rfl)); intro w8 hw; have n0_ := Aside0.mk (show Blk w8 g m t by rw [hw]; exact Blk.set HO_0.out _ _); have n1_ := Aside0.mk ((by rw [hw]; exact below_set (HB.out) hg : Below w0.heap.size w0 w8)); have n2_ := Aside0.mk (show Kept w w8 (fun k_ => k_ = g) by rw [hw]; exact Kept.setCell HK.out (.inl rfl) _); clear HO_0; clear HB; clear HK; have HO_0 := n0_; have HB := n1_; have HK := n2_; clear n0_ n1_ n2_; clear hw))
          go_roundg k1
          case measure => have := HK1.out; omega
          case rel => exact ⟨(x0_1.set (x5_1 : Int).toNat x1_1), (wrap64 (x1_1 + 1)), (wrap64 (x5_1 + 1)), (by first | rfl | (simp; done) | (simp [*]; done)), (by first | rfl | (simp; done) | (simp [*]; done)), H', ⟨by have := HK1.out; omega⟩, ⟨by rw [List.length_set]; exact HN.out⟩, ⟨by (with_reducible repeat (first | apply Blk.alloc | apply Blk.drewN | apply Blk.drew)); exact HO_0.out⟩, ⟨by repeat (first | (with_reducible first | exact HK.out | apply Kept.alloc | apply Kept.drewN | apply Kept.drew) | exact HK.out)⟩, ⟨by repeat (first | (with_reducible first | exact HB.out | apply below_alloc | apply pw_below_drewN | apply below_drew1) | exact HB.out)⟩⟩
        · rw [if_neg c4] at H
          exact absurd H (by simp)
      · rw [if_neg c3] at H
        have c3b0 : decide (x5_1 < (n : Int)) = false := decide_eq_false c3
        clear c3
        simp only [Option.some.injEq, Prod.mk.injEq] at H
        obtain ⟨rfl, rfl⟩ := H
        go_wp2
        go_ret
        exact ⟨by first | rfl | (simp [errW_none, errW_some] <;> rfl) | (simp [*, errW_none, errW_some] <;> rfl), by (with_reducible repeat (first | apply Blk.alloc | apply Blk.drewN | apply Blk.drew)); exact HO_0.out, by repeat (first | (with_reducible first | exact HB.out | apply below_alloc | apply pw_below_drewN | apply below_drew1) | exact HB.out), by repeat (first | (with_reducible first | exact HK.out | apply Kept.alloc | apply Kept.drewN | apply Kept.drew) | exact HK.out)⟩
/-- A row of n whole numbers, in a block of P that isn't go: what it holds is not told. -/
def Rowed (w : World) (base : Nat) (P : Nat → Prop) (go : Nat) (v : Value) (n : Nat) : Prop :=
  (v = .slice none 0 0 ∧ n = 0) ∨ ∃ g cap, v = .slice (some ⟨g, 0, none⟩) n cap ∧ base ≤ g ∧ P g ∧ g ≠ go ∧ n ≤ cap ∧ Blk w g cap 3
theorem Rowed.of {w : World} {base go : Nat} {P oki : Nat → Prop} {v : Value} {l : List Int} (h : (Kd.int .i64).R 3 w base oki v l) (hok : ∀ k, oki k → P k ∧ k ≠ go) : Rowed w base P go v l.length := by
  obtain ⟨h0, inner, ho, _⟩ := h
  rcases ho.2 with ⟨hv, hn⟩ | ⟨g, cap, cur, hv, hb, hh, hc, _, hs, _⟩
  · exact .inl ⟨hv, hn⟩
  · have hk := hok g (h0 g (by rw [hv]; simp [Value.ownBlock]))
    exact .inr ⟨g, cap, hv, hb, hk.1, hk.2, hc, cur, hh, by rw [hs]; show cap * 1 = cap; omega⟩
theorem Rowed.kept {w w' : World} {base go : Nat} {P : Nat → Prop} {v : Value} {n gw m : Nat} (h : Rowed w base P go v n) (hk : Kept w w' (fun k => k = gw)) (hg : Blk w gw m 3) (hg' : Blk w' gw m 3) : Rowed w' base P go v n := by
  rcases h with h | ⟨g, cap, hv, hb, hP, hne, hn, hB⟩
  · exact .inl h
  · refine .inr ⟨g, cap, hv, hb, hP, hne, hn, ?_⟩
    by_cases e : g = gw
    · subst e
      obtain ⟨c1, e1, s1⟩ := hB
      obtain ⟨c2, e2, s2⟩ := hg
      obtain ⟨c3, e3, s3⟩ := hg'
      rw [e1] at e2; injection e2 with e2; injection e2 with e2
      subst e2
      exact ⟨c3, e3, by omega⟩
    · exact hB.kept hk e
theorem Rowed.nothing {w w' : World} {base go : Nat} {P : Nat → Prop} {v : Value} {n : Nat} (h : Rowed w base P go v n) (hk : Kept w w' (fun _ => False)) : Rowed w' base P go v n := by
  rcases h with h | ⟨g, cap, hv, hb, hP, hne, hn, hB⟩
  · exact .inl h
  · exact .inr ⟨g, cap, hv, hb, hP, hne, hn, hB.kept hk (fun h => h)⟩
/-- The three rows of an element. -/
def Trio (w : World) (base : Nat) (P : Nat → Prop) (go i : Nat) (t : S105) : Prop :=
  ∃ v0 v1 v2, w.cell? ⟨go, i * 3, none⟩ = some v0 ∧ w.cell? ⟨go, i * 3 + 1, none⟩ = some v1 ∧ w.cell? ⟨go, i * 3 + 2, none⟩ = some v2 ∧ Rowed w base P go v0 t.f0.length ∧ Rowed w base P go v1 t.f1.length ∧ Rowed w base P go v2 t.f2.length
def Trios (w : World) (base : Nat) (P : Nat → Prop) (go : Nat) (l : List S105) : Prop := (∃ m, Blk w go m 105) ∧ ∀ i, i < l.length → Trio w base P go i (l.getD i z105)
theorem Trios.of {w : World} {base go cap : Nat} {P : Nat → Prop} {l : List S105} (h : Kd.S k105 105 w base P (.slice (some ⟨go, 0, none⟩) l.length cap) l) : Trios w base P go l := by
  constructor
  · obtain ⟨_, inner, ho, _⟩ := Kd.S_R h
    rcases ho.2 with ⟨hv, hn⟩ | ⟨g, cap, cur, hv, hb, hh, hc, _, hs, _⟩
    · cases hv
    · injection hv with hv; injection hv with hv; injection hv with hv
      subst hv
      exact ⟨_, cur, hh, rfl⟩
  · intro i hi
    obtain ⟨oki, c, hcl, hM, hcc, hfr, hok, _⟩ := Kd.S_elem h z105 (i : Int) (by omega) (by omega)
    obtain ⟨v0, v1, v2, rfl, r0, r1, r2⟩ := k105_openM hM
    refine ⟨v0, v1, v2, ?_, ?_, ?_, Rowed.of r0 hok, Rowed.of r1 hok, Rowed.of r2 hok⟩
    · exact hcc 0 v0 rfl
    · exact hcc 1 v1 rfl
    · exact hcc 2 v2 rfl
/-- A step that keeps the row's own block, and the elements' rows as rows. -/
theorem Trios.step {w w' : World} {base go : Nat} {P : Nat → Prop} {l : List S105} (h : Trios w base P go l) (ho : w'.heap[go]? = w.heap[go]?) (hr : ∀ v n, Rowed w base P go v n → Rowed w' base P go v n) : Trios w' base P go l := by
  have hc : ∀ j, w'.cell? ⟨go, j, none⟩ = w.cell? ⟨go, j, none⟩ := by
    intro j
    obtain ⟨m, cs, h1, _⟩ := h.1
    rw [blk_cell h1 j, blk_cell (ho.trans h1) j]
  refine ⟨?_, fun i hi => ?_⟩
  · obtain ⟨m, cs, h1, h2⟩ := h.1
    exact ⟨m, cs, ho.trans h1, h2⟩
  · obtain ⟨v0, v1, v2, e0, e1, e2, r0, r1, r2⟩ := h.2 i hi
    exact ⟨v0, v1, v2, (hc _).trans e0, (hc _).trans e1, (hc _).trans e2, hr _ _ r0, hr _ _ r1, hr _ _ r2⟩
theorem Trios.alloc {w : World} {base go : Nat} {P : Nat → Prop} {l : List S105} (h : Trios w base P go l) (o : Obj) : Trios (w.alloc o) base P go l := by
  have hk : Kept w (w.alloc o) (fun _ => False) := Kept.alloc (Kept.refl _ _) o
  obtain ⟨m, cs, h1, _⟩ := h.1
  exact h.step (hk.2 go (blk_lt h1) (fun h => h)) (fun _ _ hr => hr.nothing hk)
theorem Trios.drew {w : World} {base go : Nat} {P : Nat → Prop} {l : List S105} (h : Trios w base P go l) : Trios w.drew base P go l := h
theorem Trios.drewN {w : World} {base go : Nat} {P : Nat → Prop} {l : List S105} (h : Trios w base P go l) (n : Nat) : Trios (w.drewN n) base P go l := h
/-- markIntS on one of the rows: whatever the row holds. -/
theorem markRow {w0 w : World} {go k : Nat} {P : Nat → Prop} {v : Value} {l : List S105} {x : List Int} {a1 r1 : Int} {r2 : List Int} (hB : Below w0.heap.size w0 w) (hT : Trios w w0.heap.size P go l) (hv : Rowed w w0.heap.size P go v x.length) (h : laws_markIntS.f k x a1 = some (r1, r2)) :
    Calls Try.prog 26 #[v, .int .i64 a1] w fun e w' => e = .returned (.int .i64 r1) ∧ Trios w' w0.heap.size P go l ∧ Below w0.heap.size w0 w' ∧ Kept w w' P := by
  obtain ⟨m0, cs0, ho, _⟩ := hT.1
  rcases hv with ⟨hv, hn⟩ | ⟨g, cap, hv, hb, hP, hne, hn, hBlk⟩
  · subst hv
    have hx : x = [] := List.eq_nil_of_length_eq_zero hn
    subst hx
    refine (laws_markIntS.calls k (fun _ => False) (.slice none 0 0) [] a1 r1 r2 w0 w hB (Kd.R_nil _ _ _ _ _) h).mono ?_
    rintro e w' ⟨he, _, hb, hk⟩
    exact ⟨he, hT.step (hk.2 go (blk_lt ho) (fun h => h)) (fun _ _ hr => hr.nothing hk), hb, hk.mono (fun _ h => h.elim)⟩
  · subst hv
    refine (laws_markIntS.raw k g x.length cap cap 3 x a1 r1 r2 w0 w hB hb hBlk rfl hn h).mono ?_
    rintro e w' ⟨he, hBlk', hb', hk⟩
    exact ⟨he, hT.step (hk.2 go (blk_lt ho) (fun e => hne e.symm)) (fun _ _ hr => hr.kept hk hBlk hBlk'), hb', hk.mono (fun _ e => by rw [e]; exact hP)⟩

def laws_markTransS.l0 : Nat → List S105 → Int → Int → Option Int
  | 0, _, _, _ => none
  | k + 1, x0, x1, x5 => if x5 < (x0.length : Int) then (if 0 ≤ x5 then ((laws_markIntS.f k ((rd_T105 x0 x5).f0) x1).bind fun p => ((laws_markIntS.f k ((rd_T105 x0 x5).f1) p.1).bind fun q => ((laws_markIntS.f k ((rd_T105 x0 x5).f2) q.1).bind fun s => (laws_markTransS.l0 k x0 s.1 (wrap64 (x5 + 1)))))) else (none)) else (some x1)
def laws_markTransS.f (k : Nat) (l0 : List S105) (a1 : Int) : Option Int := laws_markTransS.l0 k l0 a1 0
set_option maxHeartbeats 8000000 in
set_option maxRecDepth 100000 in
theorem laws_markTransS.calls (k : Nat) (P0_ : Nat → Prop) (u9000_ : Value) (l0 : List S105) (a1 : Int) (r : Int) (w0 w : World) (hB : Below w0.heap.size w0 w) (ho0 : Kd.S k105 105 w w0.heap.size P0_ u9000_ l0) (h : laws_markTransS.f k l0 a1 = some r) :
    Calls Try.prog 59 #[u9000_, .int .i64 a1] w fun e w' => e = .returned (.int .i64 r) ∧ Below w0.heap.size w0 w' ∧ Kept w w' (fun k_ => P0_ k_) := by
  have huT := Try.underlying105
  have huS := Try.underlying36
  obtain ⟨Ao, co, eo⟩ := Kd.S_slice ho0
  subst eo
  have hgo : l0.length = 0 ∨ ∃ go, Ao = some ⟨go, 0, none⟩ := by
    by_cases hz : l0.length = 0
    · exact .inl hz
    · obtain ⟨g, cap, e, _⟩ := Kd.S_form ho0 (by omega)
      injection e with e1 _ _
      exact .inr ⟨g, e1⟩
  have HK := Aside0.mk (Kept.refl w P0_)
  have HB := Aside0.mk hB
  have H : (laws_markTransS.l0 k l0 a1 0) = some r := h
  clear h
  have H' := Aside0.mk H
  clear H
  have HT : Aside0 (∀ go, Ao = some ⟨go, 0, none⟩ → Trios w w0.heap.size P0_ go l0) := ⟨fun go e => by subst e; exact Trios.of ho0⟩
  clear hB ho0
  go_enter Try.func59, Try.ntmps59
  go_wp2
  go_loopg [1, 5] k (fun kq v1 v5 w' => ∃ (x1_1 : Int) (x5_1 : Int), v1 = .int .i64 x1_1 ∧ v5 = .int .i64 x5_1 ∧ Aside0 (laws_markTransS.l0 kq l0 x1_1 x5_1 = some r) ∧ Aside0 (kq ≤ k) ∧ Aside0 (∀ go, Ao = some ⟨go, 0, none⟩ → Trios w' w0.heap.size P0_ go l0) ∧ Aside0 (Kept w w' P0_) ∧ Aside0 (Below w0.heap.size w0 w'))
  case atStart => exact ⟨(a1), (0), (by first | rfl | (simp; done) | (simp [*]; done)), (by first | rfl | (simp; done) | (simp [*]; done)), H', ⟨Nat.le_refl _⟩, ⟨fun go e => by (with_reducible repeat (first | apply Trios.alloc | apply Trios.drewN | apply Trios.drew)); exact HT.out go e⟩, ⟨by repeat (first | (with_reducible first | exact HK.out | apply Kept.alloc | apply Kept.drewN | apply Kept.drew) | exact HK.out)⟩, ⟨by repeat (first | (with_reducible first | exact HB.out | apply below_alloc | apply pw_below_drewN | apply below_drew1) | exact HB.out)⟩⟩
  case round =>
    clear H' HT HK HB
    try clear c1
    try clear p2
    obtain ⟨x1_1, x5_1, rfl, rfl, HA, HK1, HT, HK, HB⟩ := hrel
    cases gk with
    | zero => exact absurd HA.out (by simp [laws_markTransS.l0])
    | succ k1 =>
      have H := HA.out
      clear HA
      simp only [laws_markTransS.l0] at H
      by_cases c3 : x5_1 < (l0.length : Int)
      · rw [if_pos c3] at H
        have c3b0 : decide (x5_1 < (l0.length : Int)) = true := decide_eq_true c3
        by_cases c4 : 0 ≤ x5_1
        · rw [if_pos c4] at H
          have c4b0 : decide (0 ≤ x5_1) = true := decide_eq_true c4
          replace H := Option.bind_eq_some_iff.mp H
          obtain ⟨⟨p1, p2⟩, A0, H⟩ := H
          replace H := Option.bind_eq_some_iff.mp H
          obtain ⟨⟨q1, q2⟩, A1, H⟩ := H
          replace H := Option.bind_eq_some_iff.mp H
          obtain ⟨⟨s1, s2⟩, A2, H⟩ := H
          have H' := Aside0.mk H
          clear H
          obtain ⟨go, rfl⟩ := hgo.resolve_left (by omega)
          obtain ⟨v0, v1, v2, e0, e1, e2, r0, r1, r2⟩ := (HT.out go rfl).2 x5_1.toNat (by omega)
          have hx0 : wr.cell? ⟨go, x5_1.toNat * 3, none⟩ = some v0 := e0
          have B0 := Aside0.mk A0
          have B1 := Aside0.mk A1
          have B2 := Aside0.mk A2
          have R0 := Aside0.mk r0
          clear A0 A1 A2 e0 e1 e2 r0 r1 r2
          clear c3 c4
          have p5 : 0 ≤ (x5_1 : Int) := of_decide_eq_true (by first | (with_reducible assumption) | assumption)
          have q5 : (x5_1 : Int) < (l0.length : Int) := of_decide_eq_true (by first | (with_reducible assumption) | assumption)
          replace p5 := eq_true p5
          replace q5 := eq_true q5
          go_wp2_with (first | ((with_reducible refine gate_callee (f := 26) rfl ?_); refine goesL_ (some 18) rfl rfl Try.func26 (by kernel_rfl) rfl #[v0, .int .i64 x1_1] rfl (by (try simp only [List.map_toArray, List.map_cons, List.map_nil]); first | done | rfl) ?_; (refine (markRow (w0 := w0) (go := go) (P := P0_) (l := l0) ?side1 ?side2 ?side3 B0.out).mono ?_); (case side1 => repeat (first | (with_reducible first | exact HB.out | apply below_alloc | apply pw_below_drewN | apply below_drew1) | exact HB.out)); (case side2 => (with_reducible repeat (first | apply Trios.alloc | apply Trios.drewN | apply Trios.drew)); exact HT.out go rfl); (case side3 => exact R0.out); rintro e w8 ⟨rfl, hT, hb, hk⟩; refine ⟨_, rfl, ?_⟩; have n0_ := Aside0.mk (show ∀ g_, some (⟨go, 0, none⟩ : Addr) = some ⟨g_, 0, none⟩ → Trios w8 w0.heap.size P0_ g_ l0 from fun g_ e_ => by injection e_ with e_; injection e_ with e_; rw [← e_]; exact hT); have n1_ := Aside0.mk hb; have n2_ := Aside0.mk (Kept.then_ HK.out hk (fun k_ h_ => .inl h_)); clear HT; clear HB; clear HK; have HT := n0_; have HB := n1_; have HK := n2_; clear n0_ n1_ n2_; clear hT hb hk; obtain ⟨w0_1, w1_1, w2_1, e0, e1, e2, r0, r1, r2⟩ := (HT.out go rfl).2 x5_1.toNat (by have := of_eq_true q5; have := of_eq_true p5; omega); have hx1 : w8.cell? ⟨go, x5_1.toNat * 3 + 1, none⟩ = some w1_1 := e1; have R1 := Aside0.mk r1; clear e0 e1 e2 r0 r1 r2) | ((with_reducible refine gate_callee (f := 26) rfl ?_); refine goesL_ (some 25) rfl rfl Try.func26 (by kernel_rfl) rfl #[w1_1, .int .i64 p1] rfl (by (try simp only [List.map_toArray, List.map_cons, List.map_nil]); first | done | rfl) ?_; (refine (markRow (w0 := w0) (go := go) (P := P0_) (l := l0) ?side1 ?side2 ?side3 B1.out).mono ?_); (case side1 => repeat (first | (with_reducible first | exact HB.out | apply below_alloc | apply pw_below_drewN | apply below_drew1) | exact HB.out)); (case side2 => (with_reducible repeat (first | apply Trios.alloc | apply Trios.drewN | apply Trios.drew)); exact HT.out go rfl); (case side3 => exact R1.out); rintro e w9 ⟨rfl, hT, hb, hk⟩; refine ⟨_, rfl, ?_⟩; have n0_ := Aside0.mk (show ∀ g_, some (⟨go, 0, none⟩ : Addr) = some ⟨g_, 0, none⟩ → Trios w9 w0.heap.size P0_ g_ l0 from fun g_ e_ => by injection e_ with e_; injection e_ with e_; rw [← e_]; exact hT); have n1_ := Aside0.mk hb; have n2_ := Aside0.mk (Kept.then_ HK.out hk (fun k_ h_ => .inl h_)); clear HT; clear HB; clear HK; have HT := n0_; have HB := n1_; have HK := n2_; clear n0_ n1_ n2_; clear hT hb hk; obtain ⟨w0_2, w1_2, w2_2, e0, e1, e2, r0, r1, r2⟩ := (HT.out go rfl).2 x5_1.toNat (by have := of_eq_true q5; have := of_eq_true p5; omega); have hx2 : w9.cell? ⟨go, x5_1.toNat * 3 + 2, none⟩ = some w2_2 := e2; have R2 := Aside0.mk r2; clear e0 e1 e2 r0 r1 r2) | ((with_reducible refine gate_callee (f := 26) rfl ?_); refine goesL_ (some 32) rfl rfl Try.func26 (by kernel_rfl) rfl #[w2_2, .int .i64 q1] rfl (by (try simp only [List.map_toArray, List.map_cons, List.map_nil]); first | done | rfl) ?_; (refine (markRow (w0 := w0) (go := go) (P := P0_) (l := l0) ?side1 ?side2 ?side3 B2.out).mono ?_); (case side1 => repeat (first | (with_reducible first | exact HB.out | apply below_alloc | apply pw_below_drewN | apply below_drew1) | exact HB.out)); (case side2 => (with_reducible repeat (first | apply Trios.alloc | apply Trios.drewN | apply Trios.drew)); exact HT.out go rfl); (case side3 => exact R2.out); rintro e w10 ⟨rfl, hT, hb, hk⟩; refine ⟨_, rfl, ?_⟩; have n0_ := Aside0.mk (show ∀ g_, some (⟨go, 0, none⟩ : Addr) = some ⟨g_, 0, none⟩ → Trios w10 w0.heap.size P0_ g_ l0 from fun g_ e_ => by injection e_ with e_; injection e_ with e_; rw [← e_]; exact hT); have n1_ := Aside0.mk hb; have n2_ := Aside0.mk (Kept.then_ HK.out hk (fun k_ h_ => .inl h_)); clear HT; clear HB; clear HK; have HT := n0_; have HB := n1_; have HK := n2_; clear n0_ n1_ n2_; clear hT hb hk))
          go_roundg k1
          case measure => have := HK1.out; omega
          case rel => exact ⟨(s1), (wrap64 (x5_1 + 1)), (by first | rfl | (simp; done) | (simp [*]; done)), (by first | rfl | (simp; done) | (simp [*]; done)), H', ⟨by have := HK1.out; omega⟩, ⟨fun g_ e_ => by (with_reducible repeat (first | apply Trios.alloc | apply Trios.drewN | apply Trios.drew)); exact HT.out g_ e_⟩, ⟨by repeat (first | (with_reducible first | exact HK.out | apply Kept.alloc | apply Kept.drewN | apply Kept.drew) | exact HK.out)⟩, ⟨by repeat (first | (with_reducible first | exact HB.out | apply below_alloc | apply pw_below_drewN | apply below_drew1) | exact HB.out)⟩⟩
        · rw [if_neg c4] at H
          exact absurd H (by simp)
      · rw [if_neg c3] at H
        have c3b0 : decide (x5_1 < (l0.length : Int)) = false := decide_eq_false c3
        clear c3
        obtain rfl := Option.some.inj H
        go_wp2
        go_ret
        exact ⟨by first | rfl | (simp [errW_none, errW_some] <;> rfl) | (simp [*, errW_none, errW_some] <;> rfl), by repeat (first | (with_reducible first | exact HB.out | apply below_alloc | apply pw_below_drewN | apply below_drew1) | exact HB.out), by repeat (first | (with_reducible first | exact HK.out | apply Kept.alloc | apply Kept.drewN | apply Kept.drew) | exact HK.out)⟩

/-! ### laws_markNet: function 25 -/
def laws_markNet.f (k : Nat) (a0_0 : Int) (l0_1 : List S105) (a1 : Int) : Option Int := laws_markTransS.f k l0_1 a1
set_option maxHeartbeats 8000000 in
set_option maxRecDepth 100000 in
theorem laws_markNet.calls (k : Nat) (a0_0 : Int) (P0_1_ : Nat → Prop) (u9000_ : Value) (l0_1 : List S105) (a1 : Int) (r : Int) (w0 w : World) (hB : Below w0.heap.size w0 w) (ho0 : Kd.S k105 105 w w0.heap.size P0_1_ u9000_ l0_1) (h : laws_markNet.f k a0_0 l0_1 a1 = some r) :
    Calls Try.prog 25 #[.agg #[.int .i64 a0_0, u9000_], .int .i64 a1] w fun e w' => e = .returned (.int .i64 r) ∧ Below w0.heap.size w0 w' ∧ Kept w w' (fun k_ => P0_1_ k_) := by
  have huN := Try.underlying38
  have HO := Aside0.mk ho0
  have HK := Aside0.mk (Kept.refl w P0_1_)
  have HB := Aside0.mk hB
  have H := Aside0.mk h
  obtain ⟨Ao, co, rfl⟩ := Kd.S_slice ho0
  clear hB ho0 h
  go_enter Try.func25, Try.ntmps25
  go_wp2_with (((with_reducible refine gate_callee (f := 59) rfl ?_); refine goesL_ (some 8) rfl rfl Try.func59 (by kernel_rfl) rfl #[.slice Ao l0_1.length co, .int .i64 a1] rfl (by (try simp only [List.map_toArray, List.map_cons, List.map_nil]); first | done | rfl) ?_; (refine (laws_markTransS.calls k P0_1_ (.slice Ao l0_1.length co) l0_1 a1 r w0 _ ?side1 ?side2 H.out).mono ?_); (case side1 => repeat (first | (with_reducible first | exact HB.out | apply below_alloc | apply pw_below_drewN | apply below_drew1) | exact HB.out)); (case side2 => (with_reducible repeat (first | apply Kd.S_alloc | apply Kd.S_drewN | apply Kd.S_drew)); exact HO.out); rintro e w8 ⟨rfl, hb, hk⟩; refine ⟨_, rfl, ?_⟩; have n1_ := Aside0.mk hb; have n2_ := Aside0.mk (Kept.then_ (S := P0_1_) (show Kept w _ P0_1_ by repeat (first | (with_reducible first | exact HK.out | apply Kept.alloc | apply Kept.drewN | apply Kept.drew) | exact HK.out)) hk (fun k_ h_ => .inl h_)); clear HB; clear HK; have HB := n1_; have HK := n2_; clear n1_ n2_; clear hb hk))
  go_ret
  exact ⟨by first | rfl | (simp [errW_none, errW_some] <;> rfl) | (simp [*, errW_none, errW_some] <;> rfl), by repeat (first | (with_reducible first | exact HB.out | apply below_alloc | apply pw_below_drewN | apply below_drew1) | exact HB.out), by repeat (first | (with_reducible first | exact HK.out | apply Kept.alloc | apply Kept.drewN | apply Kept.drew) | exact HK.out)⟩

/-! ### spec_l1In: function 71 -/
def spec_l1In.f (a0 : Int) (a1 : Int) (a2 : Int) : Option (Bool) := if a0 ≥ a1 then (some (decide (a0 ≤ a2))) else (some false)
set_option maxHeartbeats 8000000 in
set_option maxRecDepth 100000 in
theorem spec_l1In.calls (a0 : Int) (a1 : Int) (a2 : Int) (r : Bool) (w : World) (h : spec_l1In.f a0 a1 a2 = some r) :
    Calls Try.prog 71 #[.int .i64 a0, .int .i64 a1, .int .i64 a2] w fun e w' => e = .returned (.bool r) ∧ Drawn0 w w' := by
  have H : (if a0 ≥ a1 then (some (decide (a0 ≤ a2))) else (some false)) = some r := h; clear h
  by_cases c4 : a0 ≥ a1
  ·rw [if_pos c4] at H; have c4b0 : decide (a1 ≤ a0) = true := decide_eq_true c4; clear c4; obtain rfl := Option.some.inj H; go_enter Try.func71, Try.ntmps71; go_wp2; go_ret; exact ⟨by first | rfl | (simp; done) | (simp [*]; done), by repeat (first | exact Drawn0.refl _ | apply Drawn0.step)⟩
  ·rw [if_neg c4] at H; have c4b0 : decide (a1 ≤ a0) = false := decide_eq_false c4; clear c4; obtain rfl := Option.some.inj H; go_enter Try.func71, Try.ntmps71; go_wp2; go_ret; exact ⟨by first | rfl | (simp; done) | (simp [*]; done), by repeat (first | exact Drawn0.refl _ | apply Drawn0.step)⟩

/-! ### spec_l1Places: function 42 -/
def spec_l1Places.f (a0 : Int) : Option (Bool) := (spec_l1In.f a0 1 16).bind fun t160 => (some t160)
set_option maxHeartbeats 8000000 in
set_option maxRecDepth 100000 in
theorem spec_l1Places.calls (a0 : Int) (r : Bool) (w : World) (h : spec_l1Places.f a0 = some r) :
    Calls Try.prog 42 #[.int .i64 a0] w fun e w' => e = .returned (.bool r) ∧ Drawn0 w w' := by
  have H : ((spec_l1In.f a0 1 16).bind fun t160 => (some t160)) = some r := h; clear h; obtain ⟨t160, A2, H⟩ := bnd_ H; obtain rfl := Option.some.inj H; go_enter Try.func42, Try.ntmps42; go_wp2_with (first | (refine goesM (some 4) rfl rfl Try.func71 #[.int .i64 a0, .int .i64 1, .int .i64 16] rfl ?_; (with_reducible refine (spec_l1In.calls a0 1 16 t160 _ A2.out).mono ?_); rintro e w' ⟨rfl, ⟨nd, rfl⟩⟩; refine ⟨_, rfl, ?_⟩)); go_ret; exact ⟨by first | rfl | (simp; done) | (simp [*]; done), by repeat (first | exact Drawn0.refl _ | apply Drawn0.step)⟩

/-! ### spec_l1All: function 72 -/
def spec_l1All.l0 : Nat → Int → Int → List Int → Int → Int → Option (Bool)
  | 0, _, _, _, _, _ => none
  | k + 1, x1, x2, x9, x10, x11 => if x11 < x10 then (if 0 ≤ x11 then (if x11 < (x9.length : Int) then ((spec_l1In.f (rd x9 x11) x1 x2).bind fun t162 => (if t162 = true then (spec_l1All.l0 k x1 x2 x9 x10 (wrap64 (x11 + 1))) else (some false))) else (none)) else (none)) else (some true)
def spec_l1All.f (k : Nat) (l0 : List Int) (a1 : Int) (a2 : Int) : Option (Bool) := spec_l1All.l0 k a1 a2 l0 (l0.length : Int) 0
set_option maxHeartbeats 8000000 in
set_option maxRecDepth 100000 in
theorem spec_l1All.calls (k : Nat) (A0 : Option Addr) (c0 : Nat) (l0 : List Int) (a1 : Int) (a2 : Int) (r : Bool) (w : World) (hr0 : Kd.C (Kd.int .i64) w A0 l0.length l0) (hc0 : l0.length ≤ c0) (h : spec_l1All.f k l0 a1 a2 = some r) :
    Calls Try.prog 72 #[.slice A0 l0.length c0, .int .i64 a1, .int .i64 a2] w fun e w' => e = .returned (.bool r) ∧ Drawn0 w w' := by
  have HR0 := q_ hr0; have HC0 := q_ hc0; clear hr0 hc0; have H : (spec_l1All.l0 k a1 a2 l0 (l0.length : Int) 0) = some r := h; clear h; have H' := q_ H; clear H; go_enter Try.func72, Try.ntmps72; go_wp2; go_loopg [11] k (fun kq v11 w' => ∃ (x11_1 : Int), v11 = .int .i64 x11_1 ∧ Aside0 (spec_l1All.l0 kq a1 a2 l0 (l0.length : Int) x11_1 = some r) ∧ Aside0 (kq ≤ k) ∧ Drawn0 w w')
  case atStart => exact ⟨(0), eqv, H', ⟨Nat.le_refl _⟩, by repeat (first | exact Drawn0.refl _ | apply Drawn0.step)⟩
  case round =>
   clear H'; obtain ⟨x11_1, rfl, HA, HK1, ⟨m1, rfl⟩⟩ := hrel
   cases gk with
   | zero => exact absurd HA.out (by simp [spec_l1All.l0])
   | succ k1 =>
    have H := HA.out; clear HA; simp only [spec_l1All.l0] at H
    by_cases c4 : x11_1 < (l0.length : Int)
    ·rw [if_pos c4] at H; have c4b0 : decide (x11_1 < (l0.length : Int)) = true := decide_eq_true c4; clear c4
     obtain ⟨c5, H⟩ := ifp_ H; have c5b0 : decide (0 ≤ x11_1) = true := decide_eq_true c5; clear c5
     obtain ⟨c6, H⟩ := ifp_ H; have c6b0 : decide (x11_1 < (l0.length : Int)) = true := decide_eq_true c6; clear c6; obtain ⟨t162, A7, H⟩ := bnd_ H; have HC8 := q_ H; clear H; have p161 : 0 ≤ (x11_1 : Int) := od; have q161 : x11_1 < (l0.length : Int) := od; obtain ⟨ad161, e161, hx161_0⟩ := Kd.at_int HR0.out x11_1 p161 q161
     cases e161
     replace p161 := eq_true p161; replace q161 := eq_true q161
     go_upto_if 19 with (first | (refine goesM (some 18) rfl rfl Try.func71 #[.int .i64 (rd l0 x11_1), .int .i64 a1, .int .i64 a2] rfl ?_; (with_reducible refine (spec_l1In.calls (rd l0 x11_1) a1 a2 t162 _ A7.out).mono ?_); rintro e w' ⟨rfl, ⟨nd, rfl⟩⟩; refine ⟨_, rfl, ?_⟩))
     (try simp only [Act.put, List.setIfInBounds_toArray, List.set_cons_zero, List.set_cons_succ]); have H := HC8.out; clear HC8
     by_cases c9 : t162 = true
     ·subst c9; replace H := itt_ H; have H' := q_ H; clear H; go_wp2; go_roundg k1
      case measure => have := HK1.out; omega
      case rel => exact ⟨(wrap64 (x11_1 + 1)), eqv, H', ⟨by have := HK1.out; omega⟩, by repeat (first | exact Drawn0.refl _ | apply Drawn0.step)⟩
     ·replace c9 := Bool.eq_false_iff.mpr c9; subst c9; replace H := iff_ H; obtain rfl := Option.some.inj H; go_wp2; go_ret; exact ⟨by first | rfl | (simp; done) | (simp [*]; done), by repeat (first | exact Drawn0.refl _ | apply Drawn0.step)⟩
    ·rw [if_neg c4] at H; have c4b0 : decide (x11_1 < (l0.length : Int)) = false := decide_eq_false c4; clear c4; obtain rfl := Option.some.inj H; go_wp2; go_ret; exact ⟨by first | rfl | (simp; done) | (simp [*]; done), by repeat (first | exact Drawn0.refl _ | apply Drawn0.step)⟩

end Go.Proofs.Ytiglhdibibbkjaa.F
