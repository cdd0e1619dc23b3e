-- Written by a program of this session (fork.py, fprint.sh). Lean checks it.
import Derived.Test.YtiglhdibibbkjaaF0
namespace Go.Proofs.Ytiglhdibibbkjaa.F
open Go.RowKit Go.Proofs.YtiglhdibibbkjaaW.PrintWords Go.Proofs.YtiglhdibibbkjaaW.PrintLast Go.Proofs.YtiglhdibibbkjaaW.PrintMore
attribute [local go_sem] max2_int min2_int max_two min_two max_three min_three max_four min_four   -- for this text's walks alone
set_option linter.unusedVariables false
set_option linter.unusedSimpArgs false

/-! ### laws_szIntS: function 41 -/
def laws_szIntS.f (l0 : List Int) (a1 : Int) : Option (Int) := if (wrap64 (a1 - (l0.length : Int))) < 0 then (some (-1)) else (some (wrap64 (a1 - (l0.length : Int))))
set_option maxHeartbeats 8000000 in
set_option maxRecDepth 100000 in
theorem laws_szIntS.calls (A0 : Option Addr) (c0 : Nat) (l0 : List Int) (a1 : Int) (r : Int) (w : World) (hr0 : Kd.C (Kd.int .i64) w A0 l0.length l0) (hc0 : l0.length ≤ c0) (h : laws_szIntS.f l0 a1 = some r) :
    Calls Try.prog 41 #[.slice A0 l0.length c0, .int .i64 a1] w fun e w' => e = .returned (.int .i64 r) ∧ Drawn0 w w' := by
  have HR0 := q_ hr0; have HC0 := q_ hc0; clear hr0 hc0; have H : (if (wrap64 (a1 - (l0.length : Int))) < 0 then (some (-1)) else (some (wrap64 (a1 - (l0.length : Int))))) = some r := h; clear h
  by_cases c3 : (wrap64 (a1 - (l0.length : Int))) < 0
  ·rw [if_pos c3] at H; have c3b0 : decide ((wrap64 (a1 - (l0.length : Int))) < 0) = true := decide_eq_true c3; clear c3; obtain rfl := Option.some.inj H; go_enter Try.func41, Try.ntmps41; go_wp2; go_ret; exact ⟨by first | rfl | (simp; done) | (simp [*]; done), by repeat (first | exact Drawn0.refl _ | apply Drawn0.step)⟩
  ·rw [if_neg c3] at H; have c3b0 : decide ((wrap64 (a1 - (l0.length : Int))) < 0) = false := decide_eq_false c3; clear c3; obtain rfl := Option.some.inj H; go_enter Try.func41, Try.ntmps41; go_wp2; go_ret; exact ⟨by first | rfl | (simp; done) | (simp [*]; done), by repeat (first | exact Drawn0.refl _ | apply Drawn0.step)⟩

/-! ### laws_szTrans: function 83 -/
def laws_szTrans.f (l0_0 : List Int) (l0_1 : List Int) (l0_2 : List Int) (a1 : Int) : Option (Int) := (laws_szIntS.f l0_0 a1).bind fun t102 => (if t102 < 0 then (some (-1)) else ((laws_szIntS.f l0_1 t102).bind fun t103 => (if t103 < 0 then (some (-1)) else ((laws_szIntS.f l0_2 t103).bind fun t104 => (if t104 < 0 then (some (-1)) else (some t104))))))
set_option maxHeartbeats 8000000 in
set_option maxRecDepth 100000 in
theorem laws_szTrans.calls (A0_0 : Option Addr) (c0_0 : Nat) (l0_0 : List Int) (A0_1 : Option Addr) (c0_1 : Nat) (l0_1 : List Int) (A0_2 : Option Addr) (c0_2 : Nat) (l0_2 : List Int) (a1 : Int) (r : Int) (w : World) (hr0_0 : Kd.C (Kd.int .i64) w A0_0 l0_0.length l0_0) (hc0_0 : l0_0.length ≤ c0_0) (hr0_1 : Kd.C (Kd.int .i64) w A0_1 l0_1.length l0_1) (hc0_1 : l0_1.length ≤ c0_1) (hr0_2 : Kd.C (Kd.int .i64) w A0_2 l0_2.length l0_2) (hc0_2 : l0_2.length ≤ c0_2) (h : laws_szTrans.f l0_0 l0_1 l0_2 a1 = some r) :
    Calls Try.prog 83 #[.agg #[.slice A0_0 l0_0.length c0_0, .slice A0_1 l0_1.length c0_1, .slice A0_2 l0_2.length c0_2], .int .i64 a1] w fun e w' => e = .returned (.int .i64 r) ∧ Below w.heap.size w w' := by
  have hu104 := Try.underlying104
  have HR0_0 := q_ hr0_0; have HC0_0 := q_ hc0_0; clear hr0_0 hc0_0; have HR0_1 := q_ hr0_1; have HC0_1 := q_ hc0_1; clear hr0_1 hc0_1; have HR0_2 := q_ hr0_2; have HC0_2 := q_ hc0_2; clear hr0_2 hc0_2; have HB := q_ (Below.refl w.heap.size w); have H : ((laws_szIntS.f l0_0 a1).bind fun t102 => (if t102 < 0 then (some (-1)) else ((laws_szIntS.f l0_1 t102).bind fun t103 => (if t103 < 0 then (some (-1)) else ((laws_szIntS.f l0_2 t103).bind fun t104 => (if t104 < 0 then (some (-1)) else (some t104))))))) = some r := h; clear h; obtain ⟨t102, A3, H⟩ := bnd_ H; have HC4 := q_ H; clear H; go_enter Try.func83, Try.ntmps83
  go_upto_if 10 with (first | (refine boxE 2 #[.slice A0_0 l0_0.length c0_0, .slice A0_1 l0_1.length c0_1, .slice A0_2 l0_2.length c0_2] 104 ?_; intro gb101 hg w5 hbox hb; have BK101 := q_ (hbox); have GW101 := q_ (gw_ hg HB.out); have GE101 := q_ (gw_ hg HB.out); replace HB := q_ (bs HB.out hb); clear hb hbox hg; obtain ⟨hcz6_0, hcz6_1, hcz6_2, hfz6_0, hfz6_1, hfz6_2⟩ := cz3 BK101.out) | (refine goesM (some 8) rfl rfl Try.func41 #[.slice A0_0 l0_0.length c0_0, .int .i64 a1] rfl ?_; (with_reducible refine (laws_szIntS.calls _ _ l0_0 a1 t102 _ ?side1 ?side2 A3.out).mono ?_); (case side1 => exact Kd.C_v ((Kd.C_below HR0_0.out HB.out))); (case side2 => exact HC0_0.out); rintro e w' ⟨rfl, ⟨nd, rfl⟩⟩; refine ⟨_, rfl, ?_⟩))
  (try simp only [Act.put, List.setIfInBounds_toArray, List.set_cons_zero, List.set_cons_succ]); have H := HC4.out; clear HC4
  by_cases c7 : t102 < 0
  ·rw [if_pos c7] at H; have c7b0 : decide (t102 < 0) = true := decide_eq_true c7; clear c7; (first | rw [c7b0] | (simp only [i64_w, i32_w]; rw [c7b0]) | skip); obtain rfl := Option.some.inj H; go_wp2; go_ret; exact fin_ (by exact bv HB.out)
  ·rw [if_neg c7] at H; have c7b0 : decide (t102 < 0) = false := decide_eq_false c7; clear c7; (first | rw [c7b0] | (simp only [i64_w, i32_w]; rw [c7b0]) | skip); obtain ⟨t103, A8, H⟩ := bnd_ H; have HC9 := q_ H; clear H; obtain ⟨hcz10_0, hcz10_1, hcz10_2, hfz10_0, hfz10_1, hfz10_2⟩ := cz3 BK101.out
   go_upto_if 16 with (first | (refine goesM (some 14) rfl rfl Try.func41 #[.slice A0_1 l0_1.length c0_1, .int .i64 t102] rfl ?_; (with_reducible refine (laws_szIntS.calls _ _ l0_1 t102 t103 _ ?side1 ?side2 A8.out).mono ?_); (case side1 => exact Kd.C_v ((Kd.C_below HR0_1.out HB.out))); (case side2 => exact HC0_1.out); rintro e w' ⟨rfl, ⟨nd, rfl⟩⟩; refine ⟨_, rfl, ?_⟩))
   (try simp only [Act.put, List.setIfInBounds_toArray, List.set_cons_zero, List.set_cons_succ]); have H := HC9.out; clear HC9
   by_cases c11 : t103 < 0
   ·rw [if_pos c11] at H; have c11b0 : decide (t103 < 0) = true := decide_eq_true c11; clear c11; (first | rw [c11b0] | (simp only [i64_w, i32_w]; rw [c11b0]) | skip); obtain rfl := Option.some.inj H; go_wp2; go_ret; exact fin_ (by exact bv HB.out)
   ·rw [if_neg c11] at H; have c11b0 : decide (t103 < 0) = false := decide_eq_false c11; clear c11; (first | rw [c11b0] | (simp only [i64_w, i32_w]; rw [c11b0]) | skip); obtain ⟨t104, A12, H⟩ := bnd_ H; have HC13 := q_ H; clear H; obtain ⟨hcz14_0, hcz14_1, hcz14_2, hfz14_0, hfz14_1, hfz14_2⟩ := cz3 BK101.out
    go_upto_if 22 with (first | (refine goesM (some 20) rfl rfl Try.func41 #[.slice A0_2 l0_2.length c0_2, .int .i64 t103] rfl ?_; (with_reducible refine (laws_szIntS.calls _ _ l0_2 t103 t104 _ ?side1 ?side2 A12.out).mono ?_); (case side1 => exact Kd.C_v ((Kd.C_below HR0_2.out HB.out))); (case side2 => exact HC0_2.out); rintro e w' ⟨rfl, ⟨nd, rfl⟩⟩; refine ⟨_, rfl, ?_⟩))
    (try simp only [Act.put, List.setIfInBounds_toArray, List.set_cons_zero, List.set_cons_succ]); have H := HC13.out; clear HC13
    by_cases c15 : t104 < 0
    ·rw [if_pos c15] at H; have c15b0 : decide (t104 < 0) = true := decide_eq_true c15; clear c15; (first | rw [c15b0] | (simp only [i64_w, i32_w]; rw [c15b0]) | skip); obtain rfl := Option.some.inj H; go_wp2; go_ret; exact fin_ (by exact bv HB.out)
    ·rw [if_neg c15] at H; have c15b0 : decide (t104 < 0) = false := decide_eq_false c15; clear c15; (first | rw [c15b0] | (simp only [i64_w, i32_w]; rw [c15b0]) | skip); obtain rfl := Option.some.inj H; go_wp2; go_ret; exact fin_ (by exact bv HB.out)

/-! ### laws_szTransS: function 48 -/
def laws_szTransS.l0 : Nat → List (S104) → Int → Int → Option (Int)
  | 0, _, _, _ => none
  | k + 1, x0, x1, x5 => if x5 < (x0.length : Int) then (if 0 ≤ x5 then ((laws_szTrans.f ((rd_T104 x0 x5).f0) ((rd_T104 x0 x5).f1) ((rd_T104 x0 x5).f2) x1).bind fun t106 => (if t106 < 0 then (some (-1)) else (laws_szTransS.l0 k x0 t106 (wrap64 (x5 + 1))))) else (none)) else (some x1)
def laws_szTransS.f (k : Nat) (l0 : List (S104)) (a1 : Int) : Option (Int) := if (wrap64 (a1 - (l0.length : Int))) < 0 then (some (-1)) else (laws_szTransS.l0 k l0 (wrap64 (a1 - (l0.length : Int))) 0)
set_option maxHeartbeats 8000000 in
set_option maxRecDepth 100000 in
theorem laws_szTransS.calls (k : Nat) (A0 : Option Addr) (c0 : Nat) (l0 : List (S104)) (a1 : Int) (r : Int) (w : World) (hr0 : Kd.C k104 w A0 l0.length l0) (hc0 : l0.length ≤ c0) (h : laws_szTransS.f k l0 a1 = some r) :
    Calls Try.prog 48 #[.slice A0 l0.length c0, .int .i64 a1] w fun e w' => e = .returned (.int .i64 r) ∧ Below w.heap.size w w' := by
  have hu104 := Try.underlying104
  have HR0 := q_ hr0; have HC0 := q_ hc0; clear hr0 hc0; have HB := q_ (Below.refl w.heap.size w); have H : (if (wrap64 (a1 - (l0.length : Int))) < 0 then (some (-1)) else (laws_szTransS.l0 k l0 (wrap64 (a1 - (l0.length : Int))) 0)) = some r := h; clear h
  by_cases c3 : (wrap64 (a1 - (l0.length : Int))) < 0
  ·rw [if_pos c3] at H; have c3b0 : decide ((wrap64 (a1 - (l0.length : Int))) < 0) = true := decide_eq_true c3; clear c3; obtain rfl := Option.some.inj H; go_enter Try.func48, Try.ntmps48; go_wp2; go_ret; exact fin_ (by exact bv HB.out)
  ·rw [if_neg c3] at H; have c3b0 : decide ((wrap64 (a1 - (l0.length : Int))) < 0) = false := decide_eq_false c3; clear c3; have H' := q_ H; clear H; go_enter Try.func48, Try.ntmps48; go_wp2; go_loopg [1, 5] k (fun kq v1 v5 w' => ∃ (x1_1 : Int) (x5_1 : Int), v1 = .int .i64 x1_1 ∧ v5 = .int .i64 x5_1 ∧ Aside0 (laws_szTransS.l0 kq l0 x1_1 x5_1 = some r) ∧ Aside0 (kq ≤ k) ∧ Aside0 (Below w.heap.size w w'))
   case atStart => exact ⟨(wrap64 (a1 - (l0.length : Int))), (0), eqv, eqv, H', ⟨Nat.le_refl _⟩, ⟨by exact bv HB.out⟩⟩
   case round =>
    clear H'; (try clear c3b0); obtain ⟨x1_1, x5_1, rfl, rfl, HA, HK1, HB⟩ := hrel
    cases gk with
    | zero => exact absurd HA.out (by simp [laws_szTransS.l0])
    | succ k1 =>
     have H := HA.out; clear HA; simp only [laws_szTransS.l0] at H
     by_cases c4 : x5_1 < (l0.length : Int)
     ·rw [if_pos c4] at H; have c4b0 : decide (x5_1 < (l0.length : Int)) = true := decide_eq_true c4; clear c4
      obtain ⟨c5, H⟩ := ifp_ H; have c5b0 : decide (0 ≤ x5_1) = true := decide_eq_true c5; clear c5; obtain ⟨t106, A6, H⟩ := bnd_ H; have HC7 := q_ H; clear H; have p105 : 0 ≤ (x5_1 : Int) := od; have q105 : x5_1 < (l0.length : Int) := od; obtain ⟨ad105, A105_0, c105_0, A105_1, c105_1, A105_2, c105_2, e105, hx105_0, hx105_1, hx105_2, hl105_0, hi105_0, hl105_1, hi105_1, hl105_2, hi105_2⟩ := at_T104 HR0.out x5_1 p105 q105
      cases e105
      replace hx105_0 := cb_ HB.out hx105_0; replace hx105_1 := cb_ HB.out hx105_1; replace hx105_2 := cb_ HB.out hx105_2; have HR105_0 := q_ hi105_0; have HC105_0 := q_ hl105_0; clear hi105_0 hl105_0; have HR105_1 := q_ hi105_1; have HC105_1 := q_ hl105_1; clear hi105_1 hl105_1; have HR105_2 := q_ hi105_2; have HC105_2 := q_ hl105_2; clear hi105_2 hl105_2; replace p105 := eq_true p105; replace q105 := eq_true q105
      go_upto_if 25 with (first | (refine goesM (some 23) rfl rfl Try.func83 #[.agg #[.slice A105_0 ((rd_T104 l0 x5_1).f0).length c105_0, .slice A105_1 ((rd_T104 l0 x5_1).f1).length c105_1, .slice A105_2 ((rd_T104 l0 x5_1).f2).length c105_2], .int .i64 x1_1] rfl ?_; (with_reducible refine (laws_szTrans.calls _ _ ((rd_T104 l0 x5_1).f0) _ _ ((rd_T104 l0 x5_1).f1) _ _ ((rd_T104 l0 x5_1).f2) x1_1 t106 _ ?side1 ?side2 ?side3 ?side4 ?side5 ?side6 A6.out).mono ?_); (case side1 => exact Kd.C_v ((Kd.C_below HR105_0.out HB.out))); (case side2 => exact HC105_0.out); (case side3 => exact Kd.C_v ((Kd.C_below HR105_1.out HB.out))); (case side4 => exact HC105_1.out); (case side5 => exact Kd.C_v ((Kd.C_below HR105_2.out HB.out))); (case side6 => exact HC105_2.out); rintro e w8 ⟨rfl, hb⟩; refine ⟨_, rfl, ?_⟩; replace HB := q_ (below_step (by exact bv HB.out) hb); (try clear hb); (try clear hb2); (try clear hk); (try clear hi)))
      (try simp only [Act.put, List.setIfInBounds_toArray, List.set_cons_zero, List.set_cons_succ]); have H := HC7.out; clear HC7
      by_cases c9 : t106 < 0
      ·rw [if_pos c9] at H; have c9b0 : decide (t106 < 0) = true := decide_eq_true c9; clear c9; (first | rw [c9b0] | (simp only [i64_w, i32_w]; rw [c9b0]) | skip); obtain rfl := Option.some.inj H; go_wp2; go_ret; exact fin_ (by exact bv HB.out)
      ·rw [if_neg c9] at H; have c9b0 : decide (t106 < 0) = false := decide_eq_false c9; clear c9; (first | rw [c9b0] | (simp only [i64_w, i32_w]; rw [c9b0]) | skip); have H' := q_ H; clear H; go_wp2; go_roundg k1
       case measure => have := HK1.out; omega
       case rel => exact ⟨(t106), (wrap64 (x5_1 + 1)), eqv, eqv, H', ⟨by have := HK1.out; omega⟩, ⟨by exact bv HB.out⟩⟩
     ·rw [if_neg c4] at H; have c4b0 : decide (x5_1 < (l0.length : Int)) = false := decide_eq_false c4; clear c4; obtain rfl := Option.some.inj H; go_wp2; go_ret; exact fin_ (by exact bv HB.out)

/-! ### laws_szNet: function 16 -/
def laws_szNet.f (k : Nat) (a0_0 : Int) (l0_1 : List (S104)) (a1 : Int) : Option (Int) := (laws_szTransS.f k l0_1 a1).bind fun t108 => (if t108 < 0 then (some (-1)) else (some t108))
set_option maxHeartbeats 8000000 in
set_option maxRecDepth 100000 in
theorem laws_szNet.calls (k : Nat) (a0_0 : Int) (A0_1 : Option Addr) (c0_1 : Nat) (l0_1 : List (S104)) (a1 : Int) (r : Int) (w : World) (hr0_1 : Kd.C k104 w A0_1 l0_1.length l0_1) (hc0_1 : l0_1.length ≤ c0_1) (h : laws_szNet.f k a0_0 l0_1 a1 = some r) :
    Calls Try.prog 16 #[.agg #[.int .i64 a0_0, .slice A0_1 l0_1.length c0_1], .int .i64 a1] w fun e w' => e = .returned (.int .i64 r) ∧ Below w.heap.size w w' := by
  have hu31 := Try.underlying31
  have HR0_1 := q_ hr0_1; have HC0_1 := q_ hc0_1; clear hr0_1 hc0_1; have HB := q_ (Below.refl w.heap.size w); have H : ((laws_szTransS.f k l0_1 a1).bind fun t108 => (if t108 < 0 then (some (-1)) else (some t108))) = some r := h; clear h; obtain ⟨t108, A3, H⟩ := bnd_ H; have HC4 := q_ H; clear H; go_enter Try.func16, Try.ntmps16
  go_upto_if 10 with (first | (refine boxE 2 #[.int .i64 a0_0, .slice A0_1 l0_1.length c0_1] 31 ?_; intro gb107 hg w5 hbox hb; have BK107 := q_ (hbox); have GW107 := q_ (gw_ hg HB.out); have GE107 := q_ (gw_ hg HB.out); replace HB := q_ (bs HB.out hb); clear hb hbox hg; obtain ⟨hcz6_0, hcz6_1, hfz6_0, hfz6_1⟩ := cz2 BK107.out) | (refine goesM (some 8) rfl rfl Try.func48 #[.slice A0_1 l0_1.length c0_1, .int .i64 a1] rfl ?_; (with_reducible refine (laws_szTransS.calls k _ _ l0_1 a1 t108 _ ?side1 ?side2 A3.out).mono ?_); (case side1 => exact Kd.C_v ((Kd.C_below HR0_1.out HB.out))); (case side2 => exact HC0_1.out); rintro e w7 ⟨rfl, hb⟩; refine ⟨_, rfl, ?_⟩; replace BK107 := q_ (bb BK107.out hb); replace HB := q_ (below_step (by exact bv HB.out) hb); (try clear hb); (try clear hb2); (try clear hk); (try clear hi)))
  (try simp only [Act.put, List.setIfInBounds_toArray, List.set_cons_zero, List.set_cons_succ]); have H := HC4.out; clear HC4
  by_cases c8 : t108 < 0
  ·rw [if_pos c8] at H; have c8b0 : decide (t108 < 0) = true := decide_eq_true c8; clear c8; (first | rw [c8b0] | (simp only [i64_w, i32_w]; rw [c8b0]) | skip); obtain rfl := Option.some.inj H; go_wp2; go_ret; exact fin_ (by exact bv HB.out)
  ·rw [if_neg c8] at H; have c8b0 : decide (t108 < 0) = false := decide_eq_false c8; clear c8; (first | rw [c8b0] | (simp only [i64_w, i32_w]; rw [c8b0]) | skip); obtain rfl := Option.some.inj H; go_wp2; go_ret; exact fin_ (by exact bv HB.out)

/-! ### spec_l1In: function 71 -/
def spec_l1In.f (a0 : Int) (a1 : Int) (a2 : Int) : Option (Bool) := if a0 ≥ a1 then (some (decide (a0 ≤ a2))) else (some false)
set_option maxHeartbeats 8000000 in
set_option maxRecDepth 100000 in
theorem spec_l1In.calls (a0 : Int) (a1 : Int) (a2 : Int) (r : Bool) (w : World) (h : spec_l1In.f a0 a1 a2 = some r) :
    Calls Try.prog 71 #[.int .i64 a0, .int .i64 a1, .int .i64 a2] w fun e w' => e = .returned (.bool r) ∧ Drawn0 w w' := by
  have H : (if a0 ≥ a1 then (some (decide (a0 ≤ a2))) else (some false)) = some r := h; clear h
  by_cases c4 : a0 ≥ a1
  ·rw [if_pos c4] at H; have c4b0 : decide (a1 ≤ a0) = true := decide_eq_true c4; clear c4; obtain rfl := Option.some.inj H; go_enter Try.func71, Try.ntmps71; go_wp2; go_ret; exact ⟨by first | rfl | (simp; done) | (simp [*]; done), by repeat (first | exact Drawn0.refl _ | apply Drawn0.step)⟩
  ·rw [if_neg c4] at H; have c4b0 : decide (a1 ≤ a0) = false := decide_eq_false c4; clear c4; obtain rfl := Option.some.inj H; go_enter Try.func71, Try.ntmps71; go_wp2; go_ret; exact ⟨by first | rfl | (simp; done) | (simp [*]; done), by repeat (first | exact Drawn0.refl _ | apply Drawn0.step)⟩

/-! ### spec_l1Places: function 42 -/
def spec_l1Places.f (a0 : Int) : Option (Bool) := (spec_l1In.f a0 1 16).bind fun t109 => (some t109)
set_option maxHeartbeats 8000000 in
set_option maxRecDepth 100000 in
theorem spec_l1Places.calls (a0 : Int) (r : Bool) (w : World) (h : spec_l1Places.f a0 = some r) :
    Calls Try.prog 42 #[.int .i64 a0] w fun e w' => e = .returned (.bool r) ∧ Drawn0 w w' := by
  have H : ((spec_l1In.f a0 1 16).bind fun t109 => (some t109)) = some r := h; clear h; obtain ⟨t109, A2, H⟩ := bnd_ H; obtain rfl := Option.some.inj H; go_enter Try.func42, Try.ntmps42; go_wp2_with (first | (refine goesM (some 4) rfl rfl Try.func71 #[.int .i64 a0, .int .i64 1, .int .i64 16] rfl ?_; (with_reducible refine (spec_l1In.calls a0 1 16 t109 _ A2.out).mono ?_); rintro e w' ⟨rfl, ⟨nd, rfl⟩⟩; refine ⟨_, rfl, ?_⟩)); go_ret; exact ⟨by first | rfl | (simp; done) | (simp [*]; done), by repeat (first | exact Drawn0.refl _ | apply Drawn0.step)⟩

/-! ### spec_l1All: function 72 -/
def spec_l1All.l0 : Nat → Int → Int → List Int → Int → Int → Option (Bool)
  | 0, _, _, _, _, _ => none
  | k + 1, x1, x2, x9, x10, x11 => if x11 < x10 then (if 0 ≤ x11 then (if x11 < (x9.length : Int) then ((spec_l1In.f (rd x9 x11) x1 x2).bind fun t111 => (if t111 = true then (spec_l1All.l0 k x1 x2 x9 x10 (wrap64 (x11 + 1))) else (some false))) else (none)) else (none)) else (some true)
def spec_l1All.f (k : Nat) (l0 : List Int) (a1 : Int) (a2 : Int) : Option (Bool) := spec_l1All.l0 k a1 a2 l0 (l0.length : Int) 0
set_option maxHeartbeats 8000000 in
set_option maxRecDepth 100000 in
theorem spec_l1All.calls (k : Nat) (A0 : Option Addr) (c0 : Nat) (l0 : List Int) (a1 : Int) (a2 : Int) (r : Bool) (w : World) (hr0 : Kd.C (Kd.int .i64) w A0 l0.length l0) (hc0 : l0.length ≤ c0) (h : spec_l1All.f k l0 a1 a2 = some r) :
    Calls Try.prog 72 #[.slice A0 l0.length c0, .int .i64 a1, .int .i64 a2] w fun e w' => e = .returned (.bool r) ∧ Drawn0 w w' := by
  have HR0 := q_ hr0; have HC0 := q_ hc0; clear hr0 hc0; have H : (spec_l1All.l0 k a1 a2 l0 (l0.length : Int) 0) = some r := h; clear h; have H' := q_ H; clear H; go_enter Try.func72, Try.ntmps72; go_wp2; go_loopg [11] k (fun kq v11 w' => ∃ (x11_1 : Int), v11 = .int .i64 x11_1 ∧ Aside0 (spec_l1All.l0 kq a1 a2 l0 (l0.length : Int) x11_1 = some r) ∧ Aside0 (kq ≤ k) ∧ Drawn0 w w')
  case atStart => exact ⟨(0), eqv, H', ⟨Nat.le_refl _⟩, by repeat (first | exact Drawn0.refl _ | apply Drawn0.step)⟩
  case round =>
   clear H'; obtain ⟨x11_1, rfl, HA, HK1, ⟨m1, rfl⟩⟩ := hrel
   cases gk with
   | zero => exact absurd HA.out (by simp [spec_l1All.l0])
   | succ k1 =>
    have H := HA.out; clear HA; simp only [spec_l1All.l0] at H
    by_cases c4 : x11_1 < (l0.length : Int)
    ·rw [if_pos c4] at H; have c4b0 : decide (x11_1 < (l0.length : Int)) = true := decide_eq_true c4; clear c4
     obtain ⟨c5, H⟩ := ifp_ H; have c5b0 : decide (0 ≤ x11_1) = true := decide_eq_true c5; clear c5
     obtain ⟨c6, H⟩ := ifp_ H; have c6b0 : decide (x11_1 < (l0.length : Int)) = true := decide_eq_true c6; clear c6; obtain ⟨t111, A7, H⟩ := bnd_ H; have HC8 := q_ H; clear H; have p110 : 0 ≤ (x11_1 : Int) := od; have q110 : x11_1 < (l0.length : Int) := od; obtain ⟨ad110, e110, hx110_0⟩ := Kd.at_int HR0.out x11_1 p110 q110
     cases e110
     replace p110 := eq_true p110; replace q110 := eq_true q110
     go_upto_if 19 with (first | (refine goesM (some 18) rfl rfl Try.func71 #[.int .i64 (rd l0 x11_1), .int .i64 a1, .int .i64 a2] rfl ?_; (with_reducible refine (spec_l1In.calls (rd l0 x11_1) a1 a2 t111 _ A7.out).mono ?_); rintro e w' ⟨rfl, ⟨nd, rfl⟩⟩; refine ⟨_, rfl, ?_⟩))
     (try simp only [Act.put, List.setIfInBounds_toArray, List.set_cons_zero, List.set_cons_succ]); have H := HC8.out; clear HC8
     by_cases c9 : t111 = true
     ·subst c9; replace H := itt_ H; have H' := q_ H; clear H; go_wp2; go_roundg k1
      case measure => have := HK1.out; omega
      case rel => exact ⟨(wrap64 (x11_1 + 1)), eqv, H', ⟨by have := HK1.out; omega⟩, by repeat (first | exact Drawn0.refl _ | apply Drawn0.step)⟩
     ·replace c9 := Bool.eq_false_iff.mpr c9; subst c9; replace H := iff_ H; obtain rfl := Option.some.inj H; go_wp2; go_ret; exact ⟨by first | rfl | (simp; done) | (simp [*]; done), by repeat (first | exact Drawn0.refl _ | apply Drawn0.step)⟩
    ·rw [if_neg c4] at H; have c4b0 : decide (x11_1 < (l0.length : Int)) = false := decide_eq_false c4; clear c4; obtain rfl := Option.some.inj H; go_wp2; go_ret; exact ⟨by first | rfl | (simp; done) | (simp [*]; done), by repeat (first | exact Drawn0.refl _ | apply Drawn0.step)⟩

/-! ### spec_GoodMark: function 43 -/
def spec_GoodMark.f (k : Nat) (a0 : Int) (l1 : List Int) : Option (Bool) := (spec_l1Places.f a0).bind fun t112 => (if t112 = true then (if (l1.length : Int) = a0 then ((spec_l1All.f k l1 0 50).bind fun t113 => (some t113)) else (some false)) else (some false))
set_option maxHeartbeats 8000000 in
set_option maxRecDepth 100000 in
theorem spec_GoodMark.calls (k : Nat) (a0 : Int) (A1 : Option Addr) (c1 : Nat) (l1 : List Int) (r : Bool) (w : World) (hr1 : Kd.C (Kd.int .i64) w A1 l1.length l1) (hc1 : l1.length ≤ c1) (h : spec_GoodMark.f k a0 l1 = some r) :
    Calls Try.prog 43 #[.int .i64 a0, .slice A1 l1.length c1] w fun e w' => e = .returned (.bool r) ∧ Drawn0 w w' := by
  have HR1 := q_ hr1; have HC1 := q_ hc1; clear hr1 hc1; have H : ((spec_l1Places.f a0).bind fun t112 => (if t112 = true then (if (l1.length : Int) = a0 then ((spec_l1All.f k l1 0 50).bind fun t113 => (some t113)) else (some false)) else (some false))) = some r := h; clear h; obtain ⟨t112, A3, H⟩ := bnd_ H
  by_cases c4 : t112 = true
  ·subst c4; replace H := itt_ H
   by_cases c5 : (l1.length : Int) = a0
   ·rw [if_pos c5] at H; have c5b0 : ((l1.length : Int) == a0) = true := beq_iff_eq.mpr c5; have c5b1 : ((l1.length : Int) != a0) = false := bne_eq_false_iff_eq.mpr c5; clear c5; obtain ⟨t113, A6, H⟩ := bnd_ H; obtain rfl := Option.some.inj H; go_enter Try.func43, Try.ntmps43; go_wp2_with (first | (refine goesM (some 6) rfl rfl Try.func42 #[.int .i64 a0] rfl ?_; (with_reducible refine (spec_l1Places.calls a0 true _ A3.out).mono ?_); rintro e w' ⟨rfl, ⟨nd, rfl⟩⟩; refine ⟨_, rfl, ?_⟩) | (go_at_call 72; (with_reducible refine (spec_l1All.calls k _ _ l1 0 50 t113 _ ?side1 ?side2 A6.out).mono ?_); (case side1 => exact Kd.C_v HR1.out); (case side2 => exact HC1.out); rintro e w' ⟨rfl, ⟨nd, rfl⟩⟩)); go_ret; exact ⟨by first | rfl | (simp; done) | (simp [*]; done), by repeat (first | exact Drawn0.refl _ | apply Drawn0.step)⟩
   ·rw [if_neg c5] at H; have c5b0 : ((l1.length : Int) == a0) = false := beq_eq_false_iff_ne.mpr c5; have c5b1 : ((l1.length : Int) != a0) = true := bne_iff_ne.mpr c5; obtain rfl := Option.some.inj H; go_enter Try.func43, Try.ntmps43; go_wp2_with (first | (refine goesM (some 6) rfl rfl Try.func42 #[.int .i64 a0] rfl ?_; (with_reducible refine (spec_l1Places.calls a0 true _ A3.out).mono ?_); rintro e w' ⟨rfl, ⟨nd, rfl⟩⟩; refine ⟨_, rfl, ?_⟩)); go_ret; exact ⟨by first | rfl | (simp; done) | (simp [*]; done), by repeat (first | exact Drawn0.refl _ | apply Drawn0.step)⟩
  ·replace c4 := Bool.eq_false_iff.mpr c4; subst c4; replace H := iff_ H; obtain rfl := Option.some.inj H; go_enter Try.func43, Try.ntmps43; go_wp2_with (first | (refine goesM (some 6) rfl rfl Try.func42 #[.int .i64 a0] rfl ?_; (with_reducible refine (spec_l1Places.calls a0 false _ A3.out).mono ?_); rintro e w' ⟨rfl, ⟨nd, rfl⟩⟩; refine ⟨_, rfl, ?_⟩)); go_ret; exact ⟨by first | rfl | (simp; done) | (simp [*]; done), by repeat (first | exact Drawn0.refl _ | apply Drawn0.step)⟩

/-! ### spec_l1Rising: function 149 -/
def spec_l1Rising.l0 : Nat → List Int → Int → Int → List Int → Int → Int → Option (Bool)
  | 0, _, _, _, _, _, _ => none
  | k + 1, x0, x1, x2, x9, x10, x11 => if x11 < x10 then (if 0 ≤ x11 then (if x11 < (x9.length : Int) then ((spec_l1In.f (rd x9 x11) x1 x2).bind fun t115 => (if t115 = true then (if x11 > 0 then (if 0 ≤ (wrap64 (x11 - 1)) then (if (wrap64 (x11 - 1)) < (x0.length : Int) then (if (rd x0 (wrap64 (x11 - 1))) ≥ (rd x9 x11) then (some false) else (spec_l1Rising.l0 k x0 x1 x2 x9 x10 (wrap64 (x11 + 1)))) else (none)) else (none)) else (spec_l1Rising.l0 k x0 x1 x2 x9 x10 (wrap64 (x11 + 1)))) else (some false))) else (none)) else (none)) else (some true)
def spec_l1Rising.f (k : Nat) (l0 : List Int) (a1 : Int) (a2 : Int) : Option (Bool) := spec_l1Rising.l0 k l0 a1 a2 l0 (l0.length : Int) 0
set_option maxHeartbeats 8000000 in
set_option maxRecDepth 100000 in
theorem spec_l1Rising.calls (k : Nat) (A0 : Option Addr) (c0 : Nat) (l0 : List Int) (a1 : Int) (a2 : Int) (r : Bool) (w : World) (hr0 : Kd.C (Kd.int .i64) w A0 l0.length l0) (hc0 : l0.length ≤ c0) (h : spec_l1Rising.f k l0 a1 a2 = some r) :
    Calls Try.prog 149 #[.slice A0 l0.length c0, .int .i64 a1, .int .i64 a2] w fun e w' => e = .returned (.bool r) ∧ Drawn0 w w' := by
  have HR0 := q_ hr0; have HC0 := q_ hc0; clear hr0 hc0; have H : (spec_l1Rising.l0 k l0 a1 a2 l0 (l0.length : Int) 0) = some r := h; clear h; have H' := q_ H; clear H; go_enter Try.func149, Try.ntmps149; go_wp2; go_loopg [11] k (fun kq v11 w' => ∃ (x11_1 : Int), v11 = .int .i64 x11_1 ∧ Aside0 (spec_l1Rising.l0 kq l0 a1 a2 l0 (l0.length : Int) x11_1 = some r) ∧ Aside0 (kq ≤ k) ∧ Drawn0 w w')
  case atStart => exact ⟨(0), eqv, H', ⟨Nat.le_refl _⟩, by repeat (first | exact Drawn0.refl _ | apply Drawn0.step)⟩
  case round =>
   clear H'; obtain ⟨x11_1, rfl, HA, HK1, ⟨m1, rfl⟩⟩ := hrel
   cases gk with
   | zero => exact absurd HA.out (by simp [spec_l1Rising.l0])
   | succ k1 =>
    have H := HA.out; clear HA; simp only [spec_l1Rising.l0] at H
    by_cases c4 : x11_1 < (l0.length : Int)
    ·rw [if_pos c4] at H; have c4b0 : decide (x11_1 < (l0.length : Int)) = true := decide_eq_true c4; clear c4
     obtain ⟨c5, H⟩ := ifp_ H; have c5b0 : decide (0 ≤ x11_1) = true := decide_eq_true c5; clear c5
     obtain ⟨c6, H⟩ := ifp_ H; have c6b0 : decide (x11_1 < (l0.length : Int)) = true := decide_eq_true c6; clear c6; obtain ⟨t115, A7, H⟩ := bnd_ H
     by_cases c8 : t115 = true
     ·subst c8; replace H := itt_ H
      by_cases c9 : x11_1 > 0
      ·rw [if_pos c9] at H; have c9b0 : decide (0 < x11_1) = true := decide_eq_true c9; clear c9; obtain ⟨ji10, hji10⟩ : ∃ j_ : Int, (wrap64 (x11_1 - 1)) = j_ := ⟨_, rfl⟩; (replace H : (if 0 ≤ (ji10) then (if (ji10) < (l0.length : Int) then (if (rd l0 (ji10)) ≥ (rd l0 x11_1) then (some false) else (spec_l1Rising.l0 k1 l0 a1 a2 l0 (l0.length : Int) (wrap64 (x11_1 + 1)))) else (none)) else (none)) = some r := by first | (rw [hji10] at H; exact H) | (simp only [hji10] at H ⊢; exact H)); (try rw [hji10] at A7); have hji10w : (IntKind.i64.wrap (x11_1 - 1)) = ji10 := (i64_w _).trans hji10
       obtain ⟨c11, H⟩ := ifp_ H; have c11b0 : decide (0 ≤ (ji10)) = true := decide_eq_true c11; clear c11
       obtain ⟨c12, H⟩ := ifp_ H; have c12b0 : decide ((ji10) < (l0.length : Int)) = true := decide_eq_true c12; clear c12; have HC13 := q_ H; clear H; have p114 : 0 ≤ (x11_1 : Int) := od; have q114 : x11_1 < (l0.length : Int) := od; obtain ⟨ad114, e114, hx114_0⟩ := Kd.at_int HR0.out x11_1 p114 q114
       cases e114
       replace p114 := eq_true p114; replace q114 := eq_true q114
       go_upto_if 33 with (first | (refine goesM (some 19) rfl rfl Try.func71 #[.int .i64 (rd l0 x11_1), .int .i64 a1, .int .i64 a2] rfl ?_; (with_reducible refine (spec_l1In.calls (rd l0 x11_1) a1 a2 true _ A7.out).mono ?_); rintro e w' ⟨rfl, ⟨nd, rfl⟩⟩; refine ⟨_, rfl, ?_⟩; have p116 : 0 ≤ ((ji10) : Int) := od; have q116 : (ji10) < (l0.length : Int) := od; obtain ⟨ad116, e116, hx116_0⟩ := Kd.at_int HR0.out (ji10) p116 q116; obtain rfl : ad114 = ad116 := (by injection e116); replace p116 := eq_true p116; replace q116 := eq_true q116))
       (try simp only [Act.put, List.setIfInBounds_toArray, List.set_cons_zero, List.set_cons_succ]); have H := HC13.out; clear HC13
       by_cases c14 : (rd l0 (ji10)) ≥ (rd l0 x11_1)
       ·rw [if_pos c14] at H; have c14b0 : decide ((rd l0 x11_1) ≤ (rd l0 (ji10))) = true := decide_eq_true c14; clear c14; (first | rw [c14b0] | (simp only [i64_w, i32_w]; rw [c14b0]) | skip); obtain rfl := Option.some.inj H; go_wp2; go_ret; exact ⟨by first | rfl | (simp; done) | (simp only [← hji10] <;> (first | rfl | simp)) | (simp [*]; done), by repeat (first | exact Drawn0.refl _ | apply Drawn0.step)⟩
       ·rw [if_neg c14] at H; have c14b0 : decide ((rd l0 x11_1) ≤ (rd l0 (ji10))) = false := decide_eq_false c14; clear c14; (first | rw [c14b0] | (simp only [i64_w, i32_w]; rw [c14b0]) | skip); have H' := q_ H; clear H; go_wp2; go_roundg k1
        case measure => have := HK1.out; omega
        case rel => exact ⟨(wrap64 (x11_1 + 1)), eqv, H', ⟨by have := HK1.out; omega⟩, by repeat (first | exact Drawn0.refl _ | apply Drawn0.step)⟩
      ·rw [if_neg c9] at H; have c9b0 : decide (0 < x11_1) = false := decide_eq_false c9; clear c9; have H' := q_ H; clear H; have p114 : 0 ≤ (x11_1 : Int) := od; have q114 : x11_1 < (l0.length : Int) := od; obtain ⟨ad114, e114, hx114_0⟩ := Kd.at_int HR0.out x11_1 p114 q114
       cases e114
       replace p114 := eq_true p114; replace q114 := eq_true q114; go_wp2_with (first | (refine goesM (some 19) rfl rfl Try.func71 #[.int .i64 (rd l0 x11_1), .int .i64 a1, .int .i64 a2] rfl ?_; (with_reducible refine (spec_l1In.calls (rd l0 x11_1) a1 a2 true _ A7.out).mono ?_); rintro e w' ⟨rfl, ⟨nd, rfl⟩⟩; refine ⟨_, rfl, ?_⟩)); go_roundg k1
       case measure => have := HK1.out; omega
       case rel => exact ⟨(wrap64 (x11_1 + 1)), eqv, H', ⟨by have := HK1.out; omega⟩, by repeat (first | exact Drawn0.refl _ | apply Drawn0.step)⟩
     ·replace c8 := Bool.eq_false_iff.mpr c8; subst c8; replace H := iff_ H; obtain rfl := Option.some.inj H; have p114 : 0 ≤ (x11_1 : Int) := od; have q114 : x11_1 < (l0.length : Int) := od; obtain ⟨ad114, e114, hx114_0⟩ := Kd.at_int HR0.out x11_1 p114 q114
      cases e114
      replace p114 := eq_true p114; replace q114 := eq_true q114; go_wp2_with (first | (refine goesM (some 19) rfl rfl Try.func71 #[.int .i64 (rd l0 x11_1), .int .i64 a1, .int .i64 a2] rfl ?_; (with_reducible refine (spec_l1In.calls (rd l0 x11_1) a1 a2 false _ A7.out).mono ?_); rintro e w' ⟨rfl, ⟨nd, rfl⟩⟩; refine ⟨_, rfl, ?_⟩)); go_ret; exact ⟨by first | rfl | (simp; done) | (simp [*]; done), by repeat (first | exact Drawn0.refl _ | apply Drawn0.step)⟩
    ·rw [if_neg c4] at H; have c4b0 : decide (x11_1 < (l0.length : Int)) = false := decide_eq_false c4; clear c4; obtain rfl := Option.some.inj H; go_wp2; go_ret; exact ⟨by first | rfl | (simp; done) | (simp [*]; done), by repeat (first | exact Drawn0.refl _ | apply Drawn0.step)⟩

/-! ### spec_GoodNet: function 121 -/
mutual
def spec_GoodNet.j0 : Nat → Bool → Int → List (S105) → Option (Bool)
  | 0, _, _, _ => none
  | k + 1, x14, x118000, x118001 => if x14 = true then (some false) else (spec_GoodNet.l0 k x118001 (x118001.length : Int) 0 x118000 x118001)
def spec_GoodNet.l0 : Nat → List (S105) → Int → Int → Int → List (S105) → Option (Bool)
  | 0, _, _, _, _, _ => none
  | k + 1, x16, x17, x18, x118000, x118001 => if x18 < x17 then (if 0 ≤ x18 then (if x18 < (x16.length : Int) then (if (((rd_T105 x16 x18).f0).length : Int) = 0 then (some false) else ((spec_l1Rising.f k ((rd_T105 x16 x18).f0) 0 (wrap64 (x118000 - 1))).bind fun t121 => (if t121 = true then ((spec_l1Rising.f k ((rd_T105 x16 x18).f1) 0 (wrap64 (x118000 - 1))).bind fun t122 => (if t122 = true then ((spec_l1Rising.f k ((rd_T105 x16 x18).f2) 0 (wrap64 (x118000 - 1))).bind fun t123 => (if t123 = true then (spec_GoodNet.l0 k x16 x17 (wrap64 (x18 + 1)) x118000 x118001) else (some false))) else (some false))) else (some false)))) else (none)) else (none)) else (some true)
end
def spec_GoodNet.f (k : Nat) (a0_0 : Int) (l0_1 : List (S105)) : Option (Bool) := (spec_l1Places.f a0_0).bind fun t118 => (if t118 = true then (spec_GoodNet.j0 k (decide ((l0_1.length : Int) > 24)) a0_0 l0_1) else (spec_GoodNet.j0 k true a0_0 l0_1))
set_option maxHeartbeats 8000000 in
set_option maxRecDepth 100000 in
theorem spec_GoodNet.calls (k : Nat) (a0_0 : Int) (A0_1 : Option Addr) (c0_1 : Nat) (l0_1 : List (S105)) (r : Bool) (w : World) (hr0_1 : Kd.C k105 w A0_1 l0_1.length l0_1) (hc0_1 : l0_1.length ≤ c0_1) (h : spec_GoodNet.f k a0_0 l0_1 = some r) :
    Calls Try.prog 121 #[.agg #[.int .i64 a0_0, .slice A0_1 l0_1.length c0_1]] w fun e w' => e = .returned (.bool r) ∧ Below w.heap.size w w' := by
  have hu38 := Try.underlying38
  have hu105 := Try.underlying105
  have HR0_1 := q_ hr0_1; have HC0_1 := q_ hc0_1; clear hr0_1 hc0_1; have HB := q_ (Below.refl w.heap.size w); have H : ((spec_l1Places.f a0_0).bind fun t118 => (if t118 = true then (spec_GoodNet.j0 k (decide ((l0_1.length : Int) > 24)) a0_0 l0_1) else (spec_GoodNet.j0 k true a0_0 l0_1))) = some r := h; clear h; have HC2 := q_ H; clear H; go_enter Try.func121, Try.ntmps121
  go_upto_region 1 with (first | ((with_reducible refine gate_dst (N := 1) rfl ?_); (try (refine gate_guard (by rfl) ?_; dsimp only)); refine box_event ?hg (N := 1) ?hd (cs := #[.int .i64 a0_0, .slice A0_1 l0_1.length c0_1]) (t := 38) ?hr ?_; (case hd => rfl); (case hg => rfl); (case hr => first | (go_simp; done) | (go_simp; rfl)); intro gb117 hg w3 hbox hb; have BK117 := q_ (hbox); have GW117 := q_ (gw_ hg HB.out); have GE117 := q_ (gw_ hg HB.out); replace HB := q_ (bs HB.out hb); clear hb hbox hg))
  (try simp only [Act.put, List.setIfInBounds_toArray, List.set_cons_zero, List.set_cons_succ]); go_cut [14] (fun v14 wc => ∃ (kq : Nat) (x14_1 : Bool), v14 = .bool x14_1 ∧ Aside0 (spec_GoodNet.j0 kq x14_1 a0_0 l0_1 = some r) ∧ Aside0 (kq ≤ k) ∧ Aside0 (wc.heap[gb117]? = some (.cells #[.int .i64 a0_0, (.slice A0_1 l0_1.length c0_1)] 38 (0, 0))) ∧ Aside0 (Below w.heap.size w wc))
  case first =>
   have H := HC2.out; clear HC2; obtain ⟨t118, A4, H⟩ := bnd_ H
   by_cases c5 : t118 = true
   ·subst c5; replace H := itt_ H; have H' := q_ H; clear H; obtain ⟨hcz6_0, hcz6_1, hfz6_0, hfz6_1⟩ := cz2 BK117.out; go_wp2_with (first | (refine goesM (some 7) rfl rfl Try.func42 #[.int .i64 a0_0] rfl ?_; (with_reducible refine (spec_l1Places.calls a0_0 true _ A4.out).mono ?_); rintro e w' ⟨rfl, ⟨nd, rfl⟩⟩; refine ⟨_, rfl, ?_⟩)); go_meet
    case rel => exact ⟨_, (decide ((l0_1.length : Int) > 24)), eqv, H', ⟨by first | omega | exact Nat.le_refl _⟩, ⟨by exact blk_v BK117.out⟩, ⟨by exact bv HB.out⟩⟩
   ·replace c5 := Bool.eq_false_iff.mpr c5; subst c5; replace H := iff_ H; have H' := q_ H; clear H; obtain ⟨hcz7_0, hcz7_1, hfz7_0, hfz7_1⟩ := cz2 BK117.out; go_wp2_with (first | (refine goesM (some 7) rfl rfl Try.func42 #[.int .i64 a0_0] rfl ?_; (with_reducible refine (spec_l1Places.calls a0_0 false _ A4.out).mono ?_); rintro e w' ⟨rfl, ⟨nd, rfl⟩⟩; refine ⟨_, rfl, ?_⟩)); go_meet
    case rel => exact ⟨_, (true), eqv, H', ⟨by first | omega | exact Nat.le_refl _⟩, ⟨by exact blk_v BK117.out⟩, ⟨by exact bv HB.out⟩⟩
  case rest =>
   clear HC2; obtain ⟨kq, x14_1, rfl, HA, HJ1, BK117, HB⟩ := hcut
   cases kq with
   | zero => exact absurd HA.out (by simp [spec_GoodNet.j0])
   | succ kj1 =>
    have H := HA.out; clear HA; simp only [spec_GoodNet.j0] at H
    by_cases c8 : x14_1 = true
    ·subst c8; replace H := itt_ H; obtain rfl := Option.some.inj H; go_wp2; go_ret; exact fin_ (by exact bv HB.out)
    ·replace c8 := Bool.eq_false_iff.mpr c8; subst c8; replace H := iff_ H; have H' := q_ H; clear H; obtain ⟨hcz9_0, hcz9_1, hfz9_0, hfz9_1⟩ := cz2 BK117.out; go_wp2; go_loopg [18] kj1 (fun kq v18 w' => ∃ (x18_2 : Int), v18 = .int .i64 x18_2 ∧ Aside0 (spec_GoodNet.l0 kq l0_1 (l0_1.length : Int) x18_2 a0_0 l0_1 = some r) ∧ Aside0 (kq ≤ kj1) ∧ Aside0 (w'.heap[gb117]? = some (.cells #[.int .i64 a0_0, (.slice A0_1 l0_1.length c0_1)] 38 (0, 0))) ∧ Aside0 (Below w.heap.size w w'))
     case atStart => exact ⟨(0), eqv, H', ⟨Nat.le_refl _⟩, ⟨by exact blk_v BK117.out⟩, ⟨by exact bv HB.out⟩⟩
     case round =>
      clear H'; (try clear c8); (try clear hcz9_0 hcz9_1); (try clear hfz9_0 hfz9_1); obtain ⟨x18_2, rfl, HA, HK2, BK117, HB⟩ := hrel
      cases gk with
      | zero => exact absurd HA.out (by simp [spec_GoodNet.l0])
      | succ k2 =>
       have H := HA.out; clear HA; simp only [spec_GoodNet.l0] at H
       by_cases c10 : x18_2 < (l0_1.length : Int)
       ·rw [if_pos c10] at H; have c10b0 : decide (x18_2 < (l0_1.length : Int)) = true := decide_eq_true c10; clear c10
        obtain ⟨c11, H⟩ := ifp_ H; have c11b0 : decide (0 ≤ x18_2) = true := decide_eq_true c11; clear c11
        obtain ⟨c12, H⟩ := ifp_ H; have c12b0 : decide (x18_2 < (l0_1.length : Int)) = true := decide_eq_true c12; clear c12
        by_cases c13 : (((rd_T105 l0_1 x18_2).f0).length : Int) = 0
        ·rw [if_pos c13] at H; have c13b0 : ((((rd_T105 l0_1 x18_2).f0).length : Int) == 0) = true := beq_iff_eq.mpr c13; have c13b1 : ((((rd_T105 l0_1 x18_2).f0).length : Int) != 0) = false := bne_eq_false_iff_eq.mpr c13; clear c13; obtain rfl := Option.some.inj H; have p119 : 0 ≤ (x18_2 : Int) := od; have q119 : x18_2 < (l0_1.length : Int) := od; obtain ⟨ad119, A119_0, c119_0, A119_1, c119_1, A119_2, c119_2, e119, hx119_0, hx119_1, hx119_2, hl119_0, hi119_0, hl119_1, hi119_1, hl119_2, hi119_2⟩ := at_T105 HR0_1.out x18_2 p119 q119
         cases e119
         replace hx119_0 := cb_ HB.out hx119_0; replace hx119_1 := cb_ HB.out hx119_1; replace hx119_2 := cb_ HB.out hx119_2; have HR119_0 := q_ hi119_0; have HC119_0 := q_ hl119_0; clear hi119_0 hl119_0; have HR119_1 := q_ hi119_1; have HC119_1 := q_ hl119_1; clear hi119_1 hl119_1; have HR119_2 := q_ hi119_2; have HC119_2 := q_ hl119_2; clear hi119_2 hl119_2; replace p119 := eq_true p119; replace q119 := eq_true q119; go_wp2_with (first | ((with_reducible refine gate_dst (N := 4) rfl ?_); (try (refine gate_guard (by rfl) ?_; dsimp only)); refine box_event ?hg (N := 4) ?hd (cs := #[.slice none 0 0, .slice none 0 0, .slice none 0 0]) (t := 105) ?hr ?_; (case hd => rfl); (case hg => rfl); (case hr => first | (go_simp; done) | (go_simp; rfl)); intro gb120 hg w14 hbox hb; have BK120 := q_ (hbox); have GW120 := q_ (gw_ hg HB.out); have GE120 := q_ (gw_ hg HB.out); have NB117_120 := q_ (nb_ hg BK117.out); have NB120_117 := q_ (bn_ hg BK117.out); replace BK117 := q_ (bb BK117.out hb); replace HB := q_ (bs HB.out hb); clear hb hbox hg; have hnb15 := NB120_117.out; have hnc15 := NB117_120.out; obtain ⟨hcz16_0, hcz16_1, hcz16_2, hfz16_0, hfz16_1, hfz16_2⟩ := cz3 BK120.out)); go_ret; exact ⟨by first | rfl | (simp [errW_none, errW_some] <;> rfl) | (simp [*, errW_none, errW_some] <;> rfl), by exact (below_set (below_set (below_set HB.out GE120.out) GE120.out) GE120.out)⟩
        ·rw [if_neg c13] at H; have c13b0 : ((((rd_T105 l0_1 x18_2).f0).length : Int) == 0) = false := beq_eq_false_iff_ne.mpr c13; have c13b1 : ((((rd_T105 l0_1 x18_2).f0).length : Int) != 0) = true := bne_iff_ne.mpr c13; have c13b2 : ¬ (((rd_T105 l0_1 x18_2).f0) = []) := fun h_ => c13 (by rw [h_]; rfl); obtain ⟨t121, A17, H⟩ := bnd_ H
         by_cases c18 : t121 = true
         ·subst c18; replace H := itt_ H; obtain ⟨t122, A19, H⟩ := bnd_ H
          by_cases c20 : t122 = true
          ·subst c20; replace H := itt_ H; obtain ⟨t123, A21, H⟩ := bnd_ H; have HC22 := q_ H; clear H; have p119 : 0 ≤ (x18_2 : Int) := od; have q119 : x18_2 < (l0_1.length : Int) := od; obtain ⟨ad119, A119_0, c119_0, A119_1, c119_1, A119_2, c119_2, e119, hx119_0, hx119_1, hx119_2, hl119_0, hi119_0, hl119_1, hi119_1, hl119_2, hi119_2⟩ := at_T105 HR0_1.out x18_2 p119 q119
           cases e119
           replace hx119_0 := cb_ HB.out hx119_0; replace hx119_1 := cb_ HB.out hx119_1; replace hx119_2 := cb_ HB.out hx119_2; have HR119_0 := q_ hi119_0; have HC119_0 := q_ hl119_0; clear hi119_0 hl119_0; have HR119_1 := q_ hi119_1; have HC119_1 := q_ hl119_1; clear hi119_1 hl119_1; have HR119_2 := q_ hi119_2; have HC119_2 := q_ hl119_2; clear hi119_2 hl119_2; replace p119 := eq_true p119; replace q119 := eq_true q119
           go_upto_if 52 with (first | ((with_reducible refine gate_dst (N := 4) rfl ?_); (try (refine gate_guard (by rfl) ?_; dsimp only)); refine box_event ?hg (N := 4) ?hd (cs := #[.slice none 0 0, .slice none 0 0, .slice none 0 0]) (t := 105) ?hr ?_; (case hd => rfl); (case hg => rfl); (case hr => first | (go_simp; done) | (go_simp; rfl)); intro gb120 hg w23 hbox hb; have BK120 := q_ (hbox); have GW120 := q_ (gw_ hg HB.out); have GE120 := q_ (gw_ hg HB.out); have NB117_120 := q_ (nb_ hg BK117.out); have NB120_117 := q_ (bn_ hg BK117.out); replace BK117 := q_ (bb BK117.out hb); replace HB := q_ (bs HB.out hb); clear hb hbox hg; have hnb24 := NB120_117.out; have hnc24 := NB117_120.out; obtain ⟨hcz25_0, hcz25_1, hcz25_2, hfz25_0, hfz25_1, hfz25_2⟩ := cz3 BK120.out; obtain ⟨hcz26_0, hcz26_1, hfz26_0, hfz26_1⟩ := cz2 BK117.out) | (go_at_call 149; (with_reducible refine (spec_l1Rising.calls k2 _ _ ((rd_T105 l0_1 x18_2).f0) 0 (wrap64 (a0_0 - 1)) true _ ?side1 ?side2 A17.out).mono ?_); (case side1 => exact Kd.C_below HR119_0.out (by exact (below_set (below_set (below_set HB.out GE120.out) GE120.out) GE120.out))); (case side2 => exact HC119_0.out); rintro e w' ⟨rfl, ⟨nd, rfl⟩⟩) | (go_at_call 149; (with_reducible refine (spec_l1Rising.calls k2 _ _ ((rd_T105 l0_1 x18_2).f1) 0 (wrap64 (a0_0 - 1)) true _ ?side1 ?side2 A19.out).mono ?_); (case side1 => exact Kd.C_below HR119_1.out (by repeat (first | (with_reducible first | exact HB.out | apply below_alloc | apply pw_below_drewN | apply below_drew1 | refine below_set ?_ GE117.out | refine below_set ?_ GE120.out) | exact HB.out))); (case side2 => exact HC119_1.out); rintro e w' ⟨rfl, ⟨nd, rfl⟩⟩) | (go_at_call 149; (with_reducible refine (spec_l1Rising.calls k2 _ _ ((rd_T105 l0_1 x18_2).f2) 0 (wrap64 (a0_0 - 1)) t123 _ ?side1 ?side2 A21.out).mono ?_); (case side1 => exact Kd.C_below HR119_2.out (by repeat (first | (with_reducible first | exact HB.out | apply below_alloc | apply pw_below_drewN | apply below_drew1 | refine below_set ?_ GE117.out | refine below_set ?_ GE120.out) | exact HB.out))); (case side2 => exact HC119_2.out); rintro e w' ⟨rfl, ⟨nd, rfl⟩⟩))
           (try simp only [Act.put, List.setIfInBounds_toArray, List.set_cons_zero, List.set_cons_succ]); have H := HC22.out; clear HC22
           by_cases c27 : t123 = true
           ·subst c27; replace H := itt_ H; have H' := q_ H; clear H; go_wp2; go_roundg k2
            case measure => have := HJ1.out; have := HK2.out; omega
            case rel => exact ⟨(wrap64 (x18_2 + 1)), eqv, H', ⟨by have := HJ1.out; have := HK2.out; omega⟩, ⟨by (with_reducible repeat (first | refine blk_drewN ?_ _ | refine blk_drew ?_ | refine blk_alloc ?_ _)); refine blk_far ?_ NB117_120.out _; (with_reducible repeat (first | refine blk_drewN ?_ _ | refine blk_drew ?_ | refine blk_alloc ?_ _)); refine blk_far ?_ NB117_120.out _; (with_reducible repeat (first | refine blk_drewN ?_ _ | refine blk_drew ?_ | refine blk_alloc ?_ _)); refine blk_far ?_ NB117_120.out _; (with_reducible repeat (first | refine blk_drewN ?_ _ | refine blk_drew ?_ | refine blk_alloc ?_ _)); exact BK117.out⟩, ⟨by repeat (first | (with_reducible first | exact HB.out | apply below_alloc | apply pw_below_drewN | apply below_drew1 | refine below_set ?_ GE117.out | refine below_set ?_ GE120.out) | exact HB.out)⟩⟩
           ·replace c27 := Bool.eq_false_iff.mpr c27; subst c27; replace H := iff_ H; obtain rfl := Option.some.inj H; go_wp2; go_ret; exact ⟨by first | rfl | (simp [errW_none, errW_some] <;> rfl) | (simp [*, errW_none, errW_some] <;> rfl), by repeat (first | (with_reducible first | exact HB.out | apply below_alloc | apply pw_below_drewN | apply below_drew1 | refine below_set ?_ GE117.out | refine below_set ?_ GE120.out) | exact HB.out)⟩
          ·replace c20 := Bool.eq_false_iff.mpr c20; subst c20; replace H := iff_ H; obtain rfl := Option.some.inj H; have p119 : 0 ≤ (x18_2 : Int) := od; have q119 : x18_2 < (l0_1.length : Int) := od; obtain ⟨ad119, A119_0, c119_0, A119_1, c119_1, A119_2, c119_2, e119, hx119_0, hx119_1, hx119_2, hl119_0, hi119_0, hl119_1, hi119_1, hl119_2, hi119_2⟩ := at_T105 HR0_1.out x18_2 p119 q119
           cases e119
           replace hx119_0 := cb_ HB.out hx119_0; replace hx119_1 := cb_ HB.out hx119_1; replace hx119_2 := cb_ HB.out hx119_2; have HR119_0 := q_ hi119_0; have HC119_0 := q_ hl119_0; clear hi119_0 hl119_0; have HR119_1 := q_ hi119_1; have HC119_1 := q_ hl119_1; clear hi119_1 hl119_1; have HR119_2 := q_ hi119_2; have HC119_2 := q_ hl119_2; clear hi119_2 hl119_2; replace p119 := eq_true p119; replace q119 := eq_true q119; go_wp2_with (first | ((with_reducible refine gate_dst (N := 4) rfl ?_); (try (refine gate_guard (by rfl) ?_; dsimp only)); refine box_event ?hg (N := 4) ?hd (cs := #[.slice none 0 0, .slice none 0 0, .slice none 0 0]) (t := 105) ?hr ?_; (case hd => rfl); (case hg => rfl); (case hr => first | (go_simp; done) | (go_simp; rfl)); intro gb120 hg w28 hbox hb; have BK120 := q_ (hbox); have GW120 := q_ (gw_ hg HB.out); have GE120 := q_ (gw_ hg HB.out); have NB117_120 := q_ (nb_ hg BK117.out); have NB120_117 := q_ (bn_ hg BK117.out); replace BK117 := q_ (bb BK117.out hb); replace HB := q_ (bs HB.out hb); clear hb hbox hg; have hnb29 := NB120_117.out; have hnc29 := NB117_120.out; obtain ⟨hcz30_0, hcz30_1, hcz30_2, hfz30_0, hfz30_1, hfz30_2⟩ := cz3 BK120.out; obtain ⟨hcz31_0, hcz31_1, hfz31_0, hfz31_1⟩ := cz2 BK117.out) | (go_at_call 149; (with_reducible refine (spec_l1Rising.calls k2 _ _ ((rd_T105 l0_1 x18_2).f0) 0 (wrap64 (a0_0 - 1)) true _ ?side1 ?side2 A17.out).mono ?_); (case side1 => exact Kd.C_below HR119_0.out (by exact (below_set (below_set (below_set HB.out GE120.out) GE120.out) GE120.out))); (case side2 => exact HC119_0.out); rintro e w' ⟨rfl, ⟨nd, rfl⟩⟩) | (go_at_call 149; (with_reducible refine (spec_l1Rising.calls k2 _ _ ((rd_T105 l0_1 x18_2).f1) 0 (wrap64 (a0_0 - 1)) false _ ?side1 ?side2 A19.out).mono ?_); (case side1 => exact Kd.C_below HR119_1.out (by repeat (first | (with_reducible first | exact HB.out | apply below_alloc | apply pw_below_drewN | apply below_drew1 | refine below_set ?_ GE117.out | refine below_set ?_ GE120.out) | exact HB.out))); (case side2 => exact HC119_1.out); rintro e w' ⟨rfl, ⟨nd, rfl⟩⟩)); go_ret; exact ⟨by first | rfl | (simp [errW_none, errW_some] <;> rfl) | (simp [*, errW_none, errW_some] <;> rfl), by repeat (first | (with_reducible first | exact HB.out | apply below_alloc | apply pw_below_drewN | apply below_drew1 | refine below_set ?_ GE117.out | refine below_set ?_ GE120.out) | exact HB.out)⟩
         ·replace c18 := Bool.eq_false_iff.mpr c18; subst c18; replace H := iff_ H; obtain rfl := Option.some.inj H; have p119 : 0 ≤ (x18_2 : Int) := od; have q119 : x18_2 < (l0_1.length : Int) := od; obtain ⟨ad119, A119_0, c119_0, A119_1, c119_1, A119_2, c119_2, e119, hx119_0, hx119_1, hx119_2, hl119_0, hi119_0, hl119_1, hi119_1, hl119_2, hi119_2⟩ := at_T105 HR0_1.out x18_2 p119 q119
          cases e119
          replace hx119_0 := cb_ HB.out hx119_0; replace hx119_1 := cb_ HB.out hx119_1; replace hx119_2 := cb_ HB.out hx119_2; have HR119_0 := q_ hi119_0; have HC119_0 := q_ hl119_0; clear hi119_0 hl119_0; have HR119_1 := q_ hi119_1; have HC119_1 := q_ hl119_1; clear hi119_1 hl119_1; have HR119_2 := q_ hi119_2; have HC119_2 := q_ hl119_2; clear hi119_2 hl119_2; replace p119 := eq_true p119; replace q119 := eq_true q119; go_wp2_with (first | ((with_reducible refine gate_dst (N := 4) rfl ?_); (try (refine gate_guard (by rfl) ?_; dsimp only)); refine box_event ?hg (N := 4) ?hd (cs := #[.slice none 0 0, .slice none 0 0, .slice none 0 0]) (t := 105) ?hr ?_; (case hd => rfl); (case hg => rfl); (case hr => first | (go_simp; done) | (go_simp; rfl)); intro gb120 hg w32 hbox hb; have BK120 := q_ (hbox); have GW120 := q_ (gw_ hg HB.out); have GE120 := q_ (gw_ hg HB.out); have NB117_120 := q_ (nb_ hg BK117.out); have NB120_117 := q_ (bn_ hg BK117.out); replace BK117 := q_ (bb BK117.out hb); replace HB := q_ (bs HB.out hb); clear hb hbox hg; have hnb33 := NB120_117.out; have hnc33 := NB117_120.out; obtain ⟨hcz34_0, hcz34_1, hcz34_2, hfz34_0, hfz34_1, hfz34_2⟩ := cz3 BK120.out; obtain ⟨hcz35_0, hcz35_1, hfz35_0, hfz35_1⟩ := cz2 BK117.out) | (go_at_call 149; (with_reducible refine (spec_l1Rising.calls k2 _ _ ((rd_T105 l0_1 x18_2).f0) 0 (wrap64 (a0_0 - 1)) false _ ?side1 ?side2 A17.out).mono ?_); (case side1 => exact Kd.C_below HR119_0.out (by exact (below_set (below_set (below_set HB.out GE120.out) GE120.out) GE120.out))); (case side2 => exact HC119_0.out); rintro e w' ⟨rfl, ⟨nd, rfl⟩⟩)); go_ret; exact ⟨by first | rfl | (simp [errW_none, errW_some] <;> rfl) | (simp [*, errW_none, errW_some] <;> rfl), by repeat (first | (with_reducible first | exact HB.out | apply below_alloc | apply pw_below_drewN | apply below_drew1 | refine below_set ?_ GE117.out | refine below_set ?_ GE120.out) | exact HB.out)⟩
       ·rw [if_neg c10] at H; have c10b0 : decide (x18_2 < (l0_1.length : Int)) = false := decide_eq_false c10; clear c10; obtain rfl := Option.some.inj H; go_wp2; go_ret; exact fin_ (by exact bv HB.out)

/-! ### spec_l2Marked: function 91 -/
def spec_l2Marked.f (k : Nat) (a0_0 : Int) (l0_1 : List (S105)) (l1 : List Int) : Option (Bool) := (spec_GoodNet.f k a0_0 l0_1).bind fun t125 => (if t125 = true then ((spec_GoodMark.f k a0_0 l1).bind fun t126 => (some t126)) else (some false))
set_option maxHeartbeats 8000000 in
set_option maxRecDepth 100000 in
theorem spec_l2Marked.calls (k : Nat) (a0_0 : Int) (A0_1 : Option Addr) (c0_1 : Nat) (l0_1 : List (S105)) (A1 : Option Addr) (c1 : Nat) (l1 : List Int) (r : Bool) (w : World) (hr0_1 : Kd.C k105 w A0_1 l0_1.length l0_1) (hc0_1 : l0_1.length ≤ c0_1) (hr1 : Kd.C (Kd.int .i64) w A1 l1.length l1) (hc1 : l1.length ≤ c1) (h : spec_l2Marked.f k a0_0 l0_1 l1 = some r) :
    Calls Try.prog 91 #[.agg #[.int .i64 a0_0, .slice A0_1 l0_1.length c0_1], .slice A1 l1.length c1] w fun e w' => e = .returned (.bool r) ∧ Below w.heap.size w w' := by
  have hu38 := Try.underlying38
  have HR0_1 := q_ hr0_1; have HC0_1 := q_ hc0_1; clear hr0_1 hc0_1; have HR1 := q_ hr1; have HC1 := q_ hc1; clear hr1 hc1; have HB := q_ (Below.refl w.heap.size w); have H : ((spec_GoodNet.f k a0_0 l0_1).bind fun t125 => (if t125 = true then ((spec_GoodMark.f k a0_0 l1).bind fun t126 => (some t126)) else (some false))) = some r := h; clear h; obtain ⟨t125, A3, H⟩ := bnd_ H
  by_cases c4 : t125 = true
  ·subst c4; replace H := itt_ H; obtain ⟨t126, A5, H⟩ := bnd_ H; obtain rfl := Option.some.inj H; go_enter Try.func91, Try.ntmps91; go_wp2_with (first | (refine boxE 2 #[.int .i64 a0_0, .slice A0_1 l0_1.length c0_1] 38 ?_; intro gb124 hg w6 hbox hb; have BK124 := q_ (hbox); have GW124 := q_ (gw_ hg HB.out); have GE124 := q_ (gw_ hg HB.out); replace HB := q_ (bs HB.out hb); clear hb hbox hg; obtain ⟨hcz7_0, hcz7_1, hfz7_0, hfz7_1⟩ := cz2 BK124.out) | (refine goesM (some 6) rfl rfl Try.func121 #[.agg #[.int .i64 a0_0, .slice A0_1 l0_1.length c0_1]] rfl ?_; (with_reducible refine (spec_GoodNet.calls k a0_0 _ _ l0_1 true _ ?side1 ?side2 A3.out).mono ?_); (case side1 => exact Kd.C_v ((Kd.C_below HR0_1.out HB.out))); (case side2 => exact HC0_1.out); rintro e w8 ⟨rfl, hb⟩; refine ⟨_, rfl, ?_⟩; replace BK124 := q_ (bb BK124.out hb); replace HB := q_ (below_step (by exact bv HB.out) hb); (try clear hb); (try clear hb2); (try clear hk); (try clear hi); obtain ⟨hcz9_0, hcz9_1, hfz9_0, hfz9_1⟩ := cz2 BK124.out) | (go_at_call 43; (with_reducible refine (spec_GoodMark.calls k a0_0 _ _ l1 t126 _ ?side1 ?side2 A5.out).mono ?_); (case side1 => exact Kd.C_v ((Kd.C_below HR1.out HB.out))); (case side2 => exact HC1.out); rintro e w' ⟨rfl, ⟨nd, rfl⟩⟩)); go_ret; exact fin_ (by exact bv HB.out)
  ·replace c4 := Bool.eq_false_iff.mpr c4; subst c4; replace H := iff_ H; obtain rfl := Option.some.inj H; go_enter Try.func91, Try.ntmps91; go_wp2_with (first | (refine boxE 2 #[.int .i64 a0_0, .slice A0_1 l0_1.length c0_1] 38 ?_; intro gb124 hg w10 hbox hb; have BK124 := q_ (hbox); have GW124 := q_ (gw_ hg HB.out); have GE124 := q_ (gw_ hg HB.out); replace HB := q_ (bs HB.out hb); clear hb hbox hg; obtain ⟨hcz11_0, hcz11_1, hfz11_0, hfz11_1⟩ := cz2 BK124.out) | (refine goesM (some 6) rfl rfl Try.func121 #[.agg #[.int .i64 a0_0, .slice A0_1 l0_1.length c0_1]] rfl ?_; (with_reducible refine (spec_GoodNet.calls k a0_0 _ _ l0_1 false _ ?side1 ?side2 A3.out).mono ?_); (case side1 => exact Kd.C_v ((Kd.C_below HR0_1.out HB.out))); (case side2 => exact HC0_1.out); rintro e w12 ⟨rfl, hb⟩; refine ⟨_, rfl, ?_⟩; replace BK124 := q_ (bb BK124.out hb); replace HB := q_ (below_step (by exact bv HB.out) hb); (try clear hb); (try clear hb2); (try clear hk); (try clear hi))); go_ret; exact fin_ (by exact bv HB.out)

/-! ### spec_l6Asked: function 57 -/
def spec_l6Asked.f (k : Nat) (a0_0 : Int) (l0_1 : List (S105)) (l1 : List Int) (a2 : Int) : Option (Bool) := (spec_l2Marked.f k a0_0 l0_1 l1).bind fun t128 => (if t128 = true then ((spec_l1In.f a2 1 60).bind fun t129 => (some t129)) else (some false))
set_option maxHeartbeats 8000000 in
set_option maxRecDepth 100000 in
theorem spec_l6Asked.calls (k : Nat) (a0_0 : Int) (A0_1 : Option Addr) (c0_1 : Nat) (l0_1 : List (S105)) (A1 : Option Addr) (c1 : Nat) (l1 : List Int) (a2 : Int) (r : Bool) (w : World) (hr0_1 : Kd.C k105 w A0_1 l0_1.length l0_1) (hc0_1 : l0_1.length ≤ c0_1) (hr1 : Kd.C (Kd.int .i64) w A1 l1.length l1) (hc1 : l1.length ≤ c1) (h : spec_l6Asked.f k a0_0 l0_1 l1 a2 = some r) :
    Calls Try.prog 57 #[.agg #[.int .i64 a0_0, .slice A0_1 l0_1.length c0_1], .slice A1 l1.length c1, .int .i64 a2] w fun e w' => e = .returned (.bool r) ∧ Below w.heap.size w w' := by
  have hu38 := Try.underlying38
  have HR0_1 := q_ hr0_1; have HC0_1 := q_ hc0_1; clear hr0_1 hc0_1; have HR1 := q_ hr1; have HC1 := q_ hc1; clear hr1 hc1; have HB := q_ (Below.refl w.heap.size w); have H : ((spec_l2Marked.f k a0_0 l0_1 l1).bind fun t128 => (if t128 = true then ((spec_l1In.f a2 1 60).bind fun t129 => (some t129)) else (some false))) = some r := h; clear h; obtain ⟨t128, A4, H⟩ := bnd_ H
  by_cases c5 : t128 = true
  ·subst c5; replace H := itt_ H; obtain ⟨t129, A6, H⟩ := bnd_ H; obtain rfl := Option.some.inj H; go_enter Try.func57, Try.ntmps57; go_wp2_with (first | (refine boxE 3 #[.int .i64 a0_0, .slice A0_1 l0_1.length c0_1] 38 ?_; intro gb127 hg w7 hbox hb; have BK127 := q_ (hbox); have GW127 := q_ (gw_ hg HB.out); have GE127 := q_ (gw_ hg HB.out); replace HB := q_ (bs HB.out hb); clear hb hbox hg; obtain ⟨hcz8_0, hcz8_1, hfz8_0, hfz8_1⟩ := cz2 BK127.out) | (refine goesM (some 9) rfl rfl Try.func91 #[.agg #[.int .i64 a0_0, .slice A0_1 l0_1.length c0_1], .slice A1 l1.length c1] rfl ?_; (with_reducible refine (spec_l2Marked.calls k a0_0 _ _ l0_1 _ _ l1 true _ ?side1 ?side2 ?side3 ?side4 A4.out).mono ?_); (case side1 => exact Kd.C_v ((Kd.C_below HR0_1.out HB.out))); (case side2 => exact HC0_1.out); (case side3 => exact Kd.C_v ((Kd.C_below HR1.out HB.out))); (case side4 => exact HC1.out); rintro e w9 ⟨rfl, hb⟩; refine ⟨_, rfl, ?_⟩; replace BK127 := q_ (bb BK127.out hb); replace HB := q_ (below_step (by exact bv HB.out) hb); (try clear hb); (try clear hb2); (try clear hk); (try clear hi)) | (go_at_call 71; (with_reducible refine (spec_l1In.calls a2 1 60 t129 _ A6.out).mono ?_); rintro e w' ⟨rfl, ⟨nd, rfl⟩⟩)); go_ret; exact fin_ (by exact bv HB.out)
  ·replace c5 := Bool.eq_false_iff.mpr c5; subst c5; replace H := iff_ H; obtain rfl := Option.some.inj H; go_enter Try.func57, Try.ntmps57; go_wp2_with (first | (refine boxE 3 #[.int .i64 a0_0, .slice A0_1 l0_1.length c0_1] 38 ?_; intro gb127 hg w10 hbox hb; have BK127 := q_ (hbox); have GW127 := q_ (gw_ hg HB.out); have GE127 := q_ (gw_ hg HB.out); replace HB := q_ (bs HB.out hb); clear hb hbox hg; obtain ⟨hcz11_0, hcz11_1, hfz11_0, hfz11_1⟩ := cz2 BK127.out) | (refine goesM (some 9) rfl rfl Try.func91 #[.agg #[.int .i64 a0_0, .slice A0_1 l0_1.length c0_1], .slice A1 l1.length c1] rfl ?_; (with_reducible refine (spec_l2Marked.calls k a0_0 _ _ l0_1 _ _ l1 false _ ?side1 ?side2 ?side3 ?side4 A4.out).mono ?_); (case side1 => exact Kd.C_v ((Kd.C_below HR0_1.out HB.out))); (case side2 => exact HC0_1.out); (case side3 => exact Kd.C_v ((Kd.C_below HR1.out HB.out))); (case side4 => exact HC1.out); rintro e w12 ⟨rfl, hb⟩; refine ⟨_, rfl, ?_⟩; replace BK127 := q_ (bb BK127.out hb); replace HB := q_ (below_step (by exact bv HB.out) hb); (try clear hb); (try clear hb2); (try clear hk); (try clear hi))); go_ret; exact fin_ (by exact bv HB.out)

/-! ### spec_l1Covers: function 49 -/
def spec_l1Covers.l0 : Nat → List Int → List Int → Int → Int → Option (Bool)
  | 0, _, _, _, _ => none
  | k + 1, x0, x7, x8, x9 => if x9 < x8 then (if 0 ≤ x9 then (if x9 < (x7.length : Int) then (if x9 < (x0.length : Int) then (if (rd x0 x9) < (rd x7 x9) then (some false) else (spec_l1Covers.l0 k x0 x7 x8 (wrap64 (x9 + 1)))) else (none)) else (none)) else (none)) else (some true)
def spec_l1Covers.f (k : Nat) (l0 : List Int) (l1 : List Int) : Option (Bool) := spec_l1Covers.l0 k l0 l1 (l1.length : Int) 0
set_option maxHeartbeats 8000000 in
set_option maxRecDepth 100000 in
theorem spec_l1Covers.calls (k : Nat) (A0 : Option Addr) (c0 : Nat) (l0 : List Int) (A1 : Option Addr) (c1 : Nat) (l1 : List Int) (r : Bool) (w : World) (hr0 : Kd.C (Kd.int .i64) w A0 l0.length l0) (hc0 : l0.length ≤ c0) (hr1 : Kd.C (Kd.int .i64) w A1 l1.length l1) (hc1 : l1.length ≤ c1) (h : spec_l1Covers.f k l0 l1 = some r) :
    Calls Try.prog 49 #[.slice A0 l0.length c0, .slice A1 l1.length c1] w fun e w' => e = .returned (.bool r) ∧ Drawn0 w w' := by
  have HR0 := q_ hr0; have HC0 := q_ hc0; clear hr0 hc0; have HR1 := q_ hr1; have HC1 := q_ hc1; clear hr1 hc1; have H : (spec_l1Covers.l0 k l0 l1 (l1.length : Int) 0) = some r := h; clear h; have H' := q_ H; clear H; go_enter Try.func49, Try.ntmps49; go_wp2; go_loopg [9] k (fun kq v9 w' => ∃ (x9_1 : Int), v9 = .int .i64 x9_1 ∧ Aside0 (spec_l1Covers.l0 kq l0 l1 (l1.length : Int) x9_1 = some r) ∧ Aside0 (kq ≤ k) ∧ Drawn0 w w')
  case atStart => exact ⟨(0), eqv, H', ⟨Nat.le_refl _⟩, by repeat (first | exact Drawn0.refl _ | apply Drawn0.step)⟩
  case round =>
   clear H'; obtain ⟨x9_1, rfl, HA, HK1, ⟨m1, rfl⟩⟩ := hrel
   cases gk with
   | zero => exact absurd HA.out (by simp [spec_l1Covers.l0])
   | succ k1 =>
    have H := HA.out; clear HA; simp only [spec_l1Covers.l0] at H
    by_cases c3 : x9_1 < (l1.length : Int)
    ·rw [if_pos c3] at H; have c3b0 : decide (x9_1 < (l1.length : Int)) = true := decide_eq_true c3; clear c3
     obtain ⟨c4, H⟩ := ifp_ H; have c4b0 : decide (0 ≤ x9_1) = true := decide_eq_true c4; clear c4
     obtain ⟨c5, H⟩ := ifp_ H; have c5b0 : decide (x9_1 < (l1.length : Int)) = true := decide_eq_true c5; clear c5
     obtain ⟨c6, H⟩ := ifp_ H; have c6b0 : decide (x9_1 < (l0.length : Int)) = true := decide_eq_true c6; clear c6
     by_cases c7 : (rd l0 x9_1) < (rd l1 x9_1)
     ·rw [if_pos c7] at H; have c7b0 : decide ((rd l0 x9_1) < (rd l1 x9_1)) = true := decide_eq_true c7; clear c7; obtain rfl := Option.some.inj H; have p130 : 0 ≤ (x9_1 : Int) := od; have q130 : x9_1 < (l1.length : Int) := od; obtain ⟨ad130, e130, hx130_0⟩ := Kd.at_int HR1.out x9_1 p130 q130
      cases e130
      replace p130 := eq_true p130; replace q130 := eq_true q130; have p131 : 0 ≤ (x9_1 : Int) := od; have q131 : x9_1 < (l0.length : Int) := od; obtain ⟨ad131, e131, hx131_0⟩ := Kd.at_int HR0.out x9_1 p131 q131
      cases e131
      replace p131 := eq_true p131; replace q131 := eq_true q131; go_wp2; go_ret; exact ⟨by first | rfl | (simp; done) | (simp [*]; done), by repeat (first | exact Drawn0.refl _ | apply Drawn0.step)⟩
     ·rw [if_neg c7] at H; have c7b0 : decide ((rd l0 x9_1) < (rd l1 x9_1)) = false := decide_eq_false c7; clear c7; have H' := q_ H; clear H; have p130 : 0 ≤ (x9_1 : Int) := od; have q130 : x9_1 < (l1.length : Int) := od; obtain ⟨ad130, e130, hx130_0⟩ := Kd.at_int HR1.out x9_1 p130 q130
      cases e130
      replace p130 := eq_true p130; replace q130 := eq_true q130; have p131 : 0 ≤ (x9_1 : Int) := od; have q131 : x9_1 < (l0.length : Int) := od; obtain ⟨ad131, e131, hx131_0⟩ := Kd.at_int HR0.out x9_1 p131 q131
      cases e131
      replace p131 := eq_true p131; replace q131 := eq_true q131; go_wp2; go_roundg k1
      case measure => have := HK1.out; omega
      case rel => exact ⟨(wrap64 (x9_1 + 1)), eqv, H', ⟨by have := HK1.out; omega⟩, by repeat (first | exact Drawn0.refl _ | apply Drawn0.step)⟩
    ·rw [if_neg c3] at H; have c3b0 : decide (x9_1 < (l1.length : Int)) = false := decide_eq_false c3; clear c3; obtain rfl := Option.some.inj H; go_wp2; go_ret; exact ⟨by first | rfl | (simp; done) | (simp [*]; done), by repeat (first | exact Drawn0.refl _ | apply Drawn0.step)⟩

/-! ### spec_l1Same: function 73 -/
def spec_l1Same.l0 : Nat → List Int → List Int → Int → Int → Option (Bool)
  | 0, _, _, _, _ => none
  | k + 1, x0, x1, x12, x13 => if x13 < x12 then (if 0 ≤ x13 then (if x13 < (x0.length : Int) then (if x13 < (x1.length : Int) then (if (rd x0 x13) = (rd x1 x13) then (spec_l1Same.l0 k x0 x1 x12 (wrap64 (x13 + 1))) else (some false)) else (none)) else (none)) else (none)) else (some true)
def spec_l1Same.f (k : Nat) (l0 : List Int) (l1 : List Int) : Option (Bool) := if (l0.length : Int) = (l1.length : Int) then (spec_l1Same.l0 k l0 l1 (l0.length : Int) 0) else (some false)
set_option maxHeartbeats 8000000 in
set_option maxRecDepth 100000 in
theorem spec_l1Same.calls (k : Nat) (A0 : Option Addr) (c0 : Nat) (l0 : List Int) (A1 : Option Addr) (c1 : Nat) (l1 : List Int) (r : Bool) (w : World) (hr0 : Kd.C (Kd.int .i64) w A0 l0.length l0) (hc0 : l0.length ≤ c0) (hr1 : Kd.C (Kd.int .i64) w A1 l1.length l1) (hc1 : l1.length ≤ c1) (h : spec_l1Same.f k l0 l1 = some r) :
    Calls Try.prog 73 #[.slice A0 l0.length c0, .slice A1 l1.length c1] w fun e w' => e = .returned (.bool r) ∧ Drawn0 w w' := by
  have HR0 := q_ hr0; have HC0 := q_ hc0; clear hr0 hc0; have HR1 := q_ hr1; have HC1 := q_ hc1; clear hr1 hc1; have H : (if (l0.length : Int) = (l1.length : Int) then (spec_l1Same.l0 k l0 l1 (l0.length : Int) 0) else (some false)) = some r := h; clear h
  by_cases c3 : (l0.length : Int) = (l1.length : Int)
  ·rw [if_pos c3] at H; have c3b0 : ((l0.length : Int) == (l1.length : Int)) = true := beq_iff_eq.mpr c3; have c3b1 : ((l0.length : Int) != (l1.length : Int)) = false := bne_eq_false_iff_eq.mpr c3; (have c3b2 : (l0.length == l1.length) = true := by first | simpa using c3 | (simp at c3 ⊢; omega)); clear c3; have H' := q_ H; clear H; go_enter Try.func73, Try.ntmps73; go_wp2; (repeat (go_quiet (fail); try go_wp2)); go_loopg [13] k (fun kq v13 w' => ∃ (x13_1 : Int), v13 = .int .i64 x13_1 ∧ Aside0 (spec_l1Same.l0 kq l0 l1 (l0.length : Int) x13_1 = some r) ∧ Aside0 (kq ≤ k) ∧ Drawn0 w w')
   case atStart => exact ⟨(0), eqv, H', ⟨Nat.le_refl _⟩, by repeat (first | exact Drawn0.refl _ | apply Drawn0.step)⟩
   case round =>
    clear H'; (try clear c3b0); (try clear c3b1); (try clear c3b2); obtain ⟨x13_1, rfl, HA, HK1, ⟨m1, rfl⟩⟩ := hrel
    cases gk with
    | zero => exact absurd HA.out (by simp [spec_l1Same.l0])
    | succ k1 =>
     have H := HA.out; clear HA; simp only [spec_l1Same.l0] at H
     by_cases c4 : x13_1 < (l0.length : Int)
     ·rw [if_pos c4] at H; have c4b0 : decide (x13_1 < (l0.length : Int)) = true := decide_eq_true c4; clear c4
      obtain ⟨c5, H⟩ := ifp_ H; have c5b0 : decide (0 ≤ x13_1) = true := decide_eq_true c5; clear c5
      obtain ⟨c6, H⟩ := ifp_ H; have c6b0 : decide (x13_1 < (l0.length : Int)) = true := decide_eq_true c6; clear c6
      obtain ⟨c7, H⟩ := ifp_ H; have c7b0 : decide (x13_1 < (l1.length : Int)) = true := decide_eq_true c7; clear c7
      by_cases c8 : (rd l0 x13_1) = (rd l1 x13_1)
      ·rw [if_pos c8] at H; have c8b0 : ((rd l0 x13_1) == (rd l1 x13_1)) = true := beq_iff_eq.mpr c8; have c8b1 : ((rd l0 x13_1) != (rd l1 x13_1)) = false := bne_eq_false_iff_eq.mpr c8; clear c8; have H' := q_ H; clear H; have p132 : 0 ≤ (x13_1 : Int) := od; have q132 : x13_1 < (l0.length : Int) := od; obtain ⟨ad132, e132, hx132_0⟩ := Kd.at_int HR0.out x13_1 p132 q132
       cases e132
       replace p132 := eq_true p132; replace q132 := eq_true q132; have p133 : 0 ≤ (x13_1 : Int) := od; have q133 : x13_1 < (l1.length : Int) := od; obtain ⟨ad133, e133, hx133_0⟩ := Kd.at_int HR1.out x13_1 p133 q133
       cases e133
       replace p133 := eq_true p133; replace q133 := eq_true q133; go_wp2; (repeat (go_quiet (fail); try go_wp2)); go_roundg k1
       case measure => have := HK1.out; omega
       case rel => exact ⟨(wrap64 (x13_1 + 1)), eqv, H', ⟨by have := HK1.out; omega⟩, by repeat (first | exact Drawn0.refl _ | apply Drawn0.step)⟩
      ·rw [if_neg c8] at H; have c8b0 : ((rd l0 x13_1) == (rd l1 x13_1)) = false := beq_eq_false_iff_ne.mpr c8; have c8b1 : ((rd l0 x13_1) != (rd l1 x13_1)) = true := bne_iff_ne.mpr c8; obtain rfl := Option.some.inj H; have p132 : 0 ≤ (x13_1 : Int) := od; have q132 : x13_1 < (l0.length : Int) := od; obtain ⟨ad132, e132, hx132_0⟩ := Kd.at_int HR0.out x13_1 p132 q132
       cases e132
       replace p132 := eq_true p132; replace q132 := eq_true q132; have p133 : 0 ≤ (x13_1 : Int) := od; have q133 : x13_1 < (l1.length : Int) := od; obtain ⟨ad133, e133, hx133_0⟩ := Kd.at_int HR1.out x13_1 p133 q133
       cases e133
       replace p133 := eq_true p133; replace q133 := eq_true q133; go_wp2; (repeat (go_quiet (fail); try go_wp2)); go_ret; exact ⟨by first | rfl | (simp; done) | (simp [*]; done), by repeat (first | exact Drawn0.refl _ | apply Drawn0.step)⟩
     ·rw [if_neg c4] at H; have c4b0 : decide (x13_1 < (l0.length : Int)) = false := decide_eq_false c4; clear c4; obtain rfl := Option.some.inj H; go_wp2; (repeat (go_quiet (fail); try go_wp2)); go_ret; exact ⟨by first | rfl | (simp; done) | (simp [*]; done), by repeat (first | exact Drawn0.refl _ | apply Drawn0.step)⟩
  ·rw [if_neg c3] at H; have c3b0 : ((l0.length : Int) == (l1.length : Int)) = false := beq_eq_false_iff_ne.mpr c3; have c3b1 : ((l0.length : Int) != (l1.length : Int)) = true := bne_iff_ne.mpr c3; (have c3b2 : (l0.length == l1.length) = false := by first | simpa using c3 | (simp at c3 ⊢; omega)); obtain rfl := Option.some.inj H; go_enter Try.func73, Try.ntmps73; go_wp2; (repeat (go_quiet (fail); try go_wp2)); go_ret; exact ⟨by first | rfl | (simp; done) | (simp [*]; done), by repeat (first | exact Drawn0.refl _ | apply Drawn0.step)⟩

/-! ### spec_l1Compare: function 115 -/
def spec_l1Compare.l0 : Nat → List Int → List Int → Int → Int → Option (Int)
  | 0, _, _, _, _ => none
  | k + 1, x0, x1, x7, x8 => if x8 < x7 then (if 0 ≤ x8 then (if x8 < (x0.length : Int) then (if x8 < (x1.length : Int) then (if (rd x0 x8) < (rd x1 x8) then (some (-1)) else (if (rd x0 x8) > (rd x1 x8) then (some 1) else (spec_l1Compare.l0 k x0 x1 x7 (wrap64 (x8 + 1))))) else (none)) else (none)) else (none)) else (some 0)
def spec_l1Compare.f (k : Nat) (l0 : List Int) (l1 : List Int) : Option (Int) := spec_l1Compare.l0 k l0 l1 (l0.length : Int) 0
set_option maxHeartbeats 8000000 in
set_option maxRecDepth 100000 in
theorem spec_l1Compare.calls (k : Nat) (A0 : Option Addr) (c0 : Nat) (l0 : List Int) (A1 : Option Addr) (c1 : Nat) (l1 : List Int) (r : Int) (w : World) (hr0 : Kd.C (Kd.int .i64) w A0 l0.length l0) (hc0 : l0.length ≤ c0) (hr1 : Kd.C (Kd.int .i64) w A1 l1.length l1) (hc1 : l1.length ≤ c1) (h : spec_l1Compare.f k l0 l1 = some r) :
    Calls Try.prog 115 #[.slice A0 l0.length c0, .slice A1 l1.length c1] w fun e w' => e = .returned (.int .i64 r) ∧ Drawn0 w w' := by
  have HR0 := q_ hr0; have HC0 := q_ hc0; clear hr0 hc0; have HR1 := q_ hr1; have HC1 := q_ hc1; clear hr1 hc1; have H : (spec_l1Compare.l0 k l0 l1 (l0.length : Int) 0) = some r := h; clear h; have H' := q_ H; clear H; go_enter Try.func115, Try.ntmps115; go_wp2; (repeat (go_quiet (fail); try go_wp2)); go_loopg [8] k (fun kq v8 w' => ∃ (x8_1 : Int), v8 = .int .i64 x8_1 ∧ Aside0 (spec_l1Compare.l0 kq l0 l1 (l0.length : Int) x8_1 = some r) ∧ Aside0 (kq ≤ k) ∧ Drawn0 w w')
  case atStart => exact ⟨(0), eqv, H', ⟨Nat.le_refl _⟩, by repeat (first | exact Drawn0.refl _ | apply Drawn0.step)⟩
  case round =>
   clear H'; obtain ⟨x8_1, rfl, HA, HK1, ⟨m1, rfl⟩⟩ := hrel
   cases gk with
   | zero => exact absurd HA.out (by simp [spec_l1Compare.l0])
   | succ k1 =>
    have H := HA.out; clear HA; simp only [spec_l1Compare.l0] at H
    by_cases c3 : x8_1 < (l0.length : Int)
    ·rw [if_pos c3] at H; have c3b0 : decide (x8_1 < (l0.length : Int)) = true := decide_eq_true c3; clear c3
     obtain ⟨c4, H⟩ := ifp_ H; have c4b0 : decide (0 ≤ x8_1) = true := decide_eq_true c4; clear c4
     obtain ⟨c5, H⟩ := ifp_ H; have c5b0 : decide (x8_1 < (l0.length : Int)) = true := decide_eq_true c5; clear c5
     obtain ⟨c6, H⟩ := ifp_ H; have c6b0 : decide (x8_1 < (l1.length : Int)) = true := decide_eq_true c6; clear c6
     by_cases c7 : (rd l0 x8_1) < (rd l1 x8_1)
     ·rw [if_pos c7] at H; have c7b0 : decide ((rd l0 x8_1) < (rd l1 x8_1)) = true := decide_eq_true c7; clear c7; obtain rfl := Option.some.inj H; have p134 : 0 ≤ (x8_1 : Int) := od; have q134 : x8_1 < (l0.length : Int) := od; obtain ⟨ad134, e134, hx134_0⟩ := Kd.at_int HR0.out x8_1 p134 q134
      cases e134
      replace p134 := eq_true p134; replace q134 := eq_true q134; have p135 : 0 ≤ (x8_1 : Int) := od; have q135 : x8_1 < (l1.length : Int) := od; obtain ⟨ad135, e135, hx135_0⟩ := Kd.at_int HR1.out x8_1 p135 q135
      cases e135
      replace p135 := eq_true p135; replace q135 := eq_true q135; go_wp2; (repeat (go_quiet (fail); try go_wp2)); go_ret; exact ⟨by first | rfl | (simp; done) | (simp [*]; done), by repeat (first | exact Drawn0.refl _ | apply Drawn0.step)⟩
     ·rw [if_neg c7] at H; have c7b0 : decide ((rd l0 x8_1) < (rd l1 x8_1)) = false := decide_eq_false c7; clear c7
      by_cases c8 : (rd l0 x8_1) > (rd l1 x8_1)
      ·rw [if_pos c8] at H; have c8b0 : decide ((rd l1 x8_1) < (rd l0 x8_1)) = true := decide_eq_true c8; clear c8; obtain rfl := Option.some.inj H; have p134 : 0 ≤ (x8_1 : Int) := od; have q134 : x8_1 < (l0.length : Int) := od; obtain ⟨ad134, e134, hx134_0⟩ := Kd.at_int HR0.out x8_1 p134 q134
       cases e134
       replace p134 := eq_true p134; replace q134 := eq_true q134; have p135 : 0 ≤ (x8_1 : Int) := od; have q135 : x8_1 < (l1.length : Int) := od; obtain ⟨ad135, e135, hx135_0⟩ := Kd.at_int HR1.out x8_1 p135 q135
       cases e135
       replace p135 := eq_true p135; replace q135 := eq_true q135; have p136 : 0 ≤ (x8_1 : Int) := od; have q136 : x8_1 < (l0.length : Int) := od; obtain ⟨ad136, e136, hx136_0⟩ := Kd.at_int HR0.out x8_1 p136 q136; obtain rfl : ad134 = ad136 := (by injection e136); replace p136 := eq_true p136; replace q136 := eq_true q136; have p137 : 0 ≤ (x8_1 : Int) := od; have q137 : x8_1 < (l1.length : Int) := od; obtain ⟨ad137, e137, hx137_0⟩ := Kd.at_int HR1.out x8_1 p137 q137; obtain rfl : ad135 = ad137 := (by injection e137); replace p137 := eq_true p137; replace q137 := eq_true q137; go_wp2; (repeat (go_quiet (fail); try go_wp2)); go_ret; exact ⟨by first | rfl | (simp; done) | (simp [*]; done), by repeat (first | exact Drawn0.refl _ | apply Drawn0.step)⟩
      ·rw [if_neg c8] at H; have c8b0 : decide ((rd l1 x8_1) < (rd l0 x8_1)) = false := decide_eq_false c8; clear c8; have H' := q_ H; clear H; have p134 : 0 ≤ (x8_1 : Int) := od; have q134 : x8_1 < (l0.length : Int) := od; obtain ⟨ad134, e134, hx134_0⟩ := Kd.at_int HR0.out x8_1 p134 q134
       cases e134
       replace p134 := eq_true p134; replace q134 := eq_true q134; have p135 : 0 ≤ (x8_1 : Int) := od; have q135 : x8_1 < (l1.length : Int) := od; obtain ⟨ad135, e135, hx135_0⟩ := Kd.at_int HR1.out x8_1 p135 q135
       cases e135
       replace p135 := eq_true p135; replace q135 := eq_true q135; have p136 : 0 ≤ (x8_1 : Int) := od; have q136 : x8_1 < (l0.length : Int) := od; obtain ⟨ad136, e136, hx136_0⟩ := Kd.at_int HR0.out x8_1 p136 q136; obtain rfl : ad134 = ad136 := (by injection e136); replace p136 := eq_true p136; replace q136 := eq_true q136; have p137 : 0 ≤ (x8_1 : Int) := od; have q137 : x8_1 < (l1.length : Int) := od; obtain ⟨ad137, e137, hx137_0⟩ := Kd.at_int HR1.out x8_1 p137 q137; obtain rfl : ad135 = ad137 := (by injection e137); replace p137 := eq_true p137; replace q137 := eq_true q137; go_wp2; (repeat (go_quiet (fail); try go_wp2)); go_roundg k1
       case measure => have := HK1.out; omega
       case rel => exact ⟨(wrap64 (x8_1 + 1)), eqv, H', ⟨by have := HK1.out; omega⟩, by repeat (first | exact Drawn0.refl _ | apply Drawn0.step)⟩
    ·rw [if_neg c3] at H; have c3b0 : decide (x8_1 < (l0.length : Int)) = false := decide_eq_false c3; clear c3; obtain rfl := Option.some.inj H; go_wp2; (repeat (go_quiet (fail); try go_wp2)); go_ret; exact ⟨by first | rfl | (simp; done) | (simp [*]; done), by repeat (first | exact Drawn0.refl _ | apply Drawn0.step)⟩

/-! ### spec_l1InOrder: function 74 -/
def spec_l1InOrder.l0 : Nat → List (List Int) → List Int → List (List Int) → Bool → List (List Int) → Int → Int → Option ((List (List Int)))
  | 0, _, _, _, _, _, _, _ => none
  | k + 1, x0, x1, x5, x6, x10, x11, x12 => if x12 < x11 then (if 0 ≤ x12 then (if x12 < (x10.length : Int) then ((spec_l1Compare.f k x1 (rd_L1 x10 x12)).bind fun t142 => (if t142 = 0 then (some x0) else (if t142 < 0 then (if x6 = true then (if x5.length < 5864062014805 then (spec_l1InOrder.l0 k x0 x1 (x5 ++ [rd_L1 x10 x12]) x6 x10 x11 (wrap64 (x12 + 1))) else (none)) else (if x5.length < 5864062014805 then ((some (x5 ++ [x1] : List (List Int))).bind fun y146 => (if y146.length < 5864062014805 then (spec_l1InOrder.l0 k x0 x1 (y146 ++ [rd_L1 x10 x12]) true x10 x11 (wrap64 (x12 + 1))) else (none))) else (none))) else (if x5.length < 5864062014805 then (spec_l1InOrder.l0 k x0 x1 (x5 ++ [rd_L1 x10 x12]) x6 x10 x11 (wrap64 (x12 + 1))) else (none))))) else (none)) else (none)) else (if x6 = true then (some x5) else (if x5.length < 5864062014805 then (some (x5 ++ [x1])) else (none)))
def spec_l1InOrder.f (k : Nat) (l0 : List (List Int)) (l1 : List Int) : Option ((List (List Int))) := spec_l1InOrder.l0 k l0 l1 ([] : List (List Int)) false l0 (l0.length : Int) 0
set_option maxHeartbeats 8000000 in
set_option maxRecDepth 100000 in
theorem spec_l1InOrder.calls (k : Nat) (P0_ : Nat → Prop) (A0 : Option Addr) (c0 : Nat) (l0 : List (List Int)) (P1_ : Nat → Prop) (A1 : Option Addr) (c1 : Nat) (l1 : List Int) (r : List (List Int)) (w : World) (hs0 : Kd.V (Kd.slice 3 (Kd.int .i64)) 32 w w.heap.size (fun k_ => P0_ k_) (.slice A0 l0.length c0) l0) (hs1 : Kd.V (Kd.int .i64) 3 w w.heap.size (fun k_ => P1_ k_) (.slice A1 l1.length c1) l1) (h : spec_l1InOrder.f k l0 l1 = some r) :
    Calls Try.prog 74 #[.slice A0 l0.length c0, .slice A1 l1.length c1] w fun e w' => ∃ v0_ : Value, e = .returned (v0_) ∧ Kd.V (Kd.slice 3 (Kd.int .i64)) 32 w' w.heap.size (fun k_ => ((P0_ k_ ∨ P1_ k_) ∨ w.heap.size ≤ k_)) v0_ r ∧ Below w.heap.size w w' := by
  have HO0 := q_ (show Kd.V (Kd.slice 3 (Kd.int .i64)) 32 w w.heap.size (fun k_ => ((P0_ k_ ∨ P1_ k_) ∨ w.heap.size ≤ k_)) (.slice A0 l0.length c0) l0 from Kd.V_mono hs0 (fun k_ hk => .inl (.inl hk))); have HO1 := q_ (show Kd.V (Kd.int .i64) 3 w w.heap.size (fun k_ => ((P0_ k_ ∨ P1_ k_) ∨ w.heap.size ≤ k_)) (.slice A1 l1.length c1) l1 from Kd.V_mono hs1 (fun k_ hk => .inl (.inr hk))); have HB := q_ (Below.refl w.heap.size w); have H : (spec_l1InOrder.l0 k l0 l1 ([] : List (List Int)) false l0 (l0.length : Int) 0) = some r := h; clear h; have H' := q_ H; clear H; go_enter Try.func74, Try.ntmps74; go_wp2; go_loopg [5, 6, 12] k (fun kq v5 v6 v12 w' => ∃ (x5_1 : List (List Int)) (x6_1 : Bool) (x12_1 : Int), v6 = .bool x6_1 ∧ v12 = .int .i64 x12_1 ∧ Aside0 (spec_l1InOrder.l0 kq l0 l1 x5_1 x6_1 l0 (l0.length : Int) x12_1 = some r) ∧ Aside0 (kq ≤ k) ∧ Aside0 (Kd.V (Kd.slice 3 (Kd.int .i64)) 32 w' w.heap.size (fun k_ => ((P0_ k_ ∨ P1_ k_) ∨ w.heap.size ≤ k_) ∧ some k_ ≠ (v5 : Value).ownBlock) (.slice A0 l0.length c0) l0) ∧ Aside0 (Kd.V (Kd.int .i64) 3 w' w.heap.size (fun k_ => ((P0_ k_ ∨ P1_ k_) ∨ w.heap.size ≤ k_) ∧ some k_ ≠ (v5 : Value).ownBlock) (.slice A1 l1.length c1) l1) ∧ Aside0 (Kd.N (Kd.slice 3 (Kd.int .i64)) 32 w' w.heap.size (fun k_ => ((P0_ k_ ∨ P1_ k_) ∨ w.heap.size ≤ k_)) v5 x5_1) ∧ Aside0 (Kd.V (Kd.slice 3 (Kd.int .i64)) 32 w' w.heap.size (fun k_ => ((P0_ k_ ∨ P1_ k_) ∨ w.heap.size ≤ k_) ∧ some k_ ≠ (v5 : Value).ownBlock) (.slice A0 l0.length c0) l0) ∧ Aside0 (Below w.heap.size w w'))
  case atStart => exact ⟨(([] : List (List Int))), (false), (0), eqv, eqv, H', ⟨Nat.le_refl _⟩, ⟨by exact Kd.V_v (Kd.V_mono HO0.out (fun _ hk => ⟨hk, (by simp [Value.ownBlock])⟩))⟩, ⟨by exact Kd.V_v (Kd.V_mono HO1.out (fun _ hk => ⟨hk, (by simp [Value.ownBlock])⟩))⟩, ⟨by first | exact Kd.S_nil _ _ _ _ _ | exact Kd.N_nil _ _ _ _ _ | exact Kd.V_nil _ _ _ _ _ | exact Kd.Q_nil _ _ _ _ _ | exact Kd.R_nil _ _ _ _ _⟩, ⟨by exact Kd.V_v (Kd.V_mono HO0.out (fun _ hk => ⟨hk, (by simp [Value.ownBlock])⟩))⟩, ⟨by exact bv HB.out⟩⟩
  case round =>
   clear H'; (try clear c1); obtain ⟨x5_1, x6_1, x12_1, rfl, rfl, HA, HK1, HO_0, HO_1, HO_5, HO_10, HB⟩ := hrel
   cases gk with
   | zero => exact absurd HA.out (by simp [spec_l1InOrder.l0])
   | succ k1 =>
    have H := HA.out; clear HA; simp only [spec_l1InOrder.l0] at H
    by_cases c3 : x12_1 < (l0.length : Int)
    ·rw [if_pos c3] at H; have c3b0 : decide (x12_1 < (l0.length : Int)) = true := decide_eq_true c3; clear c3
     obtain ⟨c4, H⟩ := ifp_ H; have c4b0 : decide (0 ≤ x12_1) = true := decide_eq_true c4; clear c4
     obtain ⟨c5, H⟩ := ifp_ H; have c5b0 : decide (x12_1 < (l0.length : Int)) = true := decide_eq_true c5; clear c5; obtain ⟨t142, A6, H⟩ := bnd_ H; have HC7 := q_ H; clear H; have p141 : 0 ≤ (x12_1 : Int) := od; have q141 : x12_1 < (l0.length : Int) := od; obtain ⟨ad141, A141_0, c141_0, e141, hx141_0, hl141_0, hi141_0⟩ := at_L1 (Kd.V_reads' HO_10.out).2.2 x12_1 p141 q141
     cases e141
     obtain ⟨ce141, hce141, hMe141, hcc141⟩ := Kd.V_get HO_10.out [] x12_1 p141 (by first | exact q141 | exact od | (have e_ := (Kd.V_reads' HO_10.out).1; omega)); obtain ⟨ua141_0, uc141_0, rfl, ul141_0, ge141_0⟩ := Kd.FK_slice_open hMe141; have hv141_0 := hcc141 0 _ rfl; rw [Nat.add_zero, show ((Kd.slice 3 (Kd.int .i64))).sz = 1 from rfl, Nat.mul_one] at hv141_0; replace hv141_0 := Option.some.inj (hv141_0.symm.trans hx141_0)
     injection hv141_0 with hva_ hvn_ hvc_
     rw [hva_] at ge141_0; rw [hvc_] at ul141_0; have HL141_0 := q_ (show Kd.V (Kd.int .i64) 3 _ w.heap.size _ _ (rd_L1 l0 x12_1) from Kd.V_mk ul141_0 ge141_0); clear hva_ hvn_ hvc_ ge141_0 ul141_0; clear hcc141 hce141; have HR141_0 := q_ hi141_0; have HC141_0 := q_ hl141_0; clear hi141_0 hl141_0; replace p141 := eq_true p141; replace q141 := eq_true q141
     go_upto_if 20 with (first | (refine goesM (some 18) rfl rfl Try.func115 #[.slice A1 l1.length c1, .slice A141_0 (rd_L1 l0 x12_1).length c141_0] rfl ?_; (with_reducible refine (spec_l1Compare.calls k1 _ _ l1 _ _ (rd_L1 l0 x12_1) t142 _ ?side1 ?side2 ?side3 ?side4 A6.out).mono ?_); (case side1 => exact Kd.C_v ((Kd.V_reads' HO_1.out).2.2)); (case side2 => exact (Kd.V_reads' HO_1.out).2.1); (case side3 => exact (by first | exact HR141_0.out | exact Kd.C_v HR141_0.out)); (case side4 => exact HC141_0.out); rintro e w' ⟨rfl, ⟨nd, rfl⟩⟩; refine ⟨_, rfl, ?_⟩))
     (try simp only [Act.put, List.setIfInBounds_toArray, List.set_cons_zero, List.set_cons_succ]); have H := HC7.out; clear HC7
     by_cases c8 : t142 = 0
     ·rw [if_pos c8] at H; have c8b0 : (t142 == 0) = true := beq_iff_eq.mpr c8; have c8b1 : (t142 != 0) = false := bne_eq_false_iff_eq.mpr c8; clear c8; (first | rw [c8b0] | rw [c8b1] | (simp only [i64_w, i32_w]; rw [c8b0]) | skip); obtain rfl := Option.some.inj H; go_wp2; go_ret; exact ⟨_, by first | rfl | (simp [errW_none, errW_some] <;> rfl) | (simp [*, errW_none, errW_some] <;> rfl), by exact Kd.V_v (Kd.V_mono HO_0.out (fun _ hk => hk.1)), by exact bv HB.out⟩
     ·rw [if_neg c8] at H; have c8b0 : (t142 == 0) = false := beq_eq_false_iff_ne.mpr c8; have c8b1 : (t142 != 0) = true := bne_iff_ne.mpr c8; (first | rw [c8b0] | rw [c8b1] | (simp only [i64_w, i32_w]; rw [c8b0]) | skip)
      by_cases c9 : t142 < 0
      ·rw [if_pos c9] at H; have c9b0 : decide (t142 < 0) = true := decide_eq_true c9; clear c9
       by_cases c10 : x6_1 = true
       ·subst c10; replace H := itt_ H
        obtain ⟨c11, H⟩ := ifp_ H; have LMc11 := q_ c11; clear c11; obtain ⟨y143, hy143⟩ : ∃ y_ : List (List Int), y_ = (x5_1 ++ [rd_L1 l0 x12_1]) := ⟨_, rfl⟩; (replace H : (spec_l1InOrder.l0 k1 l0 l1 y143 true l0 (l0.length : Int) (wrap64 (x12_1 + 1))) = some r := by first | (rw [hy143]; with_reducible exact H) | (have H2_ := (Option.bind_some _ _).symm.trans H; rw [hy143]; with_reducible exact H2_) | (have H2_ := (Option.bind_some _ _).symm.trans H; with_reducible exact H2_) | with_reducible exact H | (rw [hy143]; exact H) | exact H); have Ny143 := q_ hy143; clear hy143; have H' := q_ H; clear H; go_wp2_with (first | ((with_reducible refine gate_builtin (b := .append) (xs := #[.tmp 32, .tmp 34]) rfl ?_); at_builtin; refine Kd.N_append (Kd.slice 3 (Kd.int .i64)) (w0 := w) w.heap.size rfl (.tmp 32) (.tmp 34) 22 32 (.slice none 0 0) 24 rfl Try.underlying22 info32 rfl (by decide) (by omega) u5 x5_1 (rd_L1 l0 x12_1) [.slice A141_0 (rd_L1 l0 x12_1).length c141_0] (fun k_ => ((P0_ k_ ∨ P1_ k_) ∨ w.heap.size ≤ k_)) (fun k_ => ((fun k_ => ((P0_ k_ ∨ P1_ k_) ∨ w.heap.size ≤ k_))) k_ ∧ some k_ ≠ (u5 : Value).ownBlock) rfl rfl ?aP (fun _ hk => hk) ?aF ?aO ?aB ?aS ?aL ?_; (case aP => exact (Kd.FK_slice_mk (Kd.V_reads' (Kd.V_mono (ok' := (fun k_ => ((fun k_ => ((P0_ k_ ∨ P1_ k_) ∨ w.heap.size ≤ k_))) k_ ∧ some k_ ≠ (u5 : Value).ownBlock)) (HL141_0.out) (fun k_ hk => ⟨hk.1, hk.2⟩))).2.1 (Kd.V_F (Kd.V_mono (ok' := (fun k_ => ((fun k_ => ((P0_ k_ ∨ P1_ k_) ∨ w.heap.size ≤ k_))) k_ ∧ some k_ ≠ (u5 : Value).ownBlock)) (Kd.V_v (HL141_0.out)) (fun k_ hk => ⟨hk.1, hk.2⟩))))); (case aB => exact (by exact bv HB.out)); (case aF => exact (fun k_ hk => (.inr (Nat.le_trans (below_size (by exact bv HB.out)) hk)))); (case aO => exact (by exact Kd.N_v HO_5.out)); (case aS => exact (below_size (by exact bv HB.out))); (case aL => have := LMc11.out; omega); intro v144 w12 ho hb hg hat; rw [← Ny143.out] at ho; have HO145 := q_ (ho); replace HO_0 := q_ (Kd.V_afterv (ok := (fun k_ => ((P0_ k_ ∨ P1_ k_) ∨ w.heap.size ≤ k_))) (by exact Kd.V_v HO_0.out) hg hat); replace HO_1 := q_ (Kd.V_afterv (ok := (fun k_ => ((P0_ k_ ∨ P1_ k_) ∨ w.heap.size ≤ k_))) (by exact Kd.V_v HO_1.out) hg hat); replace HO_10 := q_ (Kd.V_afterv (ok := (fun k_ => ((P0_ k_ ∨ P1_ k_) ∨ w.heap.size ≤ k_))) (by exact Kd.V_v HO_10.out) hg hat); replace HL141_0 := q_ (Kd.V_afterv (ok := (fun k_ => ((P0_ k_ ∨ P1_ k_) ∨ w.heap.size ≤ k_))) (by exact Kd.V_v HL141_0.out) hg hat); replace HB := q_ (hb); clear HO_5; clear ho hb hg hat)); go_roundg k1
        case measure => have := HK1.out; omega
        case rel => exact ⟨(y143), (true), (wrap64 (x12_1 + 1)), eqv, eqv, H', ⟨by have := HK1.out; omega⟩, ⟨by exact Kd.V_v HO_0.out⟩, ⟨by exact Kd.V_v HO_1.out⟩, ⟨by exact Kd.N_v HO145.out⟩, ⟨by exact Kd.V_v HO_10.out⟩, ⟨by exact bv HB.out⟩⟩
       ·replace c10 := Bool.eq_false_iff.mpr c10; subst c10; replace H := iff_ H
        obtain ⟨c13, H⟩ := ifp_ H; have LMc13 := q_ c13; clear c13; obtain ⟨y146, hy146⟩ : ∃ y_ : List (List Int), y_ = (x5_1 ++ [l1]) := ⟨_, rfl⟩; (replace H : (if y146.length < 5864062014805 then (spec_l1InOrder.l0 k1 l0 l1 (y146 ++ [rd_L1 l0 x12_1]) true l0 (l0.length : Int) (wrap64 (x12_1 + 1))) else (none)) = some r := by first | (rw [hy146]; with_reducible exact H) | (have H2_ := (Option.bind_some _ _).symm.trans H; rw [hy146]; with_reducible exact H2_) | (have H2_ := (Option.bind_some _ _).symm.trans H; with_reducible exact H2_) | with_reducible exact H | (rw [hy146]; exact H) | exact H); have Ny146 := q_ hy146; clear hy146
        obtain ⟨c14, H⟩ := ifp_ H; have LMc14 := q_ c14; clear c14; obtain ⟨y149, hy149⟩ : ∃ y_ : List (List Int), y_ = (y146 ++ [rd_L1 l0 x12_1]) := ⟨_, rfl⟩; (replace H : (spec_l1InOrder.l0 k1 l0 l1 y149 true l0 (l0.length : Int) (wrap64 (x12_1 + 1))) = some r := by first | (rw [hy149]; with_reducible exact H) | (have H2_ := (Option.bind_some _ _).symm.trans H; rw [hy149]; with_reducible exact H2_) | (have H2_ := (Option.bind_some _ _).symm.trans H; with_reducible exact H2_) | with_reducible exact H | (rw [hy149]; exact H) | exact H); have Ny149 := q_ hy149; clear hy149; have H' := q_ H; clear H; go_wp2_with (first | ((with_reducible refine gate_builtin (b := .append) (xs := #[.tmp 28, .tmp 30]) rfl ?_); at_builtin; refine Kd.N_append (Kd.slice 3 (Kd.int .i64)) (w0 := w) w.heap.size rfl (.tmp 28) (.tmp 30) 22 32 (.slice none 0 0) 24 rfl Try.underlying22 info32 rfl (by decide) (by omega) u5 x5_1 l1 [.slice A1 l1.length c1] (fun k_ => ((P0_ k_ ∨ P1_ k_) ∨ w.heap.size ≤ k_)) (fun k_ => ((fun k_ => ((P0_ k_ ∨ P1_ k_) ∨ w.heap.size ≤ k_))) k_ ∧ some k_ ≠ (u5 : Value).ownBlock) rfl rfl ?aP (fun _ hk => hk) ?aF ?aO ?aB ?aS ?aL ?_; (case aP => exact (Kd.FK_slice_mk (Kd.V_reads' (Kd.V_mono (ok' := (fun k_ => ((fun k_ => ((P0_ k_ ∨ P1_ k_) ∨ w.heap.size ≤ k_))) k_ ∧ some k_ ≠ (u5 : Value).ownBlock)) (HO_1.out) (fun k_ hk => ⟨hk.1, hk.2⟩))).2.1 (Kd.V_F (Kd.V_mono (ok' := (fun k_ => ((fun k_ => ((P0_ k_ ∨ P1_ k_) ∨ w.heap.size ≤ k_))) k_ ∧ some k_ ≠ (u5 : Value).ownBlock)) (Kd.V_v (HO_1.out)) (fun k_ hk => ⟨hk.1, hk.2⟩))))); (case aB => exact (by exact bv HB.out)); (case aF => exact (fun k_ hk => (.inr (Nat.le_trans (below_size (by exact bv HB.out)) hk)))); (case aO => exact (by exact Kd.N_v HO_5.out)); (case aS => exact (below_size (by exact bv HB.out))); (case aL => have := LMc13.out; omega); intro v147 w15 ho hb hg hat; rw [← Ny146.out] at ho; have HO148 := q_ (ho); replace HO_0 := q_ (Kd.V_afterv (ok := (fun k_ => ((P0_ k_ ∨ P1_ k_) ∨ w.heap.size ≤ k_))) (by exact Kd.V_v HO_0.out) hg hat); replace HO_1 := q_ (Kd.V_afterv (ok := (fun k_ => ((P0_ k_ ∨ P1_ k_) ∨ w.heap.size ≤ k_))) (by exact Kd.V_v HO_1.out) hg hat); replace HO_10 := q_ (Kd.V_afterv (ok := (fun k_ => ((P0_ k_ ∨ P1_ k_) ∨ w.heap.size ≤ k_))) (by exact Kd.V_v HO_10.out) hg hat); replace HL141_0 := q_ (Kd.V_afterv (ok := (fun k_ => ((P0_ k_ ∨ P1_ k_) ∨ w.heap.size ≤ k_))) (by exact Kd.V_v HL141_0.out) hg hat); replace HB := q_ (hb); clear HO_5; clear ho hb hg hat) | ((with_reducible refine gate_builtin (b := .append) (xs := #[.tmp 32, .tmp 34]) rfl ?_); at_builtin; refine Kd.N_append (Kd.slice 3 (Kd.int .i64)) (w0 := w) w.heap.size rfl (.tmp 32) (.tmp 34) 22 32 (.slice none 0 0) 24 rfl Try.underlying22 info32 rfl (by decide) (by omega) v147 y146 (rd_L1 l0 x12_1) [.slice A141_0 (rd_L1 l0 x12_1).length c141_0] (fun k_ => ((P0_ k_ ∨ P1_ k_) ∨ w.heap.size ≤ k_)) (fun k_ => ((fun k_ => ((P0_ k_ ∨ P1_ k_) ∨ w.heap.size ≤ k_))) k_ ∧ some k_ ≠ (v147 : Value).ownBlock) rfl rfl ?aP (fun _ hk => hk) ?aF ?aO ?aB ?aS ?aL ?_; (case aP => exact (Kd.FK_slice_mk (Kd.V_reads' (Kd.V_mono (ok' := (fun k_ => ((fun k_ => ((P0_ k_ ∨ P1_ k_) ∨ w.heap.size ≤ k_))) k_ ∧ some k_ ≠ (v147 : Value).ownBlock)) (HL141_0.out) (fun k_ hk => ⟨hk.1, hk.2⟩))).2.1 (Kd.V_F (Kd.V_mono (ok' := (fun k_ => ((fun k_ => ((P0_ k_ ∨ P1_ k_) ∨ w.heap.size ≤ k_))) k_ ∧ some k_ ≠ (v147 : Value).ownBlock)) (Kd.V_v (HL141_0.out)) (fun k_ hk => ⟨hk.1, hk.2⟩))))); (case aB => exact (by exact bv HB.out)); (case aF => exact (fun k_ hk => (.inr (Nat.le_trans (below_size (by exact bv HB.out)) hk)))); (case aO => exact (by exact Kd.N_v HO148.out)); (case aS => exact (below_size (by exact bv HB.out))); (case aL => have := LMc14.out; omega); intro v150 w16 ho hb hg hat; rw [← Ny149.out] at ho; have HO151 := q_ (ho); replace HO_0 := q_ (Kd.V_afterv (ok := (fun k_ => ((P0_ k_ ∨ P1_ k_) ∨ w.heap.size ≤ k_))) (by exact Kd.V_v HO_0.out) hg hat); replace HO_1 := q_ (Kd.V_afterv (ok := (fun k_ => ((P0_ k_ ∨ P1_ k_) ∨ w.heap.size ≤ k_))) (by exact Kd.V_v HO_1.out) hg hat); replace HO_10 := q_ (Kd.V_afterv (ok := (fun k_ => ((P0_ k_ ∨ P1_ k_) ∨ w.heap.size ≤ k_))) (by exact Kd.V_v HO_10.out) hg hat); replace HL141_0 := q_ (Kd.V_afterv (ok := (fun k_ => ((P0_ k_ ∨ P1_ k_) ∨ w.heap.size ≤ k_))) (by exact Kd.V_v HL141_0.out) hg hat); replace HB := q_ (hb); clear HO148; clear ho hb hg hat)); go_roundg k1
        case measure => have := HK1.out; omega
        case rel => exact ⟨(y149), (true), (wrap64 (x12_1 + 1)), eqv, eqv, H', ⟨by have := HK1.out; omega⟩, ⟨by exact Kd.V_v HO_0.out⟩, ⟨by exact Kd.V_v HO_1.out⟩, ⟨by exact Kd.N_v HO151.out⟩, ⟨by exact Kd.V_v HO_10.out⟩, ⟨by exact bv HB.out⟩⟩
      ·rw [if_neg c9] at H; have c9b0 : decide (t142 < 0) = false := decide_eq_false c9; clear c9
       obtain ⟨c17, H⟩ := ifp_ H; have LMc17 := q_ c17; clear c17; obtain ⟨y152, hy152⟩ : ∃ y_ : List (List Int), y_ = (x5_1 ++ [rd_L1 l0 x12_1]) := ⟨_, rfl⟩; (replace H : (spec_l1InOrder.l0 k1 l0 l1 y152 x6_1 l0 (l0.length : Int) (wrap64 (x12_1 + 1))) = some r := by first | (rw [hy152]; with_reducible exact H) | (have H2_ := (Option.bind_some _ _).symm.trans H; rw [hy152]; with_reducible exact H2_) | (have H2_ := (Option.bind_some _ _).symm.trans H; with_reducible exact H2_) | with_reducible exact H | (rw [hy152]; exact H) | exact H); have Ny152 := q_ hy152; clear hy152; have H' := q_ H; clear H; go_wp2_with (first | ((with_reducible refine gate_builtin (b := .append) (xs := #[.tmp 32, .tmp 34]) rfl ?_); at_builtin; refine Kd.N_append (Kd.slice 3 (Kd.int .i64)) (w0 := w) w.heap.size rfl (.tmp 32) (.tmp 34) 22 32 (.slice none 0 0) 24 rfl Try.underlying22 info32 rfl (by decide) (by omega) u5 x5_1 (rd_L1 l0 x12_1) [.slice A141_0 (rd_L1 l0 x12_1).length c141_0] (fun k_ => ((P0_ k_ ∨ P1_ k_) ∨ w.heap.size ≤ k_)) (fun k_ => ((fun k_ => ((P0_ k_ ∨ P1_ k_) ∨ w.heap.size ≤ k_))) k_ ∧ some k_ ≠ (u5 : Value).ownBlock) rfl rfl ?aP (fun _ hk => hk) ?aF ?aO ?aB ?aS ?aL ?_; (case aP => exact (Kd.FK_slice_mk (Kd.V_reads' (Kd.V_mono (ok' := (fun k_ => ((fun k_ => ((P0_ k_ ∨ P1_ k_) ∨ w.heap.size ≤ k_))) k_ ∧ some k_ ≠ (u5 : Value).ownBlock)) (HL141_0.out) (fun k_ hk => ⟨hk.1, hk.2⟩))).2.1 (Kd.V_F (Kd.V_mono (ok' := (fun k_ => ((fun k_ => ((P0_ k_ ∨ P1_ k_) ∨ w.heap.size ≤ k_))) k_ ∧ some k_ ≠ (u5 : Value).ownBlock)) (Kd.V_v (HL141_0.out)) (fun k_ hk => ⟨hk.1, hk.2⟩))))); (case aB => exact (by exact bv HB.out)); (case aF => exact (fun k_ hk => (.inr (Nat.le_trans (below_size (by exact bv HB.out)) hk)))); (case aO => exact (by exact Kd.N_v HO_5.out)); (case aS => exact (below_size (by exact bv HB.out))); (case aL => have := LMc17.out; omega); intro v153 w18 ho hb hg hat; rw [← Ny152.out] at ho; have HO154 := q_ (ho); replace HO_0 := q_ (Kd.V_afterv (ok := (fun k_ => ((P0_ k_ ∨ P1_ k_) ∨ w.heap.size ≤ k_))) (by exact Kd.V_v HO_0.out) hg hat); replace HO_1 := q_ (Kd.V_afterv (ok := (fun k_ => ((P0_ k_ ∨ P1_ k_) ∨ w.heap.size ≤ k_))) (by exact Kd.V_v HO_1.out) hg hat); replace HO_10 := q_ (Kd.V_afterv (ok := (fun k_ => ((P0_ k_ ∨ P1_ k_) ∨ w.heap.size ≤ k_))) (by exact Kd.V_v HO_10.out) hg hat); replace HL141_0 := q_ (Kd.V_afterv (ok := (fun k_ => ((P0_ k_ ∨ P1_ k_) ∨ w.heap.size ≤ k_))) (by exact Kd.V_v HL141_0.out) hg hat); replace HB := q_ (hb); clear HO_5; clear ho hb hg hat)); go_roundg k1
       case measure => have := HK1.out; omega
       case rel => exact ⟨(y152), (x6_1), (wrap64 (x12_1 + 1)), eqv, eqv, H', ⟨by have := HK1.out; omega⟩, ⟨by exact Kd.V_v HO_0.out⟩, ⟨by exact Kd.V_v HO_1.out⟩, ⟨by exact Kd.N_v HO154.out⟩, ⟨by exact Kd.V_v HO_10.out⟩, ⟨by exact bv HB.out⟩⟩
    ·rw [if_neg c3] at H; have c3b0 : decide (x12_1 < (l0.length : Int)) = false := decide_eq_false c3; clear c3
     by_cases c19 : x6_1 = true
     ·subst c19; replace H := itt_ H; obtain rfl := Option.some.inj H; go_wp2; go_ret; exact ⟨_, by first | rfl | (simp [errW_none, errW_some] <;> rfl) | (simp [*, errW_none, errW_some] <;> rfl), Kd.N_V (by exact Kd.N_v HO_5.out), by exact bv HB.out⟩
     ·replace c19 := Bool.eq_false_iff.mpr c19; subst c19; replace H := iff_ H
      obtain ⟨c20, H⟩ := ifp_ H; have LMc20 := q_ c20; clear c20; obtain ⟨y138, hy138⟩ : ∃ y_ : List (List Int), y_ = (x5_1 ++ [l1]) := ⟨_, rfl⟩; (replace H : (some y138) = some r := by first | (rw [hy138]; with_reducible exact H) | (have H2_ := (Option.bind_some _ _).symm.trans H; rw [hy138]; with_reducible exact H2_) | (have H2_ := (Option.bind_some _ _).symm.trans H; with_reducible exact H2_) | with_reducible exact H | (rw [hy138]; exact H) | exact H); have Ny138 := q_ hy138; clear hy138; obtain rfl := Option.some.inj H; go_wp2_with (first | ((with_reducible refine gate_builtin (b := .append) (xs := #[.tmp 39, .tmp 41]) rfl ?_); at_builtin; refine Kd.N_append (Kd.slice 3 (Kd.int .i64)) (w0 := w) w.heap.size rfl (.tmp 39) (.tmp 41) 22 32 (.slice none 0 0) 24 rfl Try.underlying22 info32 rfl (by decide) (by omega) u5 x5_1 l1 [.slice A1 l1.length c1] (fun k_ => ((P0_ k_ ∨ P1_ k_) ∨ w.heap.size ≤ k_)) (fun k_ => ((fun k_ => ((P0_ k_ ∨ P1_ k_) ∨ w.heap.size ≤ k_))) k_ ∧ some k_ ≠ (u5 : Value).ownBlock) rfl rfl ?aP (fun _ hk => hk) ?aF ?aO ?aB ?aS ?aL ?_; (case aP => exact (Kd.FK_slice_mk (Kd.V_reads' (Kd.V_mono (ok' := (fun k_ => ((fun k_ => ((P0_ k_ ∨ P1_ k_) ∨ w.heap.size ≤ k_))) k_ ∧ some k_ ≠ (u5 : Value).ownBlock)) (HO_1.out) (fun k_ hk => ⟨hk.1, hk.2⟩))).2.1 (Kd.V_F (Kd.V_mono (ok' := (fun k_ => ((fun k_ => ((P0_ k_ ∨ P1_ k_) ∨ w.heap.size ≤ k_))) k_ ∧ some k_ ≠ (u5 : Value).ownBlock)) (Kd.V_v (HO_1.out)) (fun k_ hk => ⟨hk.1, hk.2⟩))))); (case aB => exact (by exact bv HB.out)); (case aF => exact (fun k_ hk => (.inr (Nat.le_trans (below_size (by exact bv HB.out)) hk)))); (case aO => exact (by exact Kd.N_v HO_5.out)); (case aS => exact (below_size (by exact bv HB.out))); (case aL => have := LMc20.out; omega); intro v139 w21 ho hb hg hat; rw [← Ny138.out] at ho; have HO140 := q_ (ho); replace HO_0 := q_ (Kd.V_afterv (ok := (fun k_ => ((P0_ k_ ∨ P1_ k_) ∨ w.heap.size ≤ k_))) (by exact Kd.V_v HO_0.out) hg hat); replace HO_1 := q_ (Kd.V_afterv (ok := (fun k_ => ((P0_ k_ ∨ P1_ k_) ∨ w.heap.size ≤ k_))) (by exact Kd.V_v HO_1.out) hg hat); replace HO_10 := q_ (Kd.V_afterv (ok := (fun k_ => ((P0_ k_ ∨ P1_ k_) ∨ w.heap.size ≤ k_))) (by exact Kd.V_v HO_10.out) hg hat); replace HB := q_ (hb); clear HO_5; clear ho hb hg hat)); go_ret; exact ⟨_, by first | rfl | (simp [errW_none, errW_some] <;> rfl) | (simp [*, errW_none, errW_some] <;> rfl), Kd.N_V (by exact Kd.N_v HO140.out), by exact bv HB.out⟩

/-! ### spec_l1Own: function 75 -/
def spec_l1Own.f (l0 : List Int) : Option (List Int) := (some (([] : List Int) : List Int)).bind fun y155 => (if y155.length + l0.length < 17592186044416 then (some (y155 ++ l0)) else (none))
set_option maxHeartbeats 8000000 in
set_option maxRecDepth 100000 in
theorem spec_l1Own.calls (A0 : Option Addr) (c0 : Nat) (l0 : List Int) (r : List Int) (w : World) (hr0 : Kd.C (Kd.int .i64) w A0 l0.length l0) (hc0 : l0.length ≤ c0) (h : spec_l1Own.f l0 = some r) :
    Calls Try.prog 75 #[.slice A0 l0.length c0] w fun e w' => ∃ v0_ : Value, e = .returned (v0_) ∧ Kd.R (Kd.int .i64) 3 w' w.heap.size (fun _ => True) v0_ r ∧ Below w.heap.size w w' := by
  have HR0 := q_ hr0; have HC0 := q_ hc0; clear hr0 hc0; have HB := q_ (Below.refl w.heap.size w); have H : ((some (([] : List Int) : List Int)).bind fun y155 => (if y155.length + l0.length < 17592186044416 then (some (y155 ++ l0)) else (none))) = some r := h; clear h; obtain ⟨y155, hy155⟩ : ∃ y_ : List Int, y_ = (([] : List Int)) := ⟨_, rfl⟩; (replace H : (if y155.length + l0.length < 17592186044416 then (some (y155 ++ l0)) else (none)) = some r := by first | (rw [hy155]; with_reducible exact H) | (have H2_ := (Option.bind_some _ _).symm.trans H; rw [hy155]; with_reducible exact H2_) | (have H2_ := (Option.bind_some _ _).symm.trans H; with_reducible exact H2_) | with_reducible exact H | (rw [hy155]; exact H) | exact H); have Ny155 := q_ hy155; clear hy155
  obtain ⟨c2, H⟩ := ifp_ H; have LMc2 := q_ c2; clear c2; obtain ⟨y158, hy158⟩ : ∃ y_ : List Int, y_ = (y155 ++ l0) := ⟨_, rfl⟩; (replace H : (some y158) = some r := by first | (rw [hy158]; with_reducible exact H) | (have H2_ := (Option.bind_some _ _).symm.trans H; rw [hy158]; with_reducible exact H2_) | (have H2_ := (Option.bind_some _ _).symm.trans H; with_reducible exact H2_) | with_reducible exact H | (rw [hy158]; exact H) | exact H); have Ny158 := q_ hy158; clear hy158; obtain rfl := Option.some.inj H; go_enter Try.func75, Try.ntmps75; go_wp2_with (first | ((with_reducible refine gate_dst (N := 3) rfl ?_); refine Kd.R_lit (Kd.int .i64) _ 3 ?hg (N := 3) ?hd (xs := ([] : List Int)) (inner := []) (ok := fun _ => True) (okp := fun _ => True) ?hr ?hp (fun _ hk => hk) trivial (Below.refl _ _) (Nat.le_refl _) (by simp) ?_; (case hd => rfl); (case hg => rfl); (case hr => first | (go_simp; done) | (go_simp; rfl)); (case hp => exact (Reps.none _ _)); intro v156 w3 ho4 hb hg_ hnew_; clear hg_ hnew_; (first | rw [← Ny155.out] at ho4 | (simp only [Int.reduceToNat] at ho4; rw [← Ny155.out] at ho4)); have HO157 := q_ (Kd.R_lower ho4 (below_size (by exact bv HB.out))); replace HB := q_ (below_step (by exact bv HB.out) hb); clear hb ho4) | ((with_reducible refine gate_builtin (b := .append) (xs := #[.tmp 3, .tmp 4]) rfl ?_); at_builtin; refine Kd.R_append_rows (Kd.int .i64) (w0 := w) w.heap.size rfl (.tmp 3) (.tmp 4) 32 3 (.int .i64 0) 8 rfl Try.underlying32 info3 rfl (by decide) (by omega) v156 y155 l0 _ _ _ (fun _ => True) (fun _ => False) rfl rfl ?aO ?aR (fun _ _ h => h) (fun _ h => h.elim) ?aF ?aB ?aS ?aL ?_; (case aR => exact Kd.C_v ((Kd.C_below HR0.out HB.out))); (case aB => exact (by exact bv HB.out)); (case aF => exact (fun _ _ => trivial)); (case aO => exact (by exact Kd.R_v HO157.out)); (case aS => exact (below_size (by exact bv HB.out))); (case aL => have := LMc2.out; omega); intro v159 w5 ho hb hg hat; rw [← Ny158.out] at ho; have HO160 := q_ (ho); replace HB := q_ (hb); clear HO157; clear ho hb hg hat)); go_ret; exact ⟨_, by first | rfl | (simp [errW_none, errW_some] <;> rfl) | (simp [*, errW_none, errW_some] <;> rfl), by exact Kd.R_v HO160.out, by exact bv HB.out⟩

/-! ### spec_l1LeastMarks: function 44 -/
mutual
def spec_l1LeastMarks.l0 : Nat → List (List Int) → List (List Int) → List (List Int) → Int → Int → Option ((List (List Int)))
  | 0, _, _, _, _, _ => none
  | k + 1, x0, x3, x9, x10, x11 => if x11 < x10 then (if 0 ≤ x11 then (if x11 < (x9.length : Int) then (spec_l1LeastMarks.l1 k x0 x3 (rd_L1 x9 x11) true x9 x10 x11 x0 (x0.length : Int) 0) else (none)) else (none)) else (some x3)
def spec_l1LeastMarks.l1 : Nat → List (List Int) → List (List Int) → List Int → Bool → List (List Int) → Int → Int → List (List Int) → Int → Int → Option ((List (List Int)))
  | 0, _, _, _, _, _, _, _, _, _, _ => none
  | k + 1, x0, x3, x5, x6, x9, x10, x11, x15, x16, x17 => if x17 < x16 then (if 0 ≤ x17 then (if x17 < (x15.length : Int) then (if x6 = true then ((spec_l1Covers.f k x5 (rd_L1 x15 x17)).bind fun t163 => (if t163 = true then ((spec_l1Same.f k x5 (rd_L1 x15 x17)).bind fun t164 => (spec_l1LeastMarks.l1 k x0 x3 x5 t164 x9 x10 x11 x15 x16 (wrap64 (x17 + 1)))) else (spec_l1LeastMarks.l1 k x0 x3 x5 true x9 x10 x11 x15 x16 (wrap64 (x17 + 1))))) else (spec_l1LeastMarks.l1 k x0 x3 x5 false x9 x10 x11 x15 x16 (wrap64 (x17 + 1)))) else (none)) else (none)) else (if x6 = true then ((spec_l1Own.f x5).bind fun t165 => ((spec_l1InOrder.f k x3 t165).bind fun t168 => (spec_l1LeastMarks.l0 k x0 t168 x9 x10 (wrap64 (x11 + 1))))) else (spec_l1LeastMarks.l0 k x0 x3 x9 x10 (wrap64 (x11 + 1))))
end
def spec_l1LeastMarks.f (k : Nat) (l0 : List (List Int)) : Option ((List (List Int))) := spec_l1LeastMarks.l0 k l0 ([] : List (List Int)) l0 (l0.length : Int) 0
set_option maxHeartbeats 8000000 in
set_option maxRecDepth 100000 in
theorem spec_l1LeastMarks.calls (k : Nat) (A0 : Option Addr) (c0 : Nat) (l0 : List (List Int)) (r : List (List Int)) (w : World) (hr0 : Kd.C (Kd.slice 3 (Kd.int .i64)) w A0 l0.length l0) (hc0 : l0.length ≤ c0) (h : spec_l1LeastMarks.f k l0 = some r) :
    Calls Try.prog 44 #[.slice A0 l0.length c0] w fun e w' => ∃ v0_ : Value, e = .returned (v0_) ∧ Kd.V (Kd.slice 3 (Kd.int .i64)) 32 w' w.heap.size (fun k_ => (w.heap.size ≤ k_)) v0_ r ∧ Below w.heap.size w w' := by
  have HR0 := q_ hr0; have HC0 := q_ hc0; clear hr0 hc0; have HB := q_ (Below.refl w.heap.size w); have H : (spec_l1LeastMarks.l0 k l0 ([] : List (List Int)) l0 (l0.length : Int) 0) = some r := h; clear h; have H' := q_ H; clear H; go_enter Try.func44, Try.ntmps44; go_wp2; go_loopg [3, 11] k (fun kq v3 v11 w' => ∃ (x3_1 : List (List Int)) (x11_1 : Int), v11 = .int .i64 x11_1 ∧ Aside0 (spec_l1LeastMarks.l0 kq l0 x3_1 l0 (l0.length : Int) x11_1 = some r) ∧ Aside0 (kq ≤ k) ∧ Aside0 (Kd.V (Kd.slice 3 (Kd.int .i64)) 32 w' w.heap.size (fun k_ => (w.heap.size ≤ k_)) v3 x3_1) ∧ Aside0 (Below w.heap.size w w'))
  case atStart => exact ⟨(([] : List (List Int))), (0), eqv, H', ⟨Nat.le_refl _⟩, ⟨(by exact Kd.V_nil _ _ _ _ _)⟩, ⟨by exact bv HB.out⟩⟩
  case round =>
   clear H'; obtain ⟨x3_1, x11_1, rfl, HA, HK1, HO_3, HB⟩ := hrel
   cases gk with
   | zero => exact absurd HA.out (by simp [spec_l1LeastMarks.l0])
   | succ k1 =>
    have H := HA.out; clear HA; simp only [spec_l1LeastMarks.l0] at H
    by_cases c2 : x11_1 < (l0.length : Int)
    ·rw [if_pos c2] at H; have c2b0 : decide (x11_1 < (l0.length : Int)) = true := decide_eq_true c2; clear c2
     obtain ⟨c3, H⟩ := ifp_ H; have c3b0 : decide (0 ≤ x11_1) = true := decide_eq_true c3; clear c3
     obtain ⟨c4, H⟩ := ifp_ H; have c4b0 : decide (x11_1 < (l0.length : Int)) = true := decide_eq_true c4; clear c4; have H' := q_ H; clear H; have p161 : 0 ≤ (x11_1 : Int) := od; have q161 : x11_1 < (l0.length : Int) := od; obtain ⟨ad161, A161_0, c161_0, e161, hx161_0, hl161_0, hi161_0⟩ := at_L1 HR0.out x11_1 p161 q161
     cases e161
     replace hx161_0 := cb_ HB.out hx161_0; have HR161_0 := q_ hi161_0; have HC161_0 := q_ hl161_0; clear hi161_0 hl161_0; replace p161 := eq_true p161; replace q161 := eq_true q161; go_wp2; go_loopg [6, 17] k1 (fun kq v6 v17 w' => ∃ (x6_2 : Bool) (x17_2 : Int), v6 = .bool x6_2 ∧ v17 = .int .i64 x17_2 ∧ Aside0 (spec_l1LeastMarks.l1 kq l0 x3_1 (rd_L1 l0 x11_1) x6_2 l0 (l0.length : Int) x11_1 l0 (l0.length : Int) x17_2 = some r) ∧ Aside0 (kq ≤ k1) ∧ Aside0 (Kd.V (Kd.slice 3 (Kd.int .i64)) 32 w' w.heap.size (fun k_ => (w.heap.size ≤ k_)) u3 x3_1) ∧ Aside0 (Below w.heap.size w w'))
     case atStart => exact ⟨(true), (0), eqv, eqv, H', ⟨Nat.le_refl _⟩, ⟨by exact Kd.V_v HO_3.out⟩, ⟨by exact bv HB.out⟩⟩
     case round =>
      clear H'; (try clear c2b0); (try clear c3b0); (try clear c4b0); (try clear hx161_0); (try clear p161); (try clear q161); obtain ⟨x6_2, x17_2, rfl, rfl, HA, HK2, HO_3, HB⟩ := hrel
      cases gk with
      | zero => exact absurd HA.out (by simp [spec_l1LeastMarks.l1])
      | succ k2 =>
       have H := HA.out; clear HA; simp only [spec_l1LeastMarks.l1] at H
       by_cases c5 : x17_2 < (l0.length : Int)
       ·rw [if_pos c5] at H; have c5b0 : decide (x17_2 < (l0.length : Int)) = true := decide_eq_true c5; clear c5
        obtain ⟨c6, H⟩ := ifp_ H; have c6b0 : decide (0 ≤ x17_2) = true := decide_eq_true c6; clear c6
        obtain ⟨c7, H⟩ := ifp_ H; have c7b0 : decide (x17_2 < (l0.length : Int)) = true := decide_eq_true c7; clear c7
        by_cases c8 : x6_2 = true
        ·subst c8; replace H := itt_ H; obtain ⟨t163, A9, H⟩ := bnd_ H
         by_cases c10 : t163 = true
         ·subst c10; replace H := itt_ H; obtain ⟨t164, A11, H⟩ := bnd_ H; have H' := q_ H; clear H; have p162 : 0 ≤ (x17_2 : Int) := od; have q162 : x17_2 < (l0.length : Int) := od; obtain ⟨ad162, A162_0, c162_0, e162, hx162_0, hl162_0, hi162_0⟩ := at_L1 HR0.out x17_2 p162 q162; obtain rfl : ad161 = ad162 := (by injection e162); replace hx162_0 := cb_ HB.out hx162_0; have HR162_0 := q_ hi162_0; have HC162_0 := q_ hl162_0; clear hi162_0 hl162_0; replace p162 := eq_true p162; replace q162 := eq_true q162; go_wp2_with (first | (go_at_call 49; (with_reducible refine (spec_l1Covers.calls k2 _ _ (rd_L1 l0 x11_1) _ _ (rd_L1 l0 x17_2) true _ ?side1 ?side2 ?side3 ?side4 A9.out).mono ?_); (case side1 => exact Kd.C_v ((Kd.C_below HR161_0.out HB.out))); (case side2 => exact HC161_0.out); (case side3 => exact Kd.C_v ((Kd.C_below HR162_0.out HB.out))); (case side4 => exact HC162_0.out); rintro e w' ⟨rfl, ⟨nd, rfl⟩⟩) | (go_at_call 73; (with_reducible refine (spec_l1Same.calls k2 _ _ (rd_L1 l0 x11_1) _ _ (rd_L1 l0 x17_2) t164 _ ?side1 ?side2 ?side3 ?side4 A11.out).mono ?_); (case side1 => exact (Kd.C_below HR161_0.out (by exact bv HB.out))); (case side2 => exact HC161_0.out); (case side3 => exact (Kd.C_below HR162_0.out (by exact bv HB.out))); (case side4 => exact HC162_0.out); rintro e w' ⟨rfl, ⟨nd, rfl⟩⟩)); go_roundg k2
          case measure => have := HK1.out; have := HK2.out; omega
          case rel => exact ⟨(t164), (wrap64 (x17_2 + 1)), eqv, eqv, H', ⟨by have := HK1.out; have := HK2.out; omega⟩, ⟨by exact Kd.V_v HO_3.out⟩, ⟨by exact bv HB.out⟩⟩
         ·replace c10 := Bool.eq_false_iff.mpr c10; subst c10; replace H := iff_ H; have H' := q_ H; clear H; have p162 : 0 ≤ (x17_2 : Int) := od; have q162 : x17_2 < (l0.length : Int) := od; obtain ⟨ad162, A162_0, c162_0, e162, hx162_0, hl162_0, hi162_0⟩ := at_L1 HR0.out x17_2 p162 q162; obtain rfl : ad161 = ad162 := (by injection e162); replace hx162_0 := cb_ HB.out hx162_0; have HR162_0 := q_ hi162_0; have HC162_0 := q_ hl162_0; clear hi162_0 hl162_0; replace p162 := eq_true p162; replace q162 := eq_true q162; go_wp2_with (first | (go_at_call 49; (with_reducible refine (spec_l1Covers.calls k2 _ _ (rd_L1 l0 x11_1) _ _ (rd_L1 l0 x17_2) false _ ?side1 ?side2 ?side3 ?side4 A9.out).mono ?_); (case side1 => exact Kd.C_v ((Kd.C_below HR161_0.out HB.out))); (case side2 => exact HC161_0.out); (case side3 => exact Kd.C_v ((Kd.C_below HR162_0.out HB.out))); (case side4 => exact HC162_0.out); rintro e w' ⟨rfl, ⟨nd, rfl⟩⟩)); go_roundg k2
          case measure => have := HK1.out; have := HK2.out; omega
          case rel => exact ⟨(true), (wrap64 (x17_2 + 1)), eqv, eqv, H', ⟨by have := HK1.out; have := HK2.out; omega⟩, ⟨by exact Kd.V_v HO_3.out⟩, ⟨by exact bv HB.out⟩⟩
        ·replace c8 := Bool.eq_false_iff.mpr c8; subst c8; replace H := iff_ H; have H' := q_ H; clear H; have p162 : 0 ≤ (x17_2 : Int) := od; have q162 : x17_2 < (l0.length : Int) := od; obtain ⟨ad162, A162_0, c162_0, e162, hx162_0, hl162_0, hi162_0⟩ := at_L1 HR0.out x17_2 p162 q162; obtain rfl : ad161 = ad162 := (by injection e162); replace hx162_0 := cb_ HB.out hx162_0; have HR162_0 := q_ hi162_0; have HC162_0 := q_ hl162_0; clear hi162_0 hl162_0; replace p162 := eq_true p162; replace q162 := eq_true q162; go_wp2; go_roundg k2
         case measure => have := HK1.out; have := HK2.out; omega
         case rel => exact ⟨(false), (wrap64 (x17_2 + 1)), eqv, eqv, H', ⟨by have := HK1.out; have := HK2.out; omega⟩, ⟨by exact Kd.V_v HO_3.out⟩, ⟨by exact bv HB.out⟩⟩
       ·rw [if_neg c5] at H; have c5b0 : decide (x17_2 < (l0.length : Int)) = false := decide_eq_false c5; clear c5
        by_cases c12 : x6_2 = true
        ·subst c12; replace H := itt_ H; obtain ⟨t165, A13, H⟩ := bnd_ H; obtain ⟨t168, A14, H⟩ := bnd_ H; have H' := q_ H; clear H; go_wp2_with (first | (refine goesM (some 37) rfl rfl Try.func75 #[.slice A161_0 (rd_L1 l0 x11_1).length c161_0] rfl ?_; (with_reducible refine (spec_l1Own.calls _ _ (rd_L1 l0 x11_1) t165 _ ?side1 ?side2 A13.out).mono ?_); (case side1 => exact Kd.C_v ((Kd.C_below HR161_0.out HB.out))); (case side2 => exact HC161_0.out); rintro e w15 ⟨v166, rfl, ho0, hb⟩; refine ⟨_, rfl, ?_⟩; have HO167 := q_ (Kd.R_lower (Kd.R_newM (M := fun k_ => (w.heap.size ≤ k_)) ho0 (below_size (by exact bv HB.out)) (fun k_ h_ => h_)) (below_size (by exact bv HB.out))); replace HO_3 := q_ (Kd.V_elder' (by exact Kd.V_v HO_3.out) (Kd.R_base ho0) hb); replace HB := q_ (below_step (by exact bv HB.out) hb); (try clear hb); (try clear hb2); (try clear hk); (try clear hi); (try clear ho0); obtain ⟨Ao16, co16, eo16⟩ := Kd.V_slice HO_3.out; subst eo16; obtain ⟨Ao17, co17, eo17⟩ := Kd.R_slice HO167.out; subst eo17) | (refine goesM (some 38) rfl rfl Try.func74 #[.slice Ao16 x3_1.length co16, .slice Ao17 t165.length co17] rfl ?_; (with_reducible refine (spec_l1InOrder.calls k2 (fun k_ => ((w.heap.size ≤ k_) ∧ some k_ ≠ (.slice Ao17 t165.length co17 : Value).ownBlock)) _ _ x3_1 (fun k_ => some k_ = (.slice Ao17 t165.length co17 : Value).ownBlock) _ _ t165 t168 _ ?side1 ?side2 A14.out).mono ?_); (case side1 => exact HO_3.out); (case side2 => exact Kd.R_V (Kd.R_tight rfl (HO167.out))); rintro e w18 ⟨v169, rfl, ho0, hb⟩; refine ⟨_, rfl, ?_⟩; have HO170 := q_ (Kd.V_lower (Kd.V_mono (ok' := fun k_ => (w.heap.size ≤ k_)) ho0 (fun k_ hk_ => Or.elim hk_ (fun hs_ => Or.elim hs_ (fun hs_ => hs_.1) (fun hs_ => ((HO167.out).1 k_ hs_.symm).1)) (fun hn_ => (Nat.le_trans (below_size (by exact bv HB.out)) hn_)))) (below_size (by exact bv HB.out))); replace HO_3 := q_ (Kd.V_below (by exact Kd.V_v HO_3.out) hb); replace HO167 := q_ (Kd.R_below (by exact Kd.R_v HO167.out) hb); replace HB := q_ (below_step (by exact bv HB.out) hb); (try clear hb); (try clear hb2); (try clear hk); (try clear hi); (try clear ho0))); go_roundg k2
         case measure => have := HK1.out; have := HK2.out; omega
         case rel => exact ⟨(t168), (wrap64 (x11_1 + 1)), eqv, H', ⟨by have := HK1.out; have := HK2.out; omega⟩, ⟨by exact Kd.V_v HO170.out⟩, ⟨by exact bv HB.out⟩⟩
        ·replace c12 := Bool.eq_false_iff.mpr c12; subst c12; replace H := iff_ H; have H' := q_ H; clear H; go_wp2; go_roundg k2
         case measure => have := HK1.out; have := HK2.out; omega
         case rel => exact ⟨(x3_1), (wrap64 (x11_1 + 1)), eqv, H', ⟨by have := HK1.out; have := HK2.out; omega⟩, ⟨by exact Kd.V_v HO_3.out⟩, ⟨by exact bv HB.out⟩⟩
    ·rw [if_neg c2] at H; have c2b0 : decide (x11_1 < (l0.length : Int)) = false := decide_eq_false c2; clear c2; obtain rfl := Option.some.inj H; go_wp2; go_ret; exact ⟨_, by first | rfl | (simp [errW_none, errW_some] <;> rfl) | (simp [*, errW_none, errW_some] <;> rfl), by exact Kd.V_v HO_3.out, by exact bv HB.out⟩

/-! ### spec_l1Has: function 122 -/
def spec_l1Has.l0 : Nat → Int → List Int → Int → Int → Option (Bool)
  | 0, _, _, _, _ => none
  | k + 1, x1, x7, x8, x9 => if x9 < x8 then (if 0 ≤ x9 then (if x9 < (x7.length : Int) then (if (rd x7 x9) = x1 then (some true) else (spec_l1Has.l0 k x1 x7 x8 (wrap64 (x9 + 1)))) else (none)) else (none)) else (some false)
def spec_l1Has.f (k : Nat) (l0 : List Int) (a1 : Int) : Option (Bool) := spec_l1Has.l0 k a1 l0 (l0.length : Int) 0
set_option maxHeartbeats 8000000 in
set_option maxRecDepth 100000 in
theorem spec_l1Has.calls (k : Nat) (A0 : Option Addr) (c0 : Nat) (l0 : List Int) (a1 : Int) (r : Bool) (w : World) (hr0 : Kd.C (Kd.int .i64) w A0 l0.length l0) (hc0 : l0.length ≤ c0) (h : spec_l1Has.f k l0 a1 = some r) :
    Calls Try.prog 122 #[.slice A0 l0.length c0, .int .i64 a1] w fun e w' => e = .returned (.bool r) ∧ Drawn0 w w' := by
  have HR0 := q_ hr0; have HC0 := q_ hc0; clear hr0 hc0; have H : (spec_l1Has.l0 k a1 l0 (l0.length : Int) 0) = some r := h; clear h; have H' := q_ H; clear H; go_enter Try.func122, Try.ntmps122; go_wp2; go_loopg [9] k (fun kq v9 w' => ∃ (x9_1 : Int), v9 = .int .i64 x9_1 ∧ Aside0 (spec_l1Has.l0 kq a1 l0 (l0.length : Int) x9_1 = some r) ∧ Aside0 (kq ≤ k) ∧ Drawn0 w w')
  case atStart => exact ⟨(0), eqv, H', ⟨Nat.le_refl _⟩, by repeat (first | exact Drawn0.refl _ | apply Drawn0.step)⟩
  case round =>
   clear H'; obtain ⟨x9_1, rfl, HA, HK1, ⟨m1, rfl⟩⟩ := hrel
   cases gk with
   | zero => exact absurd HA.out (by simp [spec_l1Has.l0])
   | succ k1 =>
    have H := HA.out; clear HA; simp only [spec_l1Has.l0] at H
    by_cases c3 : x9_1 < (l0.length : Int)
    ·rw [if_pos c3] at H; have c3b0 : decide (x9_1 < (l0.length : Int)) = true := decide_eq_true c3; clear c3
     obtain ⟨c4, H⟩ := ifp_ H; have c4b0 : decide (0 ≤ x9_1) = true := decide_eq_true c4; clear c4
     obtain ⟨c5, H⟩ := ifp_ H; have c5b0 : decide (x9_1 < (l0.length : Int)) = true := decide_eq_true c5; clear c5
     by_cases c6 : (rd l0 x9_1) = a1
     ·rw [if_pos c6] at H; have c6b0 : ((rd l0 x9_1) == a1) = true := beq_iff_eq.mpr c6; have c6b1 : ((rd l0 x9_1) != a1) = false := bne_eq_false_iff_eq.mpr c6; clear c6; obtain rfl := Option.some.inj H; have p171 : 0 ≤ (x9_1 : Int) := od; have q171 : x9_1 < (l0.length : Int) := od; obtain ⟨ad171, e171, hx171_0⟩ := Kd.at_int HR0.out x9_1 p171 q171
      cases e171
      replace p171 := eq_true p171; replace q171 := eq_true q171; go_wp2; go_ret; exact ⟨by first | rfl | (simp; done) | (simp [*]; done), by repeat (first | exact Drawn0.refl _ | apply Drawn0.step)⟩
     ·rw [if_neg c6] at H; have c6b0 : ((rd l0 x9_1) == a1) = false := beq_eq_false_iff_ne.mpr c6; have c6b1 : ((rd l0 x9_1) != a1) = true := bne_iff_ne.mpr c6; have H' := q_ H; clear H; have p171 : 0 ≤ (x9_1 : Int) := od; have q171 : x9_1 < (l0.length : Int) := od; obtain ⟨ad171, e171, hx171_0⟩ := Kd.at_int HR0.out x9_1 p171 q171
      cases e171
      replace p171 := eq_true p171; replace q171 := eq_true q171; go_wp2; go_roundg k1
      case measure => have := HK1.out; omega
      case rel => exact ⟨(wrap64 (x9_1 + 1)), eqv, H', ⟨by have := HK1.out; omega⟩, by repeat (first | exact Drawn0.refl _ | apply Drawn0.step)⟩
    ·rw [if_neg c3] at H; have c3b0 : decide (x9_1 < (l0.length : Int)) = false := decide_eq_false c3; clear c3; obtain rfl := Option.some.inj H; go_wp2; go_ret; exact ⟨by first | rfl | (simp; done) | (simp [*]; done), by repeat (first | exact Drawn0.refl _ | apply Drawn0.step)⟩

/-! ### spec_l1Most: function 123 -/
def spec_l1Most.f (a0 : Int) (a1 : Int) : Option (Int) := if a0 > a1 then (some a0) else (some a1)
set_option maxHeartbeats 8000000 in
set_option maxRecDepth 100000 in
theorem spec_l1Most.calls (a0 : Int) (a1 : Int) (r : Int) (w : World) (h : spec_l1Most.f a0 a1 = some r) :
    Calls Try.prog 123 #[.int .i64 a0, .int .i64 a1] w fun e w' => e = .returned (.int .i64 r) ∧ Drawn0 w w' := by
  have H : (if a0 > a1 then (some a0) else (some a1)) = some r := h; clear h
  by_cases c3 : a0 > a1
  ·rw [if_pos c3] at H; have c3b0 : decide (a1 < a0) = true := decide_eq_true c3; clear c3; obtain rfl := Option.some.inj H; go_enter Try.func123, Try.ntmps123; go_wp2; go_ret; exact ⟨by first | rfl | (simp; done) | (simp [*]; done), by repeat (first | exact Drawn0.refl _ | apply Drawn0.step)⟩
  ·rw [if_neg c3] at H; have c3b0 : decide (a1 < a0) = false := decide_eq_false c3; clear c3; obtain rfl := Option.some.inj H; go_enter Try.func123, Try.ntmps123; go_wp2; go_ret; exact ⟨by first | rfl | (simp; done) | (simp [*]; done), by repeat (first | exact Drawn0.refl _ | apply Drawn0.step)⟩

end Go.Proofs.Ytiglhdibibbkjaa.F
