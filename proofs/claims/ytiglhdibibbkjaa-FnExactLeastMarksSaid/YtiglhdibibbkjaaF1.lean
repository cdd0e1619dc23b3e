-- Written by a program of this session (fork.py, fprint.sh). Lean checks it.
import Derived.Test.YtiglhdibibbkjaaF0
namespace Go.Proofs.Ytiglhdibibbkjaa.F
open Go.RowKit Go.Proofs.YtiglhdibibbkjaaW.PrintWords Go.Proofs.YtiglhdibibbkjaaW.PrintLast Go.Proofs.YtiglhdibibbkjaaW.PrintMore
attribute [local go_sem] max2_int min2_int max_two min_two max_three min_three max_four min_four   -- for this text's walks alone
set_option linter.unusedVariables false
set_option linter.unusedSimpArgs false

/-! ### laws_szIntS: function 41 -/
def laws_szIntS.f (l0 : List Int) (a1 : Int) : Option (Int) := if (wrap64 (a1 - (l0.length : Int))) < 0 then (some (-1)) else (some (wrap64 (a1 - (l0.length : Int))))
set_option maxHeartbeats 8000000 in
set_option maxRecDepth 100000 in
theorem laws_szIntS.calls (A0 : Option Addr) (c0 : Nat) (l0 : List Int) (a1 : Int) (r : Int) (w : World) (hr0 : Kd.C (Kd.int .i64) w A0 l0.length l0) (hc0 : l0.length ≤ c0) (h : laws_szIntS.f l0 a1 = some r) :
    Calls Try.prog 41 #[.slice A0 l0.length c0, .int .i64 a1] w fun e w' => e = .returned (.int .i64 r) ∧ Drawn0 w w' := by
  have HR0 := q_ hr0; have HC0 := q_ hc0; clear hr0 hc0; have H : (if (wrap64 (a1 - (l0.length : Int))) < 0 then (some (-1)) else (some (wrap64 (a1 - (l0.length : Int))))) = some r := h; clear h
  by_cases c3 : (wrap64 (a1 - (l0.length : Int))) < 0
  ·rw [if_pos c3] at H; have c3b0 : decide ((wrap64 (a1 - (l0.length : Int))) < 0) = true := decide_eq_true c3; clear c3; obtain rfl := Option.some.inj H; go_enter Try.func41, Try.ntmps41; go_wp2; go_ret; exact ⟨by first | rfl | (simp; done) | (simp [*]; done), by repeat (first | exact Drawn0.refl _ | apply Drawn0.step)⟩
  ·rw [if_neg c3] at H; have c3b0 : decide ((wrap64 (a1 - (l0.length : Int))) < 0) = false := decide_eq_false c3; clear c3; obtain rfl := Option.some.inj H; go_enter Try.func41, Try.ntmps41; go_wp2; go_ret; exact ⟨by first | rfl | (simp; done) | (simp [*]; done), by repeat (first | exact Drawn0.refl _ | apply Drawn0.step)⟩

/-! ### laws_szIntSS: function 9 -/
def laws_szIntSS.l0 : Nat → List (List Int) → Int → Int → Option (Int)
  | 0, _, _, _ => none
  | k + 1, x0, x1, x5 => if x5 < (x0.length : Int) then (if 0 ≤ x5 then ((laws_szIntS.f (rd_L1 x0 x5) x1).bind fun t102 => (if t102 < 0 then (some (-1)) else (laws_szIntSS.l0 k x0 t102 (wrap64 (x5 + 1))))) else (none)) else (some x1)
def laws_szIntSS.f (k : Nat) (l0 : List (List Int)) (a1 : Int) : Option (Int) := if (wrap64 (a1 - (l0.length : Int))) < 0 then (some (-1)) else (laws_szIntSS.l0 k l0 (wrap64 (a1 - (l0.length : Int))) 0)
set_option maxHeartbeats 8000000 in
set_option maxRecDepth 100000 in
theorem laws_szIntSS.calls (k : Nat) (A0 : Option Addr) (c0 : Nat) (l0 : List (List Int)) (a1 : Int) (r : Int) (w : World) (hr0 : Kd.C (Kd.slice 3 (Kd.int .i64)) w A0 l0.length l0) (hc0 : l0.length ≤ c0) (h : laws_szIntSS.f k l0 a1 = some r) :
    Calls Try.prog 9 #[.slice A0 l0.length c0, .int .i64 a1] w fun e w' => e = .returned (.int .i64 r) ∧ Drawn0 w w' := by
  have HR0 := q_ hr0; have HC0 := q_ hc0; clear hr0 hc0; have H : (if (wrap64 (a1 - (l0.length : Int))) < 0 then (some (-1)) else (laws_szIntSS.l0 k l0 (wrap64 (a1 - (l0.length : Int))) 0)) = some r := h; clear h
  by_cases c3 : (wrap64 (a1 - (l0.length : Int))) < 0
  ·rw [if_pos c3] at H; have c3b0 : decide ((wrap64 (a1 - (l0.length : Int))) < 0) = true := decide_eq_true c3; clear c3; obtain rfl := Option.some.inj H; go_enter Try.func9, Try.ntmps9; go_wp2; go_ret; exact ⟨by first | rfl | (simp; done) | (simp [*]; done), by repeat (first | exact Drawn0.refl _ | apply Drawn0.step)⟩
  ·rw [if_neg c3] at H; have c3b0 : decide ((wrap64 (a1 - (l0.length : Int))) < 0) = false := decide_eq_false c3; clear c3; have H' := q_ H; clear H; go_enter Try.func9, Try.ntmps9; go_wp2; go_loopg [1, 5] k (fun kq v1 v5 w' => ∃ (x1_1 : Int) (x5_1 : Int), v1 = .int .i64 x1_1 ∧ v5 = .int .i64 x5_1 ∧ Aside0 (laws_szIntSS.l0 kq l0 x1_1 x5_1 = some r) ∧ Aside0 (kq ≤ k) ∧ Drawn0 w w')
   case atStart => exact ⟨(wrap64 (a1 - (l0.length : Int))), (0), eqv, eqv, H', ⟨Nat.le_refl _⟩, by repeat (first | exact Drawn0.refl _ | apply Drawn0.step)⟩
   case round =>
    clear H'; (try clear c3b0); obtain ⟨x1_1, x5_1, rfl, rfl, HA, HK1, ⟨m1, rfl⟩⟩ := hrel
    cases gk with
    | zero => exact absurd HA.out (by simp [laws_szIntSS.l0])
    | succ k1 =>
     have H := HA.out; clear HA; simp only [laws_szIntSS.l0] at H
     by_cases c4 : x5_1 < (l0.length : Int)
     ·rw [if_pos c4] at H; have c4b0 : decide (x5_1 < (l0.length : Int)) = true := decide_eq_true c4; clear c4
      obtain ⟨c5, H⟩ := ifp_ H; have c5b0 : decide (0 ≤ x5_1) = true := decide_eq_true c5; clear c5; obtain ⟨t102, A6, H⟩ := bnd_ H; have HC7 := q_ H; clear H; have p101 : 0 ≤ (x5_1 : Int) := od; have q101 : x5_1 < (l0.length : Int) := od; obtain ⟨ad101, A101_0, c101_0, e101, hx101_0, hl101_0, hi101_0⟩ := at_L1 HR0.out x5_1 p101 q101
      cases e101
      have HR101_0 := q_ hi101_0; have HC101_0 := q_ hl101_0; clear hi101_0 hl101_0; replace p101 := eq_true p101; replace q101 := eq_true q101
      go_upto_if 25 with (first | (refine goesM (some 23) rfl rfl Try.func41 #[.slice A101_0 (rd_L1 l0 x5_1).length c101_0, .int .i64 x1_1] rfl ?_; (with_reducible refine (laws_szIntS.calls _ _ (rd_L1 l0 x5_1) x1_1 t102 _ ?side1 ?side2 A6.out).mono ?_); (case side1 => exact Kd.C_v HR101_0.out); (case side2 => exact HC101_0.out); rintro e w' ⟨rfl, ⟨nd, rfl⟩⟩; refine ⟨_, rfl, ?_⟩))
      (try simp only [Act.put, List.setIfInBounds_toArray, List.set_cons_zero, List.set_cons_succ]); have H := HC7.out; clear HC7
      by_cases c8 : t102 < 0
      ·rw [if_pos c8] at H; have c8b0 : decide (t102 < 0) = true := decide_eq_true c8; clear c8; (first | rw [c8b0] | (simp only [i64_w, i32_w]; rw [c8b0]) | skip); obtain rfl := Option.some.inj H; go_wp2; go_ret; exact ⟨by first | rfl | (simp; done) | (simp [*]; done), by repeat (first | exact Drawn0.refl _ | apply Drawn0.step)⟩
      ·rw [if_neg c8] at H; have c8b0 : decide (t102 < 0) = false := decide_eq_false c8; clear c8; (first | rw [c8b0] | (simp only [i64_w, i32_w]; rw [c8b0]) | skip); have H' := q_ H; clear H; go_wp2; go_roundg k1
       case measure => have := HK1.out; omega
       case rel => exact ⟨(t102), (wrap64 (x5_1 + 1)), eqv, eqv, H', ⟨by have := HK1.out; omega⟩, by repeat (first | exact Drawn0.refl _ | apply Drawn0.step)⟩
     ·rw [if_neg c4] at H; have c4b0 : decide (x5_1 < (l0.length : Int)) = false := decide_eq_false c4; clear c4; obtain rfl := Option.some.inj H; go_wp2; go_ret; exact ⟨by first | rfl | (simp; done) | (simp [*]; done), by repeat (first | exact Drawn0.refl _ | apply Drawn0.step)⟩

/-! ### spec_l1In: function 71 -/
def spec_l1In.f (a0 : Int) (a1 : Int) (a2 : Int) : Option (Bool) := if a0 ≥ a1 then (some (decide (a0 ≤ a2))) else (some false)
set_option maxHeartbeats 8000000 in
set_option maxRecDepth 100000 in
theorem spec_l1In.calls (a0 : Int) (a1 : Int) (a2 : Int) (r : Bool) (w : World) (h : spec_l1In.f a0 a1 a2 = some r) :
    Calls Try.prog 71 #[.int .i64 a0, .int .i64 a1, .int .i64 a2] w fun e w' => e = .returned (.bool r) ∧ Drawn0 w w' := by
  have H : (if a0 ≥ a1 then (some (decide (a0 ≤ a2))) else (some false)) = some r := h; clear h
  by_cases c4 : a0 ≥ a1
  ·rw [if_pos c4] at H; have c4b0 : decide (a1 ≤ a0) = true := decide_eq_true c4; clear c4; obtain rfl := Option.some.inj H; go_enter Try.func71, Try.ntmps71; go_wp2; go_ret; exact ⟨by first | rfl | (simp; done) | (simp [*]; done), by repeat (first | exact Drawn0.refl _ | apply Drawn0.step)⟩
  ·rw [if_neg c4] at H; have c4b0 : decide (a1 ≤ a0) = false := decide_eq_false c4; clear c4; obtain rfl := Option.some.inj H; go_enter Try.func71, Try.ntmps71; go_wp2; go_ret; exact ⟨by first | rfl | (simp; done) | (simp [*]; done), by repeat (first | exact Drawn0.refl _ | apply Drawn0.step)⟩

/-! ### spec_l1Places: function 42 -/
def spec_l1Places.f (a0 : Int) : Option (Bool) := (spec_l1In.f a0 1 16).bind fun t103 => (some t103)
set_option maxHeartbeats 8000000 in
set_option maxRecDepth 100000 in
theorem spec_l1Places.calls (a0 : Int) (r : Bool) (w : World) (h : spec_l1Places.f a0 = some r) :
    Calls Try.prog 42 #[.int .i64 a0] w fun e w' => e = .returned (.bool r) ∧ Drawn0 w w' := by
  have H : ((spec_l1In.f a0 1 16).bind fun t103 => (some t103)) = some r := h; clear h; obtain ⟨t103, A2, H⟩ := bnd_ H; obtain rfl := Option.some.inj H; go_enter Try.func42, Try.ntmps42; go_wp2_with (first | (refine goesM (some 4) rfl rfl Try.func71 #[.int .i64 a0, .int .i64 1, .int .i64 16] rfl ?_; (with_reducible refine (spec_l1In.calls a0 1 16 t103 _ A2.out).mono ?_); rintro e w' ⟨rfl, ⟨nd, rfl⟩⟩; refine ⟨_, rfl, ?_⟩)); go_ret; exact ⟨by first | rfl | (simp; done) | (simp [*]; done), by repeat (first | exact Drawn0.refl _ | apply Drawn0.step)⟩

/-! ### spec_l1All: function 72 -/
def spec_l1All.l0 : Nat → Int → Int → List Int → Int → Int → Option (Bool)
  | 0, _, _, _, _, _ => none
  | k + 1, x1, x2, x9, x10, x11 => if x11 < x10 then (if 0 ≤ x11 then (if x11 < (x9.length : Int) then ((spec_l1In.f (rd x9 x11) x1 x2).bind fun t105 => (if t105 = true then (spec_l1All.l0 k x1 x2 x9 x10 (wrap64 (x11 + 1))) else (some false))) else (none)) else (none)) else (some true)
def spec_l1All.f (k : Nat) (l0 : List Int) (a1 : Int) (a2 : Int) : Option (Bool) := spec_l1All.l0 k a1 a2 l0 (l0.length : Int) 0
set_option maxHeartbeats 8000000 in
set_option maxRecDepth 100000 in
theorem spec_l1All.calls (k : Nat) (A0 : Option Addr) (c0 : Nat) (l0 : List Int) (a1 : Int) (a2 : Int) (r : Bool) (w : World) (hr0 : Kd.C (Kd.int .i64) w A0 l0.length l0) (hc0 : l0.length ≤ c0) (h : spec_l1All.f k l0 a1 a2 = some r) :
    Calls Try.prog 72 #[.slice A0 l0.length c0, .int .i64 a1, .int .i64 a2] w fun e w' => e = .returned (.bool r) ∧ Drawn0 w w' := by
  have HR0 := q_ hr0; have HC0 := q_ hc0; clear hr0 hc0; have H : (spec_l1All.l0 k a1 a2 l0 (l0.length : Int) 0) = some r := h; clear h; have H' := q_ H; clear H; go_enter Try.func72, Try.ntmps72; go_wp2; go_loopg [11] k (fun kq v11 w' => ∃ (x11_1 : Int), v11 = .int .i64 x11_1 ∧ Aside0 (spec_l1All.l0 kq a1 a2 l0 (l0.length : Int) x11_1 = some r) ∧ Aside0 (kq ≤ k) ∧ Drawn0 w w')
  case atStart => exact ⟨(0), eqv, H', ⟨Nat.le_refl _⟩, by repeat (first | exact Drawn0.refl _ | apply Drawn0.step)⟩
  case round =>
   clear H'; obtain ⟨x11_1, rfl, HA, HK1, ⟨m1, rfl⟩⟩ := hrel
   cases gk with
   | zero => exact absurd HA.out (by simp [spec_l1All.l0])
   | succ k1 =>
    have H := HA.out; clear HA; simp only [spec_l1All.l0] at H
    by_cases c4 : x11_1 < (l0.length : Int)
    ·rw [if_pos c4] at H; have c4b0 : decide (x11_1 < (l0.length : Int)) = true := decide_eq_true c4; clear c4
     obtain ⟨c5, H⟩ := ifp_ H; have c5b0 : decide (0 ≤ x11_1) = true := decide_eq_true c5; clear c5
     obtain ⟨c6, H⟩ := ifp_ H; have c6b0 : decide (x11_1 < (l0.length : Int)) = true := decide_eq_true c6; clear c6; obtain ⟨t105, A7, H⟩ := bnd_ H; have HC8 := q_ H; clear H; have p104 : 0 ≤ (x11_1 : Int) := od; have q104 : x11_1 < (l0.length : Int) := od; obtain ⟨ad104, e104, hx104_0⟩ := Kd.at_int HR0.out x11_1 p104 q104
     cases e104
     replace p104 := eq_true p104; replace q104 := eq_true q104
     go_upto_if 19 with (first | (refine goesM (some 18) rfl rfl Try.func71 #[.int .i64 (rd l0 x11_1), .int .i64 a1, .int .i64 a2] rfl ?_; (with_reducible refine (spec_l1In.calls (rd l0 x11_1) a1 a2 t105 _ A7.out).mono ?_); rintro e w' ⟨rfl, ⟨nd, rfl⟩⟩; refine ⟨_, rfl, ?_⟩))
     (try simp only [Act.put, List.setIfInBounds_toArray, List.set_cons_zero, List.set_cons_succ]); have H := HC8.out; clear HC8
     by_cases c9 : t105 = true
     ·subst c9; replace H := itt_ H; have H' := q_ H; clear H; go_wp2; go_roundg k1
      case measure => have := HK1.out; omega
      case rel => exact ⟨(wrap64 (x11_1 + 1)), eqv, H', ⟨by have := HK1.out; omega⟩, by repeat (first | exact Drawn0.refl _ | apply Drawn0.step)⟩
     ·replace c9 := Bool.eq_false_iff.mpr c9; subst c9; replace H := iff_ H; obtain rfl := Option.some.inj H; go_wp2; go_ret; exact ⟨by first | rfl | (simp; done) | (simp [*]; done), by repeat (first | exact Drawn0.refl _ | apply Drawn0.step)⟩
    ·rw [if_neg c4] at H; have c4b0 : decide (x11_1 < (l0.length : Int)) = false := decide_eq_false c4; clear c4; obtain rfl := Option.some.inj H; go_wp2; go_ret; exact ⟨by first | rfl | (simp; done) | (simp [*]; done), by repeat (first | exact Drawn0.refl _ | apply Drawn0.step)⟩

/-! ### spec_GoodMark: function 43 -/
def spec_GoodMark.f (k : Nat) (a0 : Int) (l1 : List Int) : Option (Bool) := (spec_l1Places.f a0).bind fun t106 => (if t106 = true then (if (l1.length : Int) = a0 then ((spec_l1All.f k l1 0 50).bind fun t107 => (some t107)) else (some false)) else (some false))
set_option maxHeartbeats 8000000 in
set_option maxRecDepth 100000 in
theorem spec_GoodMark.calls (k : Nat) (a0 : Int) (A1 : Option Addr) (c1 : Nat) (l1 : List Int) (r : Bool) (w : World) (hr1 : Kd.C (Kd.int .i64) w A1 l1.length l1) (hc1 : l1.length ≤ c1) (h : spec_GoodMark.f k a0 l1 = some r) :
    Calls Try.prog 43 #[.int .i64 a0, .slice A1 l1.length c1] w fun e w' => e = .returned (.bool r) ∧ Drawn0 w w' := by
  have HR1 := q_ hr1; have HC1 := q_ hc1; clear hr1 hc1; have H : ((spec_l1Places.f a0).bind fun t106 => (if t106 = true then (if (l1.length : Int) = a0 then ((spec_l1All.f k l1 0 50).bind fun t107 => (some t107)) else (some false)) else (some false))) = some r := h; clear h; obtain ⟨t106, A3, H⟩ := bnd_ H
  by_cases c4 : t106 = true
  ·subst c4; replace H := itt_ H
   by_cases c5 : (l1.length : Int) = a0
   ·rw [if_pos c5] at H; have c5b0 : ((l1.length : Int) == a0) = true := beq_iff_eq.mpr c5; have c5b1 : ((l1.length : Int) != a0) = false := bne_eq_false_iff_eq.mpr c5; clear c5; obtain ⟨t107, A6, H⟩ := bnd_ H; obtain rfl := Option.some.inj H; go_enter Try.func43, Try.ntmps43; go_wp2_with (first | (refine goesM (some 6) rfl rfl Try.func42 #[.int .i64 a0] rfl ?_; (with_reducible refine (spec_l1Places.calls a0 true _ A3.out).mono ?_); rintro e w' ⟨rfl, ⟨nd, rfl⟩⟩; refine ⟨_, rfl, ?_⟩) | (go_at_call 72; (with_reducible refine (spec_l1All.calls k _ _ l1 0 50 t107 _ ?side1 ?side2 A6.out).mono ?_); (case side1 => exact Kd.C_v HR1.out); (case side2 => exact HC1.out); rintro e w' ⟨rfl, ⟨nd, rfl⟩⟩)); go_ret; exact ⟨by first | rfl | (simp; done) | (simp [*]; done), by repeat (first | exact Drawn0.refl _ | apply Drawn0.step)⟩
   ·rw [if_neg c5] at H; have c5b0 : ((l1.length : Int) == a0) = false := beq_eq_false_iff_ne.mpr c5; have c5b1 : ((l1.length : Int) != a0) = true := bne_iff_ne.mpr c5; obtain rfl := Option.some.inj H; go_enter Try.func43, Try.ntmps43; go_wp2_with (first | (refine goesM (some 6) rfl rfl Try.func42 #[.int .i64 a0] rfl ?_; (with_reducible refine (spec_l1Places.calls a0 true _ A3.out).mono ?_); rintro e w' ⟨rfl, ⟨nd, rfl⟩⟩; refine ⟨_, rfl, ?_⟩)); go_ret; exact ⟨by first | rfl | (simp; done) | (simp [*]; done), by repeat (first | exact Drawn0.refl _ | apply Drawn0.step)⟩
  ·replace c4 := Bool.eq_false_iff.mpr c4; subst c4; replace H := iff_ H; obtain rfl := Option.some.inj H; go_enter Try.func43, Try.ntmps43; go_wp2_with (first | (refine goesM (some 6) rfl rfl Try.func42 #[.int .i64 a0] rfl ?_; (with_reducible refine (spec_l1Places.calls a0 false _ A3.out).mono ?_); rintro e w' ⟨rfl, ⟨nd, rfl⟩⟩; refine ⟨_, rfl, ?_⟩)); go_ret; exact ⟨by first | rfl | (simp; done) | (simp [*]; done), by repeat (first | exact Drawn0.refl _ | apply Drawn0.step)⟩

/-! ### spec_l1Covers: function 49 -/
def spec_l1Covers.l0 : Nat → List Int → List Int → Int → Int → Option (Bool)
  | 0, _, _, _, _ => none
  | k + 1, x0, x7, x8, x9 => if x9 < x8 then (if 0 ≤ x9 then (if x9 < (x7.length : Int) then (if x9 < (x0.length : Int) then (if (rd x0 x9) < (rd x7 x9) then (some false) else (spec_l1Covers.l0 k x0 x7 x8 (wrap64 (x9 + 1)))) else (none)) else (none)) else (none)) else (some true)
def spec_l1Covers.f (k : Nat) (l0 : List Int) (l1 : List Int) : Option (Bool) := spec_l1Covers.l0 k l0 l1 (l1.length : Int) 0
set_option maxHeartbeats 8000000 in
set_option maxRecDepth 100000 in
theorem spec_l1Covers.calls (k : Nat) (A0 : Option Addr) (c0 : Nat) (l0 : List Int) (A1 : Option Addr) (c1 : Nat) (l1 : List Int) (r : Bool) (w : World) (hr0 : Kd.C (Kd.int .i64) w A0 l0.length l0) (hc0 : l0.length ≤ c0) (hr1 : Kd.C (Kd.int .i64) w A1 l1.length l1) (hc1 : l1.length ≤ c1) (h : spec_l1Covers.f k l0 l1 = some r) :
    Calls Try.prog 49 #[.slice A0 l0.length c0, .slice A1 l1.length c1] w fun e w' => e = .returned (.bool r) ∧ Drawn0 w w' := by
  have HR0 := q_ hr0; have HC0 := q_ hc0; clear hr0 hc0; have HR1 := q_ hr1; have HC1 := q_ hc1; clear hr1 hc1; have H : (spec_l1Covers.l0 k l0 l1 (l1.length : Int) 0) = some r := h; clear h; have H' := q_ H; clear H; go_enter Try.func49, Try.ntmps49; go_wp2; go_loopg [9] k (fun kq v9 w' => ∃ (x9_1 : Int), v9 = .int .i64 x9_1 ∧ Aside0 (spec_l1Covers.l0 kq l0 l1 (l1.length : Int) x9_1 = some r) ∧ Aside0 (kq ≤ k) ∧ Drawn0 w w')
  case atStart => exact ⟨(0), eqv, H', ⟨Nat.le_refl _⟩, by repeat (first | exact Drawn0.refl _ | apply Drawn0.step)⟩
  case round =>
   clear H'; obtain ⟨x9_1, rfl, HA, HK1, ⟨m1, rfl⟩⟩ := hrel
   cases gk with
   | zero => exact absurd HA.out (by simp [spec_l1Covers.l0])
   | succ k1 =>
    have H := HA.out; clear HA; simp only [spec_l1Covers.l0] at H
    by_cases c3 : x9_1 < (l1.length : Int)
    ·rw [if_pos c3] at H; have c3b0 : decide (x9_1 < (l1.length : Int)) = true := decide_eq_true c3; clear c3
     obtain ⟨c4, H⟩ := ifp_ H; have c4b0 : decide (0 ≤ x9_1) = true := decide_eq_true c4; clear c4
     obtain ⟨c5, H⟩ := ifp_ H; have c5b0 : decide (x9_1 < (l1.length : Int)) = true := decide_eq_true c5; clear c5
     obtain ⟨c6, H⟩ := ifp_ H; have c6b0 : decide (x9_1 < (l0.length : Int)) = true := decide_eq_true c6; clear c6
     by_cases c7 : (rd l0 x9_1) < (rd l1 x9_1)
     ·rw [if_pos c7] at H; have c7b0 : decide ((rd l0 x9_1) < (rd l1 x9_1)) = true := decide_eq_true c7; clear c7; obtain rfl := Option.some.inj H; have p108 : 0 ≤ (x9_1 : Int) := od; have q108 : x9_1 < (l1.length : Int) := od; obtain ⟨ad108, e108, hx108_0⟩ := Kd.at_int HR1.out x9_1 p108 q108
      cases e108
      replace p108 := eq_true p108; replace q108 := eq_true q108; have p109 : 0 ≤ (x9_1 : Int) := od; have q109 : x9_1 < (l0.length : Int) := od; obtain ⟨ad109, e109, hx109_0⟩ := Kd.at_int HR0.out x9_1 p109 q109
      cases e109
      replace p109 := eq_true p109; replace q109 := eq_true q109; go_wp2; go_ret; exact ⟨by first | rfl | (simp; done) | (simp [*]; done), by repeat (first | exact Drawn0.refl _ | apply Drawn0.step)⟩
     ·rw [if_neg c7] at H; have c7b0 : decide ((rd l0 x9_1) < (rd l1 x9_1)) = false := decide_eq_false c7; clear c7; have H' := q_ H; clear H; have p108 : 0 ≤ (x9_1 : Int) := od; have q108 : x9_1 < (l1.length : Int) := od; obtain ⟨ad108, e108, hx108_0⟩ := Kd.at_int HR1.out x9_1 p108 q108
      cases e108
      replace p108 := eq_true p108; replace q108 := eq_true q108; have p109 : 0 ≤ (x9_1 : Int) := od; have q109 : x9_1 < (l0.length : Int) := od; obtain ⟨ad109, e109, hx109_0⟩ := Kd.at_int HR0.out x9_1 p109 q109
      cases e109
      replace p109 := eq_true p109; replace q109 := eq_true q109; go_wp2; go_roundg k1
      case measure => have := HK1.out; omega
      case rel => exact ⟨(wrap64 (x9_1 + 1)), eqv, H', ⟨by have := HK1.out; omega⟩, by repeat (first | exact Drawn0.refl _ | apply Drawn0.step)⟩
    ·rw [if_neg c3] at H; have c3b0 : decide (x9_1 < (l1.length : Int)) = false := decide_eq_false c3; clear c3; obtain rfl := Option.some.inj H; go_wp2; go_ret; exact ⟨by first | rfl | (simp; done) | (simp [*]; done), by repeat (first | exact Drawn0.refl _ | apply Drawn0.step)⟩

/-! ### spec_l1Same: function 73 -/
def spec_l1Same.l0 : Nat → List Int → List Int → Int → Int → Option (Bool)
  | 0, _, _, _, _ => none
  | k + 1, x0, x1, x12, x13 => if x13 < x12 then (if 0 ≤ x13 then (if x13 < (x0.length : Int) then (if x13 < (x1.length : Int) then (if (rd x0 x13) = (rd x1 x13) then (spec_l1Same.l0 k x0 x1 x12 (wrap64 (x13 + 1))) else (some false)) else (none)) else (none)) else (none)) else (some true)
def spec_l1Same.f (k : Nat) (l0 : List Int) (l1 : List Int) : Option (Bool) := if (l0.length : Int) = (l1.length : Int) then (spec_l1Same.l0 k l0 l1 (l0.length : Int) 0) else (some false)
set_option maxHeartbeats 8000000 in
set_option maxRecDepth 100000 in
theorem spec_l1Same.calls (k : Nat) (A0 : Option Addr) (c0 : Nat) (l0 : List Int) (A1 : Option Addr) (c1 : Nat) (l1 : List Int) (r : Bool) (w : World) (hr0 : Kd.C (Kd.int .i64) w A0 l0.length l0) (hc0 : l0.length ≤ c0) (hr1 : Kd.C (Kd.int .i64) w A1 l1.length l1) (hc1 : l1.length ≤ c1) (h : spec_l1Same.f k l0 l1 = some r) :
    Calls Try.prog 73 #[.slice A0 l0.length c0, .slice A1 l1.length c1] w fun e w' => e = .returned (.bool r) ∧ Drawn0 w w' := by
  have HR0 := q_ hr0; have HC0 := q_ hc0; clear hr0 hc0; have HR1 := q_ hr1; have HC1 := q_ hc1; clear hr1 hc1; have H : (if (l0.length : Int) = (l1.length : Int) then (spec_l1Same.l0 k l0 l1 (l0.length : Int) 0) else (some false)) = some r := h; clear h
  by_cases c3 : (l0.length : Int) = (l1.length : Int)
  ·rw [if_pos c3] at H; have c3b0 : ((l0.length : Int) == (l1.length : Int)) = true := beq_iff_eq.mpr c3; have c3b1 : ((l0.length : Int) != (l1.length : Int)) = false := bne_eq_false_iff_eq.mpr c3; (have c3b2 : (l0.length == l1.length) = true := by first | simpa using c3 | (simp at c3 ⊢; omega)); clear c3; have H' := q_ H; clear H; go_enter Try.func73, Try.ntmps73; go_wp2; (repeat (go_quiet (fail); try go_wp2)); go_loopg [13] k (fun kq v13 w' => ∃ (x13_1 : Int), v13 = .int .i64 x13_1 ∧ Aside0 (spec_l1Same.l0 kq l0 l1 (l0.length : Int) x13_1 = some r) ∧ Aside0 (kq ≤ k) ∧ Drawn0 w w')
   case atStart => exact ⟨(0), eqv, H', ⟨Nat.le_refl _⟩, by repeat (first | exact Drawn0.refl _ | apply Drawn0.step)⟩
   case round =>
    clear H'; (try clear c3b0); (try clear c3b1); (try clear c3b2); obtain ⟨x13_1, rfl, HA, HK1, ⟨m1, rfl⟩⟩ := hrel
    cases gk with
    | zero => exact absurd HA.out (by simp [spec_l1Same.l0])
    | succ k1 =>
     have H := HA.out; clear HA; simp only [spec_l1Same.l0] at H
     by_cases c4 : x13_1 < (l0.length : Int)
     ·rw [if_pos c4] at H; have c4b0 : decide (x13_1 < (l0.length : Int)) = true := decide_eq_true c4; clear c4
      obtain ⟨c5, H⟩ := ifp_ H; have c5b0 : decide (0 ≤ x13_1) = true := decide_eq_true c5; clear c5
      obtain ⟨c6, H⟩ := ifp_ H; have c6b0 : decide (x13_1 < (l0.length : Int)) = true := decide_eq_true c6; clear c6
      obtain ⟨c7, H⟩ := ifp_ H; have c7b0 : decide (x13_1 < (l1.length : Int)) = true := decide_eq_true c7; clear c7
      by_cases c8 : (rd l0 x13_1) = (rd l1 x13_1)
      ·rw [if_pos c8] at H; have c8b0 : ((rd l0 x13_1) == (rd l1 x13_1)) = true := beq_iff_eq.mpr c8; have c8b1 : ((rd l0 x13_1) != (rd l1 x13_1)) = false := bne_eq_false_iff_eq.mpr c8; clear c8; have H' := q_ H; clear H; have p110 : 0 ≤ (x13_1 : Int) := od; have q110 : x13_1 < (l0.length : Int) := od; obtain ⟨ad110, e110, hx110_0⟩ := Kd.at_int HR0.out x13_1 p110 q110
       cases e110
       replace p110 := eq_true p110; replace q110 := eq_true q110; have p111 : 0 ≤ (x13_1 : Int) := od; have q111 : x13_1 < (l1.length : Int) := od; obtain ⟨ad111, e111, hx111_0⟩ := Kd.at_int HR1.out x13_1 p111 q111
       cases e111
       replace p111 := eq_true p111; replace q111 := eq_true q111; go_wp2; (repeat (go_quiet (fail); try go_wp2)); go_roundg k1
       case measure => have := HK1.out; omega
       case rel => exact ⟨(wrap64 (x13_1 + 1)), eqv, H', ⟨by have := HK1.out; omega⟩, by repeat (first | exact Drawn0.refl _ | apply Drawn0.step)⟩
      ·rw [if_neg c8] at H; have c8b0 : ((rd l0 x13_1) == (rd l1 x13_1)) = false := beq_eq_false_iff_ne.mpr c8; have c8b1 : ((rd l0 x13_1) != (rd l1 x13_1)) = true := bne_iff_ne.mpr c8; obtain rfl := Option.some.inj H; have p110 : 0 ≤ (x13_1 : Int) := od; have q110 : x13_1 < (l0.length : Int) := od; obtain ⟨ad110, e110, hx110_0⟩ := Kd.at_int HR0.out x13_1 p110 q110
       cases e110
       replace p110 := eq_true p110; replace q110 := eq_true q110; have p111 : 0 ≤ (x13_1 : Int) := od; have q111 : x13_1 < (l1.length : Int) := od; obtain ⟨ad111, e111, hx111_0⟩ := Kd.at_int HR1.out x13_1 p111 q111
       cases e111
       replace p111 := eq_true p111; replace q111 := eq_true q111; go_wp2; (repeat (go_quiet (fail); try go_wp2)); go_ret; exact ⟨by first | rfl | (simp; done) | (simp [*]; done), by repeat (first | exact Drawn0.refl _ | apply Drawn0.step)⟩
     ·rw [if_neg c4] at H; have c4b0 : decide (x13_1 < (l0.length : Int)) = false := decide_eq_false c4; clear c4; obtain rfl := Option.some.inj H; go_wp2; (repeat (go_quiet (fail); try go_wp2)); go_ret; exact ⟨by first | rfl | (simp; done) | (simp [*]; done), by repeat (first | exact Drawn0.refl _ | apply Drawn0.step)⟩
  ·rw [if_neg c3] at H; have c3b0 : ((l0.length : Int) == (l1.length : Int)) = false := beq_eq_false_iff_ne.mpr c3; have c3b1 : ((l0.length : Int) != (l1.length : Int)) = true := bne_iff_ne.mpr c3; (have c3b2 : (l0.length == l1.length) = false := by first | simpa using c3 | (simp at c3 ⊢; omega)); obtain rfl := Option.some.inj H; go_enter Try.func73, Try.ntmps73; go_wp2; (repeat (go_quiet (fail); try go_wp2)); go_ret; exact ⟨by first | rfl | (simp; done) | (simp [*]; done), by repeat (first | exact Drawn0.refl _ | apply Drawn0.step)⟩

/-! ### spec_l1Compare: function 115 -/
def spec_l1Compare.l0 : Nat → List Int → List Int → Int → Int → Option (Int)
  | 0, _, _, _, _ => none
  | k + 1, x0, x1, x7, x8 => if x8 < x7 then (if 0 ≤ x8 then (if x8 < (x0.length : Int) then (if x8 < (x1.length : Int) then (if (rd x0 x8) < (rd x1 x8) then (some (-1)) else (if (rd x0 x8) > (rd x1 x8) then (some 1) else (spec_l1Compare.l0 k x0 x1 x7 (wrap64 (x8 + 1))))) else (none)) else (none)) else (none)) else (some 0)
def spec_l1Compare.f (k : Nat) (l0 : List Int) (l1 : List Int) : Option (Int) := spec_l1Compare.l0 k l0 l1 (l0.length : Int) 0
set_option maxHeartbeats 8000000 in
set_option maxRecDepth 100000 in
theorem spec_l1Compare.calls (k : Nat) (A0 : Option Addr) (c0 : Nat) (l0 : List Int) (A1 : Option Addr) (c1 : Nat) (l1 : List Int) (r : Int) (w : World) (hr0 : Kd.C (Kd.int .i64) w A0 l0.length l0) (hc0 : l0.length ≤ c0) (hr1 : Kd.C (Kd.int .i64) w A1 l1.length l1) (hc1 : l1.length ≤ c1) (h : spec_l1Compare.f k l0 l1 = some r) :
    Calls Try.prog 115 #[.slice A0 l0.length c0, .slice A1 l1.length c1] w fun e w' => e = .returned (.int .i64 r) ∧ Drawn0 w w' := by
  have HR0 := q_ hr0; have HC0 := q_ hc0; clear hr0 hc0; have HR1 := q_ hr1; have HC1 := q_ hc1; clear hr1 hc1; have H : (spec_l1Compare.l0 k l0 l1 (l0.length : Int) 0) = some r := h; clear h; have H' := q_ H; clear H; go_enter Try.func115, Try.ntmps115; go_wp2; (repeat (go_quiet (fail); try go_wp2)); go_loopg [8] k (fun kq v8 w' => ∃ (x8_1 : Int), v8 = .int .i64 x8_1 ∧ Aside0 (spec_l1Compare.l0 kq l0 l1 (l0.length : Int) x8_1 = some r) ∧ Aside0 (kq ≤ k) ∧ Drawn0 w w')
  case atStart => exact ⟨(0), eqv, H', ⟨Nat.le_refl _⟩, by repeat (first | exact Drawn0.refl _ | apply Drawn0.step)⟩
  case round =>
   clear H'; obtain ⟨x8_1, rfl, HA, HK1, ⟨m1, rfl⟩⟩ := hrel
   cases gk with
   | zero => exact absurd HA.out (by simp [spec_l1Compare.l0])
   | succ k1 =>
    have H := HA.out; clear HA; simp only [spec_l1Compare.l0] at H
    by_cases c3 : x8_1 < (l0.length : Int)
    ·rw [if_pos c3] at H; have c3b0 : decide (x8_1 < (l0.length : Int)) = true := decide_eq_true c3; clear c3
     obtain ⟨c4, H⟩ := ifp_ H; have c4b0 : decide (0 ≤ x8_1) = true := decide_eq_true c4; clear c4
     obtain ⟨c5, H⟩ := ifp_ H; have c5b0 : decide (x8_1 < (l0.length : Int)) = true := decide_eq_true c5; clear c5
     obtain ⟨c6, H⟩ := ifp_ H; have c6b0 : decide (x8_1 < (l1.length : Int)) = true := decide_eq_true c6; clear c6
     by_cases c7 : (rd l0 x8_1) < (rd l1 x8_1)
     ·rw [if_pos c7] at H; have c7b0 : decide ((rd l0 x8_1) < (rd l1 x8_1)) = true := decide_eq_true c7; clear c7; obtain rfl := Option.some.inj H; have p112 : 0 ≤ (x8_1 : Int) := od; have q112 : x8_1 < (l0.length : Int) := od; obtain ⟨ad112, e112, hx112_0⟩ := Kd.at_int HR0.out x8_1 p112 q112
      cases e112
      replace p112 := eq_true p112; replace q112 := eq_true q112; have p113 : 0 ≤ (x8_1 : Int) := od; have q113 : x8_1 < (l1.length : Int) := od; obtain ⟨ad113, e113, hx113_0⟩ := Kd.at_int HR1.out x8_1 p113 q113
      cases e113
      replace p113 := eq_true p113; replace q113 := eq_true q113; go_wp2; (repeat (go_quiet (fail); try go_wp2)); go_ret; exact ⟨by first | rfl | (simp; done) | (simp [*]; done), by repeat (first | exact Drawn0.refl _ | apply Drawn0.step)⟩
     ·rw [if_neg c7] at H; have c7b0 : decide ((rd l0 x8_1) < (rd l1 x8_1)) = false := decide_eq_false c7; clear c7
      by_cases c8 : (rd l0 x8_1) > (rd l1 x8_1)
      ·rw [if_pos c8] at H; have c8b0 : decide ((rd l1 x8_1) < (rd l0 x8_1)) = true := decide_eq_true c8; clear c8; obtain rfl := Option.some.inj H; have p112 : 0 ≤ (x8_1 : Int) := od; have q112 : x8_1 < (l0.length : Int) := od; obtain ⟨ad112, e112, hx112_0⟩ := Kd.at_int HR0.out x8_1 p112 q112
       cases e112
       replace p112 := eq_true p112; replace q112 := eq_true q112; have p113 : 0 ≤ (x8_1 : Int) := od; have q113 : x8_1 < (l1.length : Int) := od; obtain ⟨ad113, e113, hx113_0⟩ := Kd.at_int HR1.out x8_1 p113 q113
       cases e113
       replace p113 := eq_true p113; replace q113 := eq_true q113; have p114 : 0 ≤ (x8_1 : Int) := od; have q114 : x8_1 < (l0.length : Int) := od; obtain ⟨ad114, e114, hx114_0⟩ := Kd.at_int HR0.out x8_1 p114 q114; obtain rfl : ad112 = ad114 := (by injection e114); replace p114 := eq_true p114; replace q114 := eq_true q114; have p115 : 0 ≤ (x8_1 : Int) := od; have q115 : x8_1 < (l1.length : Int) := od; obtain ⟨ad115, e115, hx115_0⟩ := Kd.at_int HR1.out x8_1 p115 q115; obtain rfl : ad113 = ad115 := (by injection e115); replace p115 := eq_true p115; replace q115 := eq_true q115; go_wp2; (repeat (go_quiet (fail); try go_wp2)); go_ret; exact ⟨by first | rfl | (simp; done) | (simp [*]; done), by repeat (first | exact Drawn0.refl _ | apply Drawn0.step)⟩
      ·rw [if_neg c8] at H; have c8b0 : decide ((rd l1 x8_1) < (rd l0 x8_1)) = false := decide_eq_false c8; clear c8; have H' := q_ H; clear H; have p112 : 0 ≤ (x8_1 : Int) := od; have q112 : x8_1 < (l0.length : Int) := od; obtain ⟨ad112, e112, hx112_0⟩ := Kd.at_int HR0.out x8_1 p112 q112
       cases e112
       replace p112 := eq_true p112; replace q112 := eq_true q112; have p113 : 0 ≤ (x8_1 : Int) := od; have q113 : x8_1 < (l1.length : Int) := od; obtain ⟨ad113, e113, hx113_0⟩ := Kd.at_int HR1.out x8_1 p113 q113
       cases e113
       replace p113 := eq_true p113; replace q113 := eq_true q113; have p114 : 0 ≤ (x8_1 : Int) := od; have q114 : x8_1 < (l0.length : Int) := od; obtain ⟨ad114, e114, hx114_0⟩ := Kd.at_int HR0.out x8_1 p114 q114; obtain rfl : ad112 = ad114 := (by injection e114); replace p114 := eq_true p114; replace q114 := eq_true q114; have p115 : 0 ≤ (x8_1 : Int) := od; have q115 : x8_1 < (l1.length : Int) := od; obtain ⟨ad115, e115, hx115_0⟩ := Kd.at_int HR1.out x8_1 p115 q115; obtain rfl : ad113 = ad115 := (by injection e115); replace p115 := eq_true p115; replace q115 := eq_true q115; go_wp2; (repeat (go_quiet (fail); try go_wp2)); go_roundg k1
       case measure => have := HK1.out; omega
       case rel => exact ⟨(wrap64 (x8_1 + 1)), eqv, H', ⟨by have := HK1.out; omega⟩, by repeat (first | exact Drawn0.refl _ | apply Drawn0.step)⟩
    ·rw [if_neg c3] at H; have c3b0 : decide (x8_1 < (l0.length : Int)) = false := decide_eq_false c3; clear c3; obtain rfl := Option.some.inj H; go_wp2; (repeat (go_quiet (fail); try go_wp2)); go_ret; exact ⟨by first | rfl | (simp; done) | (simp [*]; done), by repeat (first | exact Drawn0.refl _ | apply Drawn0.step)⟩

/-! ### spec_l1InOrder: function 74 -/
def spec_l1InOrder.l0 : Nat → List (List Int) → List Int → List (List Int) → Bool → List (List Int) → Int → Int → Option ((List (List Int)))
  | 0, _, _, _, _, _, _, _ => none
  | k + 1, x0, x1, x5, x6, x10, x11, x12 => if x12 < x11 then (if 0 ≤ x12 then (if x12 < (x10.length : Int) then ((spec_l1Compare.f k x1 (rd_L1 x10 x12)).bind fun t120 => (if t120 = 0 then (some x0) else (if t120 < 0 then (if x6 = true then (if x5.length < 5864062014805 then (spec_l1InOrder.l0 k x0 x1 (x5 ++ [rd_L1 x10 x12]) x6 x10 x11 (wrap64 (x12 + 1))) else (none)) else (if x5.length < 5864062014805 then ((some (x5 ++ [x1] : List (List Int))).bind fun y124 => (if y124.length < 5864062014805 then (spec_l1InOrder.l0 k x0 x1 (y124 ++ [rd_L1 x10 x12]) true x10 x11 (wrap64 (x12 + 1))) else (none))) else (none))) else (if x5.length < 5864062014805 then (spec_l1InOrder.l0 k x0 x1 (x5 ++ [rd_L1 x10 x12]) x6 x10 x11 (wrap64 (x12 + 1))) else (none))))) else (none)) else (none)) else (if x6 = true then (some x5) else (if x5.length < 5864062014805 then (some (x5 ++ [x1])) else (none)))
def spec_l1InOrder.f (k : Nat) (l0 : List (List Int)) (l1 : List Int) : Option ((List (List Int))) := spec_l1InOrder.l0 k l0 l1 ([] : List (List Int)) false l0 (l0.length : Int) 0
set_option maxHeartbeats 8000000 in
set_option maxRecDepth 100000 in
theorem spec_l1InOrder.calls (k : Nat) (P0_ : Nat → Prop) (A0 : Option Addr) (c0 : Nat) (l0 : List (List Int)) (P1_ : Nat → Prop) (A1 : Option Addr) (c1 : Nat) (l1 : List Int) (r : List (List Int)) (w : World) (hs0 : Kd.V (Kd.slice 3 (Kd.int .i64)) 32 w w.heap.size (fun k_ => P0_ k_) (.slice A0 l0.length c0) l0) (hs1 : Kd.V (Kd.int .i64) 3 w w.heap.size (fun k_ => P1_ k_) (.slice A1 l1.length c1) l1) (h : spec_l1InOrder.f k l0 l1 = some r) :
    Calls Try.prog 74 #[.slice A0 l0.length c0, .slice A1 l1.length c1] w fun e w' => ∃ v0_ : Value, e = .returned (v0_) ∧ Kd.V (Kd.slice 3 (Kd.int .i64)) 32 w' w.heap.size (fun k_ => ((P0_ k_ ∨ P1_ k_) ∨ w.heap.size ≤ k_)) v0_ r ∧ Below w.heap.size w w' := by
  have HO0 := q_ (show Kd.V (Kd.slice 3 (Kd.int .i64)) 32 w w.heap.size (fun k_ => ((P0_ k_ ∨ P1_ k_) ∨ w.heap.size ≤ k_)) (.slice A0 l0.length c0) l0 from Kd.V_mono hs0 (fun k_ hk => .inl (.inl hk))); have HO1 := q_ (show Kd.V (Kd.int .i64) 3 w w.heap.size (fun k_ => ((P0_ k_ ∨ P1_ k_) ∨ w.heap.size ≤ k_)) (.slice A1 l1.length c1) l1 from Kd.V_mono hs1 (fun k_ hk => .inl (.inr hk))); have HB := q_ (Below.refl w.heap.size w); have H : (spec_l1InOrder.l0 k l0 l1 ([] : List (List Int)) false l0 (l0.length : Int) 0) = some r := h; clear h; have H' := q_ H; clear H; go_enter Try.func74, Try.ntmps74; go_wp2; go_loopg [5, 6, 12] k (fun kq v5 v6 v12 w' => ∃ (x5_1 : List (List Int)) (x6_1 : Bool) (x12_1 : Int), v6 = .bool x6_1 ∧ v12 = .int .i64 x12_1 ∧ Aside0 (spec_l1InOrder.l0 kq l0 l1 x5_1 x6_1 l0 (l0.length : Int) x12_1 = some r) ∧ Aside0 (kq ≤ k) ∧ Aside0 (Kd.V (Kd.slice 3 (Kd.int .i64)) 32 w' w.heap.size (fun k_ => ((P0_ k_ ∨ P1_ k_) ∨ w.heap.size ≤ k_) ∧ some k_ ≠ (v5 : Value).ownBlock) (.slice A0 l0.length c0) l0) ∧ Aside0 (Kd.V (Kd.int .i64) 3 w' w.heap.size (fun k_ => ((P0_ k_ ∨ P1_ k_) ∨ w.heap.size ≤ k_) ∧ some k_ ≠ (v5 : Value).ownBlock) (.slice A1 l1.length c1) l1) ∧ Aside0 (Kd.N (Kd.slice 3 (Kd.int .i64)) 32 w' w.heap.size (fun k_ => ((P0_ k_ ∨ P1_ k_) ∨ w.heap.size ≤ k_)) v5 x5_1) ∧ Aside0 (Kd.V (Kd.slice 3 (Kd.int .i64)) 32 w' w.heap.size (fun k_ => ((P0_ k_ ∨ P1_ k_) ∨ w.heap.size ≤ k_) ∧ some k_ ≠ (v5 : Value).ownBlock) (.slice A0 l0.length c0) l0) ∧ Aside0 (Below w.heap.size w w'))
  case atStart => exact ⟨(([] : List (List Int))), (false), (0), eqv, eqv, H', ⟨Nat.le_refl _⟩, ⟨by exact Kd.V_v (Kd.V_mono HO0.out (fun _ hk => ⟨hk, (by simp [Value.ownBlock])⟩))⟩, ⟨by exact Kd.V_v (Kd.V_mono HO1.out (fun _ hk => ⟨hk, (by simp [Value.ownBlock])⟩))⟩, ⟨by first | exact Kd.S_nil _ _ _ _ _ | exact Kd.N_nil _ _ _ _ _ | exact Kd.V_nil _ _ _ _ _ | exact Kd.Q_nil _ _ _ _ _ | exact Kd.R_nil _ _ _ _ _⟩, ⟨by exact Kd.V_v (Kd.V_mono HO0.out (fun _ hk => ⟨hk, (by simp [Value.ownBlock])⟩))⟩, ⟨by exact bv HB.out⟩⟩
  case round =>
   clear H'; (try clear c1); obtain ⟨x5_1, x6_1, x12_1, rfl, rfl, HA, HK1, HO_0, HO_1, HO_5, HO_10, HB⟩ := hrel
   cases gk with
   | zero => exact absurd HA.out (by simp [spec_l1InOrder.l0])
   | succ k1 =>
    have H := HA.out; clear HA; simp only [spec_l1InOrder.l0] at H
    by_cases c3 : x12_1 < (l0.length : Int)
    ·rw [if_pos c3] at H; have c3b0 : decide (x12_1 < (l0.length : Int)) = true := decide_eq_true c3; clear c3
     obtain ⟨c4, H⟩ := ifp_ H; have c4b0 : decide (0 ≤ x12_1) = true := decide_eq_true c4; clear c4
     obtain ⟨c5, H⟩ := ifp_ H; have c5b0 : decide (x12_1 < (l0.length : Int)) = true := decide_eq_true c5; clear c5; obtain ⟨t120, A6, H⟩ := bnd_ H; have HC7 := q_ H; clear H; have p119 : 0 ≤ (x12_1 : Int) := od; have q119 : x12_1 < (l0.length : Int) := od; obtain ⟨ad119, A119_0, c119_0, e119, hx119_0, hl119_0, hi119_0⟩ := at_L1 (Kd.V_reads' HO_10.out).2.2 x12_1 p119 q119
     cases e119
     obtain ⟨ce119, hce119, hMe119, hcc119⟩ := Kd.V_get HO_10.out [] x12_1 p119 (by first | exact q119 | exact od | (have e_ := (Kd.V_reads' HO_10.out).1; omega)); obtain ⟨ua119_0, uc119_0, rfl, ul119_0, ge119_0⟩ := Kd.FK_slice_open hMe119; have hv119_0 := hcc119 0 _ rfl; rw [Nat.add_zero, show ((Kd.slice 3 (Kd.int .i64))).sz = 1 from rfl, Nat.mul_one] at hv119_0; replace hv119_0 := Option.some.inj (hv119_0.symm.trans hx119_0)
     injection hv119_0 with hva_ hvn_ hvc_
     rw [hva_] at ge119_0; rw [hvc_] at ul119_0; have HL119_0 := q_ (show Kd.V (Kd.int .i64) 3 _ w.heap.size _ _ (rd_L1 l0 x12_1) from Kd.V_mk ul119_0 ge119_0); clear hva_ hvn_ hvc_ ge119_0 ul119_0; clear hcc119 hce119; have HR119_0 := q_ hi119_0; have HC119_0 := q_ hl119_0; clear hi119_0 hl119_0; replace p119 := eq_true p119; replace q119 := eq_true q119
     go_upto_if 20 with (first | (refine goesM (some 18) rfl rfl Try.func115 #[.slice A1 l1.length c1, .slice A119_0 (rd_L1 l0 x12_1).length c119_0] rfl ?_; (with_reducible refine (spec_l1Compare.calls k1 _ _ l1 _ _ (rd_L1 l0 x12_1) t120 _ ?side1 ?side2 ?side3 ?side4 A6.out).mono ?_); (case side1 => exact Kd.C_v ((Kd.V_reads' HO_1.out).2.2)); (case side2 => exact (Kd.V_reads' HO_1.out).2.1); (case side3 => exact (by first | exact HR119_0.out | exact Kd.C_v HR119_0.out)); (case side4 => exact HC119_0.out); rintro e w' ⟨rfl, ⟨nd, rfl⟩⟩; refine ⟨_, rfl, ?_⟩))
     (try simp only [Act.put, List.setIfInBounds_toArray, List.set_cons_zero, List.set_cons_succ]); have H := HC7.out; clear HC7
     by_cases c8 : t120 = 0
     ·rw [if_pos c8] at H; have c8b0 : (t120 == 0) = true := beq_iff_eq.mpr c8; have c8b1 : (t120 != 0) = false := bne_eq_false_iff_eq.mpr c8; clear c8; (first | rw [c8b0] | rw [c8b1] | (simp only [i64_w, i32_w]; rw [c8b0]) | skip); obtain rfl := Option.some.inj H; go_wp2; go_ret; exact ⟨_, by first | rfl | (simp [errW_none, errW_some] <;> rfl) | (simp [*, errW_none, errW_some] <;> rfl), by exact Kd.V_v (Kd.V_mono HO_0.out (fun _ hk => hk.1)), by exact bv HB.out⟩
     ·rw [if_neg c8] at H; have c8b0 : (t120 == 0) = false := beq_eq_false_iff_ne.mpr c8; have c8b1 : (t120 != 0) = true := bne_iff_ne.mpr c8; (first | rw [c8b0] | rw [c8b1] | (simp only [i64_w, i32_w]; rw [c8b0]) | skip)
      by_cases c9 : t120 < 0
      ·rw [if_pos c9] at H; have c9b0 : decide (t120 < 0) = true := decide_eq_true c9; clear c9
       by_cases c10 : x6_1 = true
       ·subst c10; replace H := itt_ H
        obtain ⟨c11, H⟩ := ifp_ H; have LMc11 := q_ c11; clear c11; obtain ⟨y121, hy121⟩ : ∃ y_ : List (List Int), y_ = (x5_1 ++ [rd_L1 l0 x12_1]) := ⟨_, rfl⟩; (replace H : (spec_l1InOrder.l0 k1 l0 l1 y121 true l0 (l0.length : Int) (wrap64 (x12_1 + 1))) = some r := by first | (rw [hy121]; with_reducible exact H) | (have H2_ := (Option.bind_some _ _).symm.trans H; rw [hy121]; with_reducible exact H2_) | (have H2_ := (Option.bind_some _ _).symm.trans H; with_reducible exact H2_) | with_reducible exact H | (rw [hy121]; exact H) | exact H); have Ny121 := q_ hy121; clear hy121; have H' := q_ H; clear H; go_wp2_with (first | ((with_reducible refine gate_builtin (b := .append) (xs := #[.tmp 32, .tmp 34]) rfl ?_); at_builtin; refine Kd.N_append (Kd.slice 3 (Kd.int .i64)) (w0 := w) w.heap.size rfl (.tmp 32) (.tmp 34) 22 32 (.slice none 0 0) 24 rfl Try.underlying22 info32 rfl (by decide) (by omega) u5 x5_1 (rd_L1 l0 x12_1) [.slice A119_0 (rd_L1 l0 x12_1).length c119_0] (fun k_ => ((P0_ k_ ∨ P1_ k_) ∨ w.heap.size ≤ k_)) (fun k_ => ((fun k_ => ((P0_ k_ ∨ P1_ k_) ∨ w.heap.size ≤ k_))) k_ ∧ some k_ ≠ (u5 : Value).ownBlock) rfl rfl ?aP (fun _ hk => hk) ?aF ?aO ?aB ?aS ?aL ?_; (case aP => exact (Kd.FK_slice_mk (Kd.V_reads' (Kd.V_mono (ok' := (fun k_ => ((fun k_ => ((P0_ k_ ∨ P1_ k_) ∨ w.heap.size ≤ k_))) k_ ∧ some k_ ≠ (u5 : Value).ownBlock)) (HL119_0.out) (fun k_ hk => ⟨hk.1, hk.2⟩))).2.1 (Kd.V_F (Kd.V_mono (ok' := (fun k_ => ((fun k_ => ((P0_ k_ ∨ P1_ k_) ∨ w.heap.size ≤ k_))) k_ ∧ some k_ ≠ (u5 : Value).ownBlock)) (Kd.V_v (HL119_0.out)) (fun k_ hk => ⟨hk.1, hk.2⟩))))); (case aB => exact (by exact bv HB.out)); (case aF => exact (fun k_ hk => (.inr (Nat.le_trans (below_size (by exact bv HB.out)) hk)))); (case aO => exact (by exact Kd.N_v HO_5.out)); (case aS => exact (below_size (by exact bv HB.out))); (case aL => have := LMc11.out; omega); intro v122 w12 ho hb hg hat; rw [← Ny121.out] at ho; have HO123 := q_ (ho); replace HO_0 := q_ (Kd.V_afterv (ok := (fun k_ => ((P0_ k_ ∨ P1_ k_) ∨ w.heap.size ≤ k_))) (by exact Kd.V_v HO_0.out) hg hat); replace HO_1 := q_ (Kd.V_afterv (ok := (fun k_ => ((P0_ k_ ∨ P1_ k_) ∨ w.heap.size ≤ k_))) (by exact Kd.V_v HO_1.out) hg hat); replace HO_10 := q_ (Kd.V_afterv (ok := (fun k_ => ((P0_ k_ ∨ P1_ k_) ∨ w.heap.size ≤ k_))) (by exact Kd.V_v HO_10.out) hg hat); replace HL119_0 := q_ (Kd.V_afterv (ok := (fun k_ => ((P0_ k_ ∨ P1_ k_) ∨ w.heap.size ≤ k_))) (by exact Kd.V_v HL119_0.out) hg hat); replace HB := q_ (hb); clear HO_5; clear ho hb hg hat)); go_roundg k1
        case measure => have := HK1.out; omega
        case rel => exact ⟨(y121), (true), (wrap64 (x12_1 + 1)), eqv, eqv, H', ⟨by have := HK1.out; omega⟩, ⟨by exact Kd.V_v HO_0.out⟩, ⟨by exact Kd.V_v HO_1.out⟩, ⟨by exact Kd.N_v HO123.out⟩, ⟨by exact Kd.V_v HO_10.out⟩, ⟨by exact bv HB.out⟩⟩
       ·replace c10 := Bool.eq_false_iff.mpr c10; subst c10; replace H := iff_ H
        obtain ⟨c13, H⟩ := ifp_ H; have LMc13 := q_ c13; clear c13; obtain ⟨y124, hy124⟩ : ∃ y_ : List (List Int), y_ = (x5_1 ++ [l1]) := ⟨_, rfl⟩; (replace H : (if y124.length < 5864062014805 then (spec_l1InOrder.l0 k1 l0 l1 (y124 ++ [rd_L1 l0 x12_1]) true l0 (l0.length : Int) (wrap64 (x12_1 + 1))) else (none)) = some r := by first | (rw [hy124]; with_reducible exact H) | (have H2_ := (Option.bind_some _ _).symm.trans H; rw [hy124]; with_reducible exact H2_) | (have H2_ := (Option.bind_some _ _).symm.trans H; with_reducible exact H2_) | with_reducible exact H | (rw [hy124]; exact H) | exact H); have Ny124 := q_ hy124; clear hy124
        obtain ⟨c14, H⟩ := ifp_ H; have LMc14 := q_ c14; clear c14; obtain ⟨y127, hy127⟩ : ∃ y_ : List (List Int), y_ = (y124 ++ [rd_L1 l0 x12_1]) := ⟨_, rfl⟩; (replace H : (spec_l1InOrder.l0 k1 l0 l1 y127 true l0 (l0.length : Int) (wrap64 (x12_1 + 1))) = some r := by first | (rw [hy127]; with_reducible exact H) | (have H2_ := (Option.bind_some _ _).symm.trans H; rw [hy127]; with_reducible exact H2_) | (have H2_ := (Option.bind_some _ _).symm.trans H; with_reducible exact H2_) | with_reducible exact H | (rw [hy127]; exact H) | exact H); have Ny127 := q_ hy127; clear hy127; have H' := q_ H; clear H; go_wp2_with (first | ((with_reducible refine gate_builtin (b := .append) (xs := #[.tmp 28, .tmp 30]) rfl ?_); at_builtin; refine Kd.N_append (Kd.slice 3 (Kd.int .i64)) (w0 := w) w.heap.size rfl (.tmp 28) (.tmp 30) 22 32 (.slice none 0 0) 24 rfl Try.underlying22 info32 rfl (by decide) (by omega) u5 x5_1 l1 [.slice A1 l1.length c1] (fun k_ => ((P0_ k_ ∨ P1_ k_) ∨ w.heap.size ≤ k_)) (fun k_ => ((fun k_ => ((P0_ k_ ∨ P1_ k_) ∨ w.heap.size ≤ k_))) k_ ∧ some k_ ≠ (u5 : Value).ownBlock) rfl rfl ?aP (fun _ hk => hk) ?aF ?aO ?aB ?aS ?aL ?_; (case aP => exact (Kd.FK_slice_mk (Kd.V_reads' (Kd.V_mono (ok' := (fun k_ => ((fun k_ => ((P0_ k_ ∨ P1_ k_) ∨ w.heap.size ≤ k_))) k_ ∧ some k_ ≠ (u5 : Value).ownBlock)) (HO_1.out) (fun k_ hk => ⟨hk.1, hk.2⟩))).2.1 (Kd.V_F (Kd.V_mono (ok' := (fun k_ => ((fun k_ => ((P0_ k_ ∨ P1_ k_) ∨ w.heap.size ≤ k_))) k_ ∧ some k_ ≠ (u5 : Value).ownBlock)) (Kd.V_v (HO_1.out)) (fun k_ hk => ⟨hk.1, hk.2⟩))))); (case aB => exact (by exact bv HB.out)); (case aF => exact (fun k_ hk => (.inr (Nat.le_trans (below_size (by exact bv HB.out)) hk)))); (case aO => exact (by exact Kd.N_v HO_5.out)); (case aS => exact (below_size (by exact bv HB.out))); (case aL => have := LMc13.out; omega); intro v125 w15 ho hb hg hat; rw [← Ny124.out] at ho; have HO126 := q_ (ho); replace HO_0 := q_ (Kd.V_afterv (ok := (fun k_ => ((P0_ k_ ∨ P1_ k_) ∨ w.heap.size ≤ k_))) (by exact Kd.V_v HO_0.out) hg hat); replace HO_1 := q_ (Kd.V_afterv (ok := (fun k_ => ((P0_ k_ ∨ P1_ k_) ∨ w.heap.size ≤ k_))) (by exact Kd.V_v HO_1.out) hg hat); replace HO_10 := q_ (Kd.V_afterv (ok := (fun k_ => ((P0_ k_ ∨ P1_ k_) ∨ w.heap.size ≤ k_))) (by exact Kd.V_v HO_10.out) hg hat); replace HL119_0 := q_ (Kd.V_afterv (ok := (fun k_ => ((P0_ k_ ∨ P1_ k_) ∨ w.heap.size ≤ k_))) (by exact Kd.V_v HL119_0.out) hg hat); replace HB := q_ (hb); clear HO_5; clear ho hb hg hat) | ((with_reducible refine gate_builtin (b := .append) (xs := #[.tmp 32, .tmp 34]) rfl ?_); at_builtin; refine Kd.N_append (Kd.slice 3 (Kd.int .i64)) (w0 := w) w.heap.size rfl (.tmp 32) (.tmp 34) 22 32 (.slice none 0 0) 24 rfl Try.underlying22 info32 rfl (by decide) (by omega) v125 y124 (rd_L1 l0 x12_1) [.slice A119_0 (rd_L1 l0 x12_1).length c119_0] (fun k_ => ((P0_ k_ ∨ P1_ k_) ∨ w.heap.size ≤ k_)) (fun k_ => ((fun k_ => ((P0_ k_ ∨ P1_ k_) ∨ w.heap.size ≤ k_))) k_ ∧ some k_ ≠ (v125 : Value).ownBlock) rfl rfl ?aP (fun _ hk => hk) ?aF ?aO ?aB ?aS ?aL ?_; (case aP => exact (Kd.FK_slice_mk (Kd.V_reads' (Kd.V_mono (ok' := (fun k_ => ((fun k_ => ((P0_ k_ ∨ P1_ k_) ∨ w.heap.size ≤ k_))) k_ ∧ some k_ ≠ (v125 : Value).ownBlock)) (HL119_0.out) (fun k_ hk => ⟨hk.1, hk.2⟩))).2.1 (Kd.V_F (Kd.V_mono (ok' := (fun k_ => ((fun k_ => ((P0_ k_ ∨ P1_ k_) ∨ w.heap.size ≤ k_))) k_ ∧ some k_ ≠ (v125 : Value).ownBlock)) (Kd.V_v (HL119_0.out)) (fun k_ hk => ⟨hk.1, hk.2⟩))))); (case aB => exact (by exact bv HB.out)); (case aF => exact (fun k_ hk => (.inr (Nat.le_trans (below_size (by exact bv HB.out)) hk)))); (case aO => exact (by exact Kd.N_v HO126.out)); (case aS => exact (below_size (by exact bv HB.out))); (case aL => have := LMc14.out; omega); intro v128 w16 ho hb hg hat; rw [← Ny127.out] at ho; have HO129 := q_ (ho); replace HO_0 := q_ (Kd.V_afterv (ok := (fun k_ => ((P0_ k_ ∨ P1_ k_) ∨ w.heap.size ≤ k_))) (by exact Kd.V_v HO_0.out) hg hat); replace HO_1 := q_ (Kd.V_afterv (ok := (fun k_ => ((P0_ k_ ∨ P1_ k_) ∨ w.heap.size ≤ k_))) (by exact Kd.V_v HO_1.out) hg hat); replace HO_10 := q_ (Kd.V_afterv (ok := (fun k_ => ((P0_ k_ ∨ P1_ k_) ∨ w.heap.size ≤ k_))) (by exact Kd.V_v HO_10.out) hg hat); replace HL119_0 := q_ (Kd.V_afterv (ok := (fun k_ => ((P0_ k_ ∨ P1_ k_) ∨ w.heap.size ≤ k_))) (by exact Kd.V_v HL119_0.out) hg hat); replace HB := q_ (hb); clear HO126; clear ho hb hg hat)); go_roundg k1
        case measure => have := HK1.out; omega
        case rel => exact ⟨(y127), (true), (wrap64 (x12_1 + 1)), eqv, eqv, H', ⟨by have := HK1.out; omega⟩, ⟨by exact Kd.V_v HO_0.out⟩, ⟨by exact Kd.V_v HO_1.out⟩, ⟨by exact Kd.N_v HO129.out⟩, ⟨by exact Kd.V_v HO_10.out⟩, ⟨by exact bv HB.out⟩⟩
      ·rw [if_neg c9] at H; have c9b0 : decide (t120 < 0) = false := decide_eq_false c9; clear c9
       obtain ⟨c17, H⟩ := ifp_ H; have LMc17 := q_ c17; clear c17; obtain ⟨y130, hy130⟩ : ∃ y_ : List (List Int), y_ = (x5_1 ++ [rd_L1 l0 x12_1]) := ⟨_, rfl⟩; (replace H : (spec_l1InOrder.l0 k1 l0 l1 y130 x6_1 l0 (l0.length : Int) (wrap64 (x12_1 + 1))) = some r := by first | (rw [hy130]; with_reducible exact H) | (have H2_ := (Option.bind_some _ _).symm.trans H; rw [hy130]; with_reducible exact H2_) | (have H2_ := (Option.bind_some _ _).symm.trans H; with_reducible exact H2_) | with_reducible exact H | (rw [hy130]; exact H) | exact H); have Ny130 := q_ hy130; clear hy130; have H' := q_ H; clear H; go_wp2_with (first | ((with_reducible refine gate_builtin (b := .append) (xs := #[.tmp 32, .tmp 34]) rfl ?_); at_builtin; refine Kd.N_append (Kd.slice 3 (Kd.int .i64)) (w0 := w) w.heap.size rfl (.tmp 32) (.tmp 34) 22 32 (.slice none 0 0) 24 rfl Try.underlying22 info32 rfl (by decide) (by omega) u5 x5_1 (rd_L1 l0 x12_1) [.slice A119_0 (rd_L1 l0 x12_1).length c119_0] (fun k_ => ((P0_ k_ ∨ P1_ k_) ∨ w.heap.size ≤ k_)) (fun k_ => ((fun k_ => ((P0_ k_ ∨ P1_ k_) ∨ w.heap.size ≤ k_))) k_ ∧ some k_ ≠ (u5 : Value).ownBlock) rfl rfl ?aP (fun _ hk => hk) ?aF ?aO ?aB ?aS ?aL ?_; (case aP => exact (Kd.FK_slice_mk (Kd.V_reads' (Kd.V_mono (ok' := (fun k_ => ((fun k_ => ((P0_ k_ ∨ P1_ k_) ∨ w.heap.size ≤ k_))) k_ ∧ some k_ ≠ (u5 : Value).ownBlock)) (HL119_0.out) (fun k_ hk => ⟨hk.1, hk.2⟩))).2.1 (Kd.V_F (Kd.V_mono (ok' := (fun k_ => ((fun k_ => ((P0_ k_ ∨ P1_ k_) ∨ w.heap.size ≤ k_))) k_ ∧ some k_ ≠ (u5 : Value).ownBlock)) (Kd.V_v (HL119_0.out)) (fun k_ hk => ⟨hk.1, hk.2⟩))))); (case aB => exact (by exact bv HB.out)); (case aF => exact (fun k_ hk => (.inr (Nat.le_trans (below_size (by exact bv HB.out)) hk)))); (case aO => exact (by exact Kd.N_v HO_5.out)); (case aS => exact (below_size (by exact bv HB.out))); (case aL => have := LMc17.out; omega); intro v131 w18 ho hb hg hat; rw [← Ny130.out] at ho; have HO132 := q_ (ho); replace HO_0 := q_ (Kd.V_afterv (ok := (fun k_ => ((P0_ k_ ∨ P1_ k_) ∨ w.heap.size ≤ k_))) (by exact Kd.V_v HO_0.out) hg hat); replace HO_1 := q_ (Kd.V_afterv (ok := (fun k_ => ((P0_ k_ ∨ P1_ k_) ∨ w.heap.size ≤ k_))) (by exact Kd.V_v HO_1.out) hg hat); replace HO_10 := q_ (Kd.V_afterv (ok := (fun k_ => ((P0_ k_ ∨ P1_ k_) ∨ w.heap.size ≤ k_))) (by exact Kd.V_v HO_10.out) hg hat); replace HL119_0 := q_ (Kd.V_afterv (ok := (fun k_ => ((P0_ k_ ∨ P1_ k_) ∨ w.heap.size ≤ k_))) (by exact Kd.V_v HL119_0.out) hg hat); replace HB := q_ (hb); clear HO_5; clear ho hb hg hat)); go_roundg k1
       case measure => have := HK1.out; omega
       case rel => exact ⟨(y130), (x6_1), (wrap64 (x12_1 + 1)), eqv, eqv, H', ⟨by have := HK1.out; omega⟩, ⟨by exact Kd.V_v HO_0.out⟩, ⟨by exact Kd.V_v HO_1.out⟩, ⟨by exact Kd.N_v HO132.out⟩, ⟨by exact Kd.V_v HO_10.out⟩, ⟨by exact bv HB.out⟩⟩
    ·rw [if_neg c3] at H; have c3b0 : decide (x12_1 < (l0.length : Int)) = false := decide_eq_false c3; clear c3
     by_cases c19 : x6_1 = true
     ·subst c19; replace H := itt_ H; obtain rfl := Option.some.inj H; go_wp2; go_ret; exact ⟨_, by first | rfl | (simp [errW_none, errW_some] <;> rfl) | (simp [*, errW_none, errW_some] <;> rfl), Kd.N_V (by exact Kd.N_v HO_5.out), by exact bv HB.out⟩
     ·replace c19 := Bool.eq_false_iff.mpr c19; subst c19; replace H := iff_ H
      obtain ⟨c20, H⟩ := ifp_ H; have LMc20 := q_ c20; clear c20; obtain ⟨y116, hy116⟩ : ∃ y_ : List (List Int), y_ = (x5_1 ++ [l1]) := ⟨_, rfl⟩; (replace H : (some y116) = some r := by first | (rw [hy116]; with_reducible exact H) | (have H2_ := (Option.bind_some _ _).symm.trans H; rw [hy116]; with_reducible exact H2_) | (have H2_ := (Option.bind_some _ _).symm.trans H; with_reducible exact H2_) | with_reducible exact H | (rw [hy116]; exact H) | exact H); have Ny116 := q_ hy116; clear hy116; obtain rfl := Option.some.inj H; go_wp2_with (first | ((with_reducible refine gate_builtin (b := .append) (xs := #[.tmp 39, .tmp 41]) rfl ?_); at_builtin; refine Kd.N_append (Kd.slice 3 (Kd.int .i64)) (w0 := w) w.heap.size rfl (.tmp 39) (.tmp 41) 22 32 (.slice none 0 0) 24 rfl Try.underlying22 info32 rfl (by decide) (by omega) u5 x5_1 l1 [.slice A1 l1.length c1] (fun k_ => ((P0_ k_ ∨ P1_ k_) ∨ w.heap.size ≤ k_)) (fun k_ => ((fun k_ => ((P0_ k_ ∨ P1_ k_) ∨ w.heap.size ≤ k_))) k_ ∧ some k_ ≠ (u5 : Value).ownBlock) rfl rfl ?aP (fun _ hk => hk) ?aF ?aO ?aB ?aS ?aL ?_; (case aP => exact (Kd.FK_slice_mk (Kd.V_reads' (Kd.V_mono (ok' := (fun k_ => ((fun k_ => ((P0_ k_ ∨ P1_ k_) ∨ w.heap.size ≤ k_))) k_ ∧ some k_ ≠ (u5 : Value).ownBlock)) (HO_1.out) (fun k_ hk => ⟨hk.1, hk.2⟩))).2.1 (Kd.V_F (Kd.V_mono (ok' := (fun k_ => ((fun k_ => ((P0_ k_ ∨ P1_ k_) ∨ w.heap.size ≤ k_))) k_ ∧ some k_ ≠ (u5 : Value).ownBlock)) (Kd.V_v (HO_1.out)) (fun k_ hk => ⟨hk.1, hk.2⟩))))); (case aB => exact (by exact bv HB.out)); (case aF => exact (fun k_ hk => (.inr (Nat.le_trans (below_size (by exact bv HB.out)) hk)))); (case aO => exact (by exact Kd.N_v HO_5.out)); (case aS => exact (below_size (by exact bv HB.out))); (case aL => have := LMc20.out; omega); intro v117 w21 ho hb hg hat; rw [← Ny116.out] at ho; have HO118 := q_ (ho); replace HO_0 := q_ (Kd.V_afterv (ok := (fun k_ => ((P0_ k_ ∨ P1_ k_) ∨ w.heap.size ≤ k_))) (by exact Kd.V_v HO_0.out) hg hat); replace HO_1 := q_ (Kd.V_afterv (ok := (fun k_ => ((P0_ k_ ∨ P1_ k_) ∨ w.heap.size ≤ k_))) (by exact Kd.V_v HO_1.out) hg hat); replace HO_10 := q_ (Kd.V_afterv (ok := (fun k_ => ((P0_ k_ ∨ P1_ k_) ∨ w.heap.size ≤ k_))) (by exact Kd.V_v HO_10.out) hg hat); replace HB := q_ (hb); clear HO_5; clear ho hb hg hat)); go_ret; exact ⟨_, by first | rfl | (simp [errW_none, errW_some] <;> rfl) | (simp [*, errW_none, errW_some] <;> rfl), Kd.N_V (by exact Kd.N_v HO118.out), by exact bv HB.out⟩

/-! ### spec_l1Own: function 75 -/
def spec_l1Own.f (l0 : List Int) : Option (List Int) := (some (([] : List Int) : List Int)).bind fun y133 => (if y133.length + l0.length < 17592186044416 then (some (y133 ++ l0)) else (none))
set_option maxHeartbeats 8000000 in
set_option maxRecDepth 100000 in
theorem spec_l1Own.calls (A0 : Option Addr) (c0 : Nat) (l0 : List Int) (r : List Int) (w : World) (hr0 : Kd.C (Kd.int .i64) w A0 l0.length l0) (hc0 : l0.length ≤ c0) (h : spec_l1Own.f l0 = some r) :
    Calls Try.prog 75 #[.slice A0 l0.length c0] w fun e w' => ∃ v0_ : Value, e = .returned (v0_) ∧ Kd.R (Kd.int .i64) 3 w' w.heap.size (fun _ => True) v0_ r ∧ Below w.heap.size w w' := by
  have HR0 := q_ hr0; have HC0 := q_ hc0; clear hr0 hc0; have HB := q_ (Below.refl w.heap.size w); have H : ((some (([] : List Int) : List Int)).bind fun y133 => (if y133.length + l0.length < 17592186044416 then (some (y133 ++ l0)) else (none))) = some r := h; clear h; obtain ⟨y133, hy133⟩ : ∃ y_ : List Int, y_ = (([] : List Int)) := ⟨_, rfl⟩; (replace H : (if y133.length + l0.length < 17592186044416 then (some (y133 ++ l0)) else (none)) = some r := by first | (rw [hy133]; with_reducible exact H) | (have H2_ := (Option.bind_some _ _).symm.trans H; rw [hy133]; with_reducible exact H2_) | (have H2_ := (Option.bind_some _ _).symm.trans H; with_reducible exact H2_) | with_reducible exact H | (rw [hy133]; exact H) | exact H); have Ny133 := q_ hy133; clear hy133
  obtain ⟨c2, H⟩ := ifp_ H; have LMc2 := q_ c2; clear c2; obtain ⟨y136, hy136⟩ : ∃ y_ : List Int, y_ = (y133 ++ l0) := ⟨_, rfl⟩; (replace H : (some y136) = some r := by first | (rw [hy136]; with_reducible exact H) | (have H2_ := (Option.bind_some _ _).symm.trans H; rw [hy136]; with_reducible exact H2_) | (have H2_ := (Option.bind_some _ _).symm.trans H; with_reducible exact H2_) | with_reducible exact H | (rw [hy136]; exact H) | exact H); have Ny136 := q_ hy136; clear hy136; obtain rfl := Option.some.inj H; go_enter Try.func75, Try.ntmps75; go_wp2_with (first | ((with_reducible refine gate_dst (N := 3) rfl ?_); refine Kd.R_lit (Kd.int .i64) _ 3 ?hg (N := 3) ?hd (xs := ([] : List Int)) (inner := []) (ok := fun _ => True) (okp := fun _ => True) ?hr ?hp (fun _ hk => hk) trivial (Below.refl _ _) (Nat.le_refl _) (by simp) ?_; (case hd => rfl); (case hg => rfl); (case hr => first | (go_simp; done) | (go_simp; rfl)); (case hp => exact (Reps.none _ _)); intro v134 w3 ho4 hb hg_ hnew_; clear hg_ hnew_; (first | rw [← Ny133.out] at ho4 | (simp only [Int.reduceToNat] at ho4; rw [← Ny133.out] at ho4)); have HO135 := q_ (Kd.R_lower ho4 (below_size (by exact bv HB.out))); replace HB := q_ (below_step (by exact bv HB.out) hb); clear hb ho4) | ((with_reducible refine gate_builtin (b := .append) (xs := #[.tmp 3, .tmp 4]) rfl ?_); at_builtin; refine Kd.R_append_rows (Kd.int .i64) (w0 := w) w.heap.size rfl (.tmp 3) (.tmp 4) 32 3 (.int .i64 0) 8 rfl Try.underlying32 info3 rfl (by decide) (by omega) v134 y133 l0 _ _ _ (fun _ => True) (fun _ => False) rfl rfl ?aO ?aR (fun _ _ h => h) (fun _ h => h.elim) ?aF ?aB ?aS ?aL ?_; (case aR => exact Kd.C_v ((Kd.C_below HR0.out HB.out))); (case aB => exact (by exact bv HB.out)); (case aF => exact (fun _ _ => trivial)); (case aO => exact (by exact Kd.R_v HO135.out)); (case aS => exact (below_size (by exact bv HB.out))); (case aL => have := LMc2.out; omega); intro v137 w5 ho hb hg hat; rw [← Ny136.out] at ho; have HO138 := q_ (ho); replace HB := q_ (hb); clear HO135; clear ho hb hg hat)); go_ret; exact ⟨_, by first | rfl | (simp [errW_none, errW_some] <;> rfl) | (simp [*, errW_none, errW_some] <;> rfl), by exact Kd.R_v HO138.out, by exact bv HB.out⟩

/-! ### spec_l1LeastMarks: function 44 -/
mutual
def spec_l1LeastMarks.l0 : Nat → List (List Int) → List (List Int) → List (List Int) → Int → Int → Option ((List (List Int)))
  | 0, _, _, _, _, _ => none
  | k + 1, x0, x3, x9, x10, x11 => if x11 < x10 then (if 0 ≤ x11 then (if x11 < (x9.length : Int) then (spec_l1LeastMarks.l1 k x0 x3 (rd_L1 x9 x11) true x9 x10 x11 x0 (x0.length : Int) 0) else (none)) else (none)) else (some x3)
def spec_l1LeastMarks.l1 : Nat → List (List Int) → List (List Int) → List Int → Bool → List (List Int) → Int → Int → List (List Int) → Int → Int → Option ((List (List Int)))
  | 0, _, _, _, _, _, _, _, _, _, _ => none
  | k + 1, x0, x3, x5, x6, x9, x10, x11, x15, x16, x17 => if x17 < x16 then (if 0 ≤ x17 then (if x17 < (x15.length : Int) then (if x6 = true then ((spec_l1Covers.f k x5 (rd_L1 x15 x17)).bind fun t141 => (if t141 = true then ((spec_l1Same.f k x5 (rd_L1 x15 x17)).bind fun t142 => (spec_l1LeastMarks.l1 k x0 x3 x5 t142 x9 x10 x11 x15 x16 (wrap64 (x17 + 1)))) else (spec_l1LeastMarks.l1 k x0 x3 x5 true x9 x10 x11 x15 x16 (wrap64 (x17 + 1))))) else (spec_l1LeastMarks.l1 k x0 x3 x5 false x9 x10 x11 x15 x16 (wrap64 (x17 + 1)))) else (none)) else (none)) else (if x6 = true then ((spec_l1Own.f x5).bind fun t143 => ((spec_l1InOrder.f k x3 t143).bind fun t146 => (spec_l1LeastMarks.l0 k x0 t146 x9 x10 (wrap64 (x11 + 1))))) else (spec_l1LeastMarks.l0 k x0 x3 x9 x10 (wrap64 (x11 + 1))))
end
def spec_l1LeastMarks.f (k : Nat) (l0 : List (List Int)) : Option ((List (List Int))) := spec_l1LeastMarks.l0 k l0 ([] : List (List Int)) l0 (l0.length : Int) 0
set_option maxHeartbeats 8000000 in
set_option maxRecDepth 100000 in
theorem spec_l1LeastMarks.calls (k : Nat) (A0 : Option Addr) (c0 : Nat) (l0 : List (List Int)) (r : List (List Int)) (w : World) (hr0 : Kd.C (Kd.slice 3 (Kd.int .i64)) w A0 l0.length l0) (hc0 : l0.length ≤ c0) (h : spec_l1LeastMarks.f k l0 = some r) :
    Calls Try.prog 44 #[.slice A0 l0.length c0] w fun e w' => ∃ v0_ : Value, e = .returned (v0_) ∧ Kd.V (Kd.slice 3 (Kd.int .i64)) 32 w' w.heap.size (fun k_ => (w.heap.size ≤ k_)) v0_ r ∧ Below w.heap.size w w' := by
  have HR0 := q_ hr0; have HC0 := q_ hc0; clear hr0 hc0; have HB := q_ (Below.refl w.heap.size w); have H : (spec_l1LeastMarks.l0 k l0 ([] : List (List Int)) l0 (l0.length : Int) 0) = some r := h; clear h; have H' := q_ H; clear H; go_enter Try.func44, Try.ntmps44; go_wp2; go_loopg [3, 11] k (fun kq v3 v11 w' => ∃ (x3_1 : List (List Int)) (x11_1 : Int), v11 = .int .i64 x11_1 ∧ Aside0 (spec_l1LeastMarks.l0 kq l0 x3_1 l0 (l0.length : Int) x11_1 = some r) ∧ Aside0 (kq ≤ k) ∧ Aside0 (Kd.V (Kd.slice 3 (Kd.int .i64)) 32 w' w.heap.size (fun k_ => (w.heap.size ≤ k_)) v3 x3_1) ∧ Aside0 (Below w.heap.size w w'))
  case atStart => exact ⟨(([] : List (List Int))), (0), eqv, H', ⟨Nat.le_refl _⟩, ⟨(by exact Kd.V_nil _ _ _ _ _)⟩, ⟨by exact bv HB.out⟩⟩
  case round =>
   clear H'; obtain ⟨x3_1, x11_1, rfl, HA, HK1, HO_3, HB⟩ := hrel
   cases gk with
   | zero => exact absurd HA.out (by simp [spec_l1LeastMarks.l0])
   | succ k1 =>
    have H := HA.out; clear HA; simp only [spec_l1LeastMarks.l0] at H
    by_cases c2 : x11_1 < (l0.length : Int)
    ·rw [if_pos c2] at H; have c2b0 : decide (x11_1 < (l0.length : Int)) = true := decide_eq_true c2; clear c2
     obtain ⟨c3, H⟩ := ifp_ H; have c3b0 : decide (0 ≤ x11_1) = true := decide_eq_true c3; clear c3
     obtain ⟨c4, H⟩ := ifp_ H; have c4b0 : decide (x11_1 < (l0.length : Int)) = true := decide_eq_true c4; clear c4; have H' := q_ H; clear H; have p139 : 0 ≤ (x11_1 : Int) := od; have q139 : x11_1 < (l0.length : Int) := od; obtain ⟨ad139, A139_0, c139_0, e139, hx139_0, hl139_0, hi139_0⟩ := at_L1 HR0.out x11_1 p139 q139
     cases e139
     replace hx139_0 := cb_ HB.out hx139_0; have HR139_0 := q_ hi139_0; have HC139_0 := q_ hl139_0; clear hi139_0 hl139_0; replace p139 := eq_true p139; replace q139 := eq_true q139; go_wp2; go_loopg [6, 17] k1 (fun kq v6 v17 w' => ∃ (x6_2 : Bool) (x17_2 : Int), v6 = .bool x6_2 ∧ v17 = .int .i64 x17_2 ∧ Aside0 (spec_l1LeastMarks.l1 kq l0 x3_1 (rd_L1 l0 x11_1) x6_2 l0 (l0.length : Int) x11_1 l0 (l0.length : Int) x17_2 = some r) ∧ Aside0 (kq ≤ k1) ∧ Aside0 (Kd.V (Kd.slice 3 (Kd.int .i64)) 32 w' w.heap.size (fun k_ => (w.heap.size ≤ k_)) u3 x3_1) ∧ Aside0 (Below w.heap.size w w'))
     case atStart => exact ⟨(true), (0), eqv, eqv, H', ⟨Nat.le_refl _⟩, ⟨by exact Kd.V_v HO_3.out⟩, ⟨by exact bv HB.out⟩⟩
     case round =>
      clear H'; (try clear c2b0); (try clear c3b0); (try clear c4b0); (try clear hx139_0); (try clear p139); (try clear q139); obtain ⟨x6_2, x17_2, rfl, rfl, HA, HK2, HO_3, HB⟩ := hrel
      cases gk with
      | zero => exact absurd HA.out (by simp [spec_l1LeastMarks.l1])
      | succ k2 =>
       have H := HA.out; clear HA; simp only [spec_l1LeastMarks.l1] at H
       by_cases c5 : x17_2 < (l0.length : Int)
       ·rw [if_pos c5] at H; have c5b0 : decide (x17_2 < (l0.length : Int)) = true := decide_eq_true c5; clear c5
        obtain ⟨c6, H⟩ := ifp_ H; have c6b0 : decide (0 ≤ x17_2) = true := decide_eq_true c6; clear c6
        obtain ⟨c7, H⟩ := ifp_ H; have c7b0 : decide (x17_2 < (l0.length : Int)) = true := decide_eq_true c7; clear c7
        by_cases c8 : x6_2 = true
        ·subst c8; replace H := itt_ H; obtain ⟨t141, A9, H⟩ := bnd_ H
         by_cases c10 : t141 = true
         ·subst c10; replace H := itt_ H; obtain ⟨t142, A11, H⟩ := bnd_ H; have H' := q_ H; clear H; have p140 : 0 ≤ (x17_2 : Int) := od; have q140 : x17_2 < (l0.length : Int) := od; obtain ⟨ad140, A140_0, c140_0, e140, hx140_0, hl140_0, hi140_0⟩ := at_L1 HR0.out x17_2 p140 q140; obtain rfl : ad139 = ad140 := (by injection e140); replace hx140_0 := cb_ HB.out hx140_0; have HR140_0 := q_ hi140_0; have HC140_0 := q_ hl140_0; clear hi140_0 hl140_0; replace p140 := eq_true p140; replace q140 := eq_true q140; go_wp2_with (first | (go_at_call 49; (with_reducible refine (spec_l1Covers.calls k2 _ _ (rd_L1 l0 x11_1) _ _ (rd_L1 l0 x17_2) true _ ?side1 ?side2 ?side3 ?side4 A9.out).mono ?_); (case side1 => exact Kd.C_v ((Kd.C_below HR139_0.out HB.out))); (case side2 => exact HC139_0.out); (case side3 => exact Kd.C_v ((Kd.C_below HR140_0.out HB.out))); (case side4 => exact HC140_0.out); rintro e w' ⟨rfl, ⟨nd, rfl⟩⟩) | (go_at_call 73; (with_reducible refine (spec_l1Same.calls k2 _ _ (rd_L1 l0 x11_1) _ _ (rd_L1 l0 x17_2) t142 _ ?side1 ?side2 ?side3 ?side4 A11.out).mono ?_); (case side1 => exact (Kd.C_below HR139_0.out (by exact bv HB.out))); (case side2 => exact HC139_0.out); (case side3 => exact (Kd.C_below HR140_0.out (by exact bv HB.out))); (case side4 => exact HC140_0.out); rintro e w' ⟨rfl, ⟨nd, rfl⟩⟩)); go_roundg k2
          case measure => have := HK1.out; have := HK2.out; omega
          case rel => exact ⟨(t142), (wrap64 (x17_2 + 1)), eqv, eqv, H', ⟨by have := HK1.out; have := HK2.out; omega⟩, ⟨by exact Kd.V_v HO_3.out⟩, ⟨by exact bv HB.out⟩⟩
         ·replace c10 := Bool.eq_false_iff.mpr c10; subst c10; replace H := iff_ H; have H' := q_ H; clear H; have p140 : 0 ≤ (x17_2 : Int) := od; have q140 : x17_2 < (l0.length : Int) := od; obtain ⟨ad140, A140_0, c140_0, e140, hx140_0, hl140_0, hi140_0⟩ := at_L1 HR0.out x17_2 p140 q140; obtain rfl : ad139 = ad140 := (by injection e140); replace hx140_0 := cb_ HB.out hx140_0; have HR140_0 := q_ hi140_0; have HC140_0 := q_ hl140_0; clear hi140_0 hl140_0; replace p140 := eq_true p140; replace q140 := eq_true q140; go_wp2_with (first | (go_at_call 49; (with_reducible refine (spec_l1Covers.calls k2 _ _ (rd_L1 l0 x11_1) _ _ (rd_L1 l0 x17_2) false _ ?side1 ?side2 ?side3 ?side4 A9.out).mono ?_); (case side1 => exact Kd.C_v ((Kd.C_below HR139_0.out HB.out))); (case side2 => exact HC139_0.out); (case side3 => exact Kd.C_v ((Kd.C_below HR140_0.out HB.out))); (case side4 => exact HC140_0.out); rintro e w' ⟨rfl, ⟨nd, rfl⟩⟩)); go_roundg k2
          case measure => have := HK1.out; have := HK2.out; omega
          case rel => exact ⟨(true), (wrap64 (x17_2 + 1)), eqv, eqv, H', ⟨by have := HK1.out; have := HK2.out; omega⟩, ⟨by exact Kd.V_v HO_3.out⟩, ⟨by exact bv HB.out⟩⟩
        ·replace c8 := Bool.eq_false_iff.mpr c8; subst c8; replace H := iff_ H; have H' := q_ H; clear H; have p140 : 0 ≤ (x17_2 : Int) := od; have q140 : x17_2 < (l0.length : Int) := od; obtain ⟨ad140, A140_0, c140_0, e140, hx140_0, hl140_0, hi140_0⟩ := at_L1 HR0.out x17_2 p140 q140; obtain rfl : ad139 = ad140 := (by injection e140); replace hx140_0 := cb_ HB.out hx140_0; have HR140_0 := q_ hi140_0; have HC140_0 := q_ hl140_0; clear hi140_0 hl140_0; replace p140 := eq_true p140; replace q140 := eq_true q140; go_wp2; go_roundg k2
         case measure => have := HK1.out; have := HK2.out; omega
         case rel => exact ⟨(false), (wrap64 (x17_2 + 1)), eqv, eqv, H', ⟨by have := HK1.out; have := HK2.out; omega⟩, ⟨by exact Kd.V_v HO_3.out⟩, ⟨by exact bv HB.out⟩⟩
       ·rw [if_neg c5] at H; have c5b0 : decide (x17_2 < (l0.length : Int)) = false := decide_eq_false c5; clear c5
        by_cases c12 : x6_2 = true
        ·subst c12; replace H := itt_ H; obtain ⟨t143, A13, H⟩ := bnd_ H; obtain ⟨t146, A14, H⟩ := bnd_ H; have H' := q_ H; clear H; go_wp2_with (first | (refine goesM (some 37) rfl rfl Try.func75 #[.slice A139_0 (rd_L1 l0 x11_1).length c139_0] rfl ?_; (with_reducible refine (spec_l1Own.calls _ _ (rd_L1 l0 x11_1) t143 _ ?side1 ?side2 A13.out).mono ?_); (case side1 => exact Kd.C_v ((Kd.C_below HR139_0.out HB.out))); (case side2 => exact HC139_0.out); rintro e w15 ⟨v144, rfl, ho0, hb⟩; refine ⟨_, rfl, ?_⟩; have HO145 := q_ (Kd.R_lower (Kd.R_newM (M := fun k_ => (w.heap.size ≤ k_)) ho0 (below_size (by exact bv HB.out)) (fun k_ h_ => h_)) (below_size (by exact bv HB.out))); replace HO_3 := q_ (Kd.V_elder' (by exact Kd.V_v HO_3.out) (Kd.R_base ho0) hb); replace HB := q_ (below_step (by exact bv HB.out) hb); (try clear hb); (try clear hb2); (try clear hk); (try clear hi); (try clear ho0); obtain ⟨Ao16, co16, eo16⟩ := Kd.V_slice HO_3.out; subst eo16; obtain ⟨Ao17, co17, eo17⟩ := Kd.R_slice HO145.out; subst eo17) | (refine goesM (some 38) rfl rfl Try.func74 #[.slice Ao16 x3_1.length co16, .slice Ao17 t143.length co17] rfl ?_; (with_reducible refine (spec_l1InOrder.calls k2 (fun k_ => ((w.heap.size ≤ k_) ∧ some k_ ≠ (.slice Ao17 t143.length co17 : Value).ownBlock)) _ _ x3_1 (fun k_ => some k_ = (.slice Ao17 t143.length co17 : Value).ownBlock) _ _ t143 t146 _ ?side1 ?side2 A14.out).mono ?_); (case side1 => exact HO_3.out); (case side2 => exact Kd.R_V (Kd.R_tight rfl (HO145.out))); rintro e w18 ⟨v147, rfl, ho0, hb⟩; refine ⟨_, rfl, ?_⟩; have HO148 := q_ (Kd.V_lower (Kd.V_mono (ok' := fun k_ => (w.heap.size ≤ k_)) ho0 (fun k_ hk_ => Or.elim hk_ (fun hs_ => Or.elim hs_ (fun hs_ => hs_.1) (fun hs_ => ((HO145.out).1 k_ hs_.symm).1)) (fun hn_ => (Nat.le_trans (below_size (by exact bv HB.out)) hn_)))) (below_size (by exact bv HB.out))); replace HO_3 := q_ (Kd.V_below (by exact Kd.V_v HO_3.out) hb); replace HO145 := q_ (Kd.R_below (by exact Kd.R_v HO145.out) hb); replace HB := q_ (below_step (by exact bv HB.out) hb); (try clear hb); (try clear hb2); (try clear hk); (try clear hi); (try clear ho0))); go_roundg k2
         case measure => have := HK1.out; have := HK2.out; omega
         case rel => exact ⟨(t146), (wrap64 (x11_1 + 1)), eqv, H', ⟨by have := HK1.out; have := HK2.out; omega⟩, ⟨by exact Kd.V_v HO148.out⟩, ⟨by exact bv HB.out⟩⟩
        ·replace c12 := Bool.eq_false_iff.mpr c12; subst c12; replace H := iff_ H; have H' := q_ H; clear H; go_wp2; go_roundg k2
         case measure => have := HK1.out; have := HK2.out; omega
         case rel => exact ⟨(x3_1), (wrap64 (x11_1 + 1)), eqv, H', ⟨by have := HK1.out; have := HK2.out; omega⟩, ⟨by exact Kd.V_v HO_3.out⟩, ⟨by exact bv HB.out⟩⟩
    ·rw [if_neg c2] at H; have c2b0 : decide (x11_1 < (l0.length : Int)) = false := decide_eq_false c2; clear c2; obtain rfl := Option.some.inj H; go_wp2; go_ret; exact ⟨_, by first | rfl | (simp [errW_none, errW_some] <;> rfl) | (simp [*, errW_none, errW_some] <;> rfl), by exact Kd.V_v HO_3.out, by exact bv HB.out⟩

/-! ### spec_LeastMarks: function 10 -/
mutual
def spec_LeastMarks.j0 : Nat → Int → List (List Int) → Bool → Option ((List (List Int)) × Bool)
  | 0, _, _, _ => none
  | k + 1, x0, x1, x15 => if x15 = true then (some (([] : List (List Int)), false)) else (spec_LeastMarks.l0 k x0 x1 x1 (x1.length : Int) 0)
def spec_LeastMarks.l0 : Nat → Int → List (List Int) → List (List Int) → Int → Int → Option ((List (List Int)) × Bool)
  | 0, _, _, _, _, _ => none
  | k + 1, x0, x1, x16, x17, x18 => if x18 < x17 then (if 0 ≤ x18 then (if x18 < (x16.length : Int) then ((spec_GoodMark.f k x0 (rd_L1 x16 x18)).bind fun t151 => (if t151 = true then (spec_LeastMarks.l0 k x0 x1 x16 x17 (wrap64 (x18 + 1))) else (some (([] : List (List Int)), false)))) else (none)) else (none)) else ((spec_l1LeastMarks.f k x1).bind fun t152 => (some (t152, true)))
end
def spec_LeastMarks.f (k : Nat) (a0 : Int) (l1 : List (List Int)) : Option ((List (List Int)) × Bool) := (spec_l1Places.f a0).bind fun t149 => (if t149 = true then (spec_LeastMarks.j0 k a0 l1 (decide ((l1.length : Int) > 400))) else (spec_LeastMarks.j0 k a0 l1 true))
set_option maxHeartbeats 8000000 in
set_option maxRecDepth 100000 in
theorem spec_LeastMarks.calls (k : Nat) (a0 : Int) (A1 : Option Addr) (c1 : Nat) (l1 : List (List Int)) (r1 : List (List Int)) (r2 : Bool) (w : World) (hr1 : Kd.C (Kd.slice 3 (Kd.int .i64)) w A1 l1.length l1) (hc1 : l1.length ≤ c1) (h : spec_LeastMarks.f k a0 l1 = some (r1, r2)) :
    Calls Try.prog 10 #[.int .i64 a0, .slice A1 l1.length c1] w fun e w' => ∃ v0_ : Value, e = .returned (.tuple #[v0_, .bool r2]) ∧ Kd.V (Kd.slice 3 (Kd.int .i64)) 32 w' w.heap.size (fun k_ => (w.heap.size ≤ k_)) v0_ r1 ∧ Below w.heap.size w w' := by
  have HR1 := q_ hr1; have HC1 := q_ hc1; clear hr1 hc1; have HB := q_ (Below.refl w.heap.size w); have H : ((spec_l1Places.f a0).bind fun t149 => (if t149 = true then (spec_LeastMarks.j0 k a0 l1 (decide ((l1.length : Int) > 400))) else (spec_LeastMarks.j0 k a0 l1 true))) = some (r1, r2) := h; clear h; have HC3 := q_ H; clear H; go_enter Try.func10, Try.ntmps10
  go_upto_region 1 with (fail)
  go_cut [15] (fun v15 wc => ∃ (kq : Nat) (x15_2 : Bool), v15 = .bool x15_2 ∧ Aside0 (spec_LeastMarks.j0 kq a0 l1 x15_2 = some (r1, r2)) ∧ Aside0 (kq ≤ k) ∧ Aside0 (Below w.heap.size w wc))
  case first =>
   have H := HC3.out; clear HC3; obtain ⟨t149, A4, H⟩ := bnd_ H
   by_cases c5 : t149 = true
   ·subst c5; replace H := itt_ H; have H' := q_ H; clear H; go_wp2_with (first | (refine goesM (some 9) rfl rfl Try.func42 #[.int .i64 a0] rfl ?_; (with_reducible refine (spec_l1Places.calls a0 true _ A4.out).mono ?_); rintro e w' ⟨rfl, ⟨nd, rfl⟩⟩; refine ⟨_, rfl, ?_⟩)); go_meet
    case rel => exact ⟨_, (decide ((l1.length : Int) > 400)), eqv, H', ⟨by first | omega | exact Nat.le_refl _⟩, ⟨by exact bv HB.out⟩⟩
   ·replace c5 := Bool.eq_false_iff.mpr c5; subst c5; replace H := iff_ H; have H' := q_ H; clear H; go_wp2_with (first | (refine goesM (some 9) rfl rfl Try.func42 #[.int .i64 a0] rfl ?_; (with_reducible refine (spec_l1Places.calls a0 false _ A4.out).mono ?_); rintro e w' ⟨rfl, ⟨nd, rfl⟩⟩; refine ⟨_, rfl, ?_⟩)); go_meet
    case rel => exact ⟨_, (true), eqv, H', ⟨by first | omega | exact Nat.le_refl _⟩, ⟨by exact bv HB.out⟩⟩
  case rest =>
   clear HC3; obtain ⟨kq, x15_2, rfl, HA, HJ2, HB⟩ := hcut
   cases kq with
   | zero => exact absurd HA.out (by simp [spec_LeastMarks.j0])
   | succ kj2 =>
    have H := HA.out; clear HA; simp only [spec_LeastMarks.j0] at H
    by_cases c6 : x15_2 = true
    ·subst c6; replace H := itt_ H; simp only [Option.some.injEq, Prod.mk.injEq] at H; obtain ⟨rfl, rfl⟩ := H; go_wp2
     go_ret2
     exact ⟨_, by first | rfl | (simp [errW_none, errW_some] <;> rfl) | (simp [*, errW_none, errW_some] <;> rfl), (by exact Kd.V_nil _ _ _ _ _), by exact bv HB.out⟩
    ·replace c6 := Bool.eq_false_iff.mpr c6; subst c6; replace H := iff_ H; have H' := q_ H; clear H; go_wp2; go_loopg [18] kj2 (fun kq v18 w' => ∃ (x18_2 : Int), v18 = .int .i64 x18_2 ∧ Aside0 (spec_LeastMarks.l0 kq a0 l1 l1 (l1.length : Int) x18_2 = some (r1, r2)) ∧ Aside0 (kq ≤ kj2) ∧ Aside0 (Below w.heap.size w w'))
     case atStart => exact ⟨(0), eqv, H', ⟨Nat.le_refl _⟩, ⟨by exact bv HB.out⟩⟩
     case round =>
      clear H'; (try clear c6); obtain ⟨x18_2, rfl, HA, HK2, HB⟩ := hrel
      cases gk with
      | zero => exact absurd HA.out (by simp [spec_LeastMarks.l0])
      | succ k2 =>
       have H := HA.out; clear HA; simp only [spec_LeastMarks.l0] at H
       by_cases c7 : x18_2 < (l1.length : Int)
       ·rw [if_pos c7] at H; have c7b0 : decide (x18_2 < (l1.length : Int)) = true := decide_eq_true c7; clear c7
        obtain ⟨c8, H⟩ := ifp_ H; have c8b0 : decide (0 ≤ x18_2) = true := decide_eq_true c8; clear c8
        obtain ⟨c9, H⟩ := ifp_ H; have c9b0 : decide (x18_2 < (l1.length : Int)) = true := decide_eq_true c9; clear c9; obtain ⟨t151, A10, H⟩ := bnd_ H; have HC11 := q_ H; clear H; have p150 : 0 ≤ (x18_2 : Int) := od; have q150 : x18_2 < (l1.length : Int) := od; obtain ⟨ad150, A150_0, c150_0, e150, hx150_0, hl150_0, hi150_0⟩ := at_L1 HR1.out x18_2 p150 q150
        cases e150
        replace hx150_0 := cb_ HB.out hx150_0; have HR150_0 := q_ hi150_0; have HC150_0 := q_ hl150_0; clear hi150_0 hl150_0; replace p150 := eq_true p150; replace q150 := eq_true q150
        go_upto_if 25 with (first | (refine goesM (some 24) rfl rfl Try.func43 #[.int .i64 a0, .slice A150_0 (rd_L1 l1 x18_2).length c150_0] rfl ?_; (with_reducible refine (spec_GoodMark.calls k2 a0 _ _ (rd_L1 l1 x18_2) t151 _ ?side1 ?side2 A10.out).mono ?_); (case side1 => exact Kd.C_v ((Kd.C_below HR150_0.out HB.out))); (case side2 => exact HC150_0.out); rintro e w' ⟨rfl, ⟨nd, rfl⟩⟩; refine ⟨_, rfl, ?_⟩))
        (try simp only [Act.put, List.setIfInBounds_toArray, List.set_cons_zero, List.set_cons_succ]); have H := HC11.out; clear HC11
        by_cases c12 : t151 = true
        ·subst c12; replace H := itt_ H; have H' := q_ H; clear H; go_wp2; go_roundg k2
         case measure => have := HJ2.out; have := HK2.out; omega
         case rel => exact ⟨(wrap64 (x18_2 + 1)), eqv, H', ⟨by have := HJ2.out; have := HK2.out; omega⟩, ⟨by exact bv HB.out⟩⟩
        ·replace c12 := Bool.eq_false_iff.mpr c12; subst c12; replace H := iff_ H; simp only [Option.some.injEq, Prod.mk.injEq] at H; obtain ⟨rfl, rfl⟩ := H; go_wp2
         go_ret2
         exact ⟨_, by first | rfl | (simp [errW_none, errW_some] <;> rfl) | (simp [*, errW_none, errW_some] <;> rfl), (by exact Kd.V_nil _ _ _ _ _), by exact bv HB.out⟩
       ·rw [if_neg c7] at H; have c7b0 : decide (x18_2 < (l1.length : Int)) = false := decide_eq_false c7; clear c7; obtain ⟨t152, A13, H⟩ := bnd_ H; simp only [Option.some.injEq, Prod.mk.injEq] at H; obtain ⟨rfl, rfl⟩ := H; go_wp2_with (first | (refine goesM (some 28) rfl rfl Try.func44 #[.slice A1 l1.length c1] rfl ?_; (with_reducible refine (spec_l1LeastMarks.calls k2 _ _ l1 t152 _ ?side1 ?side2 A13.out).mono ?_); (case side1 => exact Kd.C_v ((Kd.C_below HR1.out HB.out))); (case side2 => exact HC1.out); rintro e w14 ⟨v153, rfl, ho0, hb⟩; refine ⟨_, rfl, ?_⟩; have HO154 := q_ (Kd.V_lower (Kd.V_mono (ok' := fun k_ => (w.heap.size ≤ k_)) ho0 (fun k_ hk_ => (Nat.le_trans (below_size (by exact bv HB.out)) hk_))) (below_size (by exact bv HB.out))); replace HB := q_ (below_step (by exact bv HB.out) hb); (try clear hb); (try clear hb2); (try clear hk); (try clear hi); (try clear ho0)))
        go_ret2
        exact ⟨_, by first | rfl | (simp [errW_none, errW_some] <;> rfl) | (simp [*, errW_none, errW_some] <;> rfl), by exact Kd.V_v HO154.out, by exact bv HB.out⟩

/-! ### laws_toIntS: function 19 -/
def laws_toIntS.l0 : Nat → List Int → List Int → Int → Option (List Int)
  | 0, _, _, _ => none
  | k + 1, x0, x3, x4 => if x4 < (x0.length : Int) then (if 0 ≤ x4 then (if x4 < (x3.length : Int) then (laws_toIntS.l0 k x0 (x3.set (x4 : Int).toNat (rd x0 x4)) (wrap64 (x4 + 1))) else (none)) else (none)) else (some x3)
def laws_toIntS.f (k : Nat) (l0 : List Int) : Option (List Int) := if 0 ≤ (l0.length : Int) then (if ((l0.length : Int) : Int).toNat ≤ 35184372088832 then (laws_toIntS.l0 k l0 (List.replicate ((l0.length : Int) : Int).toNat 0) 0) else (none)) else (none)
set_option maxHeartbeats 8000000 in
set_option maxRecDepth 100000 in
theorem laws_toIntS.calls (k : Nat) (A0 : Option Addr) (c0 : Nat) (l0 : List Int) (r : List Int) (w : World) (hr0 : Kd.C (Kd.int .i64) w A0 l0.length l0) (hc0 : l0.length ≤ c0) (h : laws_toIntS.f k l0 = some r) :
    Calls Try.prog 19 #[.slice A0 l0.length c0] w fun e w' => ∃ v0_ : Value, e = .returned (v0_) ∧ Kd.R (Kd.int .i64) 3 w' w.heap.size (fun _ => True) v0_ r ∧ Below w.heap.size w w' := by
  have HR0 := q_ hr0; have HC0 := q_ hc0; clear hr0 hc0; have HB := q_ (Below.refl w.heap.size w); have H : (if 0 ≤ (l0.length : Int) then (if ((l0.length : Int) : Int).toNat ≤ 35184372088832 then (laws_toIntS.l0 k l0 (List.replicate ((l0.length : Int) : Int).toNat 0) 0) else (none)) else (none)) = some r := h; clear h
  obtain ⟨c2, H⟩ := ifp_ H; have c2b0 := eq_true c2; have c2b1 : decide (0 ≤ (l0.length : Int)) = true := decide_eq_true c2; clear c2
  obtain ⟨c3, H⟩ := ifp_ H; have c3b0 := eq_true c3; have c3b1 : decide (((l0.length : Int) : Int).toNat ≤ 35184372088832) = true := decide_eq_true c3; clear c3; obtain ⟨y155, hy155⟩ : ∃ y_ : List Int, y_ = (List.replicate ((l0.length : Int) : Int).toNat 0) := ⟨_, rfl⟩; (replace H : (laws_toIntS.l0 k l0 y155 0) = some r := by first | (rw [hy155]; with_reducible exact H) | (have H2_ := (Option.bind_some _ _).symm.trans H; rw [hy155]; with_reducible exact H2_) | (have H2_ := (Option.bind_some _ _).symm.trans H; with_reducible exact H2_) | with_reducible exact H | (rw [hy155]; exact H) | exact H); have Ny155 := q_ hy155; clear hy155; have H' := q_ H; clear H; go_enter Try.func19, Try.ntmps19; go_wp2_with (first | ((with_reducible refine gate_dst (N := 7) rfl ?_); refine Kd.R_make (Kd.int .i64) _ 3 rfl (N := 7) rfl 32 _ _ rfl (l0.length : Int) rfl rfl Try.underlying32 (.int .i64 0) 8 info3 rfl (by decide) (by omega) 0 (ok := fun _ => True) (okp := fun _ => True) rfl (fun _ hk => hk) trivial (od) (Nat.le_trans (Nat.mul_le_mul_right _ (od : (l0.length : Int).toNat ≤ 35184372088832)) (by omega)) (Below.refl _ _) (Nat.le_refl _) ?_; intro v156 w4 ho5 hb hg_ hnew_; clear hg_ hnew_; (first | rw [← Ny155.out] at ho5 | (simp only [Int.reduceToNat] at ho5; rw [← Ny155.out] at ho5)); have HO157 := q_ (Kd.R_lower ho5 (below_size (by exact bv HB.out))); replace HB := q_ (below_step (by exact bv HB.out) hb); clear hb ho5)); go_loopg [4] k (fun kq v4 w' => ∃ (x3_1 : List Int) (x4_1 : Int), v4 = .int .i64 x4_1 ∧ Aside0 (laws_toIntS.l0 kq l0 x3_1 x4_1 = some r) ∧ Aside0 (kq ≤ k) ∧ Aside0 (Kd.R (Kd.int .i64) 3 w' w.heap.size (fun _ => True) v156 x3_1) ∧ Aside0 (Below w.heap.size w w'))
  case atStart => exact ⟨(y155), (0), eqv, H', ⟨Nat.le_refl _⟩, ⟨by exact Kd.R_v HO157.out⟩, ⟨by exact bv HB.out⟩⟩
  case round =>
   clear H'; (try clear c2b0); (try clear c2b1); (try clear c3b0); (try clear c3b1); obtain ⟨x3_1, x4_1, rfl, HA, HK1, HO_3, HB⟩ := hrel
   cases gk with
   | zero => exact absurd HA.out (by simp [laws_toIntS.l0])
   | succ k1 =>
    have H := HA.out; clear HA; simp only [laws_toIntS.l0] at H
    by_cases c6 : x4_1 < (l0.length : Int)
    ·rw [if_pos c6] at H; have c6b0 : decide (x4_1 < (l0.length : Int)) = true := decide_eq_true c6; clear c6
     obtain ⟨c7, H⟩ := ifp_ H; have c7b0 : decide (0 ≤ x4_1) = true := decide_eq_true c7; clear c7
     obtain ⟨c8, H⟩ := ifp_ H; have c8b0 : decide (x4_1 < (x3_1.length : Int)) = true := decide_eq_true c8; clear c8; obtain ⟨y159, hy159⟩ : ∃ y_ : List Int, y_ = (x3_1.set (x4_1 : Int).toNat (rd l0 x4_1)) := ⟨_, rfl⟩; (replace H : (laws_toIntS.l0 k1 l0 y159 (wrap64 (x4_1 + 1))) = some r := by first | (rw [hy159]; with_reducible exact H) | (have H2_ := (Option.bind_some _ _).symm.trans H; rw [hy159]; with_reducible exact H2_) | (have H2_ := (Option.bind_some _ _).symm.trans H; with_reducible exact H2_) | with_reducible exact H | (rw [hy159]; exact H) | exact H); have Ny159 := q_ hy159; clear hy159; have H' := q_ H; clear H; have p158 : 0 ≤ (x4_1 : Int) := od; have q158 : x4_1 < (l0.length : Int) := od; obtain ⟨ad158, e158, hx158_0⟩ := Kd.at_int HR0.out x4_1 p158 q158
     cases e158
     replace hx158_0 := cb_ HB.out hx158_0; replace p158 := eq_true p158; replace q158 := eq_true q158; have p9 : 0 ≤ (x4_1 : Int) := od; have q9 : (x4_1 : Int) < ((x3_1.length : Int) : Int) := od; obtain ⟨go9, co9, eo9, gb9, gl9, cl9, HG9⟩ := Kd.R_form HO_3.out (by omega); (first | cases eo9 | (injection eo9 with ea_ en_ ec_; (first | subst ea_ | (injection ea_ with ea_; subst ea_)); subst ec_; clear en_)); have GB9 := q_ gb9; have GG9 := q_ HG9; clear gb9 gl9 HG9; obtain ⟨hx9_0, hf9_0⟩ := Kd.R_celln 0 HO_3.out (x4_1 : Int) p9 q9; replace p9 := eq_true p9; replace q9 := eq_true q9; have HP10 := Kd.R_putg HO_3.out (x4_1 : Int) (rd l0 x4_1); go_wp2_with (first | ((with_reducible refine gate_store (t := 3) (p := 20) rfl ?_); refine store_event (t := 3) (p := 20) (v := ?vo_w11) (w1 := (wr.setCell ⟨go9, (x4_1 : Int).toNat, none⟩ (.int .i64 (rd l0 x4_1)))) ?hg ?ho ?hn ?hr ?_; (case ho => rfl); (case hg => rfl); (case hn => rfl); (case hr => first | (go_simp; done) | (go_simp; rfl)); intro w11 hw; have hg : wr.grownBy w11 (some go9) := (by rw [hw]; exact HP10.2); have hp_ : Kd.R (Kd.int .i64) 3 w11 w.heap.size (fun _ => True) (.slice (some ⟨go9, 0, none⟩) x3_1.length co9) y159 := (by rw [hw, Ny159.out]; exact HP10.1); clear HP10; replace HO_3 := q_ (hp_); replace HB := q_ ((by rw [hw]; exact below_set (HB.out) GB9.out : Below w.heap.size w w11)); clear hg hw hp_)); go_roundg k1
     case measure => have := HK1.out; omega
     case rel => exact ⟨(y159), (wrap64 (x4_1 + 1)), eqv, H', ⟨by have := HK1.out; omega⟩, ⟨by exact Kd.R_v HO_3.out⟩, ⟨by exact bv HB.out⟩⟩
    ·rw [if_neg c6] at H; have c6b0 : decide (x4_1 < (l0.length : Int)) = false := decide_eq_false c6; clear c6; obtain rfl := Option.some.inj H; go_wp2; go_ret; exact ⟨_, by first | rfl | (simp [errW_none, errW_some] <;> rfl) | (simp [*, errW_none, errW_some] <;> rfl), by exact Kd.R_v HO_3.out, by exact bv HB.out⟩

/-! ### laws_toIntSS: function 11 -/
def laws_toIntSS.l0 : Nat → List (List Int) → List (List Int) → Int → Option ((List (List Int)))
  | 0, _, _, _ => none
  | k + 1, x0, x3, x4 => if x4 < (x0.length : Int) then (if 0 ≤ x4 then ((laws_toIntS.f k (rd_L1 x0 x4)).bind fun t164 => (if x4 < (x3.length : Int) then (laws_toIntSS.l0 k x0 (x3.set (x4 : Int).toNat t164) (wrap64 (x4 + 1))) else (none))) else (none)) else (some x3)
def laws_toIntSS.f (k : Nat) (l0 : List (List Int)) : Option ((List (List Int))) := if 0 ≤ (l0.length : Int) then (if ((l0.length : Int) : Int).toNat ≤ 11728124029610 then (laws_toIntSS.l0 k l0 (List.replicate ((l0.length : Int) : Int).toNat []) 0) else (none)) else (none)
set_option maxHeartbeats 8000000 in
set_option maxRecDepth 100000 in
theorem laws_toIntSS.calls (k : Nat) (A0 : Option Addr) (c0 : Nat) (l0 : List (List Int)) (r : List (List Int)) (w : World) (hr0 : Kd.C (Kd.slice 3 (Kd.int .i64)) w A0 l0.length l0) (hc0 : l0.length ≤ c0) (h : laws_toIntSS.f k l0 = some r) :
    Calls Try.prog 11 #[.slice A0 l0.length c0] w fun e w' => ∃ v0_ : Value, e = .returned (v0_) ∧ Kd.S (Kd.slice 3 (Kd.int .i64)) 32 w' w.heap.size (fun _ => True) v0_ r ∧ Below w.heap.size w w' := by
  have HR0 := q_ hr0; have HC0 := q_ hc0; clear hr0 hc0; have HB := q_ (Below.refl w.heap.size w); have H : (if 0 ≤ (l0.length : Int) then (if ((l0.length : Int) : Int).toNat ≤ 11728124029610 then (laws_toIntSS.l0 k l0 (List.replicate ((l0.length : Int) : Int).toNat []) 0) else (none)) else (none)) = some r := h; clear h
  obtain ⟨c2, H⟩ := ifp_ H; have c2b0 := eq_true c2; have c2b1 : decide (0 ≤ (l0.length : Int)) = true := decide_eq_true c2; clear c2
  obtain ⟨c3, H⟩ := ifp_ H; have c3b0 := eq_true c3; have c3b1 : decide (((l0.length : Int) : Int).toNat ≤ 11728124029610) = true := decide_eq_true c3; clear c3; obtain ⟨y160, hy160⟩ : ∃ y_ : List (List Int), y_ = (List.replicate ((l0.length : Int) : Int).toNat []) := ⟨_, rfl⟩; (replace H : (laws_toIntSS.l0 k l0 y160 0) = some r := by first | (rw [hy160]; with_reducible exact H) | (have H2_ := (Option.bind_some _ _).symm.trans H; rw [hy160]; with_reducible exact H2_) | (have H2_ := (Option.bind_some _ _).symm.trans H; with_reducible exact H2_) | with_reducible exact H | (rw [hy160]; exact H) | exact H); have Ny160 := q_ hy160; clear hy160; have H' := q_ H; clear H; go_enter Try.func11, Try.ntmps11; go_wp2_with (first | ((with_reducible refine gate_dst (N := 7) rfl ?_); refine Kd.S_make (Kd.slice 3 (Kd.int .i64)) _ 32 rfl (N := 7) rfl 22 _ _ rfl (l0.length : Int) rfl rfl Try.underlying22 (.slice none 0 0) 24 info32 rfl (by decide) (by omega) [] (ok := fun _ => True) (okp := fun _ => True) ⟨_, rfl, Kd.R_nil _ _ _ _ _⟩ (fun _ hk => hk) trivial (od) (Nat.le_trans (Nat.mul_le_mul_right _ (od : (l0.length : Int).toNat ≤ 11728124029610)) (by omega)) (Below.refl _ _) (Nat.le_refl _) ?_; intro v161 w4 ho5 hb hg_ hnew_; clear hg_ hnew_; (first | rw [← Ny160.out] at ho5 | (simp only [Int.reduceToNat] at ho5; rw [← Ny160.out] at ho5)); have HO162 := q_ (Kd.S_lower ho5 (below_size (by exact bv HB.out))); replace HB := q_ (below_step (by exact bv HB.out) hb); clear hb ho5)); go_loopg [4] k (fun kq v4 w' => ∃ (x3_1 : List (List Int)) (x4_1 : Int), v4 = .int .i64 x4_1 ∧ Aside0 (laws_toIntSS.l0 kq l0 x3_1 x4_1 = some r) ∧ Aside0 (kq ≤ k) ∧ Aside0 (Kd.S (Kd.slice 3 (Kd.int .i64)) 32 w' w.heap.size (fun _ => True) v161 x3_1) ∧ Aside0 (Below w.heap.size w w'))
  case atStart => exact ⟨(y160), (0), eqv, H', ⟨Nat.le_refl _⟩, ⟨by exact Kd.S_v HO162.out⟩, ⟨by exact bv HB.out⟩⟩
  case round =>
   clear H'; (try clear c2b0); (try clear c2b1); (try clear c3b0); (try clear c3b1); obtain ⟨x3_1, x4_1, rfl, HA, HK1, HO_3, HB⟩ := hrel
   cases gk with
   | zero => exact absurd HA.out (by simp [laws_toIntSS.l0])
   | succ k1 =>
    have H := HA.out; clear HA; simp only [laws_toIntSS.l0] at H
    by_cases c6 : x4_1 < (l0.length : Int)
    ·rw [if_pos c6] at H; have c6b0 : decide (x4_1 < (l0.length : Int)) = true := decide_eq_true c6; clear c6
     obtain ⟨c7, H⟩ := ifp_ H; have c7b0 : decide (0 ≤ x4_1) = true := decide_eq_true c7; clear c7; obtain ⟨t164, A8, H⟩ := bnd_ H
     obtain ⟨c9, H⟩ := ifp_ H; have c9b0 : decide (x4_1 < (x3_1.length : Int)) = true := decide_eq_true c9; clear c9; obtain ⟨y167, hy167⟩ : ∃ y_ : List (List Int), y_ = (x3_1.set (x4_1 : Int).toNat t164) := ⟨_, rfl⟩; (replace H : (laws_toIntSS.l0 k1 l0 y167 (wrap64 (x4_1 + 1))) = some r := by first | (rw [hy167]; with_reducible exact H) | (have H2_ := (Option.bind_some _ _).symm.trans H; rw [hy167]; with_reducible exact H2_) | (have H2_ := (Option.bind_some _ _).symm.trans H; with_reducible exact H2_) | with_reducible exact H | (rw [hy167]; exact H) | exact H); have Ny167 := q_ hy167; clear hy167; have H' := q_ H; clear H; have p163 : 0 ≤ (x4_1 : Int) := od; have q163 : x4_1 < (l0.length : Int) := od; obtain ⟨ad163, A163_0, c163_0, e163, hx163_0, hl163_0, hi163_0⟩ := at_L1 HR0.out x4_1 p163 q163
     cases e163
     replace hx163_0 := cb_ HB.out hx163_0; have HR163_0 := q_ hi163_0; have HC163_0 := q_ hl163_0; clear hi163_0 hl163_0; replace p163 := eq_true p163; replace q163 := eq_true q163; go_wp2_with (first | (refine goesM (some 20) rfl rfl Try.func19 #[.slice A163_0 (rd_L1 l0 x4_1).length c163_0] rfl ?_; (with_reducible refine (laws_toIntS.calls k1 _ _ (rd_L1 l0 x4_1) t164 _ ?side1 ?side2 A8.out).mono ?_); (case side1 => exact Kd.C_v ((Kd.C_below HR163_0.out HB.out))); (case side2 => exact HC163_0.out); rintro e w11 ⟨v165, rfl, ho0, hb⟩; refine ⟨_, rfl, ?_⟩; have HO166 := q_ (Kd.R_lower ho0 (below_size (by exact bv HB.out))); replace HO_3 := q_ (Kd.S_elder' (by exact Kd.S_v HO_3.out) (Kd.R_base ho0) hb); replace HB := q_ (below_step (by exact bv HB.out) hb); (try clear hb); (try clear hb2); (try clear hk); (try clear hi); (try clear ho0); have p10 : 0 ≤ (x4_1 : Int) := od; have q10 : (x4_1 : Int) < ((x3_1.length : Int) : Int) := od; obtain ⟨go10, co10, eo10, gb10, gl10, cl10, HG10⟩ := Kd.S_form HO_3.out (by omega); (first | cases eo10 | (injection eo10 with ea_ en_ ec_; (first | subst ea_ | (injection ea_ with ea_; subst ea_)); subst ec_; clear en_)); have GB10 := q_ gb10; have GG10 := q_ HG10; clear gb10 gl10 HG10; obtain ⟨_, ce10, hcl10, hM10, hcc10, hfr10, _, _⟩ := Kd.S_elem HO_3.out [] (x4_1 : Int) p10 q10; obtain ⟨ve10_0, rfl, ge10_0⟩ := hM10; have hx10_0 := hcc10 0 _ rfl; have hf10_0 := hfr10 0; (try simp only [show ((Kd.slice 3 (Kd.int .i64))).sz = 1 from rfl, Nat.mul_one, Nat.add_zero] at hx10_0); (try simp only [show ((Kd.slice 3 (Kd.int .i64))).sz = 1 from rfl, Nat.mul_one, Nat.add_zero] at hf10_0); clear hcl10 hcc10 hfr10; (try clear hM10); replace p10 := eq_true p10; replace q10 := eq_true q10; obtain ⟨Ao14, co14, eo14⟩ := Kd.R_slice HO166.out; subst eo14; have n_ := q_ (Kd.S_mono (ok' := (fun k_ => some k_ ≠ (.slice Ao14 t164.length co14 : Value).ownBlock)) HO_3.out (fun k_ hk => hk.2)); clear HO_3; have HO_3 := n_; clear n_; have HX12 := q_ (show Kd.S (Kd.slice 3 (Kd.int .i64)) 32 w11 w.heap.size (fun k_ => ((fun _ => True)) k_ ∧ ¬ ((fun k_ => some k_ = (.slice Ao14 t164.length co14 : Value).ownBlock)) k_) (.slice (some ⟨go10, 0, none⟩) x3_1.length co10) x3_1 from (by (with_reducible repeat (first | apply Kd.S_alloc | apply Kd.S_drewN | apply Kd.S_drew)); exact Kd.S_mono HO_3.out (fun k_ hk => ⟨trivial, fun e_ => hk e_⟩))); obtain ⟨oki12, ce12, hcl12, hM12, hcc12, hfr12, hoki12, hH12⟩ := Kd.S_elem HX12.out [] (x4_1 : Int) (od) (by have h_ : (x4_1 : Int) < ((x3_1.length : Int) : Int) := od; first | exact h_ | (have e_ := (Kd.S_reads' HO_3.out).1; omega) | simpa using h_); obtain ⟨ve12_0, rfl, ge12_0⟩ := hM12; have HP12 := Kd.S_seg hH12 (od) (by have h_ : (x4_1 : Int) < ((x3_1.length : Int) : Int) := od; first | exact h_ | (have e_ := (Kd.S_reads' HO_3.out).1; omega) | simpa using h_) (seg := [.slice Ao14 t164.length co14]) (j := 0) (show 1 ≤ 1 from by decide) (x' := t164) (Kd.M_row (Kd.R_mono (Kd.R_tight rfl (Kd.R_mono (ok' := fun k_ => ((fun _ => True)) k_ ∧ k_ ≠ go10) (Kd.R_apart' (HO166.out) (Kd.S_typed HO_3.out) (by decide)) (fun k_ hk => ⟨trivial, fun e_ => (hk.2) (by rw [e_]; rfl)⟩))) (fun _ h_ => Or.inr (h_)))) (fun _ hk => hk) (fun k_ hk_ => ((Kd.R_mono (ok' := fun k_ => ((fun _ => True)) k_ ∧ k_ ≠ go10) (Kd.R_apart' (HO166.out) (Kd.S_typed HO_3.out) (by decide)) (fun k_ hk => ⟨trivial, fun e_ => (hk.2) (by rw [e_]; rfl)⟩))).1 k_ hk_.symm); have hx12_0 := hcc12 0 _ rfl; (try simp only [show ((Kd.slice 3 (Kd.int .i64))).sz = 1 from rfl, Nat.mul_one, Nat.add_zero] at hx12_0); have hf12_0 := hfr12 0; (try simp only [show ((Kd.slice 3 (Kd.int .i64))).sz = 1 from rfl, Nat.mul_one, Nat.add_zero] at hf12_0); clear hcl12 hcc12 hfr12; (try clear hM12); clear hoki12 hH12; (try simp only [show ((Kd.slice 3 (Kd.int .i64))).sz = 1 from rfl, Nat.mul_one, Nat.add_zero] at HP12)) | ((with_reducible refine gate_store (t := 32) (p := 21) rfl ?_); refine store_event (t := 32) (p := 21) (v := ?vo_w13) (w1 := (w11.setCell ⟨go10, (x4_1 : Int).toNat, none⟩ (.slice Ao14 t164.length co14))) ?hg ?ho ?hn ?hr ?_; (case ho => rfl); (case hg => rfl); (case hn => rfl); (case hr => first | (go_simp; done) | (go_simp; rfl)); intro w13 hw; have hg : w11.grownBy w13 (some go10) := (by rw [hw]; exact HP12.2); have hp_ : Kd.S (Kd.slice 3 (Kd.int .i64)) 32 w13 w.heap.size (fun _ => True) (.slice (some ⟨go10, 0, none⟩) x3_1.length co10) y167 := (by rw [hw, Ny167.out]; exact HP12.1); clear HP12; replace HO_3 := q_ (hp_); replace HB := q_ ((by rw [hw]; exact below_set (HB.out) GB10.out : Below w.heap.size w w13)); clear HO166; clear hg hw hp_)); go_roundg k1
     case measure => have := HK1.out; omega
     case rel => exact ⟨(y167), (wrap64 (x4_1 + 1)), eqv, H', ⟨by have := HK1.out; omega⟩, ⟨by exact Kd.S_v HO_3.out⟩, ⟨by exact bv HB.out⟩⟩
    ·rw [if_neg c6] at H; have c6b0 : decide (x4_1 < (l0.length : Int)) = false := decide_eq_false c6; clear c6; obtain rfl := Option.some.inj H; go_wp2; go_ret; exact ⟨_, by first | rfl | (simp [errW_none, errW_some] <;> rfl) | (simp [*, errW_none, errW_some] <;> rfl), by exact Kd.S_v HO_3.out, by exact bv HB.out⟩

/-! ### impl_within: function 45 -/
def impl_within.f (a0 : Int) (a1 : Int) (a2 : Int) : Option (Bool) := if a0 ≥ a1 then (some (decide (a0 ≤ a2))) else (some false)
set_option maxHeartbeats 8000000 in
set_option maxRecDepth 100000 in
theorem impl_within.calls (a0 : Int) (a1 : Int) (a2 : Int) (r : Bool) (w : World) (h : impl_within.f a0 a1 a2 = some r) :
    Calls Try.prog 45 #[.int .i64 a0, .int .i64 a1, .int .i64 a2] w fun e w' => e = .returned (.bool r) ∧ Drawn0 w w' := by
  have H : (if a0 ≥ a1 then (some (decide (a0 ≤ a2))) else (some false)) = some r := h; clear h
  by_cases c4 : a0 ≥ a1
  ·rw [if_pos c4] at H; have c4b0 : decide (a1 ≤ a0) = true := decide_eq_true c4; clear c4; obtain rfl := Option.some.inj H; go_enter Try.func45, Try.ntmps45; go_wp2; go_ret; exact ⟨by first | rfl | (simp; done) | (simp [*]; done), by repeat (first | exact Drawn0.refl _ | apply Drawn0.step)⟩
  ·rw [if_neg c4] at H; have c4b0 : decide (a1 ≤ a0) = false := decide_eq_false c4; clear c4; obtain rfl := Option.some.inj H; go_enter Try.func45, Try.ntmps45; go_wp2; go_ret; exact ⟨by first | rfl | (simp; done) | (simp [*]; done), by repeat (first | exact Drawn0.refl _ | apply Drawn0.step)⟩

/-! ### impl_allWithin: function 87 -/
def impl_allWithin.l0 : Nat → Int → Int → List Int → Int → Int → Option (Bool)
  | 0, _, _, _, _, _ => none
  | k + 1, x1, x2, x9, x10, x11 => if x11 < x10 then (if 0 ≤ x11 then (if x11 < (x9.length : Int) then ((impl_within.f (rd x9 x11) x1 x2).bind fun t169 => (if t169 = true then (impl_allWithin.l0 k x1 x2 x9 x10 (wrap64 (x11 + 1))) else (some false))) else (none)) else (none)) else (some true)
def impl_allWithin.f (k : Nat) (l0 : List Int) (a1 : Int) (a2 : Int) : Option (Bool) := impl_allWithin.l0 k a1 a2 l0 (l0.length : Int) 0
set_option maxHeartbeats 8000000 in
set_option maxRecDepth 100000 in
theorem impl_allWithin.calls (k : Nat) (A0 : Option Addr) (c0 : Nat) (l0 : List Int) (a1 : Int) (a2 : Int) (r : Bool) (w : World) (hr0 : Kd.C (Kd.int .i64) w A0 l0.length l0) (hc0 : l0.length ≤ c0) (h : impl_allWithin.f k l0 a1 a2 = some r) :
    Calls Try.prog 87 #[.slice A0 l0.length c0, .int .i64 a1, .int .i64 a2] w fun e w' => e = .returned (.bool r) ∧ Drawn0 w w' := by
  have HR0 := q_ hr0; have HC0 := q_ hc0; clear hr0 hc0; have H : (impl_allWithin.l0 k a1 a2 l0 (l0.length : Int) 0) = some r := h; clear h; have H' := q_ H; clear H; go_enter Try.func87, Try.ntmps87; go_wp2; go_loopg [11] k (fun kq v11 w' => ∃ (x11_1 : Int), v11 = .int .i64 x11_1 ∧ Aside0 (impl_allWithin.l0 kq a1 a2 l0 (l0.length : Int) x11_1 = some r) ∧ Aside0 (kq ≤ k) ∧ Drawn0 w w')
  case atStart => exact ⟨(0), eqv, H', ⟨Nat.le_refl _⟩, by repeat (first | exact Drawn0.refl _ | apply Drawn0.step)⟩
  case round =>
   clear H'; obtain ⟨x11_1, rfl, HA, HK1, ⟨m1, rfl⟩⟩ := hrel
   cases gk with
   | zero => exact absurd HA.out (by simp [impl_allWithin.l0])
   | succ k1 =>
    have H := HA.out; clear HA; simp only [impl_allWithin.l0] at H
    by_cases c4 : x11_1 < (l0.length : Int)
    ·rw [if_pos c4] at H; have c4b0 : decide (x11_1 < (l0.length : Int)) = true := decide_eq_true c4; clear c4
     obtain ⟨c5, H⟩ := ifp_ H; have c5b0 : decide (0 ≤ x11_1) = true := decide_eq_true c5; clear c5
     obtain ⟨c6, H⟩ := ifp_ H; have c6b0 : decide (x11_1 < (l0.length : Int)) = true := decide_eq_true c6; clear c6; obtain ⟨t169, A7, H⟩ := bnd_ H; have HC8 := q_ H; clear H; have p168 : 0 ≤ (x11_1 : Int) := od; have q168 : x11_1 < (l0.length : Int) := od; obtain ⟨ad168, e168, hx168_0⟩ := Kd.at_int HR0.out x11_1 p168 q168
     cases e168
     replace p168 := eq_true p168; replace q168 := eq_true q168
     go_upto_if 19 with (first | (refine goesM (some 18) rfl rfl Try.func45 #[.int .i64 (rd l0 x11_1), .int .i64 a1, .int .i64 a2] rfl ?_; (with_reducible refine (impl_within.calls (rd l0 x11_1) a1 a2 t169 _ A7.out).mono ?_); rintro e w' ⟨rfl, ⟨nd, rfl⟩⟩; refine ⟨_, rfl, ?_⟩))
     (try simp only [Act.put, List.setIfInBounds_toArray, List.set_cons_zero, List.set_cons_succ]); have H := HC8.out; clear HC8
     by_cases c9 : t169 = true
     ·subst c9; replace H := itt_ H; have H' := q_ H; clear H; go_wp2; go_roundg k1
      case measure => have := HK1.out; omega
      case rel => exact ⟨(wrap64 (x11_1 + 1)), eqv, H', ⟨by have := HK1.out; omega⟩, by repeat (first | exact Drawn0.refl _ | apply Drawn0.step)⟩
     ·replace c9 := Bool.eq_false_iff.mpr c9; subst c9; replace H := iff_ H; obtain rfl := Option.some.inj H; go_wp2; go_ret; exact ⟨by first | rfl | (simp; done) | (simp [*]; done), by repeat (first | exact Drawn0.refl _ | apply Drawn0.step)⟩
    ·rw [if_neg c4] at H; have c4b0 : decide (x11_1 < (l0.length : Int)) = false := decide_eq_false c4; clear c4; obtain rfl := Option.some.inj H; go_wp2; go_ret; exact ⟨by first | rfl | (simp; done) | (simp [*]; done), by repeat (first | exact Drawn0.refl _ | apply Drawn0.step)⟩

/-! ### impl_GoodMark: function 52 -/
def impl_GoodMark.f (k : Nat) (a0 : Int) (l1 : List Int) : Option (Bool) := (impl_within.f a0 1 16).bind fun t170 => (if t170 = true then (if (l1.length : Int) = a0 then ((impl_allWithin.f k l1 0 50).bind fun t171 => (some t171)) else (some false)) else (some false))
set_option maxHeartbeats 8000000 in
set_option maxRecDepth 100000 in
theorem impl_GoodMark.calls (k : Nat) (a0 : Int) (A1 : Option Addr) (c1 : Nat) (l1 : List Int) (r : Bool) (w : World) (hr1 : Kd.C (Kd.int .i64) w A1 l1.length l1) (hc1 : l1.length ≤ c1) (h : impl_GoodMark.f k a0 l1 = some r) :
    Calls Try.prog 52 #[.int .i64 a0, .slice A1 l1.length c1] w fun e w' => e = .returned (.bool r) ∧ Drawn0 w w' := by
  have HR1 := q_ hr1; have HC1 := q_ hc1; clear hr1 hc1; have H : ((impl_within.f a0 1 16).bind fun t170 => (if t170 = true then (if (l1.length : Int) = a0 then ((impl_allWithin.f k l1 0 50).bind fun t171 => (some t171)) else (some false)) else (some false))) = some r := h; clear h; obtain ⟨t170, A3, H⟩ := bnd_ H
  by_cases c4 : t170 = true
  ·subst c4; replace H := itt_ H
   by_cases c5 : (l1.length : Int) = a0
   ·rw [if_pos c5] at H; have c5b0 : ((l1.length : Int) == a0) = true := beq_iff_eq.mpr c5; have c5b1 : ((l1.length : Int) != a0) = false := bne_eq_false_iff_eq.mpr c5; clear c5; obtain ⟨t171, A6, H⟩ := bnd_ H; obtain rfl := Option.some.inj H; go_enter Try.func52, Try.ntmps52; go_wp2_with (first | (refine goesM (some 6) rfl rfl Try.func45 #[.int .i64 a0, .int .i64 1, .int .i64 16] rfl ?_; (with_reducible refine (impl_within.calls a0 1 16 true _ A3.out).mono ?_); rintro e w' ⟨rfl, ⟨nd, rfl⟩⟩; refine ⟨_, rfl, ?_⟩) | (go_at_call 87; (with_reducible refine (impl_allWithin.calls k _ _ l1 0 50 t171 _ ?side1 ?side2 A6.out).mono ?_); (case side1 => exact Kd.C_v HR1.out); (case side2 => exact HC1.out); rintro e w' ⟨rfl, ⟨nd, rfl⟩⟩)); go_ret; exact ⟨by first | rfl | (simp; done) | (simp [*]; done), by repeat (first | exact Drawn0.refl _ | apply Drawn0.step)⟩
   ·rw [if_neg c5] at H; have c5b0 : ((l1.length : Int) == a0) = false := beq_eq_false_iff_ne.mpr c5; have c5b1 : ((l1.length : Int) != a0) = true := bne_iff_ne.mpr c5; obtain rfl := Option.some.inj H; go_enter Try.func52, Try.ntmps52; go_wp2_with (first | (refine goesM (some 6) rfl rfl Try.func45 #[.int .i64 a0, .int .i64 1, .int .i64 16] rfl ?_; (with_reducible refine (impl_within.calls a0 1 16 true _ A3.out).mono ?_); rintro e w' ⟨rfl, ⟨nd, rfl⟩⟩; refine ⟨_, rfl, ?_⟩)); go_ret; exact ⟨by first | rfl | (simp; done) | (simp [*]; done), by repeat (first | exact Drawn0.refl _ | apply Drawn0.step)⟩
  ·replace c4 := Bool.eq_false_iff.mpr c4; subst c4; replace H := iff_ H; obtain rfl := Option.some.inj H; go_enter Try.func52, Try.ntmps52; go_wp2_with (first | (refine goesM (some 6) rfl rfl Try.func45 #[.int .i64 a0, .int .i64 1, .int .i64 16] rfl ?_; (with_reducible refine (impl_within.calls a0 1 16 false _ A3.out).mono ?_); rintro e w' ⟨rfl, ⟨nd, rfl⟩⟩; refine ⟨_, rfl, ?_⟩)); go_ret; exact ⟨by first | rfl | (simp; done) | (simp [*]; done), by repeat (first | exact Drawn0.refl _ | apply Drawn0.step)⟩

/-! ### impl_areMarks_1: function 76 -/
def impl_areMarks_1.f (k : Nat) (l0 : List Int) (a1_0_0 : Int) : Option (Bool) := (impl_GoodMark.f k a1_0_0 l0).bind fun t172 => (some (!t172))
set_option maxHeartbeats 8000000 in
set_option maxRecDepth 100000 in
theorem impl_areMarks_1.calls (k : Nat) (A0 : Option Addr) (c0 : Nat) (l0 : List Int) (gq1_0 : Nat) (a1_0_0 : Int) (r : Bool) (w : World) (hr0 : Kd.C (Kd.int .i64) w A0 l0.length l0) (hc0 : l0.length ≤ c0) (hb1_0 : w.heap[gq1_0]? = some (.cells #[.int .i64 a1_0_0] 3 (0, 0))) (h : impl_areMarks_1.f k l0 a1_0_0 = some r) :
    Calls Try.prog 76 #[.slice A0 l0.length c0, .pointer (some ⟨gq1_0, 0, none⟩)] w fun e w' => e = .returned (.bool r) ∧ Drawn0 w w' := by
  have HR0 := q_ hr0; have HC0 := q_ hc0; clear hr0 hc0; have BK90100 := q_ hb1_0; clear hb1_0; have H : ((impl_GoodMark.f k a1_0_0 l0).bind fun t172 => (some (!t172))) = some r := h; clear h; obtain ⟨t172, A3, H⟩ := bnd_ H; obtain rfl := Option.some.inj H; obtain ⟨hcz4_0, hfz4_0⟩ := cz1 BK90100.out; go_enter Try.func76, Try.ntmps76; go_wp2_with (first | (refine goesM (some 6) rfl rfl Try.func52 #[.int .i64 a1_0_0, .slice A0 l0.length c0] rfl ?_; (with_reducible refine (impl_GoodMark.calls k a1_0_0 _ _ l0 t172 _ ?side1 ?side2 A3.out).mono ?_); (case side1 => exact Kd.C_v HR0.out); (case side2 => exact HC0.out); rintro e w' ⟨rfl, ⟨nd, rfl⟩⟩; refine ⟨_, rfl, ?_⟩)); go_ret; exact ⟨by first | rfl | (simp; done) | (simp [*]; done), by repeat (first | exact Drawn0.refl _ | apply Drawn0.step)⟩

/-! ### slices_IndexFunc_int_int_at_impl_areMarks_1: function 89 -/
def slices_IndexFunc_int_int_at_impl_areMarks_1.l0 : Nat → List (List Int) → Int → Int → Int → Option (Int)
  | 0, _, _, _, _ => none
  | k + 1, x0, x7, x8, x90101000 => if x8 < x7 then (if 0 ≤ x8 then (if x8 < (x0.length : Int) then ((impl_areMarks_1.f k (rd_L1 x0 x8) x90101000).bind fun t174 => (if t174 = true then (some x8) else (slices_IndexFunc_int_int_at_impl_areMarks_1.l0 k x0 x7 (wrap64 (x8 + 1)) x90101000))) else (none)) else (none)) else (some (-1))
def slices_IndexFunc_int_int_at_impl_areMarks_1.f (k : Nat) (l0 : List (List Int)) (a1_0_0 : Int) : Option (Int) := slices_IndexFunc_int_int_at_impl_areMarks_1.l0 k l0 (l0.length : Int) 0 a1_0_0
set_option maxHeartbeats 8000000 in
set_option maxRecDepth 100000 in
theorem slices_IndexFunc_int_int_at_impl_areMarks_1.calls (k : Nat) (A0 : Option Addr) (c0 : Nat) (l0 : List (List Int)) (gq1_0 : Nat) (a1_0_0 : Int) (r : Int) (w : World) (hr0 : Kd.C (Kd.slice 3 (Kd.int .i64)) w A0 l0.length l0) (hc0 : l0.length ≤ c0) (hb1_0 : w.heap[gq1_0]? = some (.cells #[.int .i64 a1_0_0] 3 (0, 0))) (h : slices_IndexFunc_int_int_at_impl_areMarks_1.f k l0 a1_0_0 = some r) :
    Calls Try.prog 89 #[.slice A0 l0.length c0, .func (.func 76) #[] #[.pointer (some ⟨gq1_0, 0, none⟩)]] w fun e w' => e = .returned (.int .i64 r) ∧ Drawn0 w w' := by
  have HR0 := q_ hr0; have HC0 := q_ hc0; clear hr0 hc0; have BK90100 := q_ hb1_0; clear hb1_0; have H : (slices_IndexFunc_int_int_at_impl_areMarks_1.l0 k l0 (l0.length : Int) 0 a1_0_0) = some r := h; clear h; have H' := q_ H; clear H; go_enter Try.func89, Try.ntmps89; go_wp2; go_loopg [8] k (fun kq v8 w' => ∃ (x8_1 : Int), v8 = .int .i64 x8_1 ∧ Aside0 (slices_IndexFunc_int_int_at_impl_areMarks_1.l0 kq l0 (l0.length : Int) x8_1 a1_0_0 = some r) ∧ Aside0 (kq ≤ k) ∧ Aside0 (w'.heap[gq1_0]? = some (.cells #[.int .i64 a1_0_0] 3 (0, 0))) ∧ Drawn0 w w')
  case atStart => exact ⟨(0), eqv, H', ⟨Nat.le_refl _⟩, ⟨by exact blk_v BK90100.out⟩, by repeat (first | exact Drawn0.refl _ | apply Drawn0.step)⟩
  case round =>
   clear H'; obtain ⟨x8_1, rfl, HA, HK1, BK90100, ⟨m1, rfl⟩⟩ := hrel
   cases gk with
   | zero => exact absurd HA.out (by simp [slices_IndexFunc_int_int_at_impl_areMarks_1.l0])
   | succ k1 =>
    have H := HA.out; clear HA; simp only [slices_IndexFunc_int_int_at_impl_areMarks_1.l0] at H
    by_cases c3 : x8_1 < (l0.length : Int)
    ·rw [if_pos c3] at H; have c3b0 : decide (x8_1 < (l0.length : Int)) = true := decide_eq_true c3; clear c3
     obtain ⟨c4, H⟩ := ifp_ H; have c4b0 : decide (0 ≤ x8_1) = true := decide_eq_true c4; clear c4
     obtain ⟨c5, H⟩ := ifp_ H; have c5b0 : decide (x8_1 < (l0.length : Int)) = true := decide_eq_true c5; clear c5; obtain ⟨t174, A6, H⟩ := bnd_ H; have HC7 := q_ H; clear H; have p173 : 0 ≤ (x8_1 : Int) := od; have q173 : x8_1 < (l0.length : Int) := od; obtain ⟨ad173, A173_0, c173_0, e173, hx173_0, hl173_0, hi173_0⟩ := at_L1 HR0.out x8_1 p173 q173
     cases e173
     have HR173_0 := q_ hi173_0; have HC173_0 := q_ hl173_0; clear hi173_0 hl173_0; replace p173 := eq_true p173; replace q173 := eq_true q173
     go_upto_if 16 with (first | (go_at_call 76; (with_reducible refine (impl_areMarks_1.calls k1 _ _ (rd_L1 l0 x8_1) gq1_0 a1_0_0 t174 _ ?side1 ?side2 ?side3 A6.out).mono ?_); (case side1 => exact Kd.C_v HR173_0.out); (case side2 => exact HC173_0.out); (case side3 => exact blk_v BK90100.out); rintro e w' ⟨rfl, ⟨nd, rfl⟩⟩))
     (try simp only [Act.put, List.setIfInBounds_toArray, List.set_cons_zero, List.set_cons_succ]); have H := HC7.out; clear HC7
     by_cases c8 : t174 = true
     ·subst c8; replace H := itt_ H; obtain rfl := Option.some.inj H; go_wp2; go_ret; exact ⟨by first | rfl | (simp; done) | (simp [*]; done), by repeat (first | exact Drawn0.refl _ | apply Drawn0.step)⟩
     ·replace c8 := Bool.eq_false_iff.mpr c8; subst c8; replace H := iff_ H; have H' := q_ H; clear H; go_wp2; go_roundg k1
      case measure => have := HK1.out; omega
      case rel => exact ⟨(wrap64 (x8_1 + 1)), eqv, H', ⟨by have := HK1.out; omega⟩, ⟨by exact blk_v BK90100.out⟩, by repeat (first | exact Drawn0.refl _ | apply Drawn0.step)⟩
    ·rw [if_neg c3] at H; have c3b0 : decide (x8_1 < (l0.length : Int)) = false := decide_eq_false c3; clear c3; obtain rfl := Option.some.inj H; go_wp2; go_ret; exact ⟨by first | rfl | (simp; done) | (simp [*]; done), by repeat (first | exact Drawn0.refl _ | apply Drawn0.step)⟩

/-! ### slices_ContainsFunc_int_int_at_impl_areMarks_1: function 53 -/
def slices_ContainsFunc_int_int_at_impl_areMarks_1.f (k : Nat) (l0 : List (List Int)) (a1_0_0 : Int) : Option (Bool) := (slices_IndexFunc_int_int_at_impl_areMarks_1.f k l0 a1_0_0).bind fun t175 => (some (decide (t175 ≥ 0)))
set_option maxHeartbeats 8000000 in
set_option maxRecDepth 100000 in
theorem slices_ContainsFunc_int_int_at_impl_areMarks_1.calls (k : Nat) (A0 : Option Addr) (c0 : Nat) (l0 : List (List Int)) (gq1_0 : Nat) (a1_0_0 : Int) (r : Bool) (w : World) (hr0 : Kd.C (Kd.slice 3 (Kd.int .i64)) w A0 l0.length l0) (hc0 : l0.length ≤ c0) (hb1_0 : w.heap[gq1_0]? = some (.cells #[.int .i64 a1_0_0] 3 (0, 0))) (h : slices_ContainsFunc_int_int_at_impl_areMarks_1.f k l0 a1_0_0 = some r) :
    Calls Try.prog 53 #[.slice A0 l0.length c0, .func (.func 76) #[] #[.pointer (some ⟨gq1_0, 0, none⟩)]] w fun e w' => e = .returned (.bool r) ∧ Drawn0 w w' := by
  have HR0 := q_ hr0; have HC0 := q_ hc0; clear hr0 hc0; have BK90100 := q_ hb1_0; clear hb1_0; have H : ((slices_IndexFunc_int_int_at_impl_areMarks_1.f k l0 a1_0_0).bind fun t175 => (some (decide (t175 ≥ 0)))) = some r := h; clear h; obtain ⟨t175, A3, H⟩ := bnd_ H; obtain rfl := Option.some.inj H; go_enter Try.func53, Try.ntmps53; go_wp2_with (first | (refine goesM (some 7) rfl rfl Try.func89 #[.slice A0 l0.length c0, .func (.func 76) #[] #[.pointer (some ⟨gq1_0, 0, none⟩)]] rfl ?_; (with_reducible refine (slices_IndexFunc_int_int_at_impl_areMarks_1.calls k _ _ l0 gq1_0 a1_0_0 t175 _ ?side1 ?side2 ?side3 A3.out).mono ?_); (case side1 => exact Kd.C_v HR0.out); (case side2 => exact HC0.out); (case side3 => exact blk_v BK90100.out); rintro e w' ⟨rfl, ⟨nd, rfl⟩⟩; refine ⟨_, rfl, ?_⟩)); go_ret; exact ⟨by first | rfl | (simp; done) | (simp [*]; done), by repeat (first | exact Drawn0.refl _ | apply Drawn0.step)⟩

/-! ### impl_areMarks: function 46 -/
def impl_areMarks.f (k : Nat) (a0 : Int) (l1 : List (List Int)) : Option (Bool) := (slices_ContainsFunc_int_int_at_impl_areMarks_1.f k l1 a0).bind fun t177 => (some (!t177))
set_option maxHeartbeats 8000000 in
set_option maxRecDepth 100000 in
theorem impl_areMarks.calls (k : Nat) (a0 : Int) (A1 : Option Addr) (c1 : Nat) (l1 : List (List Int)) (r : Bool) (w : World) (hr1 : Kd.C (Kd.slice 3 (Kd.int .i64)) w A1 l1.length l1) (hc1 : l1.length ≤ c1) (h : impl_areMarks.f k a0 l1 = some r) :
    Calls Try.prog 46 #[.int .i64 a0, .slice A1 l1.length c1] w fun e w' => e = .returned (.bool r) ∧ Below w.heap.size w w' := by
  have HR1 := q_ hr1; have HC1 := q_ hc1; clear hr1 hc1; have HB := q_ (Below.refl w.heap.size w); have H : ((slices_ContainsFunc_int_int_at_impl_areMarks_1.f k l1 a0).bind fun t177 => (some (!t177))) = some r := h; clear h; obtain ⟨t177, A3, H⟩ := bnd_ H; obtain rfl := Option.some.inj H; go_enter Try.func46, Try.ntmps46; go_wp2_with (first | (refine boxE 2 #[.int .i64 a0] 3 ?_; intro gb176 hg w4 hbox hb; have BK176 := q_ (hbox); have GW176 := q_ (gw_ hg HB.out); have GE176 := q_ (gw_ hg HB.out); replace HB := q_ (bs HB.out hb); clear hb hbox hg) | (refine goesM (some 7) rfl rfl Try.func53 #[.slice A1 l1.length c1, .func (.func 76) #[] #[.pointer (some ⟨gb176, 0, none⟩)]] rfl ?_; (with_reducible refine (slices_ContainsFunc_int_int_at_impl_areMarks_1.calls k _ _ l1 gb176 a0 t177 _ ?side1 ?side2 ?side3 A3.out).mono ?_); (case side1 => exact Kd.C_v ((Kd.C_below HR1.out HB.out))); (case side2 => exact HC1.out); (case side3 => exact blk_v BK176.out); rintro e w' ⟨rfl, ⟨nd, rfl⟩⟩; refine ⟨_, rfl, ?_⟩)); go_ret; exact fin_ (by exact bv HB.out)

/-! ### impl_covers: function 55 -/
def impl_covers.l0 : Nat → List Int → List Int → Int → Int → Option (Bool)
  | 0, _, _, _, _ => none
  | k + 1, x1, x7, x8, x9 => if x9 < x8 then (if 0 ≤ x9 then (if x9 < (x7.length : Int) then (if x9 < (x1.length : Int) then (if (rd x7 x9) < (rd x1 x9) then (some false) else (impl_covers.l0 k x1 x7 x8 (wrap64 (x9 + 1)))) else (none)) else (none)) else (none)) else (some true)
def impl_covers.f (k : Nat) (l0 : List Int) (l1 : List Int) : Option (Bool) := impl_covers.l0 k l1 l0 (l0.length : Int) 0
set_option maxHeartbeats 8000000 in
set_option maxRecDepth 100000 in
theorem impl_covers.calls (k : Nat) (A0 : Option Addr) (c0 : Nat) (l0 : List Int) (A1 : Option Addr) (c1 : Nat) (l1 : List Int) (r : Bool) (w : World) (hr0 : Kd.C (Kd.int .i64) w A0 l0.length l0) (hc0 : l0.length ≤ c0) (hr1 : Kd.C (Kd.int .i64) w A1 l1.length l1) (hc1 : l1.length ≤ c1) (h : impl_covers.f k l0 l1 = some r) :
    Calls Try.prog 55 #[.slice A0 l0.length c0, .slice A1 l1.length c1] w fun e w' => e = .returned (.bool r) ∧ Drawn0 w w' := by
  have HR0 := q_ hr0; have HC0 := q_ hc0; clear hr0 hc0; have HR1 := q_ hr1; have HC1 := q_ hc1; clear hr1 hc1; have H : (impl_covers.l0 k l1 l0 (l0.length : Int) 0) = some r := h; clear h; have H' := q_ H; clear H; go_enter Try.func55, Try.ntmps55; go_wp2; go_loopg [9] k (fun kq v9 w' => ∃ (x9_1 : Int), v9 = .int .i64 x9_1 ∧ Aside0 (impl_covers.l0 kq l1 l0 (l0.length : Int) x9_1 = some r) ∧ Aside0 (kq ≤ k) ∧ Drawn0 w w')
  case atStart => exact ⟨(0), eqv, H', ⟨Nat.le_refl _⟩, by repeat (first | exact Drawn0.refl _ | apply Drawn0.step)⟩
  case round =>
   clear H'; obtain ⟨x9_1, rfl, HA, HK1, ⟨m1, rfl⟩⟩ := hrel
   cases gk with
   | zero => exact absurd HA.out (by simp [impl_covers.l0])
   | succ k1 =>
    have H := HA.out; clear HA; simp only [impl_covers.l0] at H
    by_cases c3 : x9_1 < (l0.length : Int)
    ·rw [if_pos c3] at H; have c3b0 : decide (x9_1 < (l0.length : Int)) = true := decide_eq_true c3; clear c3
     obtain ⟨c4, H⟩ := ifp_ H; have c4b0 : decide (0 ≤ x9_1) = true := decide_eq_true c4; clear c4
     obtain ⟨c5, H⟩ := ifp_ H; have c5b0 : decide (x9_1 < (l0.length : Int)) = true := decide_eq_true c5; clear c5
     obtain ⟨c6, H⟩ := ifp_ H; have c6b0 : decide (x9_1 < (l1.length : Int)) = true := decide_eq_true c6; clear c6
     by_cases c7 : (rd l0 x9_1) < (rd l1 x9_1)
     ·rw [if_pos c7] at H; have c7b0 : decide ((rd l0 x9_1) < (rd l1 x9_1)) = true := decide_eq_true c7; clear c7; obtain rfl := Option.some.inj H; have p178 : 0 ≤ (x9_1 : Int) := od; have q178 : x9_1 < (l0.length : Int) := od; obtain ⟨ad178, e178, hx178_0⟩ := Kd.at_int HR0.out x9_1 p178 q178
      cases e178
      replace p178 := eq_true p178; replace q178 := eq_true q178; have p179 : 0 ≤ (x9_1 : Int) := od; have q179 : x9_1 < (l1.length : Int) := od; obtain ⟨ad179, e179, hx179_0⟩ := Kd.at_int HR1.out x9_1 p179 q179
      cases e179
      replace p179 := eq_true p179; replace q179 := eq_true q179; go_wp2; go_ret; exact ⟨by first | rfl | (simp; done) | (simp [*]; done), by repeat (first | exact Drawn0.refl _ | apply Drawn0.step)⟩
     ·rw [if_neg c7] at H; have c7b0 : decide ((rd l0 x9_1) < (rd l1 x9_1)) = false := decide_eq_false c7; clear c7; have H' := q_ H; clear H; have p178 : 0 ≤ (x9_1 : Int) := od; have q178 : x9_1 < (l0.length : Int) := od; obtain ⟨ad178, e178, hx178_0⟩ := Kd.at_int HR0.out x9_1 p178 q178
      cases e178
      replace p178 := eq_true p178; replace q178 := eq_true q178; have p179 : 0 ≤ (x9_1 : Int) := od; have q179 : x9_1 < (l1.length : Int) := od; obtain ⟨ad179, e179, hx179_0⟩ := Kd.at_int HR1.out x9_1 p179 q179
      cases e179
      replace p179 := eq_true p179; replace q179 := eq_true q179; go_wp2; go_roundg k1
      case measure => have := HK1.out; omega
      case rel => exact ⟨(wrap64 (x9_1 + 1)), eqv, H', ⟨by have := HK1.out; omega⟩, by repeat (first | exact Drawn0.refl _ | apply Drawn0.step)⟩
    ·rw [if_neg c3] at H; have c3b0 : decide (x9_1 < (l0.length : Int)) = false := decide_eq_false c3; clear c3; obtain rfl := Option.some.inj H; go_wp2; go_ret; exact ⟨by first | rfl | (simp; done) | (simp [*]; done), by repeat (first | exact Drawn0.refl _ | apply Drawn0.step)⟩

/-! ### slices_Clone_int_int_77: function 77 -/
def slices_Clone_int_int_77.f (l0 : List (List Int)) : Option ((List (List Int))) := (some (([] : List (List Int)) : List (List Int))).bind fun y180 => (if y180.length + l0.length < 5864062014805 then (some (y180 ++ l0)) else (none))
theorem eqnil22 (w : World) (a : Option Addr) (n c : Nat) : (binOp .eql 22 (.slice a n c) (.slice none 0 0)).run Try.prog w = .ok (.bool a.isNone) w := Go.Lib.run_eql_slice_nil w 22 32 a n c 0 0 Try.underlying22
attribute [local go_sem] eqnil22
set_option maxHeartbeats 8000000 in
set_option maxRecDepth 100000 in
theorem slices_Clone_int_int_77.calls_some (P0_ : Nat → Prop) (ad0_ : Addr) (c0 : Nat) (l0 : List (List Int)) (r : List (List Int)) (w : World) (hs0 : Kd.V (Kd.slice 3 (Kd.int .i64)) 32 w w.heap.size (fun k_ => P0_ k_) (.slice (some ad0_) l0.length c0) l0) (h : slices_Clone_int_int_77.f l0 = some r) :
    Calls Try.prog 77 #[.slice (some ad0_) l0.length c0] w fun e w' => ∃ v0_ : Value, e = .returned (v0_) ∧ Kd.N (Kd.slice 3 (Kd.int .i64)) 32 w' w.heap.size (fun k_ => (P0_ k_ ∨ w.heap.size ≤ k_)) v0_ r ∧ Below w.heap.size w w' := by
  have HO0 := q_ (show Kd.V (Kd.slice 3 (Kd.int .i64)) 32 w w.heap.size (fun k_ => (P0_ k_ ∨ w.heap.size ≤ k_)) (.slice (some ad0_) l0.length c0) l0 from Kd.V_mono hs0 (fun k_ hk => .inl hk)); have HB := q_ (Below.refl w.heap.size w); have H : ((some (([] : List (List Int)) : List (List Int))).bind fun y180 => (if y180.length + l0.length < 5864062014805 then (some (y180 ++ l0)) else (none))) = some r := h; clear h; obtain ⟨y180, hy180⟩ : ∃ y_ : List (List Int), y_ = (([] : List (List Int))) := ⟨_, rfl⟩; (replace H : (if y180.length + l0.length < 5864062014805 then (some (y180 ++ l0)) else (none)) = some r := by first | (rw [hy180]; with_reducible exact H) | (have H2_ := (Option.bind_some _ _).symm.trans H; rw [hy180]; with_reducible exact H2_) | (have H2_ := (Option.bind_some _ _).symm.trans H; with_reducible exact H2_) | with_reducible exact H | (rw [hy180]; exact H) | exact H); have Ny180 := q_ hy180; clear hy180
  obtain ⟨c2, H⟩ := ifp_ H; have LMc2 := q_ c2; clear c2; obtain ⟨y183, hy183⟩ : ∃ y_ : List (List Int), y_ = (y180 ++ l0) := ⟨_, rfl⟩; (replace H : (some y183) = some r := by first | (rw [hy183]; with_reducible exact H) | (have H2_ := (Option.bind_some _ _).symm.trans H; rw [hy183]; with_reducible exact H2_) | (have H2_ := (Option.bind_some _ _).symm.trans H; with_reducible exact H2_) | with_reducible exact H | (rw [hy183]; exact H) | exact H); have Ny183 := q_ hy183; clear hy183; obtain rfl := Option.some.inj H; go_enter Try.func77, Try.ntmps77; go_wp2_with (first | ((with_reducible refine gate_dst (N := 5) rfl ?_); refine Kd.N_lit (Kd.slice 3 (Kd.int .i64)) _ 32 ?hg (N' := 5) ?hd (xs := ([] : List (List Int))) (inner := []) (ok := (fun k_ => (P0_ k_ ∨ w.heap.size ≤ k_))) (okp := (fun k_ => (P0_ k_ ∨ w.heap.size ≤ k_))) ?hr ?hp (fun _ hk => hk) ((show ∀ k_, w.heap.size ≤ k_ → (fun k_ => (P0_ k_ ∨ w.heap.size ≤ k_)) k_ from fun k_ hk => (.inr (Nat.le_trans (below_size (by exact bv HB.out)) hk))) _ (Nat.le_refl _)) (Below.refl _ _) (Nat.le_refl _) (by simp) ?_; (case hd => rfl); (case hg => rfl); (case hr => first | (go_simp; done) | (go_simp; rfl)); (case hp => exact (Reps.none _ _)); intro v181 w3 ho4 hb hg_ hnew_; clear hg_ hnew_; (first | rw [← Ny180.out] at ho4 | (simp only [Int.reduceToNat] at ho4; rw [← Ny180.out] at ho4)); have HO182 := q_ (Kd.N_lower ho4 (below_size (by exact bv HB.out))); replace HO0 := q_ (Kd.V_elder' (by exact Kd.V_v HO0.out) (Kd.N_base ho4) hb); replace HB := q_ (below_step (by exact bv HB.out) hb); clear hb ho4) | ((with_reducible refine gate_builtin (b := .append) (xs := #[.tmp 5, .tmp 6]) rfl ?_); at_builtin; refine Kd.N_append_rows (Kd.slice 3 (Kd.int .i64)) (w0 := w) w.heap.size rfl (.tmp 5) (.tmp 6) 22 32 (.slice none 0 0) 24 rfl Try.underlying22 info32 rfl (by decide) (by omega) v181 y180 l0 _ _ _ (fun k_ => (P0_ k_ ∨ w.heap.size ≤ k_)) (fun k_ => ((fun k_ => (P0_ k_ ∨ w.heap.size ≤ k_))) k_ ∧ some k_ ≠ (v181 : Value).ownBlock) rfl rfl ?aO ?aR (fun _ hk => hk) ?aF ?aB ?aS ?aL ?_; (case aR => exact (by skip; exact Kd.V_F (Kd.V_mono (ok' := (fun k_ => ((fun k_ => (P0_ k_ ∨ w.heap.size ≤ k_))) k_ ∧ some k_ ≠ (v181 : Value).ownBlock)) (HO0.out) (fun k_ hk => ⟨hk.1, hk.2⟩)))); (case aB => exact (by exact bv HB.out)); (case aF => exact (fun k_ hk => (.inr (Nat.le_trans (below_size (by exact bv HB.out)) hk)))); (case aO => exact (by exact Kd.N_v HO182.out)); (case aS => exact (below_size (by exact bv HB.out))); (case aL => have := LMc2.out; omega); intro v184 w5 ho hb hg hat; rw [← Ny183.out] at ho; have HO185 := q_ (ho); replace HO0 := q_ (Kd.V_afterv (ok := (fun k_ => (P0_ k_ ∨ w.heap.size ≤ k_))) (by exact Kd.V_v HO0.out) hg hat); replace HB := q_ (hb); clear HO182; clear ho hb hg hat)); go_ret; exact ⟨_, by first | rfl | (simp [errW_none, errW_some] <;> rfl) | (simp [*, errW_none, errW_some] <;> rfl), by exact Kd.N_v HO185.out, by exact bv HB.out⟩

set_option maxHeartbeats 8000000 in
theorem slices_Clone_int_int_77.calls (P0_ : Nat → Prop) (A0 : Option Addr) (c0 : Nat) (l0 : List (List Int)) (r : List (List Int)) (w : World) (hs0 : Kd.V (Kd.slice 3 (Kd.int .i64)) 32 w w.heap.size (fun k_ => P0_ k_) (.slice A0 l0.length c0) l0) (h : slices_Clone_int_int_77.f l0 = some r) :
    Calls Try.prog 77 #[.slice A0 l0.length c0] w fun e w' => ∃ v0_ : Value, e = .returned (v0_) ∧ Kd.N (Kd.slice 3 (Kd.int .i64)) 32 w' w.heap.size (fun k_ => (P0_ k_ ∨ w.heap.size ≤ k_)) v0_ r ∧ Below w.heap.size w w' := by
  cases A0 with
  | some ad0_ => exact slices_Clone_int_int_77.calls_some P0_ ad0_ c0 l0 r w hs0 h
  | none =>
    have hl : l0 = [] := by
      rcases l0 with _ | ⟨x_, l_⟩
      · rfl
      · obtain ⟨ad_, ha_, _⟩ := (Kd.V_reads' hs0).2.2.2.2 (by simp)
        cases ha_
    subst hl
    have hr_ : r = [] := by simpa [slices_Clone_int_int_77.f, eq_comm] using h
    subst hr_
    go_enter Try.func77, Try.ntmps77
    go_wp2
    go_ret
    exact ⟨_, by first | rfl | simp, by first | exact Kd.R_nil _ _ _ _ _ | exact Kd.S_nil _ _ _ _ _ | exact Kd.V_nil _ _ _ _ _ | exact Kd.N_nil _ _ _ _ _, by repeat (first | exact Below.refl _ _ | apply below_alloc | apply pw_below_drewN)⟩

/-! ### cmp_isNaN_int: function 144 -/
def cmp_isNaN_int.f (a0 : Int) : Option (Bool) := some (a0 != a0)
set_option maxHeartbeats 8000000 in
set_option maxRecDepth 100000 in
theorem cmp_isNaN_int.calls (a0 : Int) (r : Bool) (w : World) (h : cmp_isNaN_int.f a0 = some r) :
    Calls Try.prog 144 #[.int .i64 a0] w fun e w' => e = .returned (.bool r) ∧ Drawn0 w w' := by
  have H : (some (a0 != a0)) = some r := h; clear h; obtain rfl := Option.some.inj H; go_enter Try.func144, Try.ntmps144; go_wp2; go_ret; exact ⟨by first | rfl | (simp; done) | (simp [*]; done), by repeat (first | exact Drawn0.refl _ | apply Drawn0.step)⟩

/-! ### cmp_Compare_int: function 118 -/
def cmp_Compare_int.f (a0 : Int) (a1 : Int) : Option (Int) := (cmp_isNaN_int.f a0).bind fun t186 => ((cmp_isNaN_int.f a1).bind fun t187 => (if t186 = true then (if t187 = true then (some 0) else (some (-1))) else (if t187 = true then (some 1) else (if a0 < a1 then (some (-1)) else (if a0 > a1 then (some 1) else (some 0))))))
set_option maxHeartbeats 8000000 in
set_option maxRecDepth 100000 in
theorem cmp_Compare_int.calls (a0 : Int) (a1 : Int) (r : Int) (w : World) (h : cmp_Compare_int.f a0 a1 = some r) :
    Calls Try.prog 118 #[.int .i64 a0, .int .i64 a1] w fun e w' => e = .returned (.int .i64 r) ∧ Drawn0 w w' := by
  have H : ((cmp_isNaN_int.f a0).bind fun t186 => ((cmp_isNaN_int.f a1).bind fun t187 => (if t186 = true then (if t187 = true then (some 0) else (some (-1))) else (if t187 = true then (some 1) else (if a0 < a1 then (some (-1)) else (if a0 > a1 then (some 1) else (some 0))))))) = some r := h; clear h; obtain ⟨t186, A3, H⟩ := bnd_ H; obtain ⟨t187, A4, H⟩ := bnd_ H; have HC5 := q_ H; clear H; go_enter Try.func118, Try.ntmps118
  go_upto_if 11 with (first | (refine goesM (some 8) rfl rfl Try.func144 #[.int .i64 a0] rfl ?_; (with_reducible refine (cmp_isNaN_int.calls a0 t186 _ A3.out).mono ?_); rintro e w' ⟨rfl, ⟨nd, rfl⟩⟩; refine ⟨_, rfl, ?_⟩) | (refine goesM (some 10) rfl rfl Try.func144 #[.int .i64 a1] rfl ?_; (with_reducible refine (cmp_isNaN_int.calls a1 t187 _ A4.out).mono ?_); rintro e w' ⟨rfl, ⟨nd, rfl⟩⟩; refine ⟨_, rfl, ?_⟩))
  (try simp only [Act.put, List.setIfInBounds_toArray, List.set_cons_zero, List.set_cons_succ]); have H := HC5.out; clear HC5
  by_cases c6 : t186 = true
  ·subst c6; replace H := itt_ H
   by_cases c7 : t187 = true
   ·subst c7; replace H := itt_ H; obtain rfl := Option.some.inj H; go_wp2; go_ret; exact ⟨by first | rfl | (simp; done) | (simp [*]; done), by repeat (first | exact Drawn0.refl _ | apply Drawn0.step)⟩
   ·replace c7 := Bool.eq_false_iff.mpr c7; subst c7; replace H := iff_ H; obtain rfl := Option.some.inj H; go_wp2; go_ret; exact ⟨by first | rfl | (simp; done) | (simp [*]; done), by repeat (first | exact Drawn0.refl _ | apply Drawn0.step)⟩
  ·replace c6 := Bool.eq_false_iff.mpr c6; subst c6; replace H := iff_ H
   by_cases c8 : t187 = true
   ·subst c8; replace H := itt_ H; obtain rfl := Option.some.inj H; go_wp2; go_ret; exact ⟨by first | rfl | (simp; done) | (simp [*]; done), by repeat (first | exact Drawn0.refl _ | apply Drawn0.step)⟩
   ·replace c8 := Bool.eq_false_iff.mpr c8; subst c8; replace H := iff_ H
    by_cases c9 : a0 < a1
    ·rw [if_pos c9] at H; have c9b0 : decide (a0 < a1) = true := decide_eq_true c9; clear c9; (first | rw [c9b0] | (simp only [i64_w, i32_w]; rw [c9b0]) | skip); obtain rfl := Option.some.inj H; go_wp2; go_ret; exact ⟨by first | rfl | (simp; done) | (simp [*]; done), by repeat (first | exact Drawn0.refl _ | apply Drawn0.step)⟩
    ·rw [if_neg c9] at H; have c9b0 : decide (a0 < a1) = false := decide_eq_false c9; clear c9; (first | rw [c9b0] | (simp only [i64_w, i32_w]; rw [c9b0]) | skip)
     by_cases c10 : a0 > a1
     ·rw [if_pos c10] at H; have c10b0 : decide (a1 < a0) = true := decide_eq_true c10; clear c10; obtain rfl := Option.some.inj H; go_wp2; go_ret; exact ⟨by first | rfl | (simp; done) | (simp [*]; done), by repeat (first | exact Drawn0.refl _ | apply Drawn0.step)⟩
     ·rw [if_neg c10] at H; have c10b0 : decide (a1 < a0) = false := decide_eq_false c10; clear c10; obtain rfl := Option.some.inj H; go_wp2; go_ret; exact ⟨by first | rfl | (simp; done) | (simp [*]; done), by repeat (first | exact Drawn0.refl _ | apply Drawn0.step)⟩

/-! ### slices_Compare_int_int: function 79 -/
def slices_Compare_int_int.l0 : Nat → List Int → List Int → List Int → Int → Int → Option (Int)
  | 0, _, _, _, _, _ => none
  | k + 1, x0, x1, x9, x10, x11 => if x11 < x10 then (if 0 ≤ x11 then (if x11 < (x9.length : Int) then (if x11 ≥ (x1.length : Int) then (some 1) else (if x11 < (x1.length : Int) then ((cmp_Compare_int.f (rd x9 x11) (rd x1 x11)).bind fun t190 => (if t190 = 0 then (slices_Compare_int_int.l0 k x0 x1 x9 x10 (wrap64 (x11 + 1))) else (some t190))) else (none))) else (none)) else (none)) else (if (x0.length : Int) < (x1.length : Int) then (some (-1)) else (some 0))
def slices_Compare_int_int.f (k : Nat) (l0 : List Int) (l1 : List Int) : Option (Int) := slices_Compare_int_int.l0 k l0 l1 l0 (l0.length : Int) 0
set_option maxHeartbeats 8000000 in
set_option maxRecDepth 100000 in
theorem slices_Compare_int_int.calls (k : Nat) (A0 : Option Addr) (c0 : Nat) (l0 : List Int) (A1 : Option Addr) (c1 : Nat) (l1 : List Int) (r : Int) (w : World) (hr0 : Kd.C (Kd.int .i64) w A0 l0.length l0) (hc0 : l0.length ≤ c0) (hr1 : Kd.C (Kd.int .i64) w A1 l1.length l1) (hc1 : l1.length ≤ c1) (h : slices_Compare_int_int.f k l0 l1 = some r) :
    Calls Try.prog 79 #[.slice A0 l0.length c0, .slice A1 l1.length c1] w fun e w' => e = .returned (.int .i64 r) ∧ Drawn0 w w' := by
  have HR0 := q_ hr0; have HC0 := q_ hc0; clear hr0 hc0; have HR1 := q_ hr1; have HC1 := q_ hc1; clear hr1 hc1; have H : (slices_Compare_int_int.l0 k l0 l1 l0 (l0.length : Int) 0) = some r := h; clear h; have H' := q_ H; clear H; go_enter Try.func79, Try.ntmps79; go_wp2; go_loopg [11] k (fun kq v11 w' => ∃ (x11_1 : Int), v11 = .int .i64 x11_1 ∧ Aside0 (slices_Compare_int_int.l0 kq l0 l1 l0 (l0.length : Int) x11_1 = some r) ∧ Aside0 (kq ≤ k) ∧ Drawn0 w w')
  case atStart => exact ⟨(0), eqv, H', ⟨Nat.le_refl _⟩, by repeat (first | exact Drawn0.refl _ | apply Drawn0.step)⟩
  case round =>
   clear H'; obtain ⟨x11_1, rfl, HA, HK1, ⟨m1, rfl⟩⟩ := hrel
   cases gk with
   | zero => exact absurd HA.out (by simp [slices_Compare_int_int.l0])
   | succ k1 =>
    have H := HA.out; clear HA; simp only [slices_Compare_int_int.l0] at H
    by_cases c3 : x11_1 < (l0.length : Int)
    ·rw [if_pos c3] at H; have c3b0 : decide (x11_1 < (l0.length : Int)) = true := decide_eq_true c3; clear c3
     obtain ⟨c4, H⟩ := ifp_ H; have c4b0 : decide (0 ≤ x11_1) = true := decide_eq_true c4; clear c4
     obtain ⟨c5, H⟩ := ifp_ H; have c5b0 : decide (x11_1 < (l0.length : Int)) = true := decide_eq_true c5; clear c5
     by_cases c6 : x11_1 ≥ (l1.length : Int)
     ·rw [if_pos c6] at H; have c6b0 : decide ((l1.length : Int) ≤ x11_1) = true := decide_eq_true c6; clear c6; obtain rfl := Option.some.inj H; have p188 : 0 ≤ (x11_1 : Int) := od; have q188 : x11_1 < (l0.length : Int) := od; obtain ⟨ad188, e188, hx188_0⟩ := Kd.at_int HR0.out x11_1 p188 q188
      cases e188
      replace p188 := eq_true p188; replace q188 := eq_true q188; go_wp2; go_ret; exact ⟨by first | rfl | (simp; done) | (simp [*]; done), by repeat (first | exact Drawn0.refl _ | apply Drawn0.step)⟩
     ·rw [if_neg c6] at H; have c6b0 : decide ((l1.length : Int) ≤ x11_1) = false := decide_eq_false c6; clear c6
      obtain ⟨c7, H⟩ := ifp_ H; have c7b0 : decide (x11_1 < (l1.length : Int)) = true := decide_eq_true c7; clear c7; obtain ⟨t190, A8, H⟩ := bnd_ H; have HC9 := q_ H; clear H; have p188 : 0 ≤ (x11_1 : Int) := od; have q188 : x11_1 < (l0.length : Int) := od; obtain ⟨ad188, e188, hx188_0⟩ := Kd.at_int HR0.out x11_1 p188 q188
      cases e188
      replace p188 := eq_true p188; replace q188 := eq_true q188; have p189 : 0 ≤ (x11_1 : Int) := od; have q189 : x11_1 < (l1.length : Int) := od; obtain ⟨ad189, e189, hx189_0⟩ := Kd.at_int HR1.out x11_1 p189 q189
      cases e189
      replace p189 := eq_true p189; replace q189 := eq_true q189
      go_upto_if 28 with (first | (refine goesM (some 26) rfl rfl Try.func118 #[.int .i64 (rd l0 x11_1), .int .i64 (rd l1 x11_1)] rfl ?_; (with_reducible refine (cmp_Compare_int.calls (rd l0 x11_1) (rd l1 x11_1) t190 _ A8.out).mono ?_); rintro e w' ⟨rfl, ⟨nd, rfl⟩⟩; refine ⟨_, rfl, ?_⟩))
      (try simp only [Act.put, List.setIfInBounds_toArray, List.set_cons_zero, List.set_cons_succ]); have H := HC9.out; clear HC9
      by_cases c10 : t190 = 0
      ·rw [if_pos c10] at H; have c10b0 : (t190 == 0) = true := beq_iff_eq.mpr c10; have c10b1 : (t190 != 0) = false := bne_eq_false_iff_eq.mpr c10; clear c10; (first | rw [c10b0] | rw [c10b1] | (simp only [i64_w, i32_w]; rw [c10b0]) | skip); have H' := q_ H; clear H; go_wp2; go_roundg k1
       case measure => have := HK1.out; omega
       case rel => exact ⟨(wrap64 (x11_1 + 1)), eqv, H', ⟨by have := HK1.out; omega⟩, by repeat (first | exact Drawn0.refl _ | apply Drawn0.step)⟩
      ·rw [if_neg c10] at H; have c10b0 : (t190 == 0) = false := beq_eq_false_iff_ne.mpr c10; have c10b1 : (t190 != 0) = true := bne_iff_ne.mpr c10; (first | rw [c10b0] | rw [c10b1] | (simp only [i64_w, i32_w]; rw [c10b0]) | skip); obtain rfl := Option.some.inj H; go_wp2; go_ret; exact ⟨by first | rfl | (simp; done) | (simp [*]; done), by repeat (first | exact Drawn0.refl _ | apply Drawn0.step)⟩
    ·rw [if_neg c3] at H; have c3b0 : decide (x11_1 < (l0.length : Int)) = false := decide_eq_false c3; clear c3
     by_cases c11 : (l0.length : Int) < (l1.length : Int)
     ·rw [if_pos c11] at H; have c11b0 : decide ((l0.length : Int) < (l1.length : Int)) = true := decide_eq_true c11; have c11b1 : decide (l0.length < l1.length) = true := decide_eq_true (Int.ofNat_lt.mp c11); clear c11; obtain rfl := Option.some.inj H; go_wp2; go_ret; exact ⟨by first | rfl | (simp; done) | (simp [*]; done), by repeat (first | exact Drawn0.refl _ | apply Drawn0.step)⟩
     ·rw [if_neg c11] at H; have c11b0 : decide ((l0.length : Int) < (l1.length : Int)) = false := decide_eq_false c11; have c11b1 : decide (l0.length < l1.length) = false := decide_eq_false (fun h => c11 (Int.ofNat_lt.mpr h)); clear c11; obtain rfl := Option.some.inj H; go_wp2; go_ret; exact ⟨by first | rfl | (simp; done) | (simp [*]; done), by repeat (first | exact Drawn0.refl _ | apply Drawn0.step)⟩

/-! ### slices_Equal_int_int: function 81 -/
def slices_Equal_int_int.l0 : Nat → List Int → List Int → Int → Int → Option (Bool)
  | 0, _, _, _, _ => none
  | k + 1, x0, x1, x12, x13 => if x13 < x12 then (if 0 ≤ x13 then (if x13 < (x0.length : Int) then (if x13 < (x1.length : Int) then (if (rd x0 x13) = (rd x1 x13) then (slices_Equal_int_int.l0 k x0 x1 x12 (wrap64 (x13 + 1))) else (some false)) else (none)) else (none)) else (none)) else (some true)
def slices_Equal_int_int.f (k : Nat) (l0 : List Int) (l1 : List Int) : Option (Bool) := if (l0.length : Int) = (l1.length : Int) then (slices_Equal_int_int.l0 k l0 l1 (l0.length : Int) 0) else (some false)
set_option maxHeartbeats 8000000 in
set_option maxRecDepth 100000 in
theorem slices_Equal_int_int.calls (k : Nat) (A0 : Option Addr) (c0 : Nat) (l0 : List Int) (A1 : Option Addr) (c1 : Nat) (l1 : List Int) (r : Bool) (w : World) (hr0 : Kd.C (Kd.int .i64) w A0 l0.length l0) (hc0 : l0.length ≤ c0) (hr1 : Kd.C (Kd.int .i64) w A1 l1.length l1) (hc1 : l1.length ≤ c1) (h : slices_Equal_int_int.f k l0 l1 = some r) :
    Calls Try.prog 81 #[.slice A0 l0.length c0, .slice A1 l1.length c1] w fun e w' => e = .returned (.bool r) ∧ Drawn0 w w' := by
  have HR0 := q_ hr0; have HC0 := q_ hc0; clear hr0 hc0; have HR1 := q_ hr1; have HC1 := q_ hc1; clear hr1 hc1; have H : (if (l0.length : Int) = (l1.length : Int) then (slices_Equal_int_int.l0 k l0 l1 (l0.length : Int) 0) else (some false)) = some r := h; clear h
  by_cases c3 : (l0.length : Int) = (l1.length : Int)
  ·rw [if_pos c3] at H; have c3b0 : ((l0.length : Int) == (l1.length : Int)) = true := beq_iff_eq.mpr c3; have c3b1 : ((l0.length : Int) != (l1.length : Int)) = false := bne_eq_false_iff_eq.mpr c3; (have c3b2 : (l0.length == l1.length) = true := by first | simpa using c3 | (simp at c3 ⊢; omega)); clear c3; have H' := q_ H; clear H; go_enter Try.func81, Try.ntmps81; go_wp2; (repeat (go_quiet (fail); try go_wp2)); go_loopg [13] k (fun kq v13 w' => ∃ (x13_1 : Int), v13 = .int .i64 x13_1 ∧ Aside0 (slices_Equal_int_int.l0 kq l0 l1 (l0.length : Int) x13_1 = some r) ∧ Aside0 (kq ≤ k) ∧ Drawn0 w w')
   case atStart => exact ⟨(0), eqv, H', ⟨Nat.le_refl _⟩, by repeat (first | exact Drawn0.refl _ | apply Drawn0.step)⟩
   case round =>
    clear H'; (try clear c3b0); (try clear c3b1); (try clear c3b2); obtain ⟨x13_1, rfl, HA, HK1, ⟨m1, rfl⟩⟩ := hrel
    cases gk with
    | zero => exact absurd HA.out (by simp [slices_Equal_int_int.l0])
    | succ k1 =>
     have H := HA.out; clear HA; simp only [slices_Equal_int_int.l0] at H
     by_cases c4 : x13_1 < (l0.length : Int)
     ·rw [if_pos c4] at H; have c4b0 : decide (x13_1 < (l0.length : Int)) = true := decide_eq_true c4; clear c4
      obtain ⟨c5, H⟩ := ifp_ H; have c5b0 : decide (0 ≤ x13_1) = true := decide_eq_true c5; clear c5
      obtain ⟨c6, H⟩ := ifp_ H; have c6b0 : decide (x13_1 < (l0.length : Int)) = true := decide_eq_true c6; clear c6
      obtain ⟨c7, H⟩ := ifp_ H; have c7b0 : decide (x13_1 < (l1.length : Int)) = true := decide_eq_true c7; clear c7
      by_cases c8 : (rd l0 x13_1) = (rd l1 x13_1)
      ·rw [if_pos c8] at H; have c8b0 : ((rd l0 x13_1) == (rd l1 x13_1)) = true := beq_iff_eq.mpr c8; have c8b1 : ((rd l0 x13_1) != (rd l1 x13_1)) = false := bne_eq_false_iff_eq.mpr c8; clear c8; have H' := q_ H; clear H; have p191 : 0 ≤ (x13_1 : Int) := od; have q191 : x13_1 < (l0.length : Int) := od; obtain ⟨ad191, e191, hx191_0⟩ := Kd.at_int HR0.out x13_1 p191 q191
       cases e191
       replace p191 := eq_true p191; replace q191 := eq_true q191; have p192 : 0 ≤ (x13_1 : Int) := od; have q192 : x13_1 < (l1.length : Int) := od; obtain ⟨ad192, e192, hx192_0⟩ := Kd.at_int HR1.out x13_1 p192 q192
       cases e192
       replace p192 := eq_true p192; replace q192 := eq_true q192; go_wp2; (repeat (go_quiet (fail); try go_wp2)); go_roundg k1
       case measure => have := HK1.out; omega
       case rel => exact ⟨(wrap64 (x13_1 + 1)), eqv, H', ⟨by have := HK1.out; omega⟩, by repeat (first | exact Drawn0.refl _ | apply Drawn0.step)⟩
      ·rw [if_neg c8] at H; have c8b0 : ((rd l0 x13_1) == (rd l1 x13_1)) = false := beq_eq_false_iff_ne.mpr c8; have c8b1 : ((rd l0 x13_1) != (rd l1 x13_1)) = true := bne_iff_ne.mpr c8; obtain rfl := Option.some.inj H; have p191 : 0 ≤ (x13_1 : Int) := od; have q191 : x13_1 < (l0.length : Int) := od; obtain ⟨ad191, e191, hx191_0⟩ := Kd.at_int HR0.out x13_1 p191 q191
       cases e191
       replace p191 := eq_true p191; replace q191 := eq_true q191; have p192 : 0 ≤ (x13_1 : Int) := od; have q192 : x13_1 < (l1.length : Int) := od; obtain ⟨ad192, e192, hx192_0⟩ := Kd.at_int HR1.out x13_1 p192 q192
       cases e192
       replace p192 := eq_true p192; replace q192 := eq_true q192; go_wp2; (repeat (go_quiet (fail); try go_wp2)); go_ret; exact ⟨by first | rfl | (simp; done) | (simp [*]; done), by repeat (first | exact Drawn0.refl _ | apply Drawn0.step)⟩
     ·rw [if_neg c4] at H; have c4b0 : decide (x13_1 < (l0.length : Int)) = false := decide_eq_false c4; clear c4; obtain rfl := Option.some.inj H; go_wp2; (repeat (go_quiet (fail); try go_wp2)); go_ret; exact ⟨by first | rfl | (simp; done) | (simp [*]; done), by repeat (first | exact Drawn0.refl _ | apply Drawn0.step)⟩
  ·rw [if_neg c3] at H; have c3b0 : ((l0.length : Int) == (l1.length : Int)) = false := beq_eq_false_iff_ne.mpr c3; have c3b1 : ((l0.length : Int) != (l1.length : Int)) = true := bne_iff_ne.mpr c3; (have c3b2 : (l0.length == l1.length) = false := by first | simpa using c3 | (simp at c3 ⊢; omega)); obtain rfl := Option.some.inj H; go_enter Try.func81, Try.ntmps81; go_wp2; (repeat (go_quiet (fail); try go_wp2)); go_ret; exact ⟨by first | rfl | (simp; done) | (simp [*]; done), by repeat (first | exact Drawn0.refl _ | apply Drawn0.step)⟩

/-! ### slices_Clone_int_int_82: function 82 -/
def slices_Clone_int_int_82.f (l0 : List Int) : Option (List Int) := (some (([] : List Int) : List Int)).bind fun y193 => (if y193.length + l0.length < 17592186044416 then (some (y193 ++ l0)) else (none))
theorem eqnil32 (w : World) (a : Option Addr) (n c : Nat) : (binOp .eql 32 (.slice a n c) (.slice none 0 0)).run Try.prog w = .ok (.bool a.isNone) w := Go.Lib.run_eql_slice_nil w 32 3 a n c 0 0 Try.underlying32
attribute [local go_sem] eqnil32
set_option maxHeartbeats 8000000 in
set_option maxRecDepth 100000 in
theorem slices_Clone_int_int_82.calls_some (ad0_ : Addr) (c0 : Nat) (l0 : List Int) (r : List Int) (w : World) (hr0 : Kd.C (Kd.int .i64) w (some ad0_) l0.length l0) (hc0 : l0.length ≤ c0) (h : slices_Clone_int_int_82.f l0 = some r) :
    Calls Try.prog 82 #[.slice (some ad0_) l0.length c0] w fun e w' => ∃ v0_ : Value, e = .returned (v0_) ∧ Kd.R (Kd.int .i64) 3 w' w.heap.size (fun _ => True) v0_ r ∧ Below w.heap.size w w' := by
  have HR0 := q_ hr0; have HC0 := q_ hc0; clear hr0 hc0; have HB := q_ (Below.refl w.heap.size w); have H : ((some (([] : List Int) : List Int)).bind fun y193 => (if y193.length + l0.length < 17592186044416 then (some (y193 ++ l0)) else (none))) = some r := h; clear h; obtain ⟨y193, hy193⟩ : ∃ y_ : List Int, y_ = (([] : List Int)) := ⟨_, rfl⟩; (replace H : (if y193.length + l0.length < 17592186044416 then (some (y193 ++ l0)) else (none)) = some r := by first | (rw [hy193]; with_reducible exact H) | (have H2_ := (Option.bind_some _ _).symm.trans H; rw [hy193]; with_reducible exact H2_) | (have H2_ := (Option.bind_some _ _).symm.trans H; with_reducible exact H2_) | with_reducible exact H | (rw [hy193]; exact H) | exact H); have Ny193 := q_ hy193; clear hy193
  obtain ⟨c2, H⟩ := ifp_ H; have LMc2 := q_ c2; clear c2; obtain ⟨y196, hy196⟩ : ∃ y_ : List Int, y_ = (y193 ++ l0) := ⟨_, rfl⟩; (replace H : (some y196) = some r := by first | (rw [hy196]; with_reducible exact H) | (have H2_ := (Option.bind_some _ _).symm.trans H; rw [hy196]; with_reducible exact H2_) | (have H2_ := (Option.bind_some _ _).symm.trans H; with_reducible exact H2_) | with_reducible exact H | (rw [hy196]; exact H) | exact H); have Ny196 := q_ hy196; clear hy196; obtain rfl := Option.some.inj H; go_enter Try.func82, Try.ntmps82; go_wp2_with (first | ((with_reducible refine gate_dst (N := 5) rfl ?_); refine Kd.R_lit (Kd.int .i64) _ 3 ?hg (N := 5) ?hd (xs := ([] : List Int)) (inner := []) (ok := fun _ => True) (okp := fun _ => True) ?hr ?hp (fun _ hk => hk) trivial (Below.refl _ _) (Nat.le_refl _) (by simp) ?_; (case hd => rfl); (case hg => rfl); (case hr => first | (go_simp; done) | (go_simp; rfl)); (case hp => exact (Reps.none _ _)); intro v194 w3 ho4 hb hg_ hnew_; clear hg_ hnew_; (first | rw [← Ny193.out] at ho4 | (simp only [Int.reduceToNat] at ho4; rw [← Ny193.out] at ho4)); have HO195 := q_ (Kd.R_lower ho4 (below_size (by exact bv HB.out))); replace HB := q_ (below_step (by exact bv HB.out) hb); clear hb ho4) | ((with_reducible refine gate_builtin (b := .append) (xs := #[.tmp 5, .tmp 6]) rfl ?_); at_builtin; refine Kd.R_append_rows (Kd.int .i64) (w0 := w) w.heap.size rfl (.tmp 5) (.tmp 6) 32 3 (.int .i64 0) 8 rfl Try.underlying32 info3 rfl (by decide) (by omega) v194 y193 l0 _ _ _ (fun _ => True) (fun _ => False) rfl rfl ?aO ?aR (fun _ _ h => h) (fun _ h => h.elim) ?aF ?aB ?aS ?aL ?_; (case aR => exact Kd.C_v ((Kd.C_below HR0.out HB.out))); (case aB => exact (by exact bv HB.out)); (case aF => exact (fun _ _ => trivial)); (case aO => exact (by exact Kd.R_v HO195.out)); (case aS => exact (below_size (by exact bv HB.out))); (case aL => have := LMc2.out; omega); intro v197 w5 ho hb hg hat; rw [← Ny196.out] at ho; have HO198 := q_ (ho); replace HB := q_ (hb); clear HO195; clear ho hb hg hat)); go_ret; exact ⟨_, by first | rfl | (simp [errW_none, errW_some] <;> rfl) | (simp [*, errW_none, errW_some] <;> rfl), by exact Kd.R_v HO198.out, by exact bv HB.out⟩

set_option maxHeartbeats 8000000 in
theorem slices_Clone_int_int_82.calls (A0 : Option Addr) (c0 : Nat) (l0 : List Int) (r : List Int) (w : World) (hr0 : Kd.C (Kd.int .i64) w A0 l0.length l0) (hc0 : l0.length ≤ c0) (h : slices_Clone_int_int_82.f l0 = some r) :
    Calls Try.prog 82 #[.slice A0 l0.length c0] w fun e w' => ∃ v0_ : Value, e = .returned (v0_) ∧ Kd.R (Kd.int .i64) 3 w' w.heap.size (fun _ => True) v0_ r ∧ Below w.heap.size w w' := by
  cases A0 with
  | some ad0_ => exact slices_Clone_int_int_82.calls_some ad0_ c0 l0 r w hr0 hc0 h
  | none =>
    have hl : l0 = [] := by
      rcases l0 with _ | ⟨x_, l_⟩
      · rfl
      · obtain ⟨ad_, ha_, _⟩ := hr0.2.2 (by simp)
        cases ha_
    subst hl
    have hr_ : r = [] := by simpa [slices_Clone_int_int_82.f, eq_comm] using h
    subst hr_
    go_enter Try.func82, Try.ntmps82
    go_wp2
    go_ret
    exact ⟨_, by first | rfl | simp, by first | exact Kd.R_nil _ _ _ _ _ | exact Kd.S_nil _ _ _ _ _ | exact Kd.V_nil _ _ _ _ _ | exact Kd.N_nil _ _ _ _ _, by repeat (first | exact Below.refl _ _ | apply below_alloc | apply pw_below_drewN)⟩

end Go.Proofs.Ytiglhdibibbkjaa.F
