-- Written by a program of this session (fork.py, fprint.sh). Lean checks it.
import Derived.Test.YtiglhdibibbkjaaF0
import Derived.Test.YtiglhdibibbkjaaF2
namespace Go.Proofs.Ytiglhdibibbkjaa.F
open Go.RowKit Go.Proofs.YtiglhdibibbkjaaW.PrintWords Go.Proofs.YtiglhdibibbkjaaW.PrintLast Go.Proofs.YtiglhdibibbkjaaW.PrintMore
attribute [local go_sem] max2_int min2_int max_two min_two max_three min_three max_four min_four   -- for this text's walks alone
set_option linter.unusedVariables false
set_option linter.unusedSimpArgs false

/-! ### slices_Compare_int_int: function 79 -/
def slices_Compare_int_int.l0 : Nat → List Int → List Int → List Int → Int → Int → Option (Int)
  | 0, _, _, _, _, _ => none
  | k + 1, x0, x1, x9, x10, x11 => if x11 < x10 then (if 0 ≤ x11 then (if x11 < (x9.length : Int) then (if x11 ≥ (x1.length : Int) then (some 1) else (if x11 < (x1.length : Int) then ((cmp_Compare_int.f (rd x9 x11) (rd x1 x11)).bind fun t279 => (if t279 = 0 then (slices_Compare_int_int.l0 k x0 x1 x9 x10 (wrap64 (x11 + 1))) else (some t279))) else (none))) else (none)) else (none)) else (if (x0.length : Int) < (x1.length : Int) then (some (-1)) else (some 0))
def slices_Compare_int_int.f (k : Nat) (l0 : List Int) (l1 : List Int) : Option (Int) := slices_Compare_int_int.l0 k l0 l1 l0 (l0.length : Int) 0
set_option maxHeartbeats 8000000 in
set_option maxRecDepth 100000 in
theorem slices_Compare_int_int.calls (k : Nat) (A0 : Option Addr) (c0 : Nat) (l0 : List Int) (A1 : Option Addr) (c1 : Nat) (l1 : List Int) (r : Int) (w : World) (hr0 : Kd.C (Kd.int .i64) w A0 l0.length l0) (hc0 : l0.length ≤ c0) (hr1 : Kd.C (Kd.int .i64) w A1 l1.length l1) (hc1 : l1.length ≤ c1) (h : slices_Compare_int_int.f k l0 l1 = some r) :
    Calls Try.prog 79 #[.slice A0 l0.length c0, .slice A1 l1.length c1] w fun e w' => e = .returned (.int .i64 r) ∧ Drawn0 w w' := by
  have HR0 := q_ hr0; have HC0 := q_ hc0; clear hr0 hc0; have HR1 := q_ hr1; have HC1 := q_ hc1; clear hr1 hc1; have H : (slices_Compare_int_int.l0 k l0 l1 l0 (l0.length : Int) 0) = some r := h; clear h; have H' := q_ H; clear H; go_enter Try.func79, Try.ntmps79; go_wp2; go_loopg [11] k (fun kq v11 w' => ∃ (x11_1 : Int), v11 = .int .i64 x11_1 ∧ Aside0 (slices_Compare_int_int.l0 kq l0 l1 l0 (l0.length : Int) x11_1 = some r) ∧ Aside0 (kq ≤ k) ∧ Drawn0 w w')
  case atStart => exact ⟨(0), eqv, H', ⟨Nat.le_refl _⟩, by repeat (first | exact Drawn0.refl _ | apply Drawn0.step)⟩
  case round =>
   clear H'; obtain ⟨x11_1, rfl, HA, HK1, ⟨m1, rfl⟩⟩ := hrel
   cases gk with
   | zero => exact absurd HA.out (by simp [slices_Compare_int_int.l0])
   | succ k1 =>
    have H := HA.out; clear HA; simp only [slices_Compare_int_int.l0] at H
    by_cases c3 : x11_1 < (l0.length : Int)
    ·rw [if_pos c3] at H; have c3b0 : decide (x11_1 < (l0.length : Int)) = true := decide_eq_true c3; clear c3
     obtain ⟨c4, H⟩ := ifp_ H; have c4b0 : decide (0 ≤ x11_1) = true := decide_eq_true c4; clear c4
     obtain ⟨c5, H⟩ := ifp_ H; have c5b0 : decide (x11_1 < (l0.length : Int)) = true := decide_eq_true c5; clear c5
     by_cases c6 : x11_1 ≥ (l1.length : Int)
     ·rw [if_pos c6] at H; have c6b0 : decide ((l1.length : Int) ≤ x11_1) = true := decide_eq_true c6; clear c6; obtain rfl := Option.some.inj H; have p277 : 0 ≤ (x11_1 : Int) := od; have q277 : x11_1 < (l0.length : Int) := od; obtain ⟨ad277, e277, hx277_0⟩ := Kd.at_int HR0.out x11_1 p277 q277
      cases e277
      replace p277 := eq_true p277; replace q277 := eq_true q277; go_wp2; go_ret; exact ⟨by first | rfl | (simp; done) | (simp [*]; done), by repeat (first | exact Drawn0.refl _ | apply Drawn0.step)⟩
     ·rw [if_neg c6] at H; have c6b0 : decide ((l1.length : Int) ≤ x11_1) = false := decide_eq_false c6; clear c6
      obtain ⟨c7, H⟩ := ifp_ H; have c7b0 : decide (x11_1 < (l1.length : Int)) = true := decide_eq_true c7; clear c7; obtain ⟨t279, A8, H⟩ := bnd_ H; have HC9 := q_ H; clear H; have p277 : 0 ≤ (x11_1 : Int) := od; have q277 : x11_1 < (l0.length : Int) := od; obtain ⟨ad277, e277, hx277_0⟩ := Kd.at_int HR0.out x11_1 p277 q277
      cases e277
      replace p277 := eq_true p277; replace q277 := eq_true q277; have p278 : 0 ≤ (x11_1 : Int) := od; have q278 : x11_1 < (l1.length : Int) := od; obtain ⟨ad278, e278, hx278_0⟩ := Kd.at_int HR1.out x11_1 p278 q278
      cases e278
      replace p278 := eq_true p278; replace q278 := eq_true q278
      go_upto_if 28 with (first | (refine goesM (some 26) rfl rfl Try.func118 #[.int .i64 (rd l0 x11_1), .int .i64 (rd l1 x11_1)] rfl ?_; (with_reducible refine (cmp_Compare_int.calls (rd l0 x11_1) (rd l1 x11_1) t279 _ A8.out).mono ?_); rintro e w' ⟨rfl, ⟨nd, rfl⟩⟩; refine ⟨_, rfl, ?_⟩))
      (try simp only [Act.put, List.setIfInBounds_toArray, List.set_cons_zero, List.set_cons_succ]); have H := HC9.out; clear HC9
      by_cases c10 : t279 = 0
      ·rw [if_pos c10] at H; have c10b0 : (t279 == 0) = true := beq_iff_eq.mpr c10; have c10b1 : (t279 != 0) = false := bne_eq_false_iff_eq.mpr c10; clear c10; (first | rw [c10b0] | rw [c10b1] | (simp only [i64_w, i32_w]; rw [c10b0]) | skip); have H' := q_ H; clear H; go_wp2; go_roundg k1
       case measure => have := HK1.out; omega
       case rel => exact ⟨(wrap64 (x11_1 + 1)), eqv, H', ⟨by have := HK1.out; omega⟩, by repeat (first | exact Drawn0.refl _ | apply Drawn0.step)⟩
      ·rw [if_neg c10] at H; have c10b0 : (t279 == 0) = false := beq_eq_false_iff_ne.mpr c10; have c10b1 : (t279 != 0) = true := bne_iff_ne.mpr c10; (first | rw [c10b0] | rw [c10b1] | (simp only [i64_w, i32_w]; rw [c10b0]) | skip); obtain rfl := Option.some.inj H; go_wp2; go_ret; exact ⟨by first | rfl | (simp; done) | (simp [*]; done), by repeat (first | exact Drawn0.refl _ | apply Drawn0.step)⟩
    ·rw [if_neg c3] at H; have c3b0 : decide (x11_1 < (l0.length : Int)) = false := decide_eq_false c3; clear c3
     by_cases c11 : (l0.length : Int) < (l1.length : Int)
     ·rw [if_pos c11] at H; have c11b0 : decide ((l0.length : Int) < (l1.length : Int)) = true := decide_eq_true c11; have c11b1 : decide (l0.length < l1.length) = true := decide_eq_true (Int.ofNat_lt.mp c11); clear c11; obtain rfl := Option.some.inj H; go_wp2; go_ret; exact ⟨by first | rfl | (simp; done) | (simp [*]; done), by repeat (first | exact Drawn0.refl _ | apply Drawn0.step)⟩
     ·rw [if_neg c11] at H; have c11b0 : decide ((l0.length : Int) < (l1.length : Int)) = false := decide_eq_false c11; have c11b1 : decide (l0.length < l1.length) = false := decide_eq_false (fun h => c11 (Int.ofNat_lt.mpr h)); clear c11; obtain rfl := Option.some.inj H; go_wp2; go_ret; exact ⟨by first | rfl | (simp; done) | (simp [*]; done), by repeat (first | exact Drawn0.refl _ | apply Drawn0.step)⟩

/-! ### slices_Equal_int_int: function 81 -/
def slices_Equal_int_int.l0 : Nat → List Int → List Int → Int → Int → Option (Bool)
  | 0, _, _, _, _ => none
  | k + 1, x0, x1, x12, x13 => if x13 < x12 then (if 0 ≤ x13 then (if x13 < (x0.length : Int) then (if x13 < (x1.length : Int) then (if (rd x0 x13) = (rd x1 x13) then (slices_Equal_int_int.l0 k x0 x1 x12 (wrap64 (x13 + 1))) else (some false)) else (none)) else (none)) else (none)) else (some true)
def slices_Equal_int_int.f (k : Nat) (l0 : List Int) (l1 : List Int) : Option (Bool) := if (l0.length : Int) = (l1.length : Int) then (slices_Equal_int_int.l0 k l0 l1 (l0.length : Int) 0) else (some false)
set_option maxHeartbeats 8000000 in
set_option maxRecDepth 100000 in
theorem slices_Equal_int_int.calls (k : Nat) (A0 : Option Addr) (c0 : Nat) (l0 : List Int) (A1 : Option Addr) (c1 : Nat) (l1 : List Int) (r : Bool) (w : World) (hr0 : Kd.C (Kd.int .i64) w A0 l0.length l0) (hc0 : l0.length ≤ c0) (hr1 : Kd.C (Kd.int .i64) w A1 l1.length l1) (hc1 : l1.length ≤ c1) (h : slices_Equal_int_int.f k l0 l1 = some r) :
    Calls Try.prog 81 #[.slice A0 l0.length c0, .slice A1 l1.length c1] w fun e w' => e = .returned (.bool r) ∧ Drawn0 w w' := by
  have HR0 := q_ hr0; have HC0 := q_ hc0; clear hr0 hc0; have HR1 := q_ hr1; have HC1 := q_ hc1; clear hr1 hc1; have H : (if (l0.length : Int) = (l1.length : Int) then (slices_Equal_int_int.l0 k l0 l1 (l0.length : Int) 0) else (some false)) = some r := h; clear h
  by_cases c3 : (l0.length : Int) = (l1.length : Int)
  ·rw [if_pos c3] at H; have c3b0 : ((l0.length : Int) == (l1.length : Int)) = true := beq_iff_eq.mpr c3; have c3b1 : ((l0.length : Int) != (l1.length : Int)) = false := bne_eq_false_iff_eq.mpr c3; (have c3b2 : (l0.length == l1.length) = true := by first | simpa using c3 | (simp at c3 ⊢; omega)); clear c3; have H' := q_ H; clear H; go_enter Try.func81, Try.ntmps81; go_wp2; (repeat (go_quiet (fail); try go_wp2)); go_loopg [13] k (fun kq v13 w' => ∃ (x13_1 : Int), v13 = .int .i64 x13_1 ∧ Aside0 (slices_Equal_int_int.l0 kq l0 l1 (l0.length : Int) x13_1 = some r) ∧ Aside0 (kq ≤ k) ∧ Drawn0 w w')
   case atStart => exact ⟨(0), eqv, H', ⟨Nat.le_refl _⟩, by repeat (first | exact Drawn0.refl _ | apply Drawn0.step)⟩
   case round =>
    clear H'; (try clear c3b0); (try clear c3b1); (try clear c3b2); obtain ⟨x13_1, rfl, HA, HK1, ⟨m1, rfl⟩⟩ := hrel
    cases gk with
    | zero => exact absurd HA.out (by simp [slices_Equal_int_int.l0])
    | succ k1 =>
     have H := HA.out; clear HA; simp only [slices_Equal_int_int.l0] at H
     by_cases c4 : x13_1 < (l0.length : Int)
     ·rw [if_pos c4] at H; have c4b0 : decide (x13_1 < (l0.length : Int)) = true := decide_eq_true c4; clear c4
      obtain ⟨c5, H⟩ := ifp_ H; have c5b0 : decide (0 ≤ x13_1) = true := decide_eq_true c5; clear c5
      obtain ⟨c6, H⟩ := ifp_ H; have c6b0 : decide (x13_1 < (l0.length : Int)) = true := decide_eq_true c6; clear c6
      obtain ⟨c7, H⟩ := ifp_ H; have c7b0 : decide (x13_1 < (l1.length : Int)) = true := decide_eq_true c7; clear c7
      by_cases c8 : (rd l0 x13_1) = (rd l1 x13_1)
      ·rw [if_pos c8] at H; have c8b0 : ((rd l0 x13_1) == (rd l1 x13_1)) = true := beq_iff_eq.mpr c8; have c8b1 : ((rd l0 x13_1) != (rd l1 x13_1)) = false := bne_eq_false_iff_eq.mpr c8; clear c8; have H' := q_ H; clear H; have p280 : 0 ≤ (x13_1 : Int) := od; have q280 : x13_1 < (l0.length : Int) := od; obtain ⟨ad280, e280, hx280_0⟩ := Kd.at_int HR0.out x13_1 p280 q280
       cases e280
       replace p280 := eq_true p280; replace q280 := eq_true q280; have p281 : 0 ≤ (x13_1 : Int) := od; have q281 : x13_1 < (l1.length : Int) := od; obtain ⟨ad281, e281, hx281_0⟩ := Kd.at_int HR1.out x13_1 p281 q281
       cases e281
       replace p281 := eq_true p281; replace q281 := eq_true q281; go_wp2; (repeat (go_quiet (fail); try go_wp2)); go_roundg k1
       case measure => have := HK1.out; omega
       case rel => exact ⟨(wrap64 (x13_1 + 1)), eqv, H', ⟨by have := HK1.out; omega⟩, by repeat (first | exact Drawn0.refl _ | apply Drawn0.step)⟩
      ·rw [if_neg c8] at H; have c8b0 : ((rd l0 x13_1) == (rd l1 x13_1)) = false := beq_eq_false_iff_ne.mpr c8; have c8b1 : ((rd l0 x13_1) != (rd l1 x13_1)) = true := bne_iff_ne.mpr c8; obtain rfl := Option.some.inj H; have p280 : 0 ≤ (x13_1 : Int) := od; have q280 : x13_1 < (l0.length : Int) := od; obtain ⟨ad280, e280, hx280_0⟩ := Kd.at_int HR0.out x13_1 p280 q280
       cases e280
       replace p280 := eq_true p280; replace q280 := eq_true q280; have p281 : 0 ≤ (x13_1 : Int) := od; have q281 : x13_1 < (l1.length : Int) := od; obtain ⟨ad281, e281, hx281_0⟩ := Kd.at_int HR1.out x13_1 p281 q281
       cases e281
       replace p281 := eq_true p281; replace q281 := eq_true q281; go_wp2; (repeat (go_quiet (fail); try go_wp2)); go_ret; exact ⟨by first | rfl | (simp; done) | (simp [*]; done), by repeat (first | exact Drawn0.refl _ | apply Drawn0.step)⟩
     ·rw [if_neg c4] at H; have c4b0 : decide (x13_1 < (l0.length : Int)) = false := decide_eq_false c4; clear c4; obtain rfl := Option.some.inj H; go_wp2; (repeat (go_quiet (fail); try go_wp2)); go_ret; exact ⟨by first | rfl | (simp; done) | (simp [*]; done), by repeat (first | exact Drawn0.refl _ | apply Drawn0.step)⟩
  ·rw [if_neg c3] at H; have c3b0 : ((l0.length : Int) == (l1.length : Int)) = false := beq_eq_false_iff_ne.mpr c3; have c3b1 : ((l0.length : Int) != (l1.length : Int)) = true := bne_iff_ne.mpr c3; (have c3b2 : (l0.length == l1.length) = false := by first | simpa using c3 | (simp at c3 ⊢; omega)); obtain rfl := Option.some.inj H; go_enter Try.func81, Try.ntmps81; go_wp2; (repeat (go_quiet (fail); try go_wp2)); go_ret; exact ⟨by first | rfl | (simp; done) | (simp [*]; done), by repeat (first | exact Drawn0.refl _ | apply Drawn0.step)⟩

/-! ### slices_Clone_int_int_82: function 82 -/
def slices_Clone_int_int_82.f (l0 : List Int) : Option (List Int) := (some (([] : List Int) : List Int)).bind fun y282 => (if y282.length + l0.length < 17592186044416 then (some (y282 ++ l0)) else (none))
theorem eqnil32 (w : World) (a : Option Addr) (n c : Nat) : (binOp .eql 32 (.slice a n c) (.slice none 0 0)).run Try.prog w = .ok (.bool a.isNone) w := Go.Lib.run_eql_slice_nil w 32 3 a n c 0 0 Try.underlying32
attribute [local go_sem] eqnil32
set_option maxHeartbeats 8000000 in
set_option maxRecDepth 100000 in
theorem slices_Clone_int_int_82.calls_some (ad0_ : Addr) (c0 : Nat) (l0 : List Int) (r : List Int) (w : World) (hr0 : Kd.C (Kd.int .i64) w (some ad0_) l0.length l0) (hc0 : l0.length ≤ c0) (h : slices_Clone_int_int_82.f l0 = some r) :
    Calls Try.prog 82 #[.slice (some ad0_) l0.length c0] w fun e w' => ∃ v0_ : Value, e = .returned (v0_) ∧ Kd.R (Kd.int .i64) 3 w' w.heap.size (fun _ => True) v0_ r ∧ Below w.heap.size w w' := by
  have HR0 := q_ hr0; have HC0 := q_ hc0; clear hr0 hc0; have HB := q_ (Below.refl w.heap.size w); have H : ((some (([] : List Int) : List Int)).bind fun y282 => (if y282.length + l0.length < 17592186044416 then (some (y282 ++ l0)) else (none))) = some r := h; clear h; obtain ⟨y282, hy282⟩ : ∃ y_ : List Int, y_ = (([] : List Int)) := ⟨_, rfl⟩; (replace H : (if y282.length + l0.length < 17592186044416 then (some (y282 ++ l0)) else (none)) = some r := by first | (rw [hy282]; with_reducible exact H) | (have H2_ := (Option.bind_some _ _).symm.trans H; rw [hy282]; with_reducible exact H2_) | (have H2_ := (Option.bind_some _ _).symm.trans H; with_reducible exact H2_) | with_reducible exact H | (rw [hy282]; exact H) | exact H); have Ny282 := q_ hy282; clear hy282
  obtain ⟨c2, H⟩ := ifp_ H; have LMc2 := q_ c2; clear c2; obtain ⟨y285, hy285⟩ : ∃ y_ : List Int, y_ = (y282 ++ l0) := ⟨_, rfl⟩; (replace H : (some y285) = some r := by first | (rw [hy285]; with_reducible exact H) | (have H2_ := (Option.bind_some _ _).symm.trans H; rw [hy285]; with_reducible exact H2_) | (have H2_ := (Option.bind_some _ _).symm.trans H; with_reducible exact H2_) | with_reducible exact H | (rw [hy285]; exact H) | exact H); have Ny285 := q_ hy285; clear hy285; obtain rfl := Option.some.inj H; go_enter Try.func82, Try.ntmps82; go_wp2_with (first | ((with_reducible refine gate_dst (N := 5) rfl ?_); refine Kd.R_lit (Kd.int .i64) _ 3 ?hg (N := 5) ?hd (xs := ([] : List Int)) (inner := []) (ok := fun _ => True) (okp := fun _ => True) ?hr ?hp (fun _ hk => hk) trivial (Below.refl _ _) (Nat.le_refl _) (by simp) ?_; (case hd => rfl); (case hg => rfl); (case hr => first | (go_simp; done) | (go_simp; rfl)); (case hp => exact (Reps.none _ _)); intro v283 w3 ho4 hb hg_ hnew_; clear hg_ hnew_; (first | rw [← Ny282.out] at ho4 | (simp only [Int.reduceToNat] at ho4; rw [← Ny282.out] at ho4)); have HO284 := q_ (Kd.R_lower ho4 (below_size (by exact bv HB.out))); replace HB := q_ (below_step (by exact bv HB.out) hb); clear hb ho4) | ((with_reducible refine gate_builtin (b := .append) (xs := #[.tmp 5, .tmp 6]) rfl ?_); at_builtin; refine Kd.R_append_rows (Kd.int .i64) (w0 := w) w.heap.size rfl (.tmp 5) (.tmp 6) 32 3 (.int .i64 0) 8 rfl Try.underlying32 info3 rfl (by decide) (by omega) v283 y282 l0 _ _ _ (fun _ => True) (fun _ => False) rfl rfl ?aO ?aR (fun _ _ h => h) (fun _ h => h.elim) ?aF ?aB ?aS ?aL ?_; (case aR => exact Kd.C_v ((Kd.C_below HR0.out HB.out))); (case aB => exact (by exact bv HB.out)); (case aF => exact (fun _ _ => trivial)); (case aO => exact (by exact Kd.R_v HO284.out)); (case aS => exact (below_size (by exact bv HB.out))); (case aL => have := LMc2.out; omega); intro v286 w5 ho hb hg hat; rw [← Ny285.out] at ho; have HO287 := q_ (ho); replace HB := q_ (hb); clear HO284; clear ho hb hg hat)); go_ret; exact ⟨_, by first | rfl | (simp [errW_none, errW_some] <;> rfl) | (simp [*, errW_none, errW_some] <;> rfl), by exact Kd.R_v HO287.out, by exact bv HB.out⟩

set_option maxHeartbeats 8000000 in
theorem slices_Clone_int_int_82.calls (A0 : Option Addr) (c0 : Nat) (l0 : List Int) (r : List Int) (w : World) (hr0 : Kd.C (Kd.int .i64) w A0 l0.length l0) (hc0 : l0.length ≤ c0) (h : slices_Clone_int_int_82.f l0 = some r) :
    Calls Try.prog 82 #[.slice A0 l0.length c0] w fun e w' => ∃ v0_ : Value, e = .returned (v0_) ∧ Kd.R (Kd.int .i64) 3 w' w.heap.size (fun _ => True) v0_ r ∧ Below w.heap.size w w' := by
  cases A0 with
  | some ad0_ => exact slices_Clone_int_int_82.calls_some ad0_ c0 l0 r w hr0 hc0 h
  | none =>
    have hl : l0 = [] := by
      rcases l0 with _ | ⟨x_, l_⟩
      · rfl
      · obtain ⟨ad_, ha_, _⟩ := hr0.2.2 (by simp)
        cases ha_
    subst hl
    have hr_ : r = [] := by simpa [slices_Clone_int_int_82.f, eq_comm] using h
    subst hr_
    go_enter Try.func82, Try.ntmps82
    go_wp2
    go_ret
    exact ⟨_, by first | rfl | simp, by first | exact Kd.R_nil _ _ _ _ _ | exact Kd.S_nil _ _ _ _ _ | exact Kd.V_nil _ _ _ _ _ | exact Kd.N_nil _ _ _ _ _, by repeat (first | exact Below.refl _ _ | apply below_alloc | apply pw_below_drewN)⟩

theorem impl_leastMarks.cmp_rounds (x y : List Int) (hx : x.length ≤ 9223372036854775807) : ∃ k, slices_Compare_int_int.f k x y = some (Least.lexCmp x y) := by
  have key : ∀ d i, x.length - i = d → i ≤ x.length → i ≤ y.length → ∃ k, slices_Compare_int_int.l0 k x y x (x.length : Int) (i : Int) = some (Least.lexCmp (x.drop i) (y.drop i)) := by
    intro d
    induction d with
    | zero =>
      intro i hd h1 h2
      refine ⟨1, ?_⟩
      have ei : i = x.length := by omega
      simp only [slices_Compare_int_int.l0]
      rw [if_neg (by omega), (show List.drop _ x = [] from List.drop_eq_nil_of_le (by omega))]
      by_cases c : (x.length : Int) < (y.length : Int)
      · rw [if_pos c, List.drop_eq_getElem_cons (l := y) (by omega)]; rfl
      · rw [if_neg c, (show List.drop _ y = [] from List.drop_eq_nil_of_le (by omega))]; rfl
    | succ d ih =>
      intro i hd h1 h2
      have hi : i < x.length := by omega
      have rx : rd x (i : Int) = x[i] := by simp [rd, List.getD_eq_getElem?_getD, List.getElem?_eq_getElem hi]
      have dx : x.drop i = x[i] :: x.drop (i + 1) := List.drop_eq_getElem_cons hi
      by_cases c : i < y.length
      · have ry : rd y (i : Int) = y[i] := by simp [rd, List.getD_eq_getElem?_getD, List.getElem?_eq_getElem c]
        have dy : y.drop i = y[i] :: y.drop (i + 1) := List.drop_eq_getElem_cons c
        obtain ⟨k, hk⟩ := ih (i + 1) (by omega) (by omega) (by omega)
        refine ⟨k + 1, ?_⟩
        simp only [slices_Compare_int_int.l0]
        rw [if_pos (by omega), if_pos (by omega), if_pos (by omega), if_neg (by omega), if_pos (by omega), rx, ry, dx, dy]
        simp only [Least.lexCmp, cmp_Compare_int.f, cmp_isNaN_int.f, bne_self_eq_false, Option.bind_some, Bool.false_eq_true, if_false]
        rcases Int.lt_trichotomy x[i] y[i] with q | q | q
        · rw [if_pos q, if_pos q]; rfl
        · rw [if_neg (by omega), if_neg (by omega), if_neg (by omega), if_neg (by omega)]
          simp only [Option.bind_some, if_true]
          rw [show wrap64 ((i : Int) + 1) = ((i + 1 : Nat) : Int) by unfold wrap64; omega]
          exact hk
        · rw [if_neg (by omega), if_pos (by omega), if_neg (by omega), if_pos q]; rfl
      · refine ⟨1, ?_⟩
        simp only [slices_Compare_int_int.l0]
        rw [if_pos (by omega), if_pos (by omega), if_pos (by omega), if_pos (by omega), dx, (show List.drop _ y = [] from List.drop_eq_nil_of_le (by omega))]; rfl
  obtain ⟨k, hk⟩ := key _ 0 rfl (Nat.zero_le _) (Nat.zero_le _)
  exact ⟨k, by unfold slices_Compare_int_int.f; exact hk⟩
theorem impl_leastMarks.eq_rounds (x y : List Int) (hx : x.length ≤ 9223372036854775807) : ∃ k, slices_Equal_int_int.f k x y = some (decide (x = y)) := by
  by_cases hl : x.length = y.length
  · have key : ∀ d i, x.length - i = d → i ≤ x.length → x.take i = y.take i → ∃ k, slices_Equal_int_int.l0 k x y (x.length : Int) (i : Int) = some (decide (x = y)) := by
      intro d
      induction d with
      | zero =>
        intro i hd h1 h2
        refine ⟨1, ?_⟩
        simp only [slices_Equal_int_int.l0]
        rw [if_neg (by omega)]
        rw [List.take_of_length_le (by omega), List.take_of_length_le (by omega)] at h2
        rw [decide_eq_true h2]
      | succ d ih =>
        intro i hd h1 h2
        have hi : i < x.length := by omega
        have rx : rd x (i : Int) = x[i] := by simp [rd, List.getD_eq_getElem?_getD, List.getElem?_eq_getElem hi]
        have ry : rd y (i : Int) = y[i]'(by omega) := by simp [rd, List.getD_eq_getElem?_getD, List.getElem?_eq_getElem (show i < y.length by omega)]
        by_cases c : x[i] = y[i]'(by omega)
        · obtain ⟨k, hk⟩ := ih (i + 1) (by omega) (by omega) (by rw [List.take_succ_eq_append_getElem hi, List.take_succ_eq_append_getElem (by omega), h2, c])
          refine ⟨k + 1, ?_⟩
          simp only [slices_Equal_int_int.l0]
          rw [if_pos (by omega), if_pos (by omega), if_pos (by omega), if_pos (by omega), rx, ry, if_pos c, show wrap64 ((i : Int) + 1) = ((i + 1 : Nat) : Int) by unfold wrap64; omega]
          exact hk
        · refine ⟨1, ?_⟩
          simp only [slices_Equal_int_int.l0]
          rw [if_pos (by omega), if_pos (by omega), if_pos (by omega), if_pos (by omega), rx, ry, if_neg c, decide_eq_false (fun e => c (by subst e; rfl))]
    obtain ⟨k, hk⟩ := key _ 0 rfl (Nat.zero_le _) rfl
    exact ⟨k, by unfold slices_Equal_int_int.f; rw [if_pos (by omega)]; exact hk⟩
  · exact ⟨0, by unfold slices_Equal_int_int.f; rw [if_neg (by omega), decide_eq_false (fun e => hl (by rw [e]))]⟩
theorem impl_leastMarks.cmp_ : Least.Comp 79 fun x y => .int .i64 (Least.lexCmp x y) := by
  intro W A c x A' c' y hx hcx hy hcy
  obtain ⟨k, hk⟩ := impl_leastMarks.cmp_rounds x y hx.2.1
  refine (slices_Compare_int_int.calls k A c x A' c' y _ W hx hcx hy hcy hk).mono ?_
  rintro e w' ⟨rfl, ⟨nd, rfl⟩⟩
  exact ⟨rfl, nd, rfl⟩
theorem impl_leastMarks.eq_ : Least.Comp 81 fun x y => .bool (decide (x = y)) := by
  intro W A c x A' c' y hx hcx hy hcy
  obtain ⟨k, hk⟩ := impl_leastMarks.eq_rounds x y hx.2.1
  refine (slices_Equal_int_int.calls k A c x A' c' y _ W hx hcx hy hcy hk).mono ?_
  rintro e w' ⟨rfl, ⟨nd, rfl⟩⟩
  exact ⟨rfl, nd, rfl⟩
theorem impl_leastMarks.hz_ : ∀ (A : Option Addr) (c : Nat) (w : World), Calls Try.prog 77 #[.slice A 0 c] w fun e W => ∃ A' c', e = .returned (.slice A' 0 c') ∧ Below w.heap.size w W := by
  intro A c w
  refine (slices_Clone_int_int_77.calls (fun _ => True) A c [] [] w ⟨A, c, rfl, Nat.zero_le _, fun W' _ => ⟨rfl, by simp, fun h => absurd h (Nat.lt_irrefl 0)⟩⟩ (by simp [slices_Clone_int_int_77.f])).mono ?_
  rintro e w' ⟨v, rfl, hn, hb⟩
  obtain ⟨A', c', rfl⟩ := Kd.N_slice hn
  exact ⟨A', c', rfl, hb⟩
/-! ### impl_leastMarks: function 47 -/
mutual
def impl_leastMarks.l0 : Nat → List (List Int) → List (List Int) → List (List Int) → Int → Int → Option ((List (List Int)))
  | 0, _, _, _, _, _ => none
  | k + 1, x3, x4, x16, x17, x18 => if x18 < x17 then (if 0 ≤ x18 then (if x18 < (x16.length : Int) then (impl_leastMarks.l1 k x3 x4 x18 (rd_L1 x16 x18) true x16 x17 x18 x3 (x3.length : Int) 0) else (none)) else (none)) else (some x4)
def impl_leastMarks.l1 : Nat → List (List Int) → List (List Int) → Int → List Int → Bool → List (List Int) → Int → Int → List (List Int) → Int → Int → Option ((List (List Int)))
  | 0, _, _, _, _, _, _, _, _, _, _, _ => none
  | k + 1, x3, x4, x5, x6, x7, x16, x17, x18, x23, x24, x25 => if x25 < x24 then (if 0 ≤ x25 then (if x25 < (x23.length : Int) then (if x7 = true then (if x5 = x25 then (impl_leastMarks.l1 k x3 x4 x5 x6 true x16 x17 x18 x23 x24 (wrap64 (x25 + 1))) else ((impl_covers.f k x6 (rd_L1 x23 x25)).bind fun t290 => (impl_leastMarks.l1 k x3 x4 x5 x6 (!t290) x16 x17 x18 x23 x24 (wrap64 (x25 + 1))))) else (impl_leastMarks.l1 k x3 x4 x5 x6 false x16 x17 x18 x23 x24 (wrap64 (x25 + 1)))) else (none)) else (none)) else (if x7 = true then ((slices_Clone_int_int_82.f x6).bind fun t291 => (if x4.length < 5864062014805 then (impl_leastMarks.l0 k x3 (x4 ++ [t291]) x16 x17 (wrap64 (x18 + 1))) else (none))) else (impl_leastMarks.l0 k x3 x4 x16 x17 (wrap64 (x18 + 1))))
end
def impl_leastMarks.t (k : Nat) (l0 : List (List Int)) : Option ((List (List Int))) := impl_leastMarks.l0 k l0 ([] : List (List Int)) l0 (l0.length : Int) 0
def impl_leastMarks.f (k : Nat) (l0 : List (List Int)) : Option ((List (List Int))) := if l0.length ≤ 1000000 then (impl_leastMarks.t k (Go.Lib.compact (Least.sortL l0))) else (none)
set_option maxHeartbeats 8000000 in
set_option maxRecDepth 100000 in
theorem impl_leastMarks.calls (k : Nat) (AA_ : Option Addr) (cA_ : Nat) (lA_ : List (List Int)) (r : List (List Int)) (wA_ : World) (hr0 : Kd.C (Kd.slice 3 (Kd.int .i64)) wA_ AA_ lA_.length lA_) (hc0 : lA_.length ≤ cA_) (h : impl_leastMarks.f k lA_ = some r) :
    Calls Try.prog 47 #[.slice AA_ lA_.length cA_] wA_ fun e w' => ∃ v0_ : Value, e = .returned (v0_) ∧ Kd.S (Kd.slice 3 (Kd.int .i64)) 32 w' wA_.heap.size (fun _ => True) v0_ r ∧ Below wA_.heap.size wA_ w' := by
  unfold impl_leastMarks.f at h; obtain ⟨hm_, h⟩ := ifp_ h; have HX_ := q_ (Least.clone_st impl_leastMarks.hz_ AA_ cA_ lA_ wA_ hr0 hc0 hm_); have HY_ := q_ h; clear h hr0 hc0 hm_; go_enter Try.func47, Try.ntmps47; go_wp2_with (first | (go_at_call 77; refine HX_.out.mono ?_; rintro e w1_ ⟨v1_, d1_, rfl, st_, hd_⟩; clear HX_; have S1_ := q_ st_; have D1_ := q_ hd_; clear st_ hd_) | (go_at_call 78; refine (Least.sort_st impl_leastMarks.cmp_ S1_.out).mono ?_; rintro e w2_ ⟨rfl, d2_, st_, hd_⟩; have S2_ := q_ st_; have D2_ := q_ hd_; clear S1_ st_ hd_) | (go_at_call 80; refine (Least.compact_st impl_leastMarks.eq_ S2_.out).mono ?_; rintro e w ⟨hc_⟩; obtain ⟨A0, c0, l0, hl_, rfl, hr0, hc0, hb_⟩ := hc_; have HR0 := q_ hr0; have HC0 := q_ hc0; have HBA := q_ hb_; have HL_ := q_ (hl_.trans (by rw [D2_.out, D1_.out])); clear hl_ hr0 hc0 hb_ S2_ D1_ D2_)); have HB := q_ (Below.refl w.heap.size w); have H : (impl_leastMarks.l0 k l0 ([] : List (List Int)) l0 (l0.length : Int) 0) = some r := (by rw [HL_.out]; exact HY_.out); clear HL_ HY_; have H' := q_ H; clear H; go_loopg [4, 18] k (fun kq v4 v18 w' => ∃ (x4_1 : List (List Int)) (x18_1 : Int), v18 = .int .i64 x18_1 ∧ Aside0 (impl_leastMarks.l0 kq l0 x4_1 l0 (l0.length : Int) x18_1 = some r) ∧ Aside0 (kq ≤ k) ∧ Aside0 (Kd.S (Kd.slice 3 (Kd.int .i64)) 32 w' w.heap.size (fun _ => True) v4 x4_1) ∧ Aside0 (Below w.heap.size w w'))
  case atStart => exact ⟨(([] : List (List Int))), (0), eqv, H', ⟨Nat.le_refl _⟩, ⟨by first | exact Kd.S_nil _ _ _ _ _ | exact Kd.N_nil _ _ _ _ _ | exact Kd.V_nil _ _ _ _ _ | exact Kd.Q_nil _ _ _ _ _ | exact Kd.R_nil _ _ _ _ _⟩, ⟨by exact bv HB.out⟩⟩
  case round =>
   clear H'; obtain ⟨x4_1, x18_1, rfl, HA, HK1, HO_4, HB⟩ := hrel
   cases gk with
   | zero => exact absurd HA.out (by simp [impl_leastMarks.l0])
   | succ k1 =>
    have H := HA.out; clear HA; simp only [impl_leastMarks.l0] at H
    by_cases c2 : x18_1 < (l0.length : Int)
    ·rw [if_pos c2] at H; have c2b0 : decide (x18_1 < (l0.length : Int)) = true := decide_eq_true c2; clear c2
     obtain ⟨c3, H⟩ := ifp_ H; have c3b0 : decide (0 ≤ x18_1) = true := decide_eq_true c3; clear c3
     obtain ⟨c4, H⟩ := ifp_ H; have c4b0 : decide (x18_1 < (l0.length : Int)) = true := decide_eq_true c4; clear c4; have H' := q_ H; clear H; have p288 : 0 ≤ (x18_1 : Int) := od; have q288 : x18_1 < (l0.length : Int) := od; obtain ⟨ad288, A288_0, c288_0, e288, hx288_0, hl288_0, hi288_0⟩ := at_L1 HR0.out x18_1 p288 q288
     cases e288
     replace hx288_0 := cb_ HB.out hx288_0; have HR288_0 := q_ hi288_0; have HC288_0 := q_ hl288_0; clear hi288_0 hl288_0; replace p288 := eq_true p288; replace q288 := eq_true q288; go_wp2; go_loopg [7, 25] k1 (fun kq v7 v25 w' => ∃ (x7_2 : Bool) (x25_2 : Int), v7 = .bool x7_2 ∧ v25 = .int .i64 x25_2 ∧ Aside0 (impl_leastMarks.l1 kq l0 x4_1 x18_1 (rd_L1 l0 x18_1) x7_2 l0 (l0.length : Int) x18_1 l0 (l0.length : Int) x25_2 = some r) ∧ Aside0 (kq ≤ k1) ∧ Aside0 (Kd.S (Kd.slice 3 (Kd.int .i64)) 32 w' w.heap.size (fun _ => True) u4 x4_1) ∧ Aside0 (Below w.heap.size w w'))
     case atStart => exact ⟨(true), (0), eqv, eqv, H', ⟨Nat.le_refl _⟩, ⟨by exact Kd.S_v HO_4.out⟩, ⟨by exact bv HB.out⟩⟩
     case round =>
      clear H'; (try clear c2b0); (try clear c3b0); (try clear c4b0); (try clear hx288_0); (try clear p288); (try clear q288); obtain ⟨x7_2, x25_2, rfl, rfl, HA, HK2, HO_4, HB⟩ := hrel
      cases gk with
      | zero => exact absurd HA.out (by simp [impl_leastMarks.l1])
      | succ k2 =>
       have H := HA.out; clear HA; simp only [impl_leastMarks.l1] at H
       by_cases c5 : x25_2 < (l0.length : Int)
       ·rw [if_pos c5] at H; have c5b0 : decide (x25_2 < (l0.length : Int)) = true := decide_eq_true c5; clear c5
        obtain ⟨c6, H⟩ := ifp_ H; have c6b0 : decide (0 ≤ x25_2) = true := decide_eq_true c6; clear c6
        obtain ⟨c7, H⟩ := ifp_ H; have c7b0 : decide (x25_2 < (l0.length : Int)) = true := decide_eq_true c7; clear c7
        by_cases c8 : x7_2 = true
        ·subst c8; replace H := itt_ H
         by_cases c9 : x18_1 = x25_2
         ·rw [if_pos c9] at H; have c9b0 : (x18_1 == x25_2) = true := beq_iff_eq.mpr c9; have c9b1 : (x18_1 != x25_2) = false := bne_eq_false_iff_eq.mpr c9; clear c9; have H' := q_ H; clear H; have p289 : 0 ≤ (x25_2 : Int) := od; have q289 : x25_2 < (l0.length : Int) := od; obtain ⟨ad289, A289_0, c289_0, e289, hx289_0, hl289_0, hi289_0⟩ := at_L1 HR0.out x25_2 p289 q289; obtain rfl : ad288 = ad289 := (by injection e289); replace hx289_0 := cb_ HB.out hx289_0; have HR289_0 := q_ hi289_0; have HC289_0 := q_ hl289_0; clear hi289_0 hl289_0; replace p289 := eq_true p289; replace q289 := eq_true q289; go_wp2; go_roundg k2
          case measure => have := HK1.out; have := HK2.out; omega
          case rel => exact ⟨(true), (wrap64 (x25_2 + 1)), eqv, eqv, H', ⟨by have := HK1.out; have := HK2.out; omega⟩, ⟨by exact Kd.S_v HO_4.out⟩, ⟨by exact bv HB.out⟩⟩
         ·rw [if_neg c9] at H; have c9b0 : (x18_1 == x25_2) = false := beq_eq_false_iff_ne.mpr c9; have c9b1 : (x18_1 != x25_2) = true := bne_iff_ne.mpr c9; obtain ⟨t290, A10, H⟩ := bnd_ H; have H' := q_ H; clear H; have p289 : 0 ≤ (x25_2 : Int) := od; have q289 : x25_2 < (l0.length : Int) := od; obtain ⟨ad289, A289_0, c289_0, e289, hx289_0, hl289_0, hi289_0⟩ := at_L1 HR0.out x25_2 p289 q289; obtain rfl : ad288 = ad289 := (by injection e289); replace hx289_0 := cb_ HB.out hx289_0; have HR289_0 := q_ hi289_0; have HC289_0 := q_ hl289_0; clear hi289_0 hl289_0; replace p289 := eq_true p289; replace q289 := eq_true q289; go_wp2_with (first | (go_at_call 55; (with_reducible refine (impl_covers.calls k2 _ _ (rd_L1 l0 x18_1) _ _ (rd_L1 l0 x25_2) t290 _ ?side1 ?side2 ?side3 ?side4 A10.out).mono ?_); (case side1 => exact Kd.C_v ((Kd.C_below HR288_0.out HB.out))); (case side2 => exact HC288_0.out); (case side3 => exact Kd.C_v ((Kd.C_below HR289_0.out HB.out))); (case side4 => exact HC289_0.out); rintro e w' ⟨rfl, ⟨nd, rfl⟩⟩)); go_roundg k2
          case measure => have := HK1.out; have := HK2.out; omega
          case rel => exact ⟨(!t290), (wrap64 (x25_2 + 1)), eqv, eqv, H', ⟨by have := HK1.out; have := HK2.out; omega⟩, ⟨by exact Kd.S_v HO_4.out⟩, ⟨by exact bv HB.out⟩⟩
        ·replace c8 := Bool.eq_false_iff.mpr c8; subst c8; replace H := iff_ H; have H' := q_ H; clear H; have p289 : 0 ≤ (x25_2 : Int) := od; have q289 : x25_2 < (l0.length : Int) := od; obtain ⟨ad289, A289_0, c289_0, e289, hx289_0, hl289_0, hi289_0⟩ := at_L1 HR0.out x25_2 p289 q289; obtain rfl : ad288 = ad289 := (by injection e289); replace hx289_0 := cb_ HB.out hx289_0; have HR289_0 := q_ hi289_0; have HC289_0 := q_ hl289_0; clear hi289_0 hl289_0; replace p289 := eq_true p289; replace q289 := eq_true q289; go_wp2; go_roundg k2
         case measure => have := HK1.out; have := HK2.out; omega
         case rel => exact ⟨(false), (wrap64 (x25_2 + 1)), eqv, eqv, H', ⟨by have := HK1.out; have := HK2.out; omega⟩, ⟨by exact Kd.S_v HO_4.out⟩, ⟨by exact bv HB.out⟩⟩
       ·rw [if_neg c5] at H; have c5b0 : decide (x25_2 < (l0.length : Int)) = false := decide_eq_false c5; clear c5
        by_cases c11 : x7_2 = true
        ·subst c11; replace H := itt_ H; obtain ⟨t291, A12, H⟩ := bnd_ H
         obtain ⟨c13, H⟩ := ifp_ H; have LMc13 := q_ c13; clear c13; obtain ⟨y294, hy294⟩ : ∃ y_ : List (List Int), y_ = (x4_1 ++ [t291]) := ⟨_, rfl⟩; (replace H : (impl_leastMarks.l0 k2 l0 y294 l0 (l0.length : Int) (wrap64 (x18_1 + 1))) = some r := by first | (rw [hy294]; with_reducible exact H) | (have H2_ := (Option.bind_some _ _).symm.trans H; rw [hy294]; with_reducible exact H2_) | (have H2_ := (Option.bind_some _ _).symm.trans H; with_reducible exact H2_) | with_reducible exact H | (rw [hy294]; exact H) | exact H); have Ny294 := q_ hy294; clear hy294; have H' := q_ H; clear H; go_wp2_with (first | (refine goesM (some 46) rfl rfl Try.func82 #[.slice A288_0 (rd_L1 l0 x18_1).length c288_0] rfl ?_; (with_reducible refine (slices_Clone_int_int_82.calls _ _ (rd_L1 l0 x18_1) t291 _ ?side1 ?side2 A12.out).mono ?_); (case side1 => exact Kd.C_v ((Kd.C_below HR288_0.out HB.out))); (case side2 => exact HC288_0.out); rintro e w14 ⟨v292, rfl, ho0, hb⟩; refine ⟨_, rfl, ?_⟩; have HO293 := q_ (Kd.R_lower ho0 (below_size (by exact bv HB.out))); replace HO_4 := q_ (Kd.S_elder' (by exact Kd.S_v HO_4.out) (Kd.R_base ho0) hb); replace HB := q_ (below_step (by exact bv HB.out) hb); (try clear hb); (try clear hb2); (try clear hk); (try clear hi); (try clear ho0); obtain ⟨Ao16, co16, eo16⟩ := Kd.R_slice HO293.out; subst eo16) | ((with_reducible refine gate_builtin (b := .append) (xs := #[.tmp 44, .tmp 47]) rfl ?_); at_builtin; refine Kd.S_append (Kd.slice 3 (Kd.int .i64)) (w0 := w) w.heap.size rfl (.tmp 44) (.tmp 47) 22 32 (.slice none 0 0) 24 rfl Try.underlying22 info32 rfl (by decide) (by omega) u4 x4_1 t291 [.slice Ao16 t291.length co16] (fun _ => True) (fun k_ => some k_ = (.slice Ao16 t291.length co16 : Value).ownBlock) rfl rfl ?aP (fun k_ hk_ => ((Kd.R_mono (ok' := fun k_ => ((fun _ => True)) k_ ∧ some k_ ≠ (u4 : Value).ownBlock) (Kd.R_apart' (HO293.out) (Kd.S_typed HO_4.out) (by decide)) (fun k_ hk => ⟨trivial, hk.2⟩))).1 k_ hk_.symm) ?aF ?aO ?aB ?aS ?aL ?_; (case aP => exact Kd.M_row (Kd.R_mono (Kd.R_tight rfl (Kd.R_mono (ok' := fun k_ => ((fun _ => True)) k_ ∧ some k_ ≠ (u4 : Value).ownBlock) (Kd.R_apart' (HO293.out) (Kd.S_typed HO_4.out) (by decide)) (fun k_ hk => ⟨trivial, hk.2⟩))) (fun _ h_ => h_))); (case aB => exact (by exact bv HB.out)); (case aF => exact (fun _ _ => trivial)); (case aO => exact (by (with_reducible repeat (first | apply Kd.S_alloc | apply Kd.S_drewN | apply Kd.S_drew)); exact Kd.S_mono HO_4.out (fun k_ hk => ⟨trivial, fun e_ => hk.2 e_⟩))); (case aS => exact (below_size (by exact bv HB.out))); (case aL => have := LMc13.out; omega); intro v295 w15 ho hb hg hat; rw [← Ny294.out] at ho; have HO296 := q_ (ho); replace HB := q_ (hb); clear HO_4; clear HO293; clear ho hb hg hat)); go_roundg k2
         case measure => have := HK1.out; have := HK2.out; omega
         case rel => exact ⟨(y294), (wrap64 (x18_1 + 1)), eqv, H', ⟨by have := HK1.out; have := HK2.out; omega⟩, ⟨by exact Kd.S_v HO296.out⟩, ⟨by exact bv HB.out⟩⟩
        ·replace c11 := Bool.eq_false_iff.mpr c11; subst c11; replace H := iff_ H; have H' := q_ H; clear H; go_wp2; go_roundg k2
         case measure => have := HK1.out; have := HK2.out; omega
         case rel => exact ⟨(x4_1), (wrap64 (x18_1 + 1)), eqv, H', ⟨by have := HK1.out; have := HK2.out; omega⟩, ⟨by exact Kd.S_v HO_4.out⟩, ⟨by exact bv HB.out⟩⟩
    ·rw [if_neg c2] at H; have c2b0 : decide (x18_1 < (l0.length : Int)) = false := decide_eq_false c2; clear c2; obtain rfl := Option.some.inj H; go_wp2; go_ret; exact ⟨_, by first | rfl | (simp [errW_none, errW_some] <;> rfl) | (simp [*, errW_none, errW_some] <;> rfl), Kd.S_lower (by exact Kd.S_v HO_4.out) (below_size HBA.out), below_step HBA.out (by exact bv HB.out)⟩

/-! ### impl_allWithin: function 87 -/
def impl_allWithin.l0 : Nat → Int → Int → List Int → Int → Int → Option (Bool)
  | 0, _, _, _, _, _ => none
  | k + 1, x1, x2, x9, x10, x11 => if x11 < x10 then (if 0 ≤ x11 then (if x11 < (x9.length : Int) then ((impl_within.f (rd x9 x11) x1 x2).bind fun t298 => (if t298 = true then (impl_allWithin.l0 k x1 x2 x9 x10 (wrap64 (x11 + 1))) else (some false))) else (none)) else (none)) else (some true)
def impl_allWithin.f (k : Nat) (l0 : List Int) (a1 : Int) (a2 : Int) : Option (Bool) := impl_allWithin.l0 k a1 a2 l0 (l0.length : Int) 0
set_option maxHeartbeats 8000000 in
set_option maxRecDepth 100000 in
theorem impl_allWithin.calls (k : Nat) (A0 : Option Addr) (c0 : Nat) (l0 : List Int) (a1 : Int) (a2 : Int) (r : Bool) (w : World) (hr0 : Kd.C (Kd.int .i64) w A0 l0.length l0) (hc0 : l0.length ≤ c0) (h : impl_allWithin.f k l0 a1 a2 = some r) :
    Calls Try.prog 87 #[.slice A0 l0.length c0, .int .i64 a1, .int .i64 a2] w fun e w' => e = .returned (.bool r) ∧ Drawn0 w w' := by
  have HR0 := q_ hr0; have HC0 := q_ hc0; clear hr0 hc0; have H : (impl_allWithin.l0 k a1 a2 l0 (l0.length : Int) 0) = some r := h; clear h; have H' := q_ H; clear H; go_enter Try.func87, Try.ntmps87; go_wp2; go_loopg [11] k (fun kq v11 w' => ∃ (x11_1 : Int), v11 = .int .i64 x11_1 ∧ Aside0 (impl_allWithin.l0 kq a1 a2 l0 (l0.length : Int) x11_1 = some r) ∧ Aside0 (kq ≤ k) ∧ Drawn0 w w')
  case atStart => exact ⟨(0), eqv, H', ⟨Nat.le_refl _⟩, by repeat (first | exact Drawn0.refl _ | apply Drawn0.step)⟩
  case round =>
   clear H'; obtain ⟨x11_1, rfl, HA, HK1, ⟨m1, rfl⟩⟩ := hrel
   cases gk with
   | zero => exact absurd HA.out (by simp [impl_allWithin.l0])
   | succ k1 =>
    have H := HA.out; clear HA; simp only [impl_allWithin.l0] at H
    by_cases c4 : x11_1 < (l0.length : Int)
    ·rw [if_pos c4] at H; have c4b0 : decide (x11_1 < (l0.length : Int)) = true := decide_eq_true c4; clear c4
     obtain ⟨c5, H⟩ := ifp_ H; have c5b0 : decide (0 ≤ x11_1) = true := decide_eq_true c5; clear c5
     obtain ⟨c6, H⟩ := ifp_ H; have c6b0 : decide (x11_1 < (l0.length : Int)) = true := decide_eq_true c6; clear c6; obtain ⟨t298, A7, H⟩ := bnd_ H; have HC8 := q_ H; clear H; have p297 : 0 ≤ (x11_1 : Int) := od; have q297 : x11_1 < (l0.length : Int) := od; obtain ⟨ad297, e297, hx297_0⟩ := Kd.at_int HR0.out x11_1 p297 q297
     cases e297
     replace p297 := eq_true p297; replace q297 := eq_true q297
     go_upto_if 19 with (first | (refine goesM (some 18) rfl rfl Try.func45 #[.int .i64 (rd l0 x11_1), .int .i64 a1, .int .i64 a2] rfl ?_; (with_reducible refine (impl_within.calls (rd l0 x11_1) a1 a2 t298 _ A7.out).mono ?_); rintro e w' ⟨rfl, ⟨nd, rfl⟩⟩; refine ⟨_, rfl, ?_⟩))
     (try simp only [Act.put, List.setIfInBounds_toArray, List.set_cons_zero, List.set_cons_succ]); have H := HC8.out; clear HC8
     by_cases c9 : t298 = true
     ·subst c9; replace H := itt_ H; have H' := q_ H; clear H; go_wp2; go_roundg k1
      case measure => have := HK1.out; omega
      case rel => exact ⟨(wrap64 (x11_1 + 1)), eqv, H', ⟨by have := HK1.out; omega⟩, by repeat (first | exact Drawn0.refl _ | apply Drawn0.step)⟩
     ·replace c9 := Bool.eq_false_iff.mpr c9; subst c9; replace H := iff_ H; obtain rfl := Option.some.inj H; go_wp2; go_ret; exact ⟨by first | rfl | (simp; done) | (simp [*]; done), by repeat (first | exact Drawn0.refl _ | apply Drawn0.step)⟩
    ·rw [if_neg c4] at H; have c4b0 : decide (x11_1 < (l0.length : Int)) = false := decide_eq_false c4; clear c4; obtain rfl := Option.some.inj H; go_wp2; go_ret; exact ⟨by first | rfl | (simp; done) | (simp [*]; done), by repeat (first | exact Drawn0.refl _ | apply Drawn0.step)⟩

/-! ### impl_GoodMark: function 52 -/
def impl_GoodMark.f (k : Nat) (a0 : Int) (l1 : List Int) : Option (Bool) := (impl_within.f a0 1 16).bind fun t299 => (if t299 = true then (if (l1.length : Int) = a0 then ((impl_allWithin.f k l1 0 50).bind fun t300 => (some t300)) else (some false)) else (some false))
set_option maxHeartbeats 8000000 in
set_option maxRecDepth 100000 in
theorem impl_GoodMark.calls (k : Nat) (a0 : Int) (A1 : Option Addr) (c1 : Nat) (l1 : List Int) (r : Bool) (w : World) (hr1 : Kd.C (Kd.int .i64) w A1 l1.length l1) (hc1 : l1.length ≤ c1) (h : impl_GoodMark.f k a0 l1 = some r) :
    Calls Try.prog 52 #[.int .i64 a0, .slice A1 l1.length c1] w fun e w' => e = .returned (.bool r) ∧ Drawn0 w w' := by
  have HR1 := q_ hr1; have HC1 := q_ hc1; clear hr1 hc1; have H : ((impl_within.f a0 1 16).bind fun t299 => (if t299 = true then (if (l1.length : Int) = a0 then ((impl_allWithin.f k l1 0 50).bind fun t300 => (some t300)) else (some false)) else (some false))) = some r := h; clear h; obtain ⟨t299, A3, H⟩ := bnd_ H
  by_cases c4 : t299 = true
  ·subst c4; replace H := itt_ H
   by_cases c5 : (l1.length : Int) = a0
   ·rw [if_pos c5] at H; have c5b0 : ((l1.length : Int) == a0) = true := beq_iff_eq.mpr c5; have c5b1 : ((l1.length : Int) != a0) = false := bne_eq_false_iff_eq.mpr c5; clear c5; obtain ⟨t300, A6, H⟩ := bnd_ H; obtain rfl := Option.some.inj H; go_enter Try.func52, Try.ntmps52; go_wp2_with (first | (refine goesM (some 6) rfl rfl Try.func45 #[.int .i64 a0, .int .i64 1, .int .i64 16] rfl ?_; (with_reducible refine (impl_within.calls a0 1 16 true _ A3.out).mono ?_); rintro e w' ⟨rfl, ⟨nd, rfl⟩⟩; refine ⟨_, rfl, ?_⟩) | (go_at_call 87; (with_reducible refine (impl_allWithin.calls k _ _ l1 0 50 t300 _ ?side1 ?side2 A6.out).mono ?_); (case side1 => exact Kd.C_v HR1.out); (case side2 => exact HC1.out); rintro e w' ⟨rfl, ⟨nd, rfl⟩⟩)); go_ret; exact ⟨by first | rfl | (simp; done) | (simp [*]; done), by repeat (first | exact Drawn0.refl _ | apply Drawn0.step)⟩
   ·rw [if_neg c5] at H; have c5b0 : ((l1.length : Int) == a0) = false := beq_eq_false_iff_ne.mpr c5; have c5b1 : ((l1.length : Int) != a0) = true := bne_iff_ne.mpr c5; obtain rfl := Option.some.inj H; go_enter Try.func52, Try.ntmps52; go_wp2_with (first | (refine goesM (some 6) rfl rfl Try.func45 #[.int .i64 a0, .int .i64 1, .int .i64 16] rfl ?_; (with_reducible refine (impl_within.calls a0 1 16 true _ A3.out).mono ?_); rintro e w' ⟨rfl, ⟨nd, rfl⟩⟩; refine ⟨_, rfl, ?_⟩)); go_ret; exact ⟨by first | rfl | (simp; done) | (simp [*]; done), by repeat (first | exact Drawn0.refl _ | apply Drawn0.step)⟩
  ·replace c4 := Bool.eq_false_iff.mpr c4; subst c4; replace H := iff_ H; obtain rfl := Option.some.inj H; go_enter Try.func52, Try.ntmps52; go_wp2_with (first | (refine goesM (some 6) rfl rfl Try.func45 #[.int .i64 a0, .int .i64 1, .int .i64 16] rfl ?_; (with_reducible refine (impl_within.calls a0 1 16 false _ A3.out).mono ?_); rintro e w' ⟨rfl, ⟨nd, rfl⟩⟩; refine ⟨_, rfl, ?_⟩)); go_ret; exact ⟨by first | rfl | (simp; done) | (simp [*]; done), by repeat (first | exact Drawn0.refl _ | apply Drawn0.step)⟩

/-! ### impl_increasing: function 162 -/
def impl_increasing.l0 : Nat → List Int → Int → Option (Bool)
  | 0, _, _ => none
  | k + 1, x0, x3 => if x3 < (x0.length : Int) then (if 0 ≤ (wrap64 (x3 - 1)) then (if (wrap64 (x3 - 1)) < (x0.length : Int) then (if 0 ≤ x3 then (if (rd x0 (wrap64 (x3 - 1))) ≥ (rd x0 x3) then (some false) else (impl_increasing.l0 k x0 (wrap64 (x3 + 1)))) else (none)) else (none)) else (none)) else (some true)
def impl_increasing.f (k : Nat) (l0 : List Int) : Option (Bool) := impl_increasing.l0 k l0 1
set_option maxHeartbeats 8000000 in
set_option maxRecDepth 100000 in
theorem impl_increasing.calls (k : Nat) (A0 : Option Addr) (c0 : Nat) (l0 : List Int) (r : Bool) (w : World) (hr0 : Kd.C (Kd.int .i64) w A0 l0.length l0) (hc0 : l0.length ≤ c0) (h : impl_increasing.f k l0 = some r) :
    Calls Try.prog 162 #[.slice A0 l0.length c0] w fun e w' => e = .returned (.bool r) ∧ Drawn0 w w' := by
  have HR0 := q_ hr0; have HC0 := q_ hc0; clear hr0 hc0; have H : (impl_increasing.l0 k l0 1) = some r := h; clear h; have H' := q_ H; clear H; go_enter Try.func162, Try.ntmps162; go_wp2; (repeat (go_quiet (fail); try go_wp2)); go_loopg [3] k (fun kq v3 w' => ∃ (x3_1 : Int), v3 = .int .i64 x3_1 ∧ Aside0 (impl_increasing.l0 kq l0 x3_1 = some r) ∧ Aside0 (kq ≤ k) ∧ Drawn0 w w')
  case atStart => exact ⟨(1), eqv, H', ⟨Nat.le_refl _⟩, by repeat (first | exact Drawn0.refl _ | apply Drawn0.step)⟩
  case round =>
   clear H'; obtain ⟨x3_1, rfl, HA, HK1, ⟨m1, rfl⟩⟩ := hrel
   cases gk with
   | zero => exact absurd HA.out (by simp [impl_increasing.l0])
   | succ k1 =>
    have H := HA.out; clear HA; simp only [impl_increasing.l0] at H
    by_cases c2 : x3_1 < (l0.length : Int)
    ·rw [if_pos c2] at H; have c2b0 : decide (x3_1 < (l0.length : Int)) = true := decide_eq_true c2; clear c2; obtain ⟨ji3, hji3⟩ : ∃ j_ : Int, (wrap64 (x3_1 - 1)) = j_ := ⟨_, rfl⟩; (replace H : (if 0 ≤ (ji3) then (if (ji3) < (l0.length : Int) then (if 0 ≤ x3_1 then (if (rd l0 (ji3)) ≥ (rd l0 x3_1) then (some false) else (impl_increasing.l0 k1 l0 (wrap64 (x3_1 + 1)))) else (none)) else (none)) else (none)) = some r := by first | (rw [hji3] at H; exact H) | (simp only [hji3] at H ⊢; exact H)); have hji3w : (IntKind.i64.wrap (x3_1 - 1)) = ji3 := (i64_w _).trans hji3
     obtain ⟨c4, H⟩ := ifp_ H; have c4b0 : decide (0 ≤ (ji3)) = true := decide_eq_true c4; clear c4
     obtain ⟨c5, H⟩ := ifp_ H; have c5b0 : decide ((ji3) < (l0.length : Int)) = true := decide_eq_true c5; clear c5
     obtain ⟨c6, H⟩ := ifp_ H; have c6b0 : decide (0 ≤ x3_1) = true := decide_eq_true c6; clear c6
     by_cases c7 : (rd l0 (ji3)) ≥ (rd l0 x3_1)
     ·rw [if_pos c7] at H; have c7b0 : decide ((rd l0 x3_1) ≤ (rd l0 (ji3))) = true := decide_eq_true c7; clear c7; obtain rfl := Option.some.inj H; have p301 : 0 ≤ ((ji3) : Int) := od; have q301 : (ji3) < (l0.length : Int) := od; obtain ⟨ad301, e301, hx301_0⟩ := Kd.at_int HR0.out (ji3) p301 q301
      cases e301
      replace p301 := eq_true p301; replace q301 := eq_true q301; have p302 : 0 ≤ (x3_1 : Int) := od; have q302 : x3_1 < (l0.length : Int) := od; obtain ⟨ad302, e302, hx302_0⟩ := Kd.at_int HR0.out x3_1 p302 q302; obtain rfl : ad301 = ad302 := (by injection e302); replace p302 := eq_true p302; replace q302 := eq_true q302; go_wp2; (repeat (go_quiet (fail); try go_wp2)); go_ret; exact ⟨by first | rfl | (simp; done) | (simp only [← hji3] <;> (first | rfl | simp)) | (simp [*]; done), by repeat (first | exact Drawn0.refl _ | apply Drawn0.step)⟩
     ·rw [if_neg c7] at H; have c7b0 : decide ((rd l0 x3_1) ≤ (rd l0 (ji3))) = false := decide_eq_false c7; clear c7; have H' := q_ H; clear H; have p301 : 0 ≤ ((ji3) : Int) := od; have q301 : (ji3) < (l0.length : Int) := od; obtain ⟨ad301, e301, hx301_0⟩ := Kd.at_int HR0.out (ji3) p301 q301
      cases e301
      replace p301 := eq_true p301; replace q301 := eq_true q301; have p302 : 0 ≤ (x3_1 : Int) := od; have q302 : x3_1 < (l0.length : Int) := od; obtain ⟨ad302, e302, hx302_0⟩ := Kd.at_int HR0.out x3_1 p302 q302; obtain rfl : ad301 = ad302 := (by injection e302); replace p302 := eq_true p302; replace q302 := eq_true q302; go_wp2; (repeat (go_quiet (fail); try go_wp2)); go_roundg k1
      case measure => have := HK1.out; omega
      case rel => exact ⟨(wrap64 (x3_1 + 1)), eqv, H', ⟨by have := HK1.out; omega⟩, by repeat (first | exact Drawn0.refl _ | apply Drawn0.step)⟩
    ·rw [if_neg c2] at H; have c2b0 : decide (x3_1 < (l0.length : Int)) = false := decide_eq_false c2; clear c2; obtain rfl := Option.some.inj H; go_wp2; (repeat (go_quiet (fail); try go_wp2)); go_ret; exact ⟨by first | rfl | (simp; done) | (simp [*]; done), by repeat (first | exact Drawn0.refl _ | apply Drawn0.step)⟩

/-! ### impl_arePlaces: function 147 -/
def impl_arePlaces.f (k : Nat) (a0_0 : Int) (l0_1 : List (S105)) (l1 : List Int) : Option (Bool) := (impl_increasing.f k l1).bind fun t304 => (if t304 = true then ((impl_allWithin.f k l1 0 (wrap64 (a0_0 - 1))).bind fun t305 => (some t305)) else (some false))
set_option maxHeartbeats 8000000 in
set_option maxRecDepth 100000 in
theorem impl_arePlaces.calls (k : Nat) (a0_0 : Int) (A0_1 : Option Addr) (c0_1 : Nat) (l0_1 : List (S105)) (A1 : Option Addr) (c1 : Nat) (l1 : List Int) (r : Bool) (w : World) (hr0_1 : Kd.C k105 w A0_1 l0_1.length l0_1) (hc0_1 : l0_1.length ≤ c0_1) (hr1 : Kd.C (Kd.int .i64) w A1 l1.length l1) (hc1 : l1.length ≤ c1) (h : impl_arePlaces.f k a0_0 l0_1 l1 = some r) :
    Calls Try.prog 147 #[.agg #[.int .i64 a0_0, .slice A0_1 l0_1.length c0_1], .slice A1 l1.length c1] w fun e w' => e = .returned (.bool r) ∧ Below w.heap.size w w' := by
  have hu38 := Try.underlying38
  have HR0_1 := q_ hr0_1; have HC0_1 := q_ hc0_1; clear hr0_1 hc0_1; have HR1 := q_ hr1; have HC1 := q_ hc1; clear hr1 hc1; have HB := q_ (Below.refl w.heap.size w); have H : ((impl_increasing.f k l1).bind fun t304 => (if t304 = true then ((impl_allWithin.f k l1 0 (wrap64 (a0_0 - 1))).bind fun t305 => (some t305)) else (some false))) = some r := h; clear h; obtain ⟨t304, A3, H⟩ := bnd_ H
  by_cases c4 : t304 = true
  ·subst c4; replace H := itt_ H; obtain ⟨t305, A5, H⟩ := bnd_ H; obtain rfl := Option.some.inj H; go_enter Try.func147, Try.ntmps147; go_wp2_with (first | (refine boxE 2 #[.int .i64 a0_0, .slice A0_1 l0_1.length c0_1] 38 ?_; intro gb303 hg w6 hbox hb; have BK303 := q_ (hbox); have GW303 := q_ (gw_ hg HB.out); have GE303 := q_ (gw_ hg HB.out); replace HB := q_ (bs HB.out hb); clear hb hbox hg) | (refine goesM (some 6) rfl rfl Try.func162 #[.slice A1 l1.length c1] rfl ?_; (with_reducible refine (impl_increasing.calls k _ _ l1 true _ ?side1 ?side2 A3.out).mono ?_); (case side1 => exact Kd.C_v ((Kd.C_below HR1.out HB.out))); (case side2 => exact HC1.out); rintro e w' ⟨rfl, ⟨nd, rfl⟩⟩; refine ⟨_, rfl, ?_⟩; obtain ⟨hcz7_0, hcz7_1, hfz7_0, hfz7_1⟩ := cz2 BK303.out) | (go_at_call 87; (with_reducible refine (impl_allWithin.calls k _ _ l1 0 (wrap64 (a0_0 - 1)) t305 _ ?side1 ?side2 A5.out).mono ?_); (case side1 => exact (Kd.C_below HR1.out (by exact bv HB.out))); (case side2 => exact HC1.out); rintro e w' ⟨rfl, ⟨nd, rfl⟩⟩)); go_ret; exact fin_ (by exact bv HB.out)
  ·replace c4 := Bool.eq_false_iff.mpr c4; subst c4; replace H := iff_ H; obtain rfl := Option.some.inj H; go_enter Try.func147, Try.ntmps147; go_wp2_with (first | (refine boxE 2 #[.int .i64 a0_0, .slice A0_1 l0_1.length c0_1] 38 ?_; intro gb303 hg w8 hbox hb; have BK303 := q_ (hbox); have GW303 := q_ (gw_ hg HB.out); have GE303 := q_ (gw_ hg HB.out); replace HB := q_ (bs HB.out hb); clear hb hbox hg) | (refine goesM (some 6) rfl rfl Try.func162 #[.slice A1 l1.length c1] rfl ?_; (with_reducible refine (impl_increasing.calls k _ _ l1 false _ ?side1 ?side2 A3.out).mono ?_); (case side1 => exact Kd.C_v ((Kd.C_below HR1.out HB.out))); (case side2 => exact HC1.out); rintro e w' ⟨rfl, ⟨nd, rfl⟩⟩; refine ⟨_, rfl, ?_⟩)); go_ret; exact fin_ (by exact bv HB.out)

/-! ### impl_GoodNet_1: function 146 -/
def impl_GoodNet_1.f (k : Nat) (l0_0 : List Int) (l0_1 : List Int) (l0_2 : List Int) (a1_0_0 : Int) (l1_0_1 : List (S105)) : Option (Bool) := if (l0_0.length : Int) = 0 then (some true) else ((impl_arePlaces.f k a1_0_0 l1_0_1 l0_0).bind fun t307 => (if t307 = true then ((impl_arePlaces.f k a1_0_0 l1_0_1 l0_1).bind fun t308 => (if t308 = true then ((impl_arePlaces.f k a1_0_0 l1_0_1 l0_2).bind fun t309 => (some (!t309))) else (some true))) else (some true)))
set_option maxHeartbeats 8000000 in
set_option maxRecDepth 100000 in
theorem impl_GoodNet_1.calls (k : Nat) (A0_0 : Option Addr) (c0_0 : Nat) (l0_0 : List Int) (A0_1 : Option Addr) (c0_1 : Nat) (l0_1 : List Int) (A0_2 : Option Addr) (c0_2 : Nat) (l0_2 : List Int) (gq1_0 : Nat) (a1_0_0 : Int) (A1_0_1 : Option Addr) (c1_0_1 : Nat) (l1_0_1 : List (S105)) (r : Bool) (w : World) (hr0_0 : Kd.C (Kd.int .i64) w A0_0 l0_0.length l0_0) (hc0_0 : l0_0.length ≤ c0_0) (hr0_1 : Kd.C (Kd.int .i64) w A0_1 l0_1.length l0_1) (hc0_1 : l0_1.length ≤ c0_1) (hr0_2 : Kd.C (Kd.int .i64) w A0_2 l0_2.length l0_2) (hc0_2 : l0_2.length ≤ c0_2) (hb1_0 : w.heap[gq1_0]? = some (.cells #[.int .i64 a1_0_0, .slice A1_0_1 l1_0_1.length c1_0_1] 38 (0, 0))) (hr1_0_1 : Kd.C k105 w A1_0_1 l1_0_1.length l1_0_1) (hc1_0_1 : l1_0_1.length ≤ c1_0_1) (h : impl_GoodNet_1.f k l0_0 l0_1 l0_2 a1_0_0 l1_0_1 = some r) :
    Calls Try.prog 146 #[.agg #[.slice A0_0 l0_0.length c0_0, .slice A0_1 l0_1.length c0_1, .slice A0_2 l0_2.length c0_2], .pointer (some ⟨gq1_0, 0, none⟩)] w fun e w' => e = .returned (.bool r) ∧ Below w.heap.size w w' := by
  have hu105 := Try.underlying105
  have hu38 := Try.underlying38
  have HR0_0 := q_ hr0_0; have HC0_0 := q_ hc0_0; clear hr0_0 hc0_0; have HR0_1 := q_ hr0_1; have HC0_1 := q_ hc0_1; clear hr0_1 hc0_1; have HR0_2 := q_ hr0_2; have HC0_2 := q_ hc0_2; clear hr0_2 hc0_2; have HR1_0_1 := q_ hr1_0_1; have HC1_0_1 := q_ hc1_0_1; clear hr1_0_1 hc1_0_1; have BK90100 := q_ hb1_0; clear hb1_0; have HB := q_ (Below.refl w.heap.size w); have H : (if (l0_0.length : Int) = 0 then (some true) else ((impl_arePlaces.f k a1_0_0 l1_0_1 l0_0).bind fun t307 => (if t307 = true then ((impl_arePlaces.f k a1_0_0 l1_0_1 l0_1).bind fun t308 => (if t308 = true then ((impl_arePlaces.f k a1_0_0 l1_0_1 l0_2).bind fun t309 => (some (!t309))) else (some true))) else (some true)))) = some r := h; clear h
  by_cases c3 : (l0_0.length : Int) = 0
  ·rw [if_pos c3] at H; have c3b0 : ((l0_0.length : Int) == 0) = true := beq_iff_eq.mpr c3; have c3b1 : ((l0_0.length : Int) != 0) = false := bne_eq_false_iff_eq.mpr c3; clear c3; obtain rfl := Option.some.inj H; go_enter Try.func146, Try.ntmps146; go_wp2_with (first | (refine boxE 2 #[.slice A0_0 l0_0.length c0_0, .slice A0_1 l0_1.length c0_1, .slice A0_2 l0_2.length c0_2] 105 ?_; intro gb306 hg w4 hbox hb; have BK306 := q_ (hbox); have GW306 := q_ (gw_ hg HB.out); have GE306 := q_ (gw_ hg HB.out); have NB90100_306 := q_ (nb_ hg BK90100.out); have NB306_90100 := q_ (bn_ hg BK90100.out); replace BK90100 := q_ (bb BK90100.out hb); replace HB := q_ (bs HB.out hb); clear hb hbox hg; have hnb5 := NB306_90100.out; have hnc5 := NB90100_306.out; obtain ⟨hcz6_0, hcz6_1, hcz6_2, hfz6_0, hfz6_1, hfz6_2⟩ := cz3 BK306.out)); go_ret; exact fin_ (by exact bv HB.out)
  ·rw [if_neg c3] at H; have c3b0 : ((l0_0.length : Int) == 0) = false := beq_eq_false_iff_ne.mpr c3; have c3b1 : ((l0_0.length : Int) != 0) = true := bne_iff_ne.mpr c3; have c3b2 : ¬ (l0_0 = []) := fun h_ => c3 (by rw [h_]; rfl); obtain ⟨t307, A7, H⟩ := bnd_ H
   by_cases c8 : t307 = true
   ·subst c8; replace H := itt_ H; obtain ⟨t308, A9, H⟩ := bnd_ H
    by_cases c10 : t308 = true
    ·subst c10; replace H := itt_ H; obtain ⟨t309, A11, H⟩ := bnd_ H; obtain rfl := Option.some.inj H; go_enter Try.func146, Try.ntmps146; go_wp2_with (first | (refine boxE 2 #[.slice A0_0 l0_0.length c0_0, .slice A0_1 l0_1.length c0_1, .slice A0_2 l0_2.length c0_2] 105 ?_; intro gb306 hg w12 hbox hb; have BK306 := q_ (hbox); have GW306 := q_ (gw_ hg HB.out); have GE306 := q_ (gw_ hg HB.out); have NB90100_306 := q_ (nb_ hg BK90100.out); have NB306_90100 := q_ (bn_ hg BK90100.out); replace BK90100 := q_ (bb BK90100.out hb); replace HB := q_ (bs HB.out hb); clear hb hbox hg; have hnb13 := NB306_90100.out; have hnc13 := NB90100_306.out; obtain ⟨hcz14_0, hcz14_1, hcz14_2, hfz14_0, hfz14_1, hfz14_2⟩ := cz3 BK306.out; obtain ⟨hcz15_0, hcz15_1, hfz15_0, hfz15_1⟩ := cz2 BK90100.out) | (go_at_call 147; (with_reducible refine (impl_arePlaces.calls k a1_0_0 _ _ l1_0_1 _ _ l0_0 true _ ?side1 ?side2 ?side3 ?side4 A7.out).mono ?_); (case side1 => exact Kd.C_v ((Kd.C_below HR1_0_1.out HB.out))); (case side2 => exact HC1_0_1.out); (case side3 => exact Kd.C_v ((Kd.C_below HR0_0.out HB.out))); (case side4 => exact HC0_0.out); rintro e w16 ⟨rfl, hb⟩; replace BK90100 := q_ (bb BK90100.out hb); replace BK306 := q_ (bb BK306.out hb); replace HB := q_ (below_step (by exact bv HB.out) hb); (try clear hb); (try clear hb2); (try clear hk); (try clear hi); obtain ⟨hcz17_0, hcz17_1, hfz17_0, hfz17_1⟩ := cz2 BK90100.out; obtain ⟨hcz18_0, hcz18_1, hcz18_2, hfz18_0, hfz18_1, hfz18_2⟩ := cz3 BK306.out) | (go_at_call 147; (with_reducible refine (impl_arePlaces.calls k a1_0_0 _ _ l1_0_1 _ _ l0_1 true _ ?side1 ?side2 ?side3 ?side4 A9.out).mono ?_); (case side1 => exact Kd.C_v ((Kd.C_below HR1_0_1.out HB.out))); (case side2 => exact HC1_0_1.out); (case side3 => exact Kd.C_v ((Kd.C_below HR0_1.out HB.out))); (case side4 => exact HC0_1.out); rintro e w19 ⟨rfl, hb⟩; replace BK90100 := q_ (bb BK90100.out hb); replace BK306 := q_ (bb BK306.out hb); replace HB := q_ (below_step (by exact bv HB.out) hb); (try clear hb); (try clear hb2); (try clear hk); (try clear hi); obtain ⟨hcz20_0, hcz20_1, hfz20_0, hfz20_1⟩ := cz2 BK90100.out; obtain ⟨hcz21_0, hcz21_1, hcz21_2, hfz21_0, hfz21_1, hfz21_2⟩ := cz3 BK306.out) | (go_at_call 147; (with_reducible refine (impl_arePlaces.calls k a1_0_0 _ _ l1_0_1 _ _ l0_2 t309 _ ?side1 ?side2 ?side3 ?side4 A11.out).mono ?_); (case side1 => exact Kd.C_v ((Kd.C_below HR1_0_1.out HB.out))); (case side2 => exact HC1_0_1.out); (case side3 => exact Kd.C_v ((Kd.C_below HR0_2.out HB.out))); (case side4 => exact HC0_2.out); rintro e w22 ⟨rfl, hb⟩; replace BK90100 := q_ (bb BK90100.out hb); replace BK306 := q_ (bb BK306.out hb); replace HB := q_ (below_step (by exact bv HB.out) hb); (try clear hb); (try clear hb2); (try clear hk); (try clear hi))); go_ret; exact fin_ (by exact bv HB.out)
    ·replace c10 := Bool.eq_false_iff.mpr c10; subst c10; replace H := iff_ H; obtain rfl := Option.some.inj H; go_enter Try.func146, Try.ntmps146; go_wp2_with (first | (refine boxE 2 #[.slice A0_0 l0_0.length c0_0, .slice A0_1 l0_1.length c0_1, .slice A0_2 l0_2.length c0_2] 105 ?_; intro gb306 hg w23 hbox hb; have BK306 := q_ (hbox); have GW306 := q_ (gw_ hg HB.out); have GE306 := q_ (gw_ hg HB.out); have NB90100_306 := q_ (nb_ hg BK90100.out); have NB306_90100 := q_ (bn_ hg BK90100.out); replace BK90100 := q_ (bb BK90100.out hb); replace HB := q_ (bs HB.out hb); clear hb hbox hg; have hnb24 := NB306_90100.out; have hnc24 := NB90100_306.out; obtain ⟨hcz25_0, hcz25_1, hcz25_2, hfz25_0, hfz25_1, hfz25_2⟩ := cz3 BK306.out; obtain ⟨hcz26_0, hcz26_1, hfz26_0, hfz26_1⟩ := cz2 BK90100.out) | (go_at_call 147; (with_reducible refine (impl_arePlaces.calls k a1_0_0 _ _ l1_0_1 _ _ l0_0 true _ ?side1 ?side2 ?side3 ?side4 A7.out).mono ?_); (case side1 => exact Kd.C_v ((Kd.C_below HR1_0_1.out HB.out))); (case side2 => exact HC1_0_1.out); (case side3 => exact Kd.C_v ((Kd.C_below HR0_0.out HB.out))); (case side4 => exact HC0_0.out); rintro e w27 ⟨rfl, hb⟩; replace BK90100 := q_ (bb BK90100.out hb); replace BK306 := q_ (bb BK306.out hb); replace HB := q_ (below_step (by exact bv HB.out) hb); (try clear hb); (try clear hb2); (try clear hk); (try clear hi); obtain ⟨hcz28_0, hcz28_1, hfz28_0, hfz28_1⟩ := cz2 BK90100.out; obtain ⟨hcz29_0, hcz29_1, hcz29_2, hfz29_0, hfz29_1, hfz29_2⟩ := cz3 BK306.out) | (go_at_call 147; (with_reducible refine (impl_arePlaces.calls k a1_0_0 _ _ l1_0_1 _ _ l0_1 false _ ?side1 ?side2 ?side3 ?side4 A9.out).mono ?_); (case side1 => exact Kd.C_v ((Kd.C_below HR1_0_1.out HB.out))); (case side2 => exact HC1_0_1.out); (case side3 => exact Kd.C_v ((Kd.C_below HR0_1.out HB.out))); (case side4 => exact HC0_1.out); rintro e w30 ⟨rfl, hb⟩; replace BK90100 := q_ (bb BK90100.out hb); replace BK306 := q_ (bb BK306.out hb); replace HB := q_ (below_step (by exact bv HB.out) hb); (try clear hb); (try clear hb2); (try clear hk); (try clear hi))); go_ret; exact fin_ (by exact bv HB.out)
   ·replace c8 := Bool.eq_false_iff.mpr c8; subst c8; replace H := iff_ H; obtain rfl := Option.some.inj H; go_enter Try.func146, Try.ntmps146; go_wp2_with (first | (refine boxE 2 #[.slice A0_0 l0_0.length c0_0, .slice A0_1 l0_1.length c0_1, .slice A0_2 l0_2.length c0_2] 105 ?_; intro gb306 hg w31 hbox hb; have BK306 := q_ (hbox); have GW306 := q_ (gw_ hg HB.out); have GE306 := q_ (gw_ hg HB.out); have NB90100_306 := q_ (nb_ hg BK90100.out); have NB306_90100 := q_ (bn_ hg BK90100.out); replace BK90100 := q_ (bb BK90100.out hb); replace HB := q_ (bs HB.out hb); clear hb hbox hg; have hnb32 := NB306_90100.out; have hnc32 := NB90100_306.out; obtain ⟨hcz33_0, hcz33_1, hcz33_2, hfz33_0, hfz33_1, hfz33_2⟩ := cz3 BK306.out; obtain ⟨hcz34_0, hcz34_1, hfz34_0, hfz34_1⟩ := cz2 BK90100.out) | (go_at_call 147; (with_reducible refine (impl_arePlaces.calls k a1_0_0 _ _ l1_0_1 _ _ l0_0 false _ ?side1 ?side2 ?side3 ?side4 A7.out).mono ?_); (case side1 => exact Kd.C_v ((Kd.C_below HR1_0_1.out HB.out))); (case side2 => exact HC1_0_1.out); (case side3 => exact Kd.C_v ((Kd.C_below HR0_0.out HB.out))); (case side4 => exact HC0_0.out); rintro e w35 ⟨rfl, hb⟩; replace BK90100 := q_ (bb BK90100.out hb); replace BK306 := q_ (bb BK306.out hb); replace HB := q_ (below_step (by exact bv HB.out) hb); (try clear hb); (try clear hb2); (try clear hk); (try clear hi))); go_ret; exact fin_ (by exact bv HB.out)

/-! ### slices_IndexFunc_impl_Trans_impl_Trans_at_impl_GoodNet_1: function 161 -/
def slices_IndexFunc_impl_Trans_impl_Trans_at_impl_GoodNet_1.l0 : Nat → List (S105) → Int → Int → Int → List (S105) → Option (Int)
  | 0, _, _, _, _, _ => none
  | k + 1, x0, x7, x8, x90101000, x90101001 => if x8 < x7 then (if 0 ≤ x8 then (if x8 < (x0.length : Int) then ((impl_GoodNet_1.f k ((rd_T105 x0 x8).f0) ((rd_T105 x0 x8).f1) ((rd_T105 x0 x8).f2) x90101000 x90101001).bind fun t311 => (if t311 = true then (some x8) else (slices_IndexFunc_impl_Trans_impl_Trans_at_impl_GoodNet_1.l0 k x0 x7 (wrap64 (x8 + 1)) x90101000 x90101001))) else (none)) else (none)) else (some (-1))
def slices_IndexFunc_impl_Trans_impl_Trans_at_impl_GoodNet_1.f (k : Nat) (l0 : List (S105)) (a1_0_0 : Int) (l1_0_1 : List (S105)) : Option (Int) := slices_IndexFunc_impl_Trans_impl_Trans_at_impl_GoodNet_1.l0 k l0 (l0.length : Int) 0 a1_0_0 l1_0_1
set_option maxHeartbeats 8000000 in
set_option maxRecDepth 100000 in
theorem slices_IndexFunc_impl_Trans_impl_Trans_at_impl_GoodNet_1.calls (k : Nat) (A0 : Option Addr) (c0 : Nat) (l0 : List (S105)) (gq1_0 : Nat) (a1_0_0 : Int) (A1_0_1 : Option Addr) (c1_0_1 : Nat) (l1_0_1 : List (S105)) (r : Int) (w : World) (hr0 : Kd.C k105 w A0 l0.length l0) (hc0 : l0.length ≤ c0) (hb1_0 : w.heap[gq1_0]? = some (.cells #[.int .i64 a1_0_0, .slice A1_0_1 l1_0_1.length c1_0_1] 38 (0, 0))) (hr1_0_1 : Kd.C k105 w A1_0_1 l1_0_1.length l1_0_1) (hc1_0_1 : l1_0_1.length ≤ c1_0_1) (h : slices_IndexFunc_impl_Trans_impl_Trans_at_impl_GoodNet_1.f k l0 a1_0_0 l1_0_1 = some r) :
    Calls Try.prog 161 #[.slice A0 l0.length c0, .func (.func 146) #[] #[.pointer (some ⟨gq1_0, 0, none⟩)]] w fun e w' => e = .returned (.int .i64 r) ∧ Below w.heap.size w w' := by
  have hu105 := Try.underlying105
  have HR0 := q_ hr0; have HC0 := q_ hc0; clear hr0 hc0; have HR1_0_1 := q_ hr1_0_1; have HC1_0_1 := q_ hc1_0_1; clear hr1_0_1 hc1_0_1; have BK90100 := q_ hb1_0; clear hb1_0; have HB := q_ (Below.refl w.heap.size w); have H : (slices_IndexFunc_impl_Trans_impl_Trans_at_impl_GoodNet_1.l0 k l0 (l0.length : Int) 0 a1_0_0 l1_0_1) = some r := h; clear h; have H' := q_ H; clear H; go_enter Try.func161, Try.ntmps161; go_wp2; go_loopg [8] k (fun kq v8 w' => ∃ (x8_1 : Int), v8 = .int .i64 x8_1 ∧ Aside0 (slices_IndexFunc_impl_Trans_impl_Trans_at_impl_GoodNet_1.l0 kq l0 (l0.length : Int) x8_1 a1_0_0 l1_0_1 = some r) ∧ Aside0 (kq ≤ k) ∧ Aside0 (w'.heap[gq1_0]? = some (.cells #[.int .i64 a1_0_0, (.slice A1_0_1 l1_0_1.length c1_0_1)] 38 (0, 0))) ∧ Aside0 (Below w.heap.size w w'))
  case atStart => exact ⟨(0), eqv, H', ⟨Nat.le_refl _⟩, ⟨by exact blk_v BK90100.out⟩, ⟨by exact bv HB.out⟩⟩
  case round =>
   clear H'; obtain ⟨x8_1, rfl, HA, HK1, BK90100, HB⟩ := hrel
   cases gk with
   | zero => exact absurd HA.out (by simp [slices_IndexFunc_impl_Trans_impl_Trans_at_impl_GoodNet_1.l0])
   | succ k1 =>
    have H := HA.out; clear HA; simp only [slices_IndexFunc_impl_Trans_impl_Trans_at_impl_GoodNet_1.l0] at H
    by_cases c3 : x8_1 < (l0.length : Int)
    ·rw [if_pos c3] at H; have c3b0 : decide (x8_1 < (l0.length : Int)) = true := decide_eq_true c3; clear c3
     obtain ⟨c4, H⟩ := ifp_ H; have c4b0 : decide (0 ≤ x8_1) = true := decide_eq_true c4; clear c4
     obtain ⟨c5, H⟩ := ifp_ H; have c5b0 : decide (x8_1 < (l0.length : Int)) = true := decide_eq_true c5; clear c5; obtain ⟨t311, A6, H⟩ := bnd_ H; have HC7 := q_ H; clear H; have p310 : 0 ≤ (x8_1 : Int) := od; have q310 : x8_1 < (l0.length : Int) := od; obtain ⟨ad310, A310_0, c310_0, A310_1, c310_1, A310_2, c310_2, e310, hx310_0, hx310_1, hx310_2, hl310_0, hi310_0, hl310_1, hi310_1, hl310_2, hi310_2⟩ := at_T105 HR0.out x8_1 p310 q310
     cases e310
     replace hx310_0 := cb_ HB.out hx310_0; replace hx310_1 := cb_ HB.out hx310_1; replace hx310_2 := cb_ HB.out hx310_2; have HR310_0 := q_ hi310_0; have HC310_0 := q_ hl310_0; clear hi310_0 hl310_0; have HR310_1 := q_ hi310_1; have HC310_1 := q_ hl310_1; clear hi310_1 hl310_1; have HR310_2 := q_ hi310_2; have HC310_2 := q_ hl310_2; clear hi310_2 hl310_2; replace p310 := eq_true p310; replace q310 := eq_true q310
     go_upto_if 16 with (first | (go_at_call 146; (with_reducible refine (impl_GoodNet_1.calls k1 _ _ ((rd_T105 l0 x8_1).f0) _ _ ((rd_T105 l0 x8_1).f1) _ _ ((rd_T105 l0 x8_1).f2) gq1_0 a1_0_0 A1_0_1 c1_0_1 l1_0_1 t311 _ ?side1 ?side2 ?side3 ?side4 ?side5 ?side6 ?side7 ?side8 ?side9 A6.out).mono ?_); (case side1 => exact Kd.C_v ((Kd.C_below HR310_0.out HB.out))); (case side2 => exact HC310_0.out); (case side3 => exact Kd.C_v ((Kd.C_below HR310_1.out HB.out))); (case side4 => exact HC310_1.out); (case side5 => exact Kd.C_v ((Kd.C_below HR310_2.out HB.out))); (case side6 => exact HC310_2.out); (case side7 => exact blk_v BK90100.out); (case side8 => exact Kd.C_v ((Kd.C_below HR1_0_1.out HB.out))); (case side9 => exact HC1_0_1.out); rintro e w8 ⟨rfl, hb⟩; replace BK90100 := q_ (bb BK90100.out hb); replace HB := q_ (below_step (by exact bv HB.out) hb); (try clear hb); (try clear hb2); (try clear hk); (try clear hi)))
     (try simp only [Act.put, List.setIfInBounds_toArray, List.set_cons_zero, List.set_cons_succ]); have H := HC7.out; clear HC7
     by_cases c9 : t311 = true
     ·subst c9; replace H := itt_ H; obtain rfl := Option.some.inj H; go_wp2; go_ret; exact fin_ (by exact bv HB.out)
     ·replace c9 := Bool.eq_false_iff.mpr c9; subst c9; replace H := iff_ H; have H' := q_ H; clear H; go_wp2; go_roundg k1
      case measure => have := HK1.out; omega
      case rel => exact ⟨(wrap64 (x8_1 + 1)), eqv, H', ⟨by have := HK1.out; omega⟩, ⟨by exact blk_v BK90100.out⟩, ⟨by exact bv HB.out⟩⟩
    ·rw [if_neg c3] at H; have c3b0 : decide (x8_1 < (l0.length : Int)) = false := decide_eq_false c3; clear c3; obtain rfl := Option.some.inj H; go_wp2; go_ret; exact fin_ (by exact bv HB.out)

/-! ### slices_ContainsFunc_impl_Trans_impl_Trans_at_impl_GoodNet_1: function 145 -/
def slices_ContainsFunc_impl_Trans_impl_Trans_at_impl_GoodNet_1.f (k : Nat) (l0 : List (S105)) (a1_0_0 : Int) (l1_0_1 : List (S105)) : Option (Bool) := (slices_IndexFunc_impl_Trans_impl_Trans_at_impl_GoodNet_1.f k l0 a1_0_0 l1_0_1).bind fun t312 => (some (decide (t312 ≥ 0)))
set_option maxHeartbeats 8000000 in
set_option maxRecDepth 100000 in
theorem slices_ContainsFunc_impl_Trans_impl_Trans_at_impl_GoodNet_1.calls (k : Nat) (A0 : Option Addr) (c0 : Nat) (l0 : List (S105)) (gq1_0 : Nat) (a1_0_0 : Int) (A1_0_1 : Option Addr) (c1_0_1 : Nat) (l1_0_1 : List (S105)) (r : Bool) (w : World) (hr0 : Kd.C k105 w A0 l0.length l0) (hc0 : l0.length ≤ c0) (hb1_0 : w.heap[gq1_0]? = some (.cells #[.int .i64 a1_0_0, .slice A1_0_1 l1_0_1.length c1_0_1] 38 (0, 0))) (hr1_0_1 : Kd.C k105 w A1_0_1 l1_0_1.length l1_0_1) (hc1_0_1 : l1_0_1.length ≤ c1_0_1) (h : slices_ContainsFunc_impl_Trans_impl_Trans_at_impl_GoodNet_1.f k l0 a1_0_0 l1_0_1 = some r) :
    Calls Try.prog 145 #[.slice A0 l0.length c0, .func (.func 146) #[] #[.pointer (some ⟨gq1_0, 0, none⟩)]] w fun e w' => e = .returned (.bool r) ∧ Below w.heap.size w w' := by
  have HR0 := q_ hr0; have HC0 := q_ hc0; clear hr0 hc0; have HR1_0_1 := q_ hr1_0_1; have HC1_0_1 := q_ hc1_0_1; clear hr1_0_1 hc1_0_1; have BK90100 := q_ hb1_0; clear hb1_0; have HB := q_ (Below.refl w.heap.size w); have H : ((slices_IndexFunc_impl_Trans_impl_Trans_at_impl_GoodNet_1.f k l0 a1_0_0 l1_0_1).bind fun t312 => (some (decide (t312 ≥ 0)))) = some r := h; clear h; obtain ⟨t312, A3, H⟩ := bnd_ H; obtain rfl := Option.some.inj H; go_enter Try.func145, Try.ntmps145; go_wp2_with (first | (refine goesM (some 7) rfl rfl Try.func161 #[.slice A0 l0.length c0, .func (.func 146) #[] #[.pointer (some ⟨gq1_0, 0, none⟩)]] rfl ?_; (with_reducible refine (slices_IndexFunc_impl_Trans_impl_Trans_at_impl_GoodNet_1.calls k _ _ l0 gq1_0 a1_0_0 A1_0_1 c1_0_1 l1_0_1 t312 _ ?side1 ?side2 ?side3 ?side4 ?side5 A3.out).mono ?_); (case side1 => exact Kd.C_v HR0.out); (case side2 => exact HC0.out); (case side3 => exact blk_v BK90100.out); (case side4 => exact Kd.C_v HR1_0_1.out); (case side5 => exact HC1_0_1.out); rintro e w4 ⟨rfl, hb⟩; refine ⟨_, rfl, ?_⟩; replace BK90100 := q_ (bb BK90100.out hb); replace HB := q_ (below_step (by exact bv HB.out) hb); (try clear hb); (try clear hb2); (try clear hk); (try clear hi))); go_ret; exact fin_ (by exact bv HB.out)

/-! ### impl_GoodNet: function 119 -/
def impl_GoodNet.f (k : Nat) (a0_0 : Int) (l0_1 : List (S105)) : Option (Bool) := (impl_within.f a0_0 1 16).bind fun t314 => (if t314 = true then (if (l0_1.length : Int) ≤ 24 then ((slices_ContainsFunc_impl_Trans_impl_Trans_at_impl_GoodNet_1.f k l0_1 a0_0 l0_1).bind fun t315 => (some (!t315))) else (some false)) else (some false))
set_option maxHeartbeats 8000000 in
set_option maxRecDepth 100000 in
theorem impl_GoodNet.calls (k : Nat) (a0_0 : Int) (A0_1 : Option Addr) (c0_1 : Nat) (l0_1 : List (S105)) (r : Bool) (w : World) (hr0_1 : Kd.C k105 w A0_1 l0_1.length l0_1) (hc0_1 : l0_1.length ≤ c0_1) (h : impl_GoodNet.f k a0_0 l0_1 = some r) :
    Calls Try.prog 119 #[.agg #[.int .i64 a0_0, .slice A0_1 l0_1.length c0_1]] w fun e w' => e = .returned (.bool r) ∧ Below w.heap.size w w' := by
  have hu38 := Try.underlying38
  have HR0_1 := q_ hr0_1; have HC0_1 := q_ hc0_1; clear hr0_1 hc0_1; have HB := q_ (Below.refl w.heap.size w); have H : ((impl_within.f a0_0 1 16).bind fun t314 => (if t314 = true then (if (l0_1.length : Int) ≤ 24 then ((slices_ContainsFunc_impl_Trans_impl_Trans_at_impl_GoodNet_1.f k l0_1 a0_0 l0_1).bind fun t315 => (some (!t315))) else (some false)) else (some false))) = some r := h; clear h; obtain ⟨t314, A2, H⟩ := bnd_ H
  by_cases c3 : t314 = true
  ·subst c3; replace H := itt_ H
   by_cases c4 : (l0_1.length : Int) ≤ 24
   ·rw [if_pos c4] at H; have c4b0 : decide ((l0_1.length : Int) ≤ 24) = true := decide_eq_true c4; have c4b1 : decide (l0_1.length ≤ 24) = true := decide_eq_true (by omega); clear c4; obtain ⟨t315, A5, H⟩ := bnd_ H; obtain rfl := Option.some.inj H; go_enter Try.func119, Try.ntmps119; go_wp2_with (first | ((with_reducible refine gate_dst (N := 1) rfl ?_); (try (refine gate_guard (by rfl) ?_; dsimp only)); refine box_event ?hg (N := 1) ?hd (cs := #[.int .i64 a0_0, .slice A0_1 l0_1.length c0_1]) (t := 38) ?hr ?_; (case hd => rfl); (case hg => rfl); (case hr => first | (go_simp; done) | (go_simp; rfl)); intro gb313 hg w6 hbox hb; have BK313 := q_ (hbox); have GW313 := q_ (gw_ hg HB.out); have GE313 := q_ (gw_ hg HB.out); replace HB := q_ (bs HB.out hb); clear hb hbox hg; obtain ⟨hcz7_0, hcz7_1, hfz7_0, hfz7_1⟩ := cz2 BK313.out) | (refine goesM (some 5) rfl rfl Try.func45 #[.int .i64 a0_0, .int .i64 1, .int .i64 16] rfl ?_; (with_reducible refine (impl_within.calls a0_0 1 16 true _ A2.out).mono ?_); rintro e w' ⟨rfl, ⟨nd, rfl⟩⟩; refine ⟨_, rfl, ?_⟩) | (go_at_call 145; (with_reducible refine (slices_ContainsFunc_impl_Trans_impl_Trans_at_impl_GoodNet_1.calls k _ _ l0_1 gb313 a0_0 A0_1 c0_1 l0_1 t315 _ ?side1 ?side2 ?side3 ?side4 ?side5 A5.out).mono ?_); (case side1 => exact (Kd.C_below HR0_1.out (by exact bv HB.out))); (case side2 => exact HC0_1.out); (case side3 => exact blk_v BK313.out); (case side4 => exact (Kd.C_below HR0_1.out (by exact bv HB.out))); (case side5 => exact HC0_1.out); rintro e w8 ⟨rfl, hb⟩; replace BK313 := q_ (bb BK313.out hb); replace HB := q_ (below_step (by exact bv HB.out) hb); (try clear hb); (try clear hb2); (try clear hk); (try clear hi))); go_ret; exact fin_ (by exact bv HB.out)
   ·rw [if_neg c4] at H; have c4b0 : decide ((l0_1.length : Int) ≤ 24) = false := decide_eq_false c4; have c4b1 : decide (l0_1.length ≤ 24) = false := decide_eq_false (by omega); clear c4; obtain rfl := Option.some.inj H; go_enter Try.func119, Try.ntmps119; go_wp2_with (first | ((with_reducible refine gate_dst (N := 1) rfl ?_); (try (refine gate_guard (by rfl) ?_; dsimp only)); refine box_event ?hg (N := 1) ?hd (cs := #[.int .i64 a0_0, .slice A0_1 l0_1.length c0_1]) (t := 38) ?hr ?_; (case hd => rfl); (case hg => rfl); (case hr => first | (go_simp; done) | (go_simp; rfl)); intro gb313 hg w9 hbox hb; have BK313 := q_ (hbox); have GW313 := q_ (gw_ hg HB.out); have GE313 := q_ (gw_ hg HB.out); replace HB := q_ (bs HB.out hb); clear hb hbox hg; obtain ⟨hcz10_0, hcz10_1, hfz10_0, hfz10_1⟩ := cz2 BK313.out) | (refine goesM (some 5) rfl rfl Try.func45 #[.int .i64 a0_0, .int .i64 1, .int .i64 16] rfl ?_; (with_reducible refine (impl_within.calls a0_0 1 16 true _ A2.out).mono ?_); rintro e w' ⟨rfl, ⟨nd, rfl⟩⟩; refine ⟨_, rfl, ?_⟩)); go_ret; exact fin_ (by exact bv HB.out)
  ·replace c3 := Bool.eq_false_iff.mpr c3; subst c3; replace H := iff_ H; obtain rfl := Option.some.inj H; go_enter Try.func119, Try.ntmps119; go_wp2_with (first | ((with_reducible refine gate_dst (N := 1) rfl ?_); (try (refine gate_guard (by rfl) ?_; dsimp only)); refine box_event ?hg (N := 1) ?hd (cs := #[.int .i64 a0_0, .slice A0_1 l0_1.length c0_1]) (t := 38) ?hr ?_; (case hd => rfl); (case hg => rfl); (case hr => first | (go_simp; done) | (go_simp; rfl)); intro gb313 hg w11 hbox hb; have BK313 := q_ (hbox); have GW313 := q_ (gw_ hg HB.out); have GE313 := q_ (gw_ hg HB.out); replace HB := q_ (bs HB.out hb); clear hb hbox hg; obtain ⟨hcz12_0, hcz12_1, hfz12_0, hfz12_1⟩ := cz2 BK313.out) | (refine goesM (some 5) rfl rfl Try.func45 #[.int .i64 a0_0, .int .i64 1, .int .i64 16] rfl ?_; (with_reducible refine (impl_within.calls a0_0 1 16 false _ A2.out).mono ?_); rintro e w' ⟨rfl, ⟨nd, rfl⟩⟩; refine ⟨_, rfl, ?_⟩)); go_ret; exact fin_ (by exact bv HB.out)

/-! ### impl_isMarked: function 85 -/
def impl_isMarked.f (k : Nat) (a0_0 : Int) (l0_1 : List (S105)) (l1 : List Int) : Option (Bool) := (impl_GoodNet.f k a0_0 l0_1).bind fun t317 => (if t317 = true then ((impl_GoodMark.f k a0_0 l1).bind fun t318 => (some t318)) else (some false))
set_option maxHeartbeats 8000000 in
set_option maxRecDepth 100000 in
theorem impl_isMarked.calls (k : Nat) (a0_0 : Int) (A0_1 : Option Addr) (c0_1 : Nat) (l0_1 : List (S105)) (A1 : Option Addr) (c1 : Nat) (l1 : List Int) (r : Bool) (w : World) (hr0_1 : Kd.C k105 w A0_1 l0_1.length l0_1) (hc0_1 : l0_1.length ≤ c0_1) (hr1 : Kd.C (Kd.int .i64) w A1 l1.length l1) (hc1 : l1.length ≤ c1) (h : impl_isMarked.f k a0_0 l0_1 l1 = some r) :
    Calls Try.prog 85 #[.agg #[.int .i64 a0_0, .slice A0_1 l0_1.length c0_1], .slice A1 l1.length c1] w fun e w' => e = .returned (.bool r) ∧ Below w.heap.size w w' := by
  have hu38 := Try.underlying38
  have HR0_1 := q_ hr0_1; have HC0_1 := q_ hc0_1; clear hr0_1 hc0_1; have HR1 := q_ hr1; have HC1 := q_ hc1; clear hr1 hc1; have HB := q_ (Below.refl w.heap.size w); have H : ((impl_GoodNet.f k a0_0 l0_1).bind fun t317 => (if t317 = true then ((impl_GoodMark.f k a0_0 l1).bind fun t318 => (some t318)) else (some false))) = some r := h; clear h; obtain ⟨t317, A3, H⟩ := bnd_ H
  by_cases c4 : t317 = true
  ·subst c4; replace H := itt_ H; obtain ⟨t318, A5, H⟩ := bnd_ H; obtain rfl := Option.some.inj H; go_enter Try.func85, Try.ntmps85; go_wp2_with (first | (refine boxE 2 #[.int .i64 a0_0, .slice A0_1 l0_1.length c0_1] 38 ?_; intro gb316 hg w6 hbox hb; have BK316 := q_ (hbox); have GW316 := q_ (gw_ hg HB.out); have GE316 := q_ (gw_ hg HB.out); replace HB := q_ (bs HB.out hb); clear hb hbox hg; obtain ⟨hcz7_0, hcz7_1, hfz7_0, hfz7_1⟩ := cz2 BK316.out) | (refine goesM (some 6) rfl rfl Try.func119 #[.agg #[.int .i64 a0_0, .slice A0_1 l0_1.length c0_1]] rfl ?_; (with_reducible refine (impl_GoodNet.calls k a0_0 _ _ l0_1 true _ ?side1 ?side2 A3.out).mono ?_); (case side1 => exact Kd.C_v ((Kd.C_below HR0_1.out HB.out))); (case side2 => exact HC0_1.out); rintro e w8 ⟨rfl, hb⟩; refine ⟨_, rfl, ?_⟩; replace BK316 := q_ (bb BK316.out hb); replace HB := q_ (below_step (by exact bv HB.out) hb); (try clear hb); (try clear hb2); (try clear hk); (try clear hi); obtain ⟨hcz9_0, hcz9_1, hfz9_0, hfz9_1⟩ := cz2 BK316.out) | (go_at_call 52; (with_reducible refine (impl_GoodMark.calls k a0_0 _ _ l1 t318 _ ?side1 ?side2 A5.out).mono ?_); (case side1 => exact Kd.C_v ((Kd.C_below HR1.out HB.out))); (case side2 => exact HC1.out); rintro e w' ⟨rfl, ⟨nd, rfl⟩⟩)); go_ret; exact fin_ (by exact bv HB.out)
  ·replace c4 := Bool.eq_false_iff.mpr c4; subst c4; replace H := iff_ H; obtain rfl := Option.some.inj H; go_enter Try.func85, Try.ntmps85; go_wp2_with (first | (refine boxE 2 #[.int .i64 a0_0, .slice A0_1 l0_1.length c0_1] 38 ?_; intro gb316 hg w10 hbox hb; have BK316 := q_ (hbox); have GW316 := q_ (gw_ hg HB.out); have GE316 := q_ (gw_ hg HB.out); replace HB := q_ (bs HB.out hb); clear hb hbox hg; obtain ⟨hcz11_0, hcz11_1, hfz11_0, hfz11_1⟩ := cz2 BK316.out) | (refine goesM (some 6) rfl rfl Try.func119 #[.agg #[.int .i64 a0_0, .slice A0_1 l0_1.length c0_1]] rfl ?_; (with_reducible refine (impl_GoodNet.calls k a0_0 _ _ l0_1 false _ ?side1 ?side2 A3.out).mono ?_); (case side1 => exact Kd.C_v ((Kd.C_below HR0_1.out HB.out))); (case side2 => exact HC0_1.out); rintro e w12 ⟨rfl, hb⟩; refine ⟨_, rfl, ?_⟩; replace BK316 := q_ (bb BK316.out hb); replace HB := q_ (below_step (by exact bv HB.out) hb); (try clear hb); (try clear hb2); (try clear hk); (try clear hi))); go_ret; exact fin_ (by exact bv HB.out)

/-! ### slices_Index_int_int: function 148 -/
def slices_Index_int_int.l0 : Nat → List Int → Int → Int → Int → Option (Int)
  | 0, _, _, _, _ => none
  | k + 1, x0, x1, x7, x8 => if x8 < x7 then (if 0 ≤ x8 then (if x8 < (x0.length : Int) then (if x1 = (rd x0 x8) then (some x8) else (slices_Index_int_int.l0 k x0 x1 x7 (wrap64 (x8 + 1)))) else (none)) else (none)) else (some (-1))
def slices_Index_int_int.f (k : Nat) (l0 : List Int) (a1 : Int) : Option (Int) := slices_Index_int_int.l0 k l0 a1 (l0.length : Int) 0
set_option maxHeartbeats 8000000 in
set_option maxRecDepth 100000 in
theorem slices_Index_int_int.calls (k : Nat) (A0 : Option Addr) (c0 : Nat) (l0 : List Int) (a1 : Int) (r : Int) (w : World) (hr0 : Kd.C (Kd.int .i64) w A0 l0.length l0) (hc0 : l0.length ≤ c0) (h : slices_Index_int_int.f k l0 a1 = some r) :
    Calls Try.prog 148 #[.slice A0 l0.length c0, .int .i64 a1] w fun e w' => e = .returned (.int .i64 r) ∧ Drawn0 w w' := by
  have HR0 := q_ hr0; have HC0 := q_ hc0; clear hr0 hc0; have H : (slices_Index_int_int.l0 k l0 a1 (l0.length : Int) 0) = some r := h; clear h; have H' := q_ H; clear H; go_enter Try.func148, Try.ntmps148; go_wp2; go_loopg [8] k (fun kq v8 w' => ∃ (x8_1 : Int), v8 = .int .i64 x8_1 ∧ Aside0 (slices_Index_int_int.l0 kq l0 a1 (l0.length : Int) x8_1 = some r) ∧ Aside0 (kq ≤ k) ∧ Drawn0 w w')
  case atStart => exact ⟨(0), eqv, H', ⟨Nat.le_refl _⟩, by repeat (first | exact Drawn0.refl _ | apply Drawn0.step)⟩
  case round =>
   clear H'; obtain ⟨x8_1, rfl, HA, HK1, ⟨m1, rfl⟩⟩ := hrel
   cases gk with
   | zero => exact absurd HA.out (by simp [slices_Index_int_int.l0])
   | succ k1 =>
    have H := HA.out; clear HA; simp only [slices_Index_int_int.l0] at H
    by_cases c3 : x8_1 < (l0.length : Int)
    ·rw [if_pos c3] at H; have c3b0 : decide (x8_1 < (l0.length : Int)) = true := decide_eq_true c3; clear c3
     obtain ⟨c4, H⟩ := ifp_ H; have c4b0 : decide (0 ≤ x8_1) = true := decide_eq_true c4; clear c4
     obtain ⟨c5, H⟩ := ifp_ H; have c5b0 : decide (x8_1 < (l0.length : Int)) = true := decide_eq_true c5; clear c5
     by_cases c6 : a1 = (rd l0 x8_1)
     ·rw [if_pos c6] at H; have c6b0 : (a1 == (rd l0 x8_1)) = true := beq_iff_eq.mpr c6; have c6b1 : (a1 != (rd l0 x8_1)) = false := bne_eq_false_iff_eq.mpr c6; clear c6; obtain rfl := Option.some.inj H; have p319 : 0 ≤ (x8_1 : Int) := od; have q319 : x8_1 < (l0.length : Int) := od; obtain ⟨ad319, e319, hx319_0⟩ := Kd.at_int HR0.out x8_1 p319 q319
      cases e319
      replace p319 := eq_true p319; replace q319 := eq_true q319; go_wp2; go_ret; exact ⟨by first | rfl | (simp; done) | (simp [*]; done), by repeat (first | exact Drawn0.refl _ | apply Drawn0.step)⟩
     ·rw [if_neg c6] at H; have c6b0 : (a1 == (rd l0 x8_1)) = false := beq_eq_false_iff_ne.mpr c6; have c6b1 : (a1 != (rd l0 x8_1)) = true := bne_iff_ne.mpr c6; have H' := q_ H; clear H; have p319 : 0 ≤ (x8_1 : Int) := od; have q319 : x8_1 < (l0.length : Int) := od; obtain ⟨ad319, e319, hx319_0⟩ := Kd.at_int HR0.out x8_1 p319 q319
      cases e319
      replace p319 := eq_true p319; replace q319 := eq_true q319; go_wp2; go_roundg k1
      case measure => have := HK1.out; omega
      case rel => exact ⟨(wrap64 (x8_1 + 1)), eqv, H', ⟨by have := HK1.out; omega⟩, by repeat (first | exact Drawn0.refl _ | apply Drawn0.step)⟩
    ·rw [if_neg c3] at H; have c3b0 : decide (x8_1 < (l0.length : Int)) = false := decide_eq_false c3; clear c3; obtain rfl := Option.some.inj H; go_wp2; go_ret; exact ⟨by first | rfl | (simp; done) | (simp [*]; done), by repeat (first | exact Drawn0.refl _ | apply Drawn0.step)⟩

/-! ### slices_Contains_int_int: function 120 -/
def slices_Contains_int_int.f (k : Nat) (l0 : List Int) (a1 : Int) : Option (Bool) := (slices_Index_int_int.f k l0 a1).bind fun t320 => (some (decide (t320 ≥ 0)))
set_option maxHeartbeats 8000000 in
set_option maxRecDepth 100000 in
theorem slices_Contains_int_int.calls (k : Nat) (A0 : Option Addr) (c0 : Nat) (l0 : List Int) (a1 : Int) (r : Bool) (w : World) (hr0 : Kd.C (Kd.int .i64) w A0 l0.length l0) (hc0 : l0.length ≤ c0) (h : slices_Contains_int_int.f k l0 a1 = some r) :
    Calls Try.prog 120 #[.slice A0 l0.length c0, .int .i64 a1] w fun e w' => e = .returned (.bool r) ∧ Drawn0 w w' := by
  have HR0 := q_ hr0; have HC0 := q_ hc0; clear hr0 hc0; have H : ((slices_Index_int_int.f k l0 a1).bind fun t320 => (some (decide (t320 ≥ 0)))) = some r := h; clear h; obtain ⟨t320, A3, H⟩ := bnd_ H; obtain rfl := Option.some.inj H; go_enter Try.func120, Try.ntmps120; go_wp2_with (first | (refine goesM (some 7) rfl rfl Try.func148 #[.slice A0 l0.length c0, .int .i64 a1] rfl ?_; (with_reducible refine (slices_Index_int_int.calls k _ _ l0 a1 t320 _ ?side1 ?side2 A3.out).mono ?_); (case side1 => exact Kd.C_v HR0.out); (case side2 => exact HC0.out); rintro e w' ⟨rfl, ⟨nd, rfl⟩⟩; refine ⟨_, rfl, ?_⟩)); go_ret; exact ⟨by first | rfl | (simp; done) | (simp [*]; done), by repeat (first | exact Drawn0.refl _ | apply Drawn0.step)⟩

/-! ### impl_stepBack: function 86 -/
mutual
def impl_stepBack.l0 : Nat → List Int → List Int → Int → Int → List Int → List Int → List Int → Option (List Int × Bool)
  | 0, _, _, _, _, _, _, _ => none
  | k + 1, x6, x12, x13, x14, x322000, x322001, x322002 => if x14 < x13 then (if 0 ≤ x14 then (if x14 < (x12.length : Int) then ((slices_Contains_int_int.f k x322001 x14).bind fun t326 => (if t326 = true then (impl_stepBack.j1 k x6 x14 (wrap64 ((rd x12 x14) - 1)) x12 x13 x14 x322000 x322001 x322002) else (impl_stepBack.j1 k x6 x14 (rd x12 x14) x12 x13 x14 x322000 x322001 x322002))) else (none)) else (none)) else (some (x6, true))
def impl_stepBack.j1 : Nat → List Int → Int → Int → List Int → Int → Int → List Int → List Int → List Int → Option (List Int × Bool)
  | 0, _, _, _, _, _, _, _, _, _ => none
  | k + 1, x6, x7, x8, x12, x13, x14, x322000, x322001, x322002 => (slices_Contains_int_int.f k x322002 x7).bind fun t327 => (if t327 = true then (impl_stepBack.j2 k x6 x7 x8 x12 x13 x14 (decide (x8 > 0)) x322000 x322001 x322002) else (impl_stepBack.j2 k x6 x7 x8 x12 x13 x14 false x322000 x322001 x322002))
def impl_stepBack.j2 : Nat → List Int → Int → Int → List Int → Int → Int → Bool → List Int → List Int → List Int → Option (List Int × Bool)
  | 0, _, _, _, _, _, _, _, _, _, _ => none
  | k + 1, x6, x7, x8, x12, x13, x14, x32, x322000, x322001, x322002 => if x32 = true then (some (([] : List Int), false)) else (if 0 ≤ x7 then (if x7 < (x6.length : Int) then ((some (x6.set (x7 : Int).toNat (mx 0 x8) : List Int)).bind fun y328 => ((slices_Contains_int_int.f k x322000 x7).bind fun t329 => (if t329 = true then (impl_stepBack.l0 k (y328.set (x7 : Int).toNat (wrap64 ((rd y328 x7) + 1))) x12 x13 (wrap64 (x14 + 1)) x322000 x322001 x322002) else (impl_stepBack.l0 k y328 x12 x13 (wrap64 (x14 + 1)) x322000 x322001 x322002)))) else (none)) else (none))
end
def impl_stepBack.f (k : Nat) (l0_0 : List Int) (l0_1 : List Int) (l0_2 : List Int) (l1 : List Int) : Option (List Int × Bool) := if 0 ≤ (l1.length : Int) then (if ((l1.length : Int) : Int).toNat ≤ 35184372088832 then (impl_stepBack.l0 k (List.replicate ((l1.length : Int) : Int).toNat 0) l1 (l1.length : Int) 0 l0_0 l0_1 l0_2) else (none)) else (none)
set_option maxHeartbeats 8000000 in
set_option maxRecDepth 100000 in
theorem impl_stepBack.calls (k : Nat) (A0_0 : Option Addr) (c0_0 : Nat) (l0_0 : List Int) (A0_1 : Option Addr) (c0_1 : Nat) (l0_1 : List Int) (A0_2 : Option Addr) (c0_2 : Nat) (l0_2 : List Int) (A1 : Option Addr) (c1 : Nat) (l1 : List Int) (r1 : List Int) (r2 : Bool) (w : World) (hr0_0 : Kd.C (Kd.int .i64) w A0_0 l0_0.length l0_0) (hc0_0 : l0_0.length ≤ c0_0) (hr0_1 : Kd.C (Kd.int .i64) w A0_1 l0_1.length l0_1) (hc0_1 : l0_1.length ≤ c0_1) (hr0_2 : Kd.C (Kd.int .i64) w A0_2 l0_2.length l0_2) (hc0_2 : l0_2.length ≤ c0_2) (hr1 : Kd.C (Kd.int .i64) w A1 l1.length l1) (hc1 : l1.length ≤ c1) (h : impl_stepBack.f k l0_0 l0_1 l0_2 l1 = some (r1, r2)) :
    Calls Try.prog 86 #[.agg #[.slice A0_0 l0_0.length c0_0, .slice A0_1 l0_1.length c0_1, .slice A0_2 l0_2.length c0_2], .slice A1 l1.length c1] w fun e w' => ∃ v0_ : Value, e = .returned (.tuple #[v0_, .bool r2]) ∧ Kd.R (Kd.int .i64) 3 w' w.heap.size (fun _ => True) v0_ r1 ∧ Below w.heap.size w w' := by
  have hu105 := Try.underlying105
  have HR0_0 := q_ hr0_0; have HC0_0 := q_ hc0_0; clear hr0_0 hc0_0; have HR0_1 := q_ hr0_1; have HC0_1 := q_ hc0_1; clear hr0_1 hc0_1; have HR0_2 := q_ hr0_2; have HC0_2 := q_ hc0_2; clear hr0_2 hc0_2; have HR1 := q_ hr1; have HC1 := q_ hc1; clear hr1 hc1; have HB := q_ (Below.refl w.heap.size w); have H : (if 0 ≤ (l1.length : Int) then (if ((l1.length : Int) : Int).toNat ≤ 35184372088832 then (impl_stepBack.l0 k (List.replicate ((l1.length : Int) : Int).toNat 0) l1 (l1.length : Int) 0 l0_0 l0_1 l0_2) else (none)) else (none)) = some (r1, r2) := h; clear h
  obtain ⟨c3, H⟩ := ifp_ H; have c3b0 := eq_true c3; have c3b1 : decide (0 ≤ (l1.length : Int)) = true := decide_eq_true c3; clear c3
  obtain ⟨c4, H⟩ := ifp_ H; have c4b0 := eq_true c4; have c4b1 : decide (((l1.length : Int) : Int).toNat ≤ 35184372088832) = true := decide_eq_true c4; clear c4; obtain ⟨y322, hy322⟩ : ∃ y_ : List Int, y_ = (List.replicate ((l1.length : Int) : Int).toNat 0) := ⟨_, rfl⟩; (replace H : (impl_stepBack.l0 k y322 l1 (l1.length : Int) 0 l0_0 l0_1 l0_2) = some (r1, r2) := by first | (rw [hy322]; with_reducible exact H) | (have H2_ := (Option.bind_some _ _).symm.trans H; rw [hy322]; with_reducible exact H2_) | (have H2_ := (Option.bind_some _ _).symm.trans H; with_reducible exact H2_) | with_reducible exact H | (rw [hy322]; exact H) | exact H); have Ny322 := q_ hy322; clear hy322; have H' := q_ H; clear H; go_enter Try.func86, Try.ntmps86; go_wp2_with (first | (refine boxE 2 #[.slice A0_0 l0_0.length c0_0, .slice A0_1 l0_1.length c0_1, .slice A0_2 l0_2.length c0_2] 105 ?_; intro gb321 hg w5 hbox hb; have BK321 := q_ (hbox); have GW321 := q_ (gw_ hg HB.out); have GE321 := q_ (gw_ hg HB.out); replace HB := q_ (bs HB.out hb); clear hb hbox hg) | ((with_reducible refine gate_dst (N := 11) rfl ?_); refine Kd.R_make (Kd.int .i64) _ 3 rfl (N := 11) rfl 32 _ _ rfl (l1.length : Int) rfl rfl Try.underlying32 (.int .i64 0) 8 info3 rfl (by decide) (by omega) 0 (ok := fun _ => True) (okp := fun _ => True) rfl (fun _ hk => hk) trivial (od) (Nat.le_trans (Nat.mul_le_mul_right _ (od : (l1.length : Int).toNat ≤ 35184372088832)) (by omega)) (Below.refl _ _) (Nat.le_refl _) ?_; intro v323 w6 ho7 hb hg_ hnew_; clear hg_ hnew_; (first | rw [← Ny322.out] at ho7 | (simp only [Int.reduceToNat] at ho7; rw [← Ny322.out] at ho7)); have HO324 := q_ (Kd.R_lower ho7 (below_size (by exact bv HB.out))); replace BK321 := q_ (bb BK321.out hb); replace HB := q_ (below_step (by exact bv HB.out) hb); clear hb ho7)); go_loopg [14] k (fun kq v14 w' => ∃ (x6_1 : List Int) (x14_1 : Int), v14 = .int .i64 x14_1 ∧ Aside0 (impl_stepBack.l0 kq x6_1 l1 (l1.length : Int) x14_1 l0_0 l0_1 l0_2 = some (r1, r2)) ∧ Aside0 (kq ≤ k) ∧ Aside0 (Kd.R (Kd.int .i64) 3 w' w.heap.size (fun _ => True) v323 x6_1) ∧ Aside0 (w'.heap[gb321]? = some (.cells #[(.slice A0_0 l0_0.length c0_0), (.slice A0_1 l0_1.length c0_1), (.slice A0_2 l0_2.length c0_2)] 105 (0, 0))) ∧ Aside0 (Below w.heap.size w w'))
  case atStart => exact ⟨(y322), (0), eqv, H', ⟨Nat.le_refl _⟩, ⟨by exact Kd.R_v HO324.out⟩, ⟨by exact blk_v BK321.out⟩, ⟨by exact bv HB.out⟩⟩
  case round =>
   clear H'; (try clear c3b0); (try clear c3b1); (try clear c4b0); (try clear c4b1); obtain ⟨x6_1, x14_1, rfl, HA, HK1, HO_6, BK321, HB⟩ := hrel
   cases gk with
   | zero => exact absurd HA.out (by simp [impl_stepBack.l0])
   | succ k1 =>
    have H := HA.out; clear HA; simp only [impl_stepBack.l0] at H
    by_cases c8 : x14_1 < (l1.length : Int)
    ·rw [if_pos c8] at H; have c8b0 : decide (x14_1 < (l1.length : Int)) = true := decide_eq_true c8; clear c8
     obtain ⟨c9, H⟩ := ifp_ H; have c9b0 : decide (0 ≤ x14_1) = true := decide_eq_true c9; clear c9
     obtain ⟨c10, H⟩ := ifp_ H; have c10b0 : decide (x14_1 < (l1.length : Int)) = true := decide_eq_true c10; clear c10; obtain ⟨t326, A11, H⟩ := bnd_ H; have HC12 := q_ H; clear H; have p325 : 0 ≤ (x14_1 : Int) := od; have q325 : x14_1 < (l1.length : Int) := od; obtain ⟨ad325, e325, hx325_0⟩ := Kd.at_int HR1.out x14_1 p325 q325
     cases e325
     replace hx325_0 := cb_ HB.out hx325_0; replace p325 := eq_true p325; replace q325 := eq_true q325; obtain ⟨hcz13_0, hcz13_1, hcz13_2, hfz13_0, hfz13_1, hfz13_2⟩ := cz3 BK321.out
     go_upto_if 22 with (first | (refine goesM (some 22) rfl rfl Try.func120 #[.slice A0_1 l0_1.length c0_1, .int .i64 x14_1] rfl ?_; (with_reducible refine (slices_Contains_int_int.calls k1 _ _ l0_1 x14_1 t326 _ ?side1 ?side2 A11.out).mono ?_); (case side1 => exact Kd.C_v ((Kd.C_below HR0_1.out HB.out))); (case side2 => exact HC0_1.out); rintro e w' ⟨rfl, ⟨nd, rfl⟩⟩; refine ⟨_, rfl, ?_⟩))
     (try simp only [Act.put, List.setIfInBounds_toArray, List.set_cons_zero, List.set_cons_succ]); go_cut [8] (fun v8 wc => ∃ (kq : Nat) (x8_11 : Int), v8 = .int .i64 x8_11 ∧ Aside0 (impl_stepBack.j1 kq x6_1 x14_1 x8_11 l1 (l1.length : Int) x14_1 l0_0 l0_1 l0_2 = some (r1, r2)) ∧ Aside0 (kq ≤ k1) ∧ Aside0 (Kd.R (Kd.int .i64) 3 wc w.heap.size (fun _ => True) v323 x6_1) ∧ Aside0 (wc.heap[gb321]? = some (.cells #[(.slice A0_0 l0_0.length c0_0), (.slice A0_1 l0_1.length c0_1), (.slice A0_2 l0_2.length c0_2)] 105 (0, 0))) ∧ Aside0 (Below w.heap.size w wc))
     case first =>
      have H := HC12.out; clear HC12
      by_cases c14 : t326 = true
      ·subst c14; replace H := itt_ H; have H' := q_ H; clear H; go_wp2; go_meet
       case rel => exact ⟨_, (wrap64 ((rd l1 x14_1) - 1)), eqv, H', ⟨by have := HK1.out; first | omega | exact Nat.le_refl _⟩, ⟨by exact Kd.R_v HO_6.out⟩, ⟨by exact blk_v BK321.out⟩, ⟨by exact bv HB.out⟩⟩
      ·replace c14 := Bool.eq_false_iff.mpr c14; subst c14; replace H := iff_ H; have H' := q_ H; clear H; go_wp2; go_meet
       case rel => exact ⟨_, (rd l1 x14_1), eqv, H', ⟨by have := HK1.out; first | omega | exact Nat.le_refl _⟩, ⟨by exact Kd.R_v HO_6.out⟩, ⟨by exact blk_v BK321.out⟩, ⟨by exact bv HB.out⟩⟩
     case rest =>
      clear HC12; (try clear c8b0); (try clear c9b0); (try clear c10b0); (try clear hcz13_0 hcz13_1 hcz13_2); (try clear hfz13_0 hfz13_1 hfz13_2); (try clear hx325_0); (try clear p325); (try clear q325); obtain ⟨kq, x8_11, rfl, HA, HJ11, HO_6, BK321, HB⟩ := hcut
      cases kq with
      | zero => exact absurd HA.out (by simp [impl_stepBack.j1])
      | succ kj11 =>
       have H := HA.out; clear HA; simp only [impl_stepBack.j1] at H; have HC15 := q_ H; clear H
       go_upto_region 7 with (fail)
       go_cut [32] (fun v32 wc => ∃ (kq : Nat) (x32_14 : Bool), v32 = .bool x32_14 ∧ Aside0 (impl_stepBack.j2 kq x6_1 x14_1 x8_11 l1 (l1.length : Int) x14_1 x32_14 l0_0 l0_1 l0_2 = some (r1, r2)) ∧ Aside0 (kq ≤ kj11) ∧ Aside0 (Kd.R (Kd.int .i64) 3 wc w.heap.size (fun _ => True) v323 x6_1) ∧ Aside0 (wc.heap[gb321]? = some (.cells #[(.slice A0_0 l0_0.length c0_0), (.slice A0_1 l0_1.length c0_1), (.slice A0_2 l0_2.length c0_2)] 105 (0, 0))) ∧ Aside0 (Below w.heap.size w wc))
       case first =>
        have H := HC15.out; clear HC15; obtain ⟨t327, A16, H⟩ := bnd_ H
        by_cases c17 : t327 = true
        ·subst c17; replace H := itt_ H; have H' := q_ H; clear H; obtain ⟨hcz18_0, hcz18_1, hcz18_2, hfz18_0, hfz18_1, hfz18_2⟩ := cz3 BK321.out; go_wp2_with (first | (refine goesM (some 28) rfl rfl Try.func120 #[.slice A0_2 l0_2.length c0_2, .int .i64 x14_1] rfl ?_; (with_reducible refine (slices_Contains_int_int.calls kj11 _ _ l0_2 x14_1 true _ ?side1 ?side2 A16.out).mono ?_); (case side1 => exact Kd.C_v ((Kd.C_below HR0_2.out HB.out))); (case side2 => exact HC0_2.out); rintro e w' ⟨rfl, ⟨nd, rfl⟩⟩; refine ⟨_, rfl, ?_⟩)); go_meet
         case rel => exact ⟨_, (decide (x8_11 > 0)), eqv, H', ⟨by have := HK1.out; have := HJ11.out; first | omega | exact Nat.le_refl _⟩, ⟨by exact Kd.R_v HO_6.out⟩, ⟨by exact blk_v BK321.out⟩, ⟨by exact bv HB.out⟩⟩
        ·replace c17 := Bool.eq_false_iff.mpr c17; subst c17; replace H := iff_ H; have H' := q_ H; clear H; obtain ⟨hcz19_0, hcz19_1, hcz19_2, hfz19_0, hfz19_1, hfz19_2⟩ := cz3 BK321.out; go_wp2_with (first | (refine goesM (some 28) rfl rfl Try.func120 #[.slice A0_2 l0_2.length c0_2, .int .i64 x14_1] rfl ?_; (with_reducible refine (slices_Contains_int_int.calls kj11 _ _ l0_2 x14_1 false _ ?side1 ?side2 A16.out).mono ?_); (case side1 => exact Kd.C_v ((Kd.C_below HR0_2.out HB.out))); (case side2 => exact HC0_2.out); rintro e w' ⟨rfl, ⟨nd, rfl⟩⟩; refine ⟨_, rfl, ?_⟩)); go_meet
         case rel => exact ⟨_, (false), eqv, H', ⟨by have := HK1.out; have := HJ11.out; first | omega | exact Nat.le_refl _⟩, ⟨by exact Kd.R_v HO_6.out⟩, ⟨by exact blk_v BK321.out⟩, ⟨by exact bv HB.out⟩⟩
       case rest =>
        clear HC15; obtain ⟨kq, x32_14, rfl, HA, HJ14, HO_6, BK321, HB⟩ := hcut
        cases kq with
        | zero => exact absurd HA.out (by simp [impl_stepBack.j2])
        | succ kj14 =>
         have H := HA.out; clear HA; simp only [impl_stepBack.j2] at H
         by_cases c20 : x32_14 = true
         ·subst c20; replace H := itt_ H; simp only [Option.some.injEq, Prod.mk.injEq] at H; obtain ⟨rfl, rfl⟩ := H; go_wp2
          go_ret2
          exact ⟨_, by first | rfl | (simp [errW_none, errW_some] <;> rfl) | (simp [*, errW_none, errW_some] <;> rfl), by first | exact Kd.R_nil _ _ _ _ _ | exact Kd.N_nil _ _ _ _ _ | exact Kd.V_nil _ _ _ _ _ | exact Kd.Q_nil _ _ _ _ _ | exact Kd.S_nil _ _ _ _ _, by exact bv HB.out⟩
         ·replace c20 := Bool.eq_false_iff.mpr c20; subst c20; replace H := iff_ H; obtain ⟨ji21, hji21⟩ : ∃ j_ : Int, (mx 0 x8_11) = j_ := ⟨_, rfl⟩; (replace H : (if 0 ≤ x14_1 then (if x14_1 < (x6_1.length : Int) then ((some (x6_1.set (x14_1 : Int).toNat (ji21) : List Int)).bind fun y328 => ((slices_Contains_int_int.f kj14 l0_0 x14_1).bind fun t329 => (if t329 = true then (impl_stepBack.l0 kj14 (y328.set (x14_1 : Int).toNat (wrap64 ((rd y328 x14_1) + 1))) l1 (l1.length : Int) (wrap64 (x14_1 + 1)) l0_0 l0_1 l0_2) else (impl_stepBack.l0 kj14 y328 l1 (l1.length : Int) (wrap64 (x14_1 + 1)) l0_0 l0_1 l0_2)))) else (none)) else (none)) = some (r1, r2) := by first | (rw [hji21] at H; exact H) | (simp only [hji21] at H ⊢; exact H)); have hji21_ : (if 0 < x8_11 then x8_11 else 0) = ji21 := hji21
          obtain ⟨c22, H⟩ := ifp_ H; have c22b0 : decide (0 ≤ x14_1) = true := decide_eq_true c22; clear c22
          obtain ⟨c23, H⟩ := ifp_ H; have c23b0 : decide (x14_1 < (x6_1.length : Int)) = true := decide_eq_true c23; clear c23; obtain ⟨y328, hy328⟩ : ∃ y_ : List Int, y_ = (x6_1.set (x14_1 : Int).toNat (ji21)) := ⟨_, rfl⟩; (replace H : ((slices_Contains_int_int.f kj14 l0_0 x14_1).bind fun t329 => (if t329 = true then (impl_stepBack.l0 kj14 (y328.set (x14_1 : Int).toNat (wrap64 ((rd y328 x14_1) + 1))) l1 (l1.length : Int) (wrap64 (x14_1 + 1)) l0_0 l0_1 l0_2) else (impl_stepBack.l0 kj14 y328 l1 (l1.length : Int) (wrap64 (x14_1 + 1)) l0_0 l0_1 l0_2))) = some (r1, r2) := by first | (rw [hy328]; with_reducible exact H) | (have H2_ := (Option.bind_some _ _).symm.trans H; rw [hy328]; with_reducible exact H2_) | (have H2_ := (Option.bind_some _ _).symm.trans H; with_reducible exact H2_) | with_reducible exact H | (rw [hy328]; exact H) | exact H); have Ny328 := q_ hy328; clear hy328; obtain ⟨t329, A25, H⟩ := bnd_ H
          by_cases c26 : t329 = true
          ·subst c26; replace H := itt_ H; obtain ⟨y331, hy331⟩ : ∃ y_ : List Int, y_ = (y328.set (x14_1 : Int).toNat (wrap64 ((rd y328 x14_1) + 1))) := ⟨_, rfl⟩; (replace H : (impl_stepBack.l0 kj14 y331 l1 (l1.length : Int) (wrap64 (x14_1 + 1)) l0_0 l0_1 l0_2) = some (r1, r2) := by first | (rw [hy331]; with_reducible exact H) | (have H2_ := (Option.bind_some _ _).symm.trans H; rw [hy331]; with_reducible exact H2_) | (have H2_ := (Option.bind_some _ _).symm.trans H; with_reducible exact H2_) | with_reducible exact H | (rw [hy331]; exact H) | exact H); have Ny331 := q_ hy331; clear hy331; have H' := q_ H; clear H; have p24 : 0 ≤ (x14_1 : Int) := od; have q24 : (x14_1 : Int) < ((x6_1.length : Int) : Int) := od; obtain ⟨go24, co24, eo24, gb24, gl24, cl24, HG24⟩ := Kd.R_form HO_6.out (by omega); (first | cases eo24 | (injection eo24 with ea_ en_ ec_; (first | subst ea_ | (injection ea_ with ea_; subst ea_)); subst ec_; clear en_)); have GB24 := q_ gb24; have GG24 := q_ HG24; clear gb24 gl24 HG24; obtain ⟨hx24_0, hf24_0⟩ := Kd.R_celln 0 HO_6.out (x14_1 : Int) p24 q24; replace p24 := eq_true p24; replace q24 := eq_true q24; have HP28 := Kd.R_putg HO_6.out (x14_1 : Int) ji21; go_wp2_with (first | ((with_reducible refine gate_store (t := 3) (p := 37) rfl ?_); refine store_event (t := 3) (p := 37) (v := ?vo_w29) (w1 := (wc.setCell ⟨go24, (x14_1 : Int).toNat, none⟩ (.int .i64 ji21))) ?hg ?ho ?hn ?hr ?_; (case ho => rfl); (case hg => rfl); (case hn => rfl); (case hr => first | (go_simp; done) | (go_simp; rfl)); intro w29 hw; have hg : wc.grownBy w29 (some go24) := (by rw [hw]; exact HP28.2); have hp_ : Kd.R (Kd.int .i64) 3 w29 w.heap.size (fun _ => True) (.slice (some ⟨go24, 0, none⟩) x6_1.length co24) y328 := (by rw [hw, Ny328.out]; exact HP28.1); clear HP28; have n0_ := q_ (hp_); replace BK321 := q_ (blk_grown (g := gb321) (o := .cells #[.slice A0_0 l0_0.length c0_0, .slice A0_1 l0_1.length c0_1, .slice A0_2 l0_2.length c0_2] 105 (0, 0)) (by exact blk_v BK321.out) hg (Kd.R_ne HO_6.out BK321.out (by decide))); replace HB := q_ ((by rw [hw]; exact below_set (HB.out) GB24.out : Below w.heap.size w w29)); clear HO_6; have HO_6 := n0_; clear n0_; clear hg hw hp_; obtain ⟨hcz30_0, hcz30_1, hcz30_2, hfz30_0, hfz30_1, hfz30_2⟩ := cz3 BK321.out) | (refine goesM (some 41) rfl rfl Try.func120 #[.slice A0_0 l0_0.length c0_0, .int .i64 x14_1] rfl ?_; (with_reducible refine (slices_Contains_int_int.calls kj14 _ _ l0_0 x14_1 true _ ?side1 ?side2 A25.out).mono ?_); (case side1 => exact Kd.C_v ((Kd.C_below HR0_0.out HB.out))); (case side2 => exact HC0_0.out); rintro e w' ⟨rfl, ⟨nd, rfl⟩⟩; refine ⟨_, rfl, ?_⟩; (try (rw [drewN_self w29]; generalize hq_ : World.drewN w29 _ = w29; have n0_ : Aside0 (Kd.R (Kd.int .i64) 3 w29 w.heap.size (fun _ => True) (.slice (some ⟨go24, 0, none⟩) x6_1.length co24) y328) := ⟨by rw [← hq_]; exact (by exact Kd.R_v HO_6.out)⟩; have n1_ : Aside0 (w29.heap[gb321]? = some (.cells #[.slice A0_0 l0_0.length c0_0, .slice A0_1 l0_1.length c0_1, .slice A0_2 l0_2.length c0_2] 105 (0, 0))) := ⟨by rw [← hq_]; exact (by exact blk_v BK321.out)⟩; have n2_ : Aside0 (Below w.heap.size w w29) := ⟨by rw [← hq_]; exact (by exact bv HB.out)⟩; clear HO_6 BK321 HB hq_; have HO_6 := n0_; have BK321 := n1_; have HB := n2_; clear n0_ n1_ n2_)); have p330 : 0 ≤ (x14_1 : Int) := od; have q330 : x14_1 < (y328.length : Int) := (by have h_ : (x14_1 : Int) < ((x6_1.length : Int) : Int) := od; first | (have e_ := (Kd.R_reads' HO_6.out).1; omega) | simpa only [Ny328.out, List.length_set] using h_); have ql330 : ((x14_1 : Int) < ((x6_1.length : Int) : Int)) = True := eq_true (od); obtain ⟨ad330, e330, hx330_0⟩ := Kd.at_int (Kd.R_reads' HO_6.out).2.2 x14_1 p330 q330; obtain rfl : (⟨go24, 0, none⟩ : Addr) = ad330 := (by injection e330); (first | simp only [add_plain] at hx330_0 | simp only [add_at] at hx330_0 | simp only [Addr.add, Nat.zero_add] at hx330_0 | skip); replace p330 := eq_true p330; replace q330 := eq_true q330; have p27 : 0 ≤ (x14_1 : Int) := od; have q27 : (x14_1 : Int) < ((x6_1.length : Int) : Int) := od; obtain ⟨hx27_0, hf27_0⟩ := Kd.R_celln 0 HO_6.out (x14_1 : Int) p27 q27; replace p27 := eq_true p27; replace q27 := eq_true q27; obtain ⟨hy31_, hz31_⟩ := Kd.R_celln 0 HO_6.out (x14_1 : Int) (od) (od); have HP31 := Kd.R_putg HO_6.out (x14_1 : Int) (wrap64 ((rd y328 x14_1) + 1))) | ((with_reducible refine gate_store (t := 3) (p := 47) rfl ?_); refine store_event (t := 3) (p := 47) (v := ?vo_w32) (w1 := (w29.setCell ⟨go24, (x14_1 : Int).toNat, none⟩ (.int .i64 (wrap64 ((rd y328 x14_1) + 1))))) ?hg ?ho ?hn ?hr ?_; (case ho => rfl); (case hg => rfl); (case hn => rfl); (case hr => first | (go_simp; done) | (go_simp; rfl)); intro w32 hw; have hg : w29.grownBy w32 (some go24) := (by rw [hw]; exact HP31.2); have hp_ : Kd.R (Kd.int .i64) 3 w32 w.heap.size (fun _ => True) (.slice (some ⟨go24, 0, none⟩) x6_1.length co24) y331 := (by rw [hw, Ny331.out]; exact HP31.1); clear HP31; have n0_ := q_ (hp_); replace BK321 := q_ (blk_grown (g := gb321) (o := .cells #[.slice A0_0 l0_0.length c0_0, .slice A0_1 l0_1.length c0_1, .slice A0_2 l0_2.length c0_2] 105 (0, 0)) (by exact blk_v BK321.out) hg (Kd.R_ne HO_6.out BK321.out (by decide))); replace HB := q_ ((by rw [hw]; exact below_set (HB.out) GB24.out : Below w.heap.size w w32)); clear HO_6; have HO_6 := n0_; clear n0_; clear hg hw hp_)); go_roundg kj14
           case measure => have := HK1.out; have := HJ11.out; have := HJ14.out; omega
           case rel => exact ⟨(y331), (wrap64 (x14_1 + 1)), eqv, H', ⟨by have := HK1.out; have := HJ11.out; have := HJ14.out; omega⟩, ⟨by exact Kd.R_v HO_6.out⟩, ⟨by exact blk_v BK321.out⟩, ⟨by exact bv HB.out⟩⟩
          ·replace c26 := Bool.eq_false_iff.mpr c26; subst c26; replace H := iff_ H; have H' := q_ H; clear H; have p24 : 0 ≤ (x14_1 : Int) := od; have q24 : (x14_1 : Int) < ((x6_1.length : Int) : Int) := od; obtain ⟨go24, co24, eo24, gb24, gl24, cl24, HG24⟩ := Kd.R_form HO_6.out (by omega); (first | cases eo24 | (injection eo24 with ea_ en_ ec_; (first | subst ea_ | (injection ea_ with ea_; subst ea_)); subst ec_; clear en_)); have GB24 := q_ gb24; have GG24 := q_ HG24; clear gb24 gl24 HG24; obtain ⟨hx24_0, hf24_0⟩ := Kd.R_celln 0 HO_6.out (x14_1 : Int) p24 q24; replace p24 := eq_true p24; replace q24 := eq_true q24; have HP33 := Kd.R_putg HO_6.out (x14_1 : Int) ji21; go_wp2_with (first | ((with_reducible refine gate_store (t := 3) (p := 37) rfl ?_); refine store_event (t := 3) (p := 37) (v := ?vo_w34) (w1 := (wc.setCell ⟨go24, (x14_1 : Int).toNat, none⟩ (.int .i64 ji21))) ?hg ?ho ?hn ?hr ?_; (case ho => rfl); (case hg => rfl); (case hn => rfl); (case hr => first | (go_simp; done) | (go_simp; rfl)); intro w34 hw; have hg : wc.grownBy w34 (some go24) := (by rw [hw]; exact HP33.2); have hp_ : Kd.R (Kd.int .i64) 3 w34 w.heap.size (fun _ => True) (.slice (some ⟨go24, 0, none⟩) x6_1.length co24) y328 := (by rw [hw, Ny328.out]; exact HP33.1); clear HP33; have n0_ := q_ (hp_); replace BK321 := q_ (blk_grown (g := gb321) (o := .cells #[.slice A0_0 l0_0.length c0_0, .slice A0_1 l0_1.length c0_1, .slice A0_2 l0_2.length c0_2] 105 (0, 0)) (by exact blk_v BK321.out) hg (Kd.R_ne HO_6.out BK321.out (by decide))); replace HB := q_ ((by rw [hw]; exact below_set (HB.out) GB24.out : Below w.heap.size w w34)); clear HO_6; have HO_6 := n0_; clear n0_; clear hg hw hp_; obtain ⟨hcz35_0, hcz35_1, hcz35_2, hfz35_0, hfz35_1, hfz35_2⟩ := cz3 BK321.out) | (refine goesM (some 41) rfl rfl Try.func120 #[.slice A0_0 l0_0.length c0_0, .int .i64 x14_1] rfl ?_; (with_reducible refine (slices_Contains_int_int.calls kj14 _ _ l0_0 x14_1 false _ ?side1 ?side2 A25.out).mono ?_); (case side1 => exact Kd.C_v ((Kd.C_below HR0_0.out HB.out))); (case side2 => exact HC0_0.out); rintro e w' ⟨rfl, ⟨nd, rfl⟩⟩; refine ⟨_, rfl, ?_⟩)); go_roundg kj14
           case measure => have := HK1.out; have := HJ11.out; have := HJ14.out; omega
           case rel => exact ⟨(y328), (wrap64 (x14_1 + 1)), eqv, H', ⟨by have := HK1.out; have := HJ11.out; have := HJ14.out; omega⟩, ⟨by exact Kd.R_v HO_6.out⟩, ⟨by exact blk_v BK321.out⟩, ⟨by exact bv HB.out⟩⟩
    ·rw [if_neg c8] at H; have c8b0 : decide (x14_1 < (l1.length : Int)) = false := decide_eq_false c8; clear c8; simp only [Option.some.injEq, Prod.mk.injEq] at H; obtain ⟨rfl, rfl⟩ := H; go_wp2
     go_ret2
     exact ⟨_, by first | rfl | (simp [errW_none, errW_some] <;> rfl) | (simp [*, errW_none, errW_some] <;> rfl), by exact Kd.R_v HO_6.out, by exact bv HB.out⟩

/-! ### slices_EqualFunc_int_int_int_int_at_slices_Equal_int_int: function 88 -/
def slices_EqualFunc_int_int_int_int_at_slices_Equal_int_int.l0 : Nat → List (List Int) → List (List Int) → Int → Int → Option (Bool)
  | 0, _, _, _, _ => none
  | k + 1, x1, x15, x16, x17 => if x17 < x16 then (if 0 ≤ x17 then (if x17 < (x15.length : Int) then (if x17 < (x1.length : Int) then ((slices_Equal_int_int.f k (rd_L1 x15 x17) (rd_L1 x1 x17)).bind fun t334 => (if t334 = true then (slices_EqualFunc_int_int_int_int_at_slices_Equal_int_int.l0 k x1 x15 x16 (wrap64 (x17 + 1))) else (some false))) else (none)) else (none)) else (none)) else (some true)
def slices_EqualFunc_int_int_int_int_at_slices_Equal_int_int.f (k : Nat) (l0 : List (List Int)) (l1 : List (List Int))  : Option (Bool) := if (l0.length : Int) = (l1.length : Int) then (slices_EqualFunc_int_int_int_int_at_slices_Equal_int_int.l0 k l1 l0 (l0.length : Int) 0) else (some false)
set_option maxHeartbeats 8000000 in
set_option maxRecDepth 100000 in
theorem slices_EqualFunc_int_int_int_int_at_slices_Equal_int_int.calls (k : Nat) (A0 : Option Addr) (c0 : Nat) (l0 : List (List Int)) (A1 : Option Addr) (c1 : Nat) (l1 : List (List Int))  (r : Bool) (w : World) (hr0 : Kd.C (Kd.slice 3 (Kd.int .i64)) w A0 l0.length l0) (hc0 : l0.length ≤ c0) (hr1 : Kd.C (Kd.slice 3 (Kd.int .i64)) w A1 l1.length l1) (hc1 : l1.length ≤ c1) (h : slices_EqualFunc_int_int_int_int_at_slices_Equal_int_int.f k l0 l1 = some r) :
    Calls Try.prog 88 #[.slice A0 l0.length c0, .slice A1 l1.length c1, .func (.func 81) #[] #[]] w fun e w' => e = .returned (.bool r) ∧ Drawn0 w w' := by
  have HR0 := q_ hr0; have HC0 := q_ hc0; clear hr0 hc0; have HR1 := q_ hr1; have HC1 := q_ hc1; clear hr1 hc1; have H : (if (l0.length : Int) = (l1.length : Int) then (slices_EqualFunc_int_int_int_int_at_slices_Equal_int_int.l0 k l1 l0 (l0.length : Int) 0) else (some false)) = some r := h; clear h
  by_cases c4 : (l0.length : Int) = (l1.length : Int)
  ·rw [if_pos c4] at H; have c4b0 : ((l0.length : Int) == (l1.length : Int)) = true := beq_iff_eq.mpr c4; have c4b1 : ((l0.length : Int) != (l1.length : Int)) = false := bne_eq_false_iff_eq.mpr c4; (have c4b2 : (l0.length == l1.length) = true := by first | simpa using c4 | (simp at c4 ⊢; omega)); clear c4; have H' := q_ H; clear H; go_enter Try.func88, Try.ntmps88; go_wp2; go_loopg [17] k (fun kq v17 w' => ∃ (x17_1 : Int), v17 = .int .i64 x17_1 ∧ Aside0 (slices_EqualFunc_int_int_int_int_at_slices_Equal_int_int.l0 kq l1 l0 (l0.length : Int) x17_1 = some r) ∧ Aside0 (kq ≤ k) ∧ Drawn0 w w')
   case atStart => exact ⟨(0), eqv, H', ⟨Nat.le_refl _⟩, by repeat (first | exact Drawn0.refl _ | apply Drawn0.step)⟩
   case round =>
    clear H'; (try clear c4b0); (try clear c4b1); (try clear c4b2); obtain ⟨x17_1, rfl, HA, HK1, ⟨m1, rfl⟩⟩ := hrel
    cases gk with
    | zero => exact absurd HA.out (by simp [slices_EqualFunc_int_int_int_int_at_slices_Equal_int_int.l0])
    | succ k1 =>
     have H := HA.out; clear HA; simp only [slices_EqualFunc_int_int_int_int_at_slices_Equal_int_int.l0] at H
     by_cases c5 : x17_1 < (l0.length : Int)
     ·rw [if_pos c5] at H; have c5b0 : decide (x17_1 < (l0.length : Int)) = true := decide_eq_true c5; clear c5
      obtain ⟨c6, H⟩ := ifp_ H; have c6b0 : decide (0 ≤ x17_1) = true := decide_eq_true c6; clear c6
      obtain ⟨c7, H⟩ := ifp_ H; have c7b0 : decide (x17_1 < (l0.length : Int)) = true := decide_eq_true c7; clear c7
      obtain ⟨c8, H⟩ := ifp_ H; have c8b0 : decide (x17_1 < (l1.length : Int)) = true := decide_eq_true c8; clear c8; obtain ⟨t334, A9, H⟩ := bnd_ H; have HC10 := q_ H; clear H; have p332 : 0 ≤ (x17_1 : Int) := od; have q332 : x17_1 < (l0.length : Int) := od; obtain ⟨ad332, A332_0, c332_0, e332, hx332_0, hl332_0, hi332_0⟩ := at_L1 HR0.out x17_1 p332 q332
      cases e332
      have HR332_0 := q_ hi332_0; have HC332_0 := q_ hl332_0; clear hi332_0 hl332_0; replace p332 := eq_true p332; replace q332 := eq_true q332; have p333 : 0 ≤ (x17_1 : Int) := od; have q333 : x17_1 < (l1.length : Int) := od; obtain ⟨ad333, A333_0, c333_0, e333, hx333_0, hl333_0, hi333_0⟩ := at_L1 HR1.out x17_1 p333 q333
      cases e333
      have HR333_0 := q_ hi333_0; have HC333_0 := q_ hl333_0; clear hi333_0 hl333_0; replace p333 := eq_true p333; replace q333 := eq_true q333
      go_upto_if 30 with (first | (go_at_call 81; (with_reducible refine (slices_Equal_int_int.calls k1 _ _ (rd_L1 l0 x17_1) _ _ (rd_L1 l1 x17_1) t334 _ ?side1 ?side2 ?side3 ?side4 A9.out).mono ?_); (case side1 => exact Kd.C_v HR332_0.out); (case side2 => exact HC332_0.out); (case side3 => exact Kd.C_v HR333_0.out); (case side4 => exact HC333_0.out); rintro e w' ⟨rfl, ⟨nd, rfl⟩⟩))
      (try simp only [Act.put, List.setIfInBounds_toArray, List.set_cons_zero, List.set_cons_succ]); have H := HC10.out; clear HC10
      by_cases c11 : t334 = true
      ·subst c11; replace H := itt_ H; have H' := q_ H; clear H; go_wp2; go_roundg k1
       case measure => have := HK1.out; omega
       case rel => exact ⟨(wrap64 (x17_1 + 1)), eqv, H', ⟨by have := HK1.out; omega⟩, by repeat (first | exact Drawn0.refl _ | apply Drawn0.step)⟩
      ·replace c11 := Bool.eq_false_iff.mpr c11; subst c11; replace H := iff_ H; obtain rfl := Option.some.inj H; go_wp2; go_ret; exact ⟨by first | rfl | (simp; done) | (simp [*]; done), by repeat (first | exact Drawn0.refl _ | apply Drawn0.step)⟩
     ·rw [if_neg c5] at H; have c5b0 : decide (x17_1 < (l0.length : Int)) = false := decide_eq_false c5; clear c5; obtain rfl := Option.some.inj H; go_wp2; go_ret; exact ⟨by first | rfl | (simp; done) | (simp [*]; done), by repeat (first | exact Drawn0.refl _ | apply Drawn0.step)⟩
  ·rw [if_neg c4] at H; have c4b0 : ((l0.length : Int) == (l1.length : Int)) = false := beq_eq_false_iff_ne.mpr c4; have c4b1 : ((l0.length : Int) != (l1.length : Int)) = true := bne_iff_ne.mpr c4; (have c4b2 : (l0.length == l1.length) = false := by first | simpa using c4 | (simp at c4 ⊢; omega)); obtain rfl := Option.some.inj H; go_enter Try.func88, Try.ntmps88; go_wp2; go_ret; exact ⟨by first | rfl | (simp; done) | (simp [*]; done), by repeat (first | exact Drawn0.refl _ | apply Drawn0.step)⟩

end Go.Proofs.Ytiglhdibibbkjaa.F
