-- Written by a program of this session (fork.py, fprint.sh). Lean checks it.
import Derived.Test.YtaadkpbpkeckdaaF0
namespace Go.Proofs.Ytaadkpbpkeckdaa.F
open Go.RowKit Go.Proofs.YtaadkpbpkeckdaaW.PrintWords Go.Proofs.YtaadkpbpkeckdaaW.PrintLast Go.Proofs.YtaadkpbpkeckdaaW.PrintMore
attribute [local go_sem] max2_int min2_int max_two min_two max_three min_three max_four min_four   -- for this text's walks alone
set_option linter.unusedVariables false
set_option linter.unusedSimpArgs false

/-! ### laws_markIntS: function 22 -/
def laws_markIntS.l0 : Nat → List Int → Int → Int → Option (Int × List Int)
  | 0, _, _, _ => none
  | k + 1, x0, x1, x5 => if x5 < (x0.length : Int) then (if 0 ≤ x5 then (laws_markIntS.l0 k (x0.set (x5 : Int).toNat x1) (wrap64 (x1 + 1)) (wrap64 (x5 + 1))) else (none)) else (some (x1, x0))
def laws_markIntS.f (k : Nat) (l0 : List Int) (a1 : Int) : Option (Int × List Int) := laws_markIntS.l0 k l0 a1 0
set_option maxHeartbeats 8000000 in
set_option maxRecDepth 100000 in
theorem laws_markIntS.calls (k : Nat) (P0_ : Nat → Prop) (u9000_ : Value) (l0 : List Int) (a1 : Int) (r1 : Int) (r2 : List Int) (w0 w : World) (hB : Below w0.heap.size w0 w) (ho0 : Kd.R (Kd.int .i64) 3 w w0.heap.size P0_ u9000_ l0) (h : laws_markIntS.f k l0 a1 = some (r1, r2)) :
    Calls Try.prog 22 #[u9000_, .int .i64 a1] w fun e w' => e = .returned (.int .i64 r1) ∧ Kd.R (Kd.int .i64) 3 w' w0.heap.size (fun k_ => (P0_ k_ ∨ w.heap.size ≤ k_)) u9000_ r2 ∧ Below w0.heap.size w0 w' ∧ Kept w w' (fun k_ => P0_ k_) := by
  have HO0 := Aside0.mk (show Kd.R (Kd.int .i64) 3 w w0.heap.size (fun k_ => (P0_ k_ ∨ w.heap.size ≤ k_)) u9000_ l0 from Kd.R_mono ho0 (fun k_ hk => (.inl hk))); have HK := Aside0.mk (Kept.refl w (fun k_ => P0_ k_)); have HW0 := Aside0.mk hB.size; have HB := Aside0.mk hB; clear hB; have H : (laws_markIntS.l0 k l0 a1 0) = some (r1, r2) := h; clear h; have H' := Aside0.mk H; clear H; go_enter Try.func22, Try.ntmps22; go_wp2; go_loopg [1, 5] k (fun kq v1 v5 w' => ∃ (x0_1 : List Int) (x1_1 : Int) (x5_1 : Int), v1 = .int .i64 x1_1 ∧ v5 = .int .i64 x5_1 ∧ Aside0 (laws_markIntS.l0 kq x0_1 x1_1 x5_1 = some (r1, r2)) ∧ Aside0 (kq ≤ k) ∧ Aside0 (Kd.R (Kd.int .i64) 3 w' w0.heap.size (fun k_ => (P0_ k_ ∨ w.heap.size ≤ k_)) u9000_ x0_1) ∧ Aside0 (Kept w w' (fun k_ => P0_ k_)) ∧ Aside0 (Below w0.heap.size w0 w'))
  case atStart => exact ⟨(l0), (a1), (0), (by first | rfl | (simp; done) | (simp [*]; done)), (by first | rfl | (simp; done) | (simp [*]; done)), H', ⟨Nat.le_refl _⟩, ⟨by exact Kd.R_v HO0.out⟩, ⟨by exact kv HK.out⟩, ⟨by exact bv HB.out⟩⟩
  case round =>
    clear H'; (try clear c2); (try clear p2); obtain ⟨x0_1, x1_1, x5_1, rfl, rfl, HA, HK1, HO_0, HK, HB⟩ := hrel
    cases gk with
    | zero => exact absurd HA.out (by simp [laws_markIntS.l0])
    | succ k1 =>
      have H := HA.out; clear HA; simp only [laws_markIntS.l0] at H
      by_cases c3 : x5_1 < (x0_1.length : Int)
      · rw [if_pos c3] at H; have c3b0 : decide (x5_1 < (x0_1.length : Int)) = true := decide_eq_true c3; clear c3
        by_cases c4 : 0 ≤ x5_1
        case neg => rw [if_neg c4] at H; exact absurd H (by simp)
        rw [if_pos c4] at H; have c4b0 : decide (0 ≤ x5_1) = true := decide_eq_true c4; clear c4; obtain ⟨y425, hy425⟩ : ∃ y_ : List Int, y_ = (x0_1.set (x5_1 : Int).toNat x1_1) := ⟨_, rfl⟩; (replace H : (laws_markIntS.l0 k1 y425 (wrap64 (x1_1 + 1)) (wrap64 (x5_1 + 1))) = some (r1, r2) := by first | (rw [hy425]; with_reducible exact H) | (have H2_ := (Option.bind_some _ _).symm.trans H; rw [hy425]; with_reducible exact H2_) | (have H2_ := (Option.bind_some _ _).symm.trans H; with_reducible exact H2_) | with_reducible exact H | (rw [hy425]; exact H) | exact H); have Ny425 := Aside0.mk hy425; clear hy425; have H' := Aside0.mk H; clear H; obtain ⟨Ao6, co6, eo6⟩ := Kd.R_slice HO_0.out; subst eo6; have p5 : 0 ≤ (x5_1 : Int) := of_decide_eq_true (by first | (with_reducible assumption) | assumption); have q5 : (x5_1 : Int) < ((x0_1.length : Int) : Int) := of_decide_eq_true (by first | (with_reducible assumption) | assumption); obtain ⟨go5, co5, eo5, gb5, gl5, cl5, HG5⟩ := Kd.R_form HO_0.out (by omega); (first | cases eo5 | (injection eo5 with ea_ en_ ec_; (first | subst ea_ | (injection ea_ with ea_; subst ea_)); subst ec_; clear en_)); have GB5 := Aside0.mk gb5; have GG5 := Aside0.mk HG5; clear gb5 gl5 HG5; have HMgo5 := Aside0.mk (show (P0_ go5 ∨ w.heap.size ≤ go5) from (HO_0.out.1 _ rfl)); obtain ⟨hx5_0, hf5_0⟩ := Kd.R_celln 0 HO_0.out (x5_1 : Int) p5 q5; replace p5 := eq_true p5; replace q5 := eq_true q5; have HP7 := Kd.R_putg HO_0.out (x5_1 : Int) x1_1; go_wp2_with (first | ((with_reducible refine gate_store (t := 3) (p := 15) rfl ?_); refine store_event (t := 3) (p := 15) (v := ?vo_w8) (w1 := (wr.setCell ⟨go5, (x5_1 : Int).toNat, none⟩ (.int .i64 x1_1))) ?hg ?ho ?hn ?hr ?_; (case ho => rfl); (case hg => rfl); (case hn => rfl); (case hr => first | (go_simp; done) | (go_simp; rfl)); intro w8 hw; have hg : wr.grownBy w8 (some go5) := (by rw [hw]; exact HP7.2); have hp_ : Kd.R (Kd.int .i64) 3 w8 w0.heap.size (fun k_ => (P0_ k_ ∨ w.heap.size ≤ k_)) (.slice (some ⟨go5, 0, none⟩) x0_1.length co6) y425 := (by rw [hw, Ny425.out]; exact HP7.1); clear HP7; have n0_ := Aside0.mk (hp_); replace HB := Aside0.mk ((by rw [hw]; exact below_set (HB.out) GB5.out : Below w0.heap.size w0 w8)); replace HK := Aside0.mk (Kept.of_grown (S := (fun k_ => P0_ k_)) hg (by exact kv HK.out) (fun k_ e_ => (HO_0.out.1 k_ e_))); clear HO_0; have HO_0 := n0_; clear n0_; clear hg hw hp_)); go_roundg k1
        case measure => have := HK1.out; omega
        case rel => exact ⟨(y425), (wrap64 (x1_1 + 1)), (wrap64 (x5_1 + 1)), (by first | rfl | (simp; done) | (simp [*]; done)), (by first | rfl | (simp; done) | (simp [*]; done)), H', ⟨by have := HK1.out; omega⟩, ⟨by exact Kd.R_v HO_0.out⟩, ⟨by exact kv HK.out⟩, ⟨by exact bv HB.out⟩⟩
      · rw [if_neg c3] at H; have c3b0 : decide (x5_1 < (x0_1.length : Int)) = false := decide_eq_false c3; clear c3; simp only [Option.some.injEq, Prod.mk.injEq] at H; obtain ⟨rfl, rfl⟩ := H; obtain ⟨Ao9, co9, eo9⟩ := Kd.R_slice HO_0.out; subst eo9; go_wp2; go_ret; exact ⟨by first | rfl | (simp [errW_none, errW_some] <;> rfl) | (simp [*, errW_none, errW_some] <;> rfl), by exact Kd.R_v HO_0.out, by exact bv HB.out, by exact kv HK.out⟩

/-! ### laws_heldIntS: function 23 -/
def laws_heldIntS.l0 : Nat → List Int → Int → Int → Option (Int)
  | 0, _, _, _ => none
  | k + 1, x0, x1, x5 => if x5 < (x0.length : Int) then (if 0 ≤ x5 then (if (rd x0 x5) = x1 then (laws_heldIntS.l0 k x0 (wrap64 (x1 + 1)) (wrap64 (x5 + 1))) else (some (-1))) else (none)) else (some x1)
def laws_heldIntS.f (k : Nat) (l0 : List Int) (a1 : Int) : Option (Int) := laws_heldIntS.l0 k l0 a1 0
set_option maxHeartbeats 8000000 in
set_option maxRecDepth 100000 in
theorem laws_heldIntS.calls (k : Nat) (A0 : Option Addr) (c0 : Nat) (l0 : List Int) (a1 : Int) (r : Int) (w : World) (hr0 : Kd.C (Kd.int .i64) w A0 l0.length l0) (hc0 : l0.length ≤ c0) (h : laws_heldIntS.f k l0 a1 = some r) :
    Calls Try.prog 23 #[.slice A0 l0.length c0, .int .i64 a1] w fun e w' => e = .returned (.int .i64 r) ∧ Drawn0 w w' := by
  have HR0 := Aside0.mk hr0; have HC0 := Aside0.mk hc0; clear hr0 hc0; have H : (laws_heldIntS.l0 k l0 a1 0) = some r := h; clear h; have H' := Aside0.mk H; clear H; go_enter Try.func23, Try.ntmps23; go_wp2; go_loopg [1, 5] k (fun kq v1 v5 w' => ∃ (x1_1 : Int) (x5_1 : Int), v1 = .int .i64 x1_1 ∧ v5 = .int .i64 x5_1 ∧ Aside0 (laws_heldIntS.l0 kq l0 x1_1 x5_1 = some r) ∧ Aside0 (kq ≤ k) ∧ Drawn0 w w')
  case atStart => exact ⟨(a1), (0), (by first | rfl | (simp; done) | (simp [*]; done)), (by first | rfl | (simp; done) | (simp [*]; done)), H', ⟨Nat.le_refl _⟩, by repeat (first | exact Drawn0.refl _ | apply Drawn0.step)⟩
  case round =>
    clear H'; (try clear c2); (try clear p2); obtain ⟨x1_1, x5_1, rfl, rfl, HA, HK1, ⟨m1, rfl⟩⟩ := hrel
    cases gk with
    | zero => exact absurd HA.out (by simp [laws_heldIntS.l0])
    | succ k1 =>
      have H := HA.out; clear HA; simp only [laws_heldIntS.l0] at H
      by_cases c3 : x5_1 < (l0.length : Int)
      · rw [if_pos c3] at H; have c3b0 : decide (x5_1 < (l0.length : Int)) = true := decide_eq_true c3; clear c3
        by_cases c4 : 0 ≤ x5_1
        case neg => rw [if_neg c4] at H; exact absurd H (by simp)
        rw [if_pos c4] at H; have c4b0 : decide (0 ≤ x5_1) = true := decide_eq_true c4; clear c4
        by_cases c5 : (rd l0 x5_1) = x1_1
        · rw [if_pos c5] at H; have c5b0 : ((rd l0 x5_1) == x1_1) = true := beq_iff_eq.mpr c5; have c5b1 : ((rd l0 x5_1) != x1_1) = false := bne_eq_false_iff_eq.mpr c5; clear c5; have H' := Aside0.mk H; clear H; have p426 : 0 ≤ (x5_1 : Int) := of_decide_eq_true (by first | (with_reducible assumption) | assumption); have q426 : x5_1 < (l0.length : Int) := of_decide_eq_true (by first | (with_reducible assumption) | assumption); obtain ⟨ad426, e426, hx426_0⟩ := Kd.at_int HR0.out x5_1 p426 q426
          cases e426
          replace p426 := eq_true p426; replace q426 := eq_true q426; go_wp2; go_roundg k1
          case measure => have := HK1.out; omega
          case rel => exact ⟨(wrap64 (x1_1 + 1)), (wrap64 (x5_1 + 1)), (by first | rfl | (simp; done) | (simp [*]; done)), (by first | rfl | (simp; done) | (simp [*]; done)), H', ⟨by have := HK1.out; omega⟩, by repeat (first | exact Drawn0.refl _ | apply Drawn0.step)⟩
        · rw [if_neg c5] at H; have c5b0 : ((rd l0 x5_1) == x1_1) = false := beq_eq_false_iff_ne.mpr c5; have c5b1 : ((rd l0 x5_1) != x1_1) = true := bne_iff_ne.mpr c5; obtain rfl := Option.some.inj H; have p426 : 0 ≤ (x5_1 : Int) := of_decide_eq_true (by first | (with_reducible assumption) | assumption); have q426 : x5_1 < (l0.length : Int) := of_decide_eq_true (by first | (with_reducible assumption) | assumption); obtain ⟨ad426, e426, hx426_0⟩ := Kd.at_int HR0.out x5_1 p426 q426
          cases e426
          replace p426 := eq_true p426; replace q426 := eq_true q426; go_wp2; go_ret; exact ⟨by first | rfl | (simp; done) | (simp [*]; done), by repeat (first | exact Drawn0.refl _ | apply Drawn0.step)⟩
      · rw [if_neg c3] at H; have c3b0 : decide (x5_1 < (l0.length : Int)) = false := decide_eq_false c3; clear c3; obtain rfl := Option.some.inj H; go_wp2; go_ret; exact ⟨by first | rfl | (simp; done) | (simp [*]; done), by repeat (first | exact Drawn0.refl _ | apply Drawn0.step)⟩

/-! ### spec_l3One: function 65 -/
def spec_l3One.f (a0 : Int) (a1 : Int) : Option (List Int) := if 0 ≤ a0 then (if (a0 : Int).toNat ≤ 35184372088832 then ((some (List.replicate (a0 : Int).toNat 0 : List Int)).bind fun y427 => (if 0 ≤ a1 then (if a1 < (y427.length : Int) then (some (y427.set (a1 : Int).toNat 1)) else (none)) else (none))) else (none)) else (none)
set_option maxHeartbeats 8000000 in
set_option maxRecDepth 100000 in
theorem spec_l3One.calls (a0 : Int) (a1 : Int) (r : List Int) (w : World) (h : spec_l3One.f a0 a1 = some r) :
    Calls Try.prog 65 #[.int .i64 a0, .int .i64 a1] w fun e w' => ∃ v0_ : Value, e = .returned (v0_) ∧ Kd.R (Kd.int .i64) 3 w' w.heap.size (fun _ => True) v0_ r ∧ Below w.heap.size w w' := by
  have HB := Aside0.mk (Below.refl w.heap.size w); have H : (if 0 ≤ a0 then (if (a0 : Int).toNat ≤ 35184372088832 then ((some (List.replicate (a0 : Int).toNat 0 : List Int)).bind fun y427 => (if 0 ≤ a1 then (if a1 < (y427.length : Int) then (some (y427.set (a1 : Int).toNat 1)) else (none)) else (none))) else (none)) else (none)) = some r := h; clear h
  by_cases c3 : 0 ≤ a0
  case neg => rw [if_neg c3] at H; exact absurd H (by simp)
  rw [if_pos c3] at H; have c3b0 := eq_true c3; have c3b1 : decide (0 ≤ a0) = true := decide_eq_true c3; clear c3
  by_cases c4 : (a0 : Int).toNat ≤ 35184372088832
  case neg => rw [if_neg c4] at H; exact absurd H (by simp)
  rw [if_pos c4] at H; have c4b0 := eq_true c4; have c4b1 : decide ((a0 : Int).toNat ≤ 35184372088832) = true := decide_eq_true c4; clear c4; obtain ⟨y427, hy427⟩ : ∃ y_ : List Int, y_ = (List.replicate (a0 : Int).toNat 0) := ⟨_, rfl⟩; (replace H : (if 0 ≤ a1 then (if a1 < (y427.length : Int) then (some (y427.set (a1 : Int).toNat 1)) else (none)) else (none)) = some r := by first | (rw [hy427]; with_reducible exact H) | (have H2_ := (Option.bind_some _ _).symm.trans H; rw [hy427]; with_reducible exact H2_) | (have H2_ := (Option.bind_some _ _).symm.trans H; with_reducible exact H2_) | with_reducible exact H | (rw [hy427]; exact H) | exact H); have Ny427 := Aside0.mk hy427; clear hy427
  by_cases c5 : 0 ≤ a1
  case neg => rw [if_neg c5] at H; exact absurd H (by simp)
  rw [if_pos c5] at H; have c5b0 : decide (0 ≤ a1) = true := decide_eq_true c5; clear c5
  by_cases c6 : a1 < (y427.length : Int)
  case neg => rw [if_neg c6] at H; exact absurd H (by simp)
  rw [if_pos c6] at H; have c6b0 : decide (a1 < (y427.length : Int)) = true := decide_eq_true c6; clear c6; obtain ⟨y430, hy430⟩ : ∃ y_ : List Int, y_ = (y427.set (a1 : Int).toNat 1) := ⟨_, rfl⟩; (replace H : (some y430) = some r := by first | (rw [hy430]; with_reducible exact H) | (have H2_ := (Option.bind_some _ _).symm.trans H; rw [hy430]; with_reducible exact H2_) | (have H2_ := (Option.bind_some _ _).symm.trans H; with_reducible exact H2_) | with_reducible exact H | (rw [hy430]; exact H) | exact H); have Ny430 := Aside0.mk hy430; clear hy430; obtain rfl := Option.some.inj H; go_enter Try.func65, Try.ntmps65; go_wp2_with (first | ((with_reducible refine gate_dst (N := 7) rfl ?_); refine Kd.R_make (Kd.int .i64) _ 3 rfl (N := 7) rfl 34 _ _ rfl a0 rfl rfl Try.underlying34 (.int .i64 0) 8 info3 rfl (by decide) (by omega) 0 (ok := fun _ => True) (okp := fun _ => True) rfl (fun _ hk => hk) trivial (of_decide_eq_true (by first | (with_reducible assumption) | assumption)) (Nat.le_trans (Nat.mul_le_mul_right _ (of_decide_eq_true (by first | (with_reducible assumption) | assumption) : a0.toNat ≤ 35184372088832)) (by omega)) (Below.refl _ _) (Nat.le_refl _) ?_; intro v428 w8 ho9 hb hg_ hnew_; clear hg_ hnew_; (first | rw [← Ny427.out] at ho9 | (simp only [Int.reduceToNat] at ho9; rw [← Ny427.out] at ho9)); have HO429 := Aside0.mk (Kd.R_lower ho9 (below_size (by exact bv HB.out))); replace HB := Aside0.mk (below_step (by exact bv HB.out) hb); clear hb ho9; have p7 : 0 ≤ (a1 : Int) := of_decide_eq_true (by first | (with_reducible assumption) | assumption); have q7 : (a1 : Int) < ((y427.length : Int) : Int) := of_decide_eq_true (by first | (with_reducible assumption) | assumption); obtain ⟨go7, co7, eo7, gb7, gl7, cl7, HG7⟩ := Kd.R_form HO429.out (by omega); (first | cases eo7 | (injection eo7 with ea_ en_ ec_; (first | subst ea_ | (injection ea_ with ea_; subst ea_)); subst ec_; clear en_)); have GB7 := Aside0.mk gb7; have GG7 := Aside0.mk HG7; clear gb7 gl7 HG7; obtain ⟨hx7_0, hf7_0⟩ := Kd.R_celln 0 HO429.out (a1 : Int) p7 q7; replace p7 := eq_true p7; replace q7 := eq_true q7; obtain ⟨hy10_, hz10_⟩ := Kd.R_celln 0 HO429.out (a1 : Int) (of_decide_eq_true (by first | (with_reducible assumption) | assumption)) (of_decide_eq_true (by first | (with_reducible assumption) | assumption)); have HP10 := Kd.R_putg HO429.out (a1 : Int) 1) | ((with_reducible refine gate_store (t := 3) (p := 10) rfl ?_); refine store_event (t := 3) (p := 10) (v := ?vo_w11) (w1 := (w8.setCell ⟨go7, (a1 : Int).toNat, none⟩ (.int .i64 1))) ?hg ?ho ?hn ?hr ?_; (case ho => rfl); (case hg => rfl); (case hn => rfl); (case hr => first | (go_simp; done) | (go_simp; rfl)); intro w11 hw; have hg : w8.grownBy w11 (some go7) := (by rw [hw]; exact HP10.2); have hp_ : Kd.R (Kd.int .i64) 3 w11 w.heap.size (fun _ => True) (.slice (some ⟨go7, 0, none⟩) y427.length co7) y430 := (by rw [hw, Ny430.out]; exact HP10.1); clear HP10; replace HO429 := Aside0.mk (hp_); replace HB := Aside0.mk ((by rw [hw]; exact below_set (HB.out) GB7.out : Below w.heap.size w w11)); clear hg hw hp_)); go_ret; exact ⟨_, by first | rfl | (simp [errW_none, errW_some] <;> rfl) | (simp [*, errW_none, errW_some] <;> rfl), by exact Kd.R_v HO429.out, by exact bv HB.out⟩

/-! ### impl_singleMark: function 66 -/
def impl_singleMark.f (a0 : Int) (a1 : Int) : Option (List Int) := if 0 ≤ a0 then (if (a0 : Int).toNat ≤ 35184372088832 then ((some (List.replicate (a0 : Int).toNat 0 : List Int)).bind fun y436 => (if 0 ≤ a1 then (if a1 < (y436.length : Int) then (some (y436.set (a1 : Int).toNat 1)) else (none)) else (none))) else (none)) else (none)
set_option maxHeartbeats 8000000 in
set_option maxRecDepth 100000 in
theorem impl_singleMark.calls (a0 : Int) (a1 : Int) (r : List Int) (w : World) (h : impl_singleMark.f a0 a1 = some r) :
    Calls Try.prog 66 #[.int .i64 a0, .int .i64 a1] w fun e w' => ∃ v0_ : Value, e = .returned (v0_) ∧ Kd.R (Kd.int .i64) 3 w' w.heap.size (fun _ => True) v0_ r ∧ Below w.heap.size w w' := by
  have HB := Aside0.mk (Below.refl w.heap.size w); have H : (if 0 ≤ a0 then (if (a0 : Int).toNat ≤ 35184372088832 then ((some (List.replicate (a0 : Int).toNat 0 : List Int)).bind fun y436 => (if 0 ≤ a1 then (if a1 < (y436.length : Int) then (some (y436.set (a1 : Int).toNat 1)) else (none)) else (none))) else (none)) else (none)) = some r := h; clear h
  by_cases c3 : 0 ≤ a0
  case neg => rw [if_neg c3] at H; exact absurd H (by simp)
  rw [if_pos c3] at H; have c3b0 := eq_true c3; have c3b1 : decide (0 ≤ a0) = true := decide_eq_true c3; clear c3
  by_cases c4 : (a0 : Int).toNat ≤ 35184372088832
  case neg => rw [if_neg c4] at H; exact absurd H (by simp)
  rw [if_pos c4] at H; have c4b0 := eq_true c4; have c4b1 : decide ((a0 : Int).toNat ≤ 35184372088832) = true := decide_eq_true c4; clear c4; obtain ⟨y436, hy436⟩ : ∃ y_ : List Int, y_ = (List.replicate (a0 : Int).toNat 0) := ⟨_, rfl⟩; (replace H : (if 0 ≤ a1 then (if a1 < (y436.length : Int) then (some (y436.set (a1 : Int).toNat 1)) else (none)) else (none)) = some r := by first | (rw [hy436]; with_reducible exact H) | (have H2_ := (Option.bind_some _ _).symm.trans H; rw [hy436]; with_reducible exact H2_) | (have H2_ := (Option.bind_some _ _).symm.trans H; with_reducible exact H2_) | with_reducible exact H | (rw [hy436]; exact H) | exact H); have Ny436 := Aside0.mk hy436; clear hy436
  by_cases c5 : 0 ≤ a1
  case neg => rw [if_neg c5] at H; exact absurd H (by simp)
  rw [if_pos c5] at H; have c5b0 : decide (0 ≤ a1) = true := decide_eq_true c5; clear c5
  by_cases c6 : a1 < (y436.length : Int)
  case neg => rw [if_neg c6] at H; exact absurd H (by simp)
  rw [if_pos c6] at H; have c6b0 : decide (a1 < (y436.length : Int)) = true := decide_eq_true c6; clear c6; obtain ⟨y439, hy439⟩ : ∃ y_ : List Int, y_ = (y436.set (a1 : Int).toNat 1) := ⟨_, rfl⟩; (replace H : (some y439) = some r := by first | (rw [hy439]; with_reducible exact H) | (have H2_ := (Option.bind_some _ _).symm.trans H; rw [hy439]; with_reducible exact H2_) | (have H2_ := (Option.bind_some _ _).symm.trans H; with_reducible exact H2_) | with_reducible exact H | (rw [hy439]; exact H) | exact H); have Ny439 := Aside0.mk hy439; clear hy439; obtain rfl := Option.some.inj H; go_enter Try.func66, Try.ntmps66; go_wp2_with (first | ((with_reducible refine gate_dst (N := 7) rfl ?_); refine Kd.R_make (Kd.int .i64) _ 3 rfl (N := 7) rfl 34 _ _ rfl a0 rfl rfl Try.underlying34 (.int .i64 0) 8 info3 rfl (by decide) (by omega) 0 (ok := fun _ => True) (okp := fun _ => True) rfl (fun _ hk => hk) trivial (of_decide_eq_true (by first | (with_reducible assumption) | assumption)) (Nat.le_trans (Nat.mul_le_mul_right _ (of_decide_eq_true (by first | (with_reducible assumption) | assumption) : a0.toNat ≤ 35184372088832)) (by omega)) (Below.refl _ _) (Nat.le_refl _) ?_; intro v437 w8 ho9 hb hg_ hnew_; clear hg_ hnew_; (first | rw [← Ny436.out] at ho9 | (simp only [Int.reduceToNat] at ho9; rw [← Ny436.out] at ho9)); have HO438 := Aside0.mk (Kd.R_lower ho9 (below_size (by exact bv HB.out))); replace HB := Aside0.mk (below_step (by exact bv HB.out) hb); clear hb ho9; have p7 : 0 ≤ (a1 : Int) := of_decide_eq_true (by first | (with_reducible assumption) | assumption); have q7 : (a1 : Int) < ((y436.length : Int) : Int) := of_decide_eq_true (by first | (with_reducible assumption) | assumption); obtain ⟨go7, co7, eo7, gb7, gl7, cl7, HG7⟩ := Kd.R_form HO438.out (by omega); (first | cases eo7 | (injection eo7 with ea_ en_ ec_; (first | subst ea_ | (injection ea_ with ea_; subst ea_)); subst ec_; clear en_)); have GB7 := Aside0.mk gb7; have GG7 := Aside0.mk HG7; clear gb7 gl7 HG7; obtain ⟨hx7_0, hf7_0⟩ := Kd.R_celln 0 HO438.out (a1 : Int) p7 q7; replace p7 := eq_true p7; replace q7 := eq_true q7; obtain ⟨hy10_, hz10_⟩ := Kd.R_celln 0 HO438.out (a1 : Int) (of_decide_eq_true (by first | (with_reducible assumption) | assumption)) (of_decide_eq_true (by first | (with_reducible assumption) | assumption)); have HP10 := Kd.R_putg HO438.out (a1 : Int) 1) | ((with_reducible refine gate_store (t := 3) (p := 10) rfl ?_); refine store_event (t := 3) (p := 10) (v := ?vo_w11) (w1 := (w8.setCell ⟨go7, (a1 : Int).toNat, none⟩ (.int .i64 1))) ?hg ?ho ?hn ?hr ?_; (case ho => rfl); (case hg => rfl); (case hn => rfl); (case hr => first | (go_simp; done) | (go_simp; rfl)); intro w11 hw; have hg : w8.grownBy w11 (some go7) := (by rw [hw]; exact HP10.2); have hp_ : Kd.R (Kd.int .i64) 3 w11 w.heap.size (fun _ => True) (.slice (some ⟨go7, 0, none⟩) y436.length co7) y439 := (by rw [hw, Ny439.out]; exact HP10.1); clear HP10; replace HO438 := Aside0.mk (hp_); replace HB := Aside0.mk ((by rw [hw]; exact below_set (HB.out) GB7.out : Below w.heap.size w w11)); clear hg hw hp_)); go_ret; exact ⟨_, by first | rfl | (simp [errW_none, errW_some] <;> rfl) | (simp [*, errW_none, errW_some] <;> rfl), by exact Kd.R_v HO438.out, by exact bv HB.out⟩

/-! ### laws_markTransS: function 60 -/
/-- The block g holds m cells of the type t. -/
def Blk (w : World) (g m t : Nat) : Prop := ∃ cs : Array Value, w.heap[g]? = some (.cells cs t (0, 0)) ∧ cs.size = m
theorem Blk.kept {w w' : World} {g m t : Nat} {S : Nat → Prop} (h : Blk w g m t) (hk : Kept w w' S) (hs : ¬ S g) : Blk w' g m t := by
  obtain ⟨cs, h1, h2⟩ := h
  exact ⟨cs, (hk.2 g (blk_lt h1) hs).trans h1, h2⟩
theorem Blk.set {w : World} {g m t : Nat} (h : Blk w g m t) (i : Nat) (u : Value) : Blk (w.setCell ⟨g, i, none⟩ u) g m t := by
  obtain ⟨cs, h1, h2⟩ := h
  exact ⟨_, blk_set h1 i u, by simp [h2]⟩
theorem Blk.cell {w : World} {g m t : Nat} (h : Blk w g m t) (i : Nat) (hi : i < m) : ∃ u, w.cell? ⟨g, i, none⟩ = some u := by
  obtain ⟨cs, h1, h2⟩ := h
  exact ⟨cs[i]'(by omega), (blk_cell h1 i).trans (Array.getElem?_eq_getElem (by omega))⟩
theorem Blk.frozen {w : World} {g m t : Nat} (h : Blk w g m t) (i : Nat) : w.frozen? ⟨g, i, none⟩ = false := by
  obtain ⟨cs, h1, h2⟩ := h
  exact blk_frozen h1 i
theorem Blk.alloc {w : World} {g m t : Nat} (h : Blk w g m t) (o : Obj) : Blk (w.alloc o) g m t := by
  obtain ⟨cs, h1, h2⟩ := h
  exact ⟨cs, blk_alloc h1 o, h2⟩
theorem Blk.drew {w : World} {g m t : Nat} (h : Blk w g m t) : Blk w.drew g m t := h
theorem Blk.drewN {w : World} {g m t : Nat} (h : Blk w g m t) (n : Nat) : Blk (w.drewN n) g m t := h

set_option maxHeartbeats 8000000 in
set_option maxRecDepth 100000 in
theorem laws_markIntS.raw (k : Nat) (g n cap m t : Nat) (l0 : List Int) (a1 : Int) (r1 : Int) (r2 : List Int) (w0 w : World) (hB : Below w0.heap.size w0 w) (hg : w0.heap.size ≤ g) (hblk : Blk w g m t) (hn : l0.length = n) (hm : n ≤ m) (h : laws_markIntS.f k l0 a1 = some (r1, r2)) :
    Calls Try.prog 22 #[.slice (some ⟨g, 0, none⟩) n cap, .int .i64 a1] w fun e w' => e = .returned (.int .i64 r1) ∧ Blk w' g m t ∧ Below w0.heap.size w0 w' ∧ Kept w w' (fun k_ => k_ = g) := by
  have HO0 := Aside0.mk hblk
  have HK := Aside0.mk (Kept.refl w (fun k_ => k_ = g))
  have HB := Aside0.mk hB
  clear hB hblk
  have H : (laws_markIntS.l0 k l0 a1 0) = some (r1, r2) := h
  clear h
  have H' := Aside0.mk H
  have HN := Aside0.mk hn
  clear H hn
  go_enter Try.func22, Try.ntmps22
  go_wp2
  go_loopg [1, 5] k (fun kq v1 v5 w' => ∃ (x0_1 : List Int) (x1_1 : Int) (x5_1 : Int), v1 = .int .i64 x1_1 ∧ v5 = .int .i64 x5_1 ∧ Aside0 (laws_markIntS.l0 kq x0_1 x1_1 x5_1 = some (r1, r2)) ∧ Aside0 (kq ≤ k) ∧ Aside0 (x0_1.length = n) ∧ Aside0 (Blk w' g m t) ∧ Aside0 (Kept w w' (fun k_ => k_ = g)) ∧ Aside0 (Below w0.heap.size w0 w'))
  case atStart => exact ⟨(l0), (a1), (0), (by first | rfl | (simp; done) | (simp [*]; done)), (by first | rfl | (simp; done) | (simp [*]; done)), H', ⟨Nat.le_refl _⟩, HN, ⟨by (with_reducible repeat (first | apply Blk.alloc | apply Blk.drewN | apply Blk.drew)); exact HO0.out⟩, ⟨by repeat (first | (with_reducible first | exact HK.out | apply Kept.alloc | apply Kept.drewN | apply Kept.drew) | exact HK.out)⟩, ⟨by repeat (first | (with_reducible first | exact HB.out | apply below_alloc | apply pw_below_drewN | apply below_drew1) | exact HB.out)⟩⟩
  case round =>
    clear H' HN HO0 HK HB
    try clear c1
    try clear p2
    obtain ⟨x0_1, x1_1, x5_1, rfl, rfl, HA, HK1, HN, HO_0, HK, HB⟩ := hrel
    cases gk with
    | zero => exact absurd HA.out (by simp [laws_markIntS.l0])
    | succ k1 =>
      have H := HA.out
      clear HA
      simp only [laws_markIntS.l0] at H
      rw [HN.out] at H
      by_cases c3 : x5_1 < (n : Int)
      · rw [if_pos c3] at H
        have c3b0 : decide (x5_1 < (n : Int)) = true := decide_eq_true c3
        by_cases c4 : 0 ≤ x5_1
        · rw [if_pos c4] at H
          have c4b0 : decide (0 ≤ x5_1) = true := decide_eq_true c4
          have H' := Aside0.mk H
          clear H
          obtain ⟨uo, hx5_0⟩ := Blk.cell HO_0.out (x5_1 : Int).toNat (by omega)
          have hf5_0 := Blk.frozen HO_0.out (x5_1 : Int).toNat
          clear c3 c4
          have p5 : 0 ≤ (x5_1 : Int) := of_decide_eq_true (by first | (with_reducible assumption) | assumption)
          have q5 : (x5_1 : Int) < (n : Int) := of_decide_eq_true (by first | (with_reducible assumption) | assumption)
          replace p5 := eq_true p5
          replace q5 := eq_true q5
          go_wp2_with (first | ((with_reducible refine gate_store (t := 3) (p := 15) rfl ?_); refine store_event (t := 3) (p := 15) (v := ?vo_w8) (w1 := (wr.setCell ⟨g, (x5_1 : Int).toNat, none⟩ (.int .i64 x1_1))) ?hg ?ho ?hn ?hr ?_; (case ho => rfl); (case hg => rfl); (case hn => rfl); (case hr => first | (go_simp; done) | (go_simp; rfl)); intro w8 hw; have n0_ := Aside0.mk (show Blk w8 g m t by rw [hw]; exact Blk.set HO_0.out _ _); have n1_ := Aside0.mk ((by rw [hw]; exact below_set (HB.out) hg : Below w0.heap.size w0 w8)); have n2_ := Aside0.mk (show Kept w w8 (fun k_ => k_ = g) by rw [hw]; exact Kept.setCell HK.out (.inl rfl) _); clear HO_0; clear HB; clear HK; have HO_0 := n0_; have HB := n1_; have HK := n2_; clear n0_ n1_ n2_; clear hw))
          go_roundg k1
          case measure => have := HK1.out; omega
          case rel => exact ⟨(x0_1.set (x5_1 : Int).toNat x1_1), (wrap64 (x1_1 + 1)), (wrap64 (x5_1 + 1)), (by first | rfl | (simp; done) | (simp [*]; done)), (by first | rfl | (simp; done) | (simp [*]; done)), H', ⟨by have := HK1.out; omega⟩, ⟨by rw [List.length_set]; exact HN.out⟩, ⟨by (with_reducible repeat (first | apply Blk.alloc | apply Blk.drewN | apply Blk.drew)); exact HO_0.out⟩, ⟨by repeat (first | (with_reducible first | exact HK.out | apply Kept.alloc | apply Kept.drewN | apply Kept.drew) | exact HK.out)⟩, ⟨by repeat (first | (with_reducible first | exact HB.out | apply below_alloc | apply pw_below_drewN | apply below_drew1) | exact HB.out)⟩⟩
        · rw [if_neg c4] at H
          exact absurd H (by simp)
      · rw [if_neg c3] at H
        have c3b0 : decide (x5_1 < (n : Int)) = false := decide_eq_false c3
        clear c3
        simp only [Option.some.injEq, Prod.mk.injEq] at H
        obtain ⟨rfl, rfl⟩ := H
        go_wp2
        go_ret
        exact ⟨by first | rfl | (simp [errW_none, errW_some] <;> rfl) | (simp [*, errW_none, errW_some] <;> rfl), by (with_reducible repeat (first | apply Blk.alloc | apply Blk.drewN | apply Blk.drew)); exact HO_0.out, by repeat (first | (with_reducible first | exact HB.out | apply below_alloc | apply pw_below_drewN | apply below_drew1) | exact HB.out), by repeat (first | (with_reducible first | exact HK.out | apply Kept.alloc | apply Kept.drewN | apply Kept.drew) | exact HK.out)⟩
/-- A row of n whole numbers, in a block of P that isn't go: what it holds is not told. -/
def Rowed (w : World) (base : Nat) (P : Nat → Prop) (go : Nat) (v : Value) (n : Nat) : Prop :=
  (v = .slice none 0 0 ∧ n = 0) ∨ ∃ g cap, v = .slice (some ⟨g, 0, none⟩) n cap ∧ base ≤ g ∧ P g ∧ g ≠ go ∧ n ≤ cap ∧ Blk w g cap 3
theorem Rowed.of {w : World} {base go : Nat} {P oki : Nat → Prop} {v : Value} {l : List Int} (h : (Kd.int .i64).R 3 w base oki v l) (hok : ∀ k, oki k → P k ∧ k ≠ go) : Rowed w base P go v l.length := by
  obtain ⟨h0, inner, ho, _⟩ := h
  rcases ho.2 with ⟨hv, hn⟩ | ⟨g, cap, cur, hv, hb, hh, hc, _, hs, _⟩
  · exact .inl ⟨hv, hn⟩
  · have hk := hok g (h0 g (by rw [hv]; simp [Value.ownBlock]))
    exact .inr ⟨g, cap, hv, hb, hk.1, hk.2, hc, cur, hh, by rw [hs]; show cap * 1 = cap; omega⟩
theorem Rowed.kept {w w' : World} {base go : Nat} {P : Nat → Prop} {v : Value} {n gw m : Nat} (h : Rowed w base P go v n) (hk : Kept w w' (fun k => k = gw)) (hg : Blk w gw m 3) (hg' : Blk w' gw m 3) : Rowed w' base P go v n := by
  rcases h with h | ⟨g, cap, hv, hb, hP, hne, hn, hB⟩
  · exact .inl h
  · refine .inr ⟨g, cap, hv, hb, hP, hne, hn, ?_⟩
    by_cases e : g = gw
    · subst e
      obtain ⟨c1, e1, s1⟩ := hB
      obtain ⟨c2, e2, s2⟩ := hg
      obtain ⟨c3, e3, s3⟩ := hg'
      rw [e1] at e2; injection e2 with e2; injection e2 with e2
      subst e2
      exact ⟨c3, e3, by omega⟩
    · exact hB.kept hk e
theorem Rowed.nothing {w w' : World} {base go : Nat} {P : Nat → Prop} {v : Value} {n : Nat} (h : Rowed w base P go v n) (hk : Kept w w' (fun _ => False)) : Rowed w' base P go v n := by
  rcases h with h | ⟨g, cap, hv, hb, hP, hne, hn, hB⟩
  · exact .inl h
  · exact .inr ⟨g, cap, hv, hb, hP, hne, hn, hB.kept hk (fun h => h)⟩
/-- The three rows of an element. -/
def Trio (w : World) (base : Nat) (P : Nat → Prop) (go i : Nat) (t : S79) : Prop :=
  ∃ v0 v1 v2, w.cell? ⟨go, i * 3, none⟩ = some v0 ∧ w.cell? ⟨go, i * 3 + 1, none⟩ = some v1 ∧ w.cell? ⟨go, i * 3 + 2, none⟩ = some v2 ∧ Rowed w base P go v0 t.f0.length ∧ Rowed w base P go v1 t.f1.length ∧ Rowed w base P go v2 t.f2.length
def Trios (w : World) (base : Nat) (P : Nat → Prop) (go : Nat) (l : List S79) : Prop := (∃ m, Blk w go m 79) ∧ ∀ i, i < l.length → Trio w base P go i (l.getD i z79)
theorem Trios.of {w : World} {base go cap : Nat} {P : Nat → Prop} {l : List S79} (h : Kd.S k79 79 w base P (.slice (some ⟨go, 0, none⟩) l.length cap) l) : Trios w base P go l := by
  constructor
  · obtain ⟨_, inner, ho, _⟩ := Kd.S_R h
    rcases ho.2 with ⟨hv, hn⟩ | ⟨g, cap, cur, hv, hb, hh, hc, _, hs, _⟩
    · cases hv
    · injection hv with hv; injection hv with hv; injection hv with hv
      subst hv
      exact ⟨_, cur, hh, rfl⟩
  · intro i hi
    obtain ⟨oki, c, hcl, hM, hcc, hfr, hok, _⟩ := Kd.S_elem h z79 (i : Int) (by omega) (by omega)
    obtain ⟨v0, v1, v2, rfl, r0, r1, r2⟩ := k79_openM hM
    refine ⟨v0, v1, v2, ?_, ?_, ?_, Rowed.of r0 hok, Rowed.of r1 hok, Rowed.of r2 hok⟩
    · exact hcc 0 v0 rfl
    · exact hcc 1 v1 rfl
    · exact hcc 2 v2 rfl
/-- A step that keeps the row's own block, and the elements' rows as rows. -/
theorem Trios.step {w w' : World} {base go : Nat} {P : Nat → Prop} {l : List S79} (h : Trios w base P go l) (ho : w'.heap[go]? = w.heap[go]?) (hr : ∀ v n, Rowed w base P go v n → Rowed w' base P go v n) : Trios w' base P go l := by
  have hc : ∀ j, w'.cell? ⟨go, j, none⟩ = w.cell? ⟨go, j, none⟩ := by
    intro j
    obtain ⟨m, cs, h1, _⟩ := h.1
    rw [blk_cell h1 j, blk_cell (ho.trans h1) j]
  refine ⟨?_, fun i hi => ?_⟩
  · obtain ⟨m, cs, h1, h2⟩ := h.1
    exact ⟨m, cs, ho.trans h1, h2⟩
  · obtain ⟨v0, v1, v2, e0, e1, e2, r0, r1, r2⟩ := h.2 i hi
    exact ⟨v0, v1, v2, (hc _).trans e0, (hc _).trans e1, (hc _).trans e2, hr _ _ r0, hr _ _ r1, hr _ _ r2⟩
theorem Trios.alloc {w : World} {base go : Nat} {P : Nat → Prop} {l : List S79} (h : Trios w base P go l) (o : Obj) : Trios (w.alloc o) base P go l := by
  have hk : Kept w (w.alloc o) (fun _ => False) := Kept.alloc (Kept.refl _ _) o
  obtain ⟨m, cs, h1, _⟩ := h.1
  exact h.step (hk.2 go (blk_lt h1) (fun h => h)) (fun _ _ hr => hr.nothing hk)
theorem Trios.drew {w : World} {base go : Nat} {P : Nat → Prop} {l : List S79} (h : Trios w base P go l) : Trios w.drew base P go l := h
theorem Trios.drewN {w : World} {base go : Nat} {P : Nat → Prop} {l : List S79} (h : Trios w base P go l) (n : Nat) : Trios (w.drewN n) base P go l := h
/-- markIntS on one of the rows: whatever the row holds. -/
theorem markRow {w0 w : World} {go k : Nat} {P : Nat → Prop} {v : Value} {l : List S79} {x : List Int} {a1 r1 : Int} {r2 : List Int} (hB : Below w0.heap.size w0 w) (hT : Trios w w0.heap.size P go l) (hv : Rowed w w0.heap.size P go v x.length) (h : laws_markIntS.f k x a1 = some (r1, r2)) :
    Calls Try.prog 22 #[v, .int .i64 a1] w fun e w' => e = .returned (.int .i64 r1) ∧ Trios w' w0.heap.size P go l ∧ Below w0.heap.size w0 w' ∧ Kept w w' P := by
  obtain ⟨m0, cs0, ho, _⟩ := hT.1
  rcases hv with ⟨hv, hn⟩ | ⟨g, cap, hv, hb, hP, hne, hn, hBlk⟩
  · subst hv
    have hx : x = [] := List.eq_nil_of_length_eq_zero hn
    subst hx
    refine (laws_markIntS.calls k (fun _ => False) (.slice none 0 0) [] a1 r1 r2 w0 w hB (Kd.R_nil _ _ _ _ _) h).mono ?_
    rintro e w' ⟨he, _, hb, hk⟩
    exact ⟨he, hT.step (hk.2 go (blk_lt ho) (fun h => h)) (fun _ _ hr => hr.nothing hk), hb, hk.mono (fun _ h => h.elim)⟩
  · subst hv
    refine (laws_markIntS.raw k g x.length cap cap 3 x a1 r1 r2 w0 w hB hb hBlk rfl hn h).mono ?_
    rintro e w' ⟨he, hBlk', hb', hk⟩
    exact ⟨he, hT.step (hk.2 go (blk_lt ho) (fun e => hne e.symm)) (fun _ _ hr => hr.kept hk hBlk hBlk'), hb', hk.mono (fun _ e => by rw [e]; exact hP)⟩

def laws_markTransS.l0 : Nat → List S79 → Int → Int → Option Int
  | 0, _, _, _ => none
  | k + 1, x0, x1, x5 => if x5 < (x0.length : Int) then (if 0 ≤ x5 then ((laws_markIntS.f k ((rd_T79 x0 x5).f0) x1).bind fun p => ((laws_markIntS.f k ((rd_T79 x0 x5).f1) p.1).bind fun q => ((laws_markIntS.f k ((rd_T79 x0 x5).f2) q.1).bind fun s => (laws_markTransS.l0 k x0 s.1 (wrap64 (x5 + 1)))))) else (none)) else (some x1)
def laws_markTransS.f (k : Nat) (l0 : List S79) (a1 : Int) : Option Int := laws_markTransS.l0 k l0 a1 0
set_option maxHeartbeats 8000000 in
set_option maxRecDepth 100000 in
theorem laws_markTransS.calls (k : Nat) (P0_ : Nat → Prop) (u9000_ : Value) (l0 : List S79) (a1 : Int) (r : Int) (w0 w : World) (hB : Below w0.heap.size w0 w) (ho0 : Kd.S k79 79 w w0.heap.size P0_ u9000_ l0) (h : laws_markTransS.f k l0 a1 = some r) :
    Calls Try.prog 60 #[u9000_, .int .i64 a1] w fun e w' => e = .returned (.int .i64 r) ∧ Below w0.heap.size w0 w' ∧ Kept w w' (fun k_ => P0_ k_) := by
  have huT := Try.underlying79
  have huS := Try.underlying28
  obtain ⟨Ao, co, eo⟩ := Kd.S_slice ho0
  subst eo
  have hgo : l0.length = 0 ∨ ∃ go, Ao = some ⟨go, 0, none⟩ := by
    by_cases hz : l0.length = 0
    · exact .inl hz
    · obtain ⟨g, cap, e, _⟩ := Kd.S_form ho0 (by omega)
      injection e with e1 _ _
      exact .inr ⟨g, e1⟩
  have HK := Aside0.mk (Kept.refl w P0_)
  have HB := Aside0.mk hB
  have H : (laws_markTransS.l0 k l0 a1 0) = some r := h
  clear h
  have H' := Aside0.mk H
  clear H
  have HT : Aside0 (∀ go, Ao = some ⟨go, 0, none⟩ → Trios w w0.heap.size P0_ go l0) := ⟨fun go e => by subst e; exact Trios.of ho0⟩
  clear hB ho0
  go_enter Try.func60, Try.ntmps60
  go_wp2
  go_loopg [1, 5] k (fun kq v1 v5 w' => ∃ (x1_1 : Int) (x5_1 : Int), v1 = .int .i64 x1_1 ∧ v5 = .int .i64 x5_1 ∧ Aside0 (laws_markTransS.l0 kq l0 x1_1 x5_1 = some r) ∧ Aside0 (kq ≤ k) ∧ Aside0 (∀ go, Ao = some ⟨go, 0, none⟩ → Trios w' w0.heap.size P0_ go l0) ∧ Aside0 (Kept w w' P0_) ∧ Aside0 (Below w0.heap.size w0 w'))
  case atStart => exact ⟨(a1), (0), (by first | rfl | (simp; done) | (simp [*]; done)), (by first | rfl | (simp; done) | (simp [*]; done)), H', ⟨Nat.le_refl _⟩, ⟨fun go e => by (with_reducible repeat (first | apply Trios.alloc | apply Trios.drewN | apply Trios.drew)); exact HT.out go e⟩, ⟨by repeat (first | (with_reducible first | exact HK.out | apply Kept.alloc | apply Kept.drewN | apply Kept.drew) | exact HK.out)⟩, ⟨by repeat (first | (with_reducible first | exact HB.out | apply below_alloc | apply pw_below_drewN | apply below_drew1) | exact HB.out)⟩⟩
  case round =>
    clear H' HT HK HB
    try clear c1
    try clear p2
    obtain ⟨x1_1, x5_1, rfl, rfl, HA, HK1, HT, HK, HB⟩ := hrel
    cases gk with
    | zero => exact absurd HA.out (by simp [laws_markTransS.l0])
    | succ k1 =>
      have H := HA.out
      clear HA
      simp only [laws_markTransS.l0] at H
      by_cases c3 : x5_1 < (l0.length : Int)
      · rw [if_pos c3] at H
        have c3b0 : decide (x5_1 < (l0.length : Int)) = true := decide_eq_true c3
        by_cases c4 : 0 ≤ x5_1
        · rw [if_pos c4] at H
          have c4b0 : decide (0 ≤ x5_1) = true := decide_eq_true c4
          replace H := Option.bind_eq_some_iff.mp H
          obtain ⟨⟨p1, p2⟩, A0, H⟩ := H
          replace H := Option.bind_eq_some_iff.mp H
          obtain ⟨⟨q1, q2⟩, A1, H⟩ := H
          replace H := Option.bind_eq_some_iff.mp H
          obtain ⟨⟨s1, s2⟩, A2, H⟩ := H
          have H' := Aside0.mk H
          clear H
          obtain ⟨go, rfl⟩ := hgo.resolve_left (by omega)
          obtain ⟨v0, v1, v2, e0, e1, e2, r0, r1, r2⟩ := (HT.out go rfl).2 x5_1.toNat (by omega)
          have hx0 : wr.cell? ⟨go, x5_1.toNat * 3, none⟩ = some v0 := e0
          have B0 := Aside0.mk A0
          have B1 := Aside0.mk A1
          have B2 := Aside0.mk A2
          have R0 := Aside0.mk r0
          clear A0 A1 A2 e0 e1 e2 r0 r1 r2
          clear c3 c4
          have p5 : 0 ≤ (x5_1 : Int) := of_decide_eq_true (by first | (with_reducible assumption) | assumption)
          have q5 : (x5_1 : Int) < (l0.length : Int) := of_decide_eq_true (by first | (with_reducible assumption) | assumption)
          replace p5 := eq_true p5
          replace q5 := eq_true q5
          go_wp2_with (first | ((with_reducible refine gate_callee (f := 22) rfl ?_); refine goesL_ (some 18) rfl rfl Try.func22 (by kernel_rfl) rfl #[v0, .int .i64 x1_1] rfl (by (try simp only [List.map_toArray, List.map_cons, List.map_nil]); first | done | rfl) ?_; (refine (markRow (w0 := w0) (go := go) (P := P0_) (l := l0) ?side1 ?side2 ?side3 B0.out).mono ?_); (case side1 => repeat (first | (with_reducible first | exact HB.out | apply below_alloc | apply pw_below_drewN | apply below_drew1) | exact HB.out)); (case side2 => (with_reducible repeat (first | apply Trios.alloc | apply Trios.drewN | apply Trios.drew)); exact HT.out go rfl); (case side3 => exact R0.out); rintro e w8 ⟨rfl, hT, hb, hk⟩; refine ⟨_, rfl, ?_⟩; have n0_ := Aside0.mk (show ∀ g_, some (⟨go, 0, none⟩ : Addr) = some ⟨g_, 0, none⟩ → Trios w8 w0.heap.size P0_ g_ l0 from fun g_ e_ => by injection e_ with e_; injection e_ with e_; rw [← e_]; exact hT); have n1_ := Aside0.mk hb; have n2_ := Aside0.mk (Kept.then_ HK.out hk (fun k_ h_ => .inl h_)); clear HT; clear HB; clear HK; have HT := n0_; have HB := n1_; have HK := n2_; clear n0_ n1_ n2_; clear hT hb hk; obtain ⟨w0_1, w1_1, w2_1, e0, e1, e2, r0, r1, r2⟩ := (HT.out go rfl).2 x5_1.toNat (by have := of_eq_true q5; have := of_eq_true p5; omega); have hx1 : w8.cell? ⟨go, x5_1.toNat * 3 + 1, none⟩ = some w1_1 := e1; have R1 := Aside0.mk r1; clear e0 e1 e2 r0 r1 r2) | ((with_reducible refine gate_callee (f := 22) rfl ?_); refine goesL_ (some 25) rfl rfl Try.func22 (by kernel_rfl) rfl #[w1_1, .int .i64 p1] rfl (by (try simp only [List.map_toArray, List.map_cons, List.map_nil]); first | done | rfl) ?_; (refine (markRow (w0 := w0) (go := go) (P := P0_) (l := l0) ?side1 ?side2 ?side3 B1.out).mono ?_); (case side1 => repeat (first | (with_reducible first | exact HB.out | apply below_alloc | apply pw_below_drewN | apply below_drew1) | exact HB.out)); (case side2 => (with_reducible repeat (first | apply Trios.alloc | apply Trios.drewN | apply Trios.drew)); exact HT.out go rfl); (case side3 => exact R1.out); rintro e w9 ⟨rfl, hT, hb, hk⟩; refine ⟨_, rfl, ?_⟩; have n0_ := Aside0.mk (show ∀ g_, some (⟨go, 0, none⟩ : Addr) = some ⟨g_, 0, none⟩ → Trios w9 w0.heap.size P0_ g_ l0 from fun g_ e_ => by injection e_ with e_; injection e_ with e_; rw [← e_]; exact hT); have n1_ := Aside0.mk hb; have n2_ := Aside0.mk (Kept.then_ HK.out hk (fun k_ h_ => .inl h_)); clear HT; clear HB; clear HK; have HT := n0_; have HB := n1_; have HK := n2_; clear n0_ n1_ n2_; clear hT hb hk; obtain ⟨w0_2, w1_2, w2_2, e0, e1, e2, r0, r1, r2⟩ := (HT.out go rfl).2 x5_1.toNat (by have := of_eq_true q5; have := of_eq_true p5; omega); have hx2 : w9.cell? ⟨go, x5_1.toNat * 3 + 2, none⟩ = some w2_2 := e2; have R2 := Aside0.mk r2; clear e0 e1 e2 r0 r1 r2) | ((with_reducible refine gate_callee (f := 22) rfl ?_); refine goesL_ (some 32) rfl rfl Try.func22 (by kernel_rfl) rfl #[w2_2, .int .i64 q1] rfl (by (try simp only [List.map_toArray, List.map_cons, List.map_nil]); first | done | rfl) ?_; (refine (markRow (w0 := w0) (go := go) (P := P0_) (l := l0) ?side1 ?side2 ?side3 B2.out).mono ?_); (case side1 => repeat (first | (with_reducible first | exact HB.out | apply below_alloc | apply pw_below_drewN | apply below_drew1) | exact HB.out)); (case side2 => (with_reducible repeat (first | apply Trios.alloc | apply Trios.drewN | apply Trios.drew)); exact HT.out go rfl); (case side3 => exact R2.out); rintro e w10 ⟨rfl, hT, hb, hk⟩; refine ⟨_, rfl, ?_⟩; have n0_ := Aside0.mk (show ∀ g_, some (⟨go, 0, none⟩ : Addr) = some ⟨g_, 0, none⟩ → Trios w10 w0.heap.size P0_ g_ l0 from fun g_ e_ => by injection e_ with e_; injection e_ with e_; rw [← e_]; exact hT); have n1_ := Aside0.mk hb; have n2_ := Aside0.mk (Kept.then_ HK.out hk (fun k_ h_ => .inl h_)); clear HT; clear HB; clear HK; have HT := n0_; have HB := n1_; have HK := n2_; clear n0_ n1_ n2_; clear hT hb hk))
          go_roundg k1
          case measure => have := HK1.out; omega
          case rel => exact ⟨(s1), (wrap64 (x5_1 + 1)), (by first | rfl | (simp; done) | (simp [*]; done)), (by first | rfl | (simp; done) | (simp [*]; done)), H', ⟨by have := HK1.out; omega⟩, ⟨fun g_ e_ => by (with_reducible repeat (first | apply Trios.alloc | apply Trios.drewN | apply Trios.drew)); exact HT.out g_ e_⟩, ⟨by repeat (first | (with_reducible first | exact HK.out | apply Kept.alloc | apply Kept.drewN | apply Kept.drew) | exact HK.out)⟩, ⟨by repeat (first | (with_reducible first | exact HB.out | apply below_alloc | apply pw_below_drewN | apply below_drew1) | exact HB.out)⟩⟩
        · rw [if_neg c4] at H
          exact absurd H (by simp)
      · rw [if_neg c3] at H
        have c3b0 : decide (x5_1 < (l0.length : Int)) = false := decide_eq_false c3
        clear c3
        obtain rfl := Option.some.inj H
        go_wp2
        go_ret
        exact ⟨by first | rfl | (simp [errW_none, errW_some] <;> rfl) | (simp [*, errW_none, errW_some] <;> rfl), by repeat (first | (with_reducible first | exact HB.out | apply below_alloc | apply pw_below_drewN | apply below_drew1) | exact HB.out), by repeat (first | (with_reducible first | exact HK.out | apply Kept.alloc | apply Kept.drewN | apply Kept.drew) | exact HK.out)⟩

/-! ### laws_markNet: function 21 -/
def laws_markNet.f (k : Nat) (a0_0 : Int) (l0_1 : List S79) (a1 : Int) : Option Int := laws_markTransS.f k l0_1 a1
set_option maxHeartbeats 8000000 in
set_option maxRecDepth 100000 in
theorem laws_markNet.calls (k : Nat) (a0_0 : Int) (P0_1_ : Nat → Prop) (u9000_ : Value) (l0_1 : List S79) (a1 : Int) (r : Int) (w0 w : World) (hB : Below w0.heap.size w0 w) (ho0 : Kd.S k79 79 w w0.heap.size P0_1_ u9000_ l0_1) (h : laws_markNet.f k a0_0 l0_1 a1 = some r) :
    Calls Try.prog 21 #[.agg #[.int .i64 a0_0, u9000_], .int .i64 a1] w fun e w' => e = .returned (.int .i64 r) ∧ Below w0.heap.size w0 w' ∧ Kept w w' (fun k_ => P0_1_ k_) := by
  have huN := Try.underlying30
  have HO := Aside0.mk ho0
  have HK := Aside0.mk (Kept.refl w P0_1_)
  have HB := Aside0.mk hB
  have H := Aside0.mk h
  obtain ⟨Ao, co, rfl⟩ := Kd.S_slice ho0
  clear hB ho0 h
  go_enter Try.func21, Try.ntmps21
  go_wp2_with (((with_reducible refine gate_callee (f := 60) rfl ?_); refine goesL_ (some 8) rfl rfl Try.func60 (by kernel_rfl) rfl #[.slice Ao l0_1.length co, .int .i64 a1] rfl (by (try simp only [List.map_toArray, List.map_cons, List.map_nil]); first | done | rfl) ?_; (refine (laws_markTransS.calls k P0_1_ (.slice Ao l0_1.length co) l0_1 a1 r w0 _ ?side1 ?side2 H.out).mono ?_); (case side1 => repeat (first | (with_reducible first | exact HB.out | apply below_alloc | apply pw_below_drewN | apply below_drew1) | exact HB.out)); (case side2 => (with_reducible repeat (first | apply Kd.S_alloc | apply Kd.S_drewN | apply Kd.S_drew)); exact HO.out); rintro e w8 ⟨rfl, hb, hk⟩; refine ⟨_, rfl, ?_⟩; have n1_ := Aside0.mk hb; have n2_ := Aside0.mk (Kept.then_ (S := P0_1_) (show Kept w _ P0_1_ by repeat (first | (with_reducible first | exact HK.out | apply Kept.alloc | apply Kept.drewN | apply Kept.drew) | exact HK.out)) hk (fun k_ h_ => .inl h_)); clear HB; clear HK; have HB := n1_; have HK := n2_; clear n1_ n2_; clear hb hk))
  go_ret
  exact ⟨by first | rfl | (simp [errW_none, errW_some] <;> rfl) | (simp [*, errW_none, errW_some] <;> rfl), by repeat (first | (with_reducible first | exact HB.out | apply below_alloc | apply pw_below_drewN | apply below_drew1) | exact HB.out), by repeat (first | (with_reducible first | exact HK.out | apply Kept.alloc | apply Kept.drewN | apply Kept.drew) | exact HK.out)⟩

/-! ### laws_markFlow: function 33 -/
def laws_markFlow.f (k : Nat) (a0_0 : Int) (l0_1 : List S79) (a0_2 a0_3 : Int) (a1 : Int) : Option Int := laws_markNet.f k a0_0 l0_1 a1
set_option maxHeartbeats 8000000 in
set_option maxRecDepth 100000 in
theorem laws_markFlow.calls (k : Nat) (a0_0 : Int) (P0_1_ : Nat → Prop) (u9000_ : Value) (l0_1 : List S79) (a0_2 a0_3 : Int) (a1 : Int) (r : Int) (w0 w : World) (hB : Below w0.heap.size w0 w) (ho0 : Kd.S k79 79 w w0.heap.size P0_1_ u9000_ l0_1) (h : laws_markFlow.f k a0_0 l0_1 a0_2 a0_3 a1 = some r) :
    Calls Try.prog 33 #[.agg #[.int .i64 a0_0, u9000_, .int .i64 a0_2, .int .i64 a0_3], .int .i64 a1] w fun e w' => e = .returned (.int .i64 r) ∧ Below w0.heap.size w0 w' ∧ Kept w w' (fun k_ => P0_1_ k_) := by
  have huN := Try.underlying46
  have huM := Try.underlying30
  have HO := Aside0.mk ho0
  have HK := Aside0.mk (Kept.refl w P0_1_)
  have HB := Aside0.mk hB
  have H := Aside0.mk h
  obtain ⟨Ao, co, rfl⟩ := Kd.S_slice ho0
  clear hB ho0 h
  go_enter Try.func33, Try.ntmps33
  go_wp2_with (((with_reducible refine gate_callee (f := 21) rfl ?_); refine goesL_ (some 8) rfl rfl Try.func21 (by kernel_rfl) rfl #[.agg #[.int .i64 a0_0, .slice Ao l0_1.length co], .int .i64 a1] rfl (by (try simp only [List.map_toArray, List.map_cons, List.map_nil]); first | done | rfl) ?_; (refine (laws_markNet.calls k a0_0 P0_1_ (.slice Ao l0_1.length co) l0_1 a1 r w0 _ ?side1 ?side2 H.out).mono ?_); (case side1 => repeat (first | (with_reducible first | exact HB.out | apply below_alloc | apply pw_below_drewN | apply below_drew1) | exact HB.out)); (case side2 => (with_reducible repeat (first | apply Kd.S_alloc | apply Kd.S_drewN | apply Kd.S_drew)); exact HO.out); rintro e w8 ⟨rfl, hb, hk⟩; refine ⟨_, rfl, ?_⟩; have n1_ := Aside0.mk hb; have n2_ := Aside0.mk (Kept.then_ (S := P0_1_) (show Kept w _ P0_1_ by repeat (first | (with_reducible first | exact HK.out | apply Kept.alloc | apply Kept.drewN | apply Kept.drew) | exact HK.out)) hk (fun k_ h_ => .inl h_)); clear HB; clear HK; have HB := n1_; have HK := n2_; clear n1_ n2_; clear hb hk))
  go_ret
  exact ⟨by first | rfl | (simp [errW_none, errW_some] <;> rfl) | (simp [*, errW_none, errW_some] <;> rfl), by repeat (first | (with_reducible first | exact HB.out | apply below_alloc | apply pw_below_drewN | apply below_drew1) | exact HB.out), by repeat (first | (with_reducible first | exact HK.out | apply Kept.alloc | apply Kept.drewN | apply Kept.drew) | exact HK.out)⟩

end Go.Proofs.Ytaadkpbpkeckdaa.F
