-- Written by a program of this session (fork.py, fprint.sh). Lean checks it.
import Derived.Test.YtbkjgnfnjgebiaaDoorF0
import Derived.Test.YtbkjgnfnjgebiaaDoorF1
namespace Go.Proofs.YtbkjgnfnjgebiaaDoor.F
open Go.RowKit Go.Proofs.YtbkjgnfnjgebiaaDoorW.PrintWords Go.Proofs.YtbkjgnfnjgebiaaDoorW.PrintLast Go.Proofs.YtbkjgnfnjgebiaaDoorW.PrintMore
attribute [local go_sem] max2_int min2_int max_two min_two max_three min_three max_four min_four   -- for this text's walks alone
set_option linter.unusedVariables false
set_option linter.unusedSimpArgs false

/-! ### spec_l1Split: function 17 -/
def spec_l1Split.l0 : Nat → ByteArray → Int → List ByteArray → Int → Int → Option (List ByteArray)
  | 0, _, _, _, _, _ => none
  | k + 1, x0, x1, x5, x6, x7 => if x7 < (x0.size : Int) then (if 0 ≤ x7 then (if (bt x0 x7) = x1 then (if 0 ≤ x6 then (if x6 ≤ x7 then (if x7 ≤ (x0.size : Int) then (if x5.length < 8796093022208 then (spec_l1Split.l0 k x0 x1 (x5 ++ [x0.extract (x6 : Int).toNat (x7 : Int).toNat]) (wrap64 (x7 + 1)) (wrap64 (x7 + 1))) else (none)) else (none)) else (none)) else (none)) else (spec_l1Split.l0 k x0 x1 x5 x6 (wrap64 (x7 + 1)))) else (none)) else (if 0 ≤ x6 then (if x6 ≤ (x0.size : Int) then (if x5.length < 8796093022208 then (some (x5 ++ [x0.extract (x6 : Int).toNat x0.size])) else (none)) else (none)) else (none))
def spec_l1Split.f (k : Nat) (a0 : ByteArray) (a1 : Int) : Option (List ByteArray) := spec_l1Split.l0 k a0 a1 ([] : List ByteArray) 0 0
set_option maxHeartbeats 8000000 in
set_option maxRecDepth 100000 in
theorem spec_l1Split.calls (k : Nat) (a0 : ByteArray) (a1 : Int) (r : List ByteArray) (w : World) (h : spec_l1Split.f k a0 a1 = some r) :
    Calls Tryd.prog 17 #[.string a0, .int .u8 a1] w fun e w' => ∃ v0_ : Value, e = .returned (v0_) ∧ Kd.R Kd.string 9 w' w.heap.size (fun _ => True) v0_ r ∧ Below w.heap.size w w' := by
  have HB := q_ (Below.refl w.heap.size w); have H : (spec_l1Split.l0 k a0 a1 ([] : List ByteArray) 0 0) = some r := h; clear h; have H' := q_ H; clear H; go_enter Tryd.func17, Tryd.ntmps17; go_wp2; go_loopg [5, 6, 7] k (fun kq v5 v6 v7 w' => ∃ (x5_1 : List ByteArray) (x6_1 : Int) (x7_1 : Int), v6 = .int .i64 x6_1 ∧ v7 = .int .i64 x7_1 ∧ Aside0 (spec_l1Split.l0 kq a0 a1 x5_1 x6_1 x7_1 = some r) ∧ Aside0 (kq ≤ k) ∧ Aside0 (Kd.R Kd.string 9 w' w.heap.size (fun _ => True) v5 x5_1) ∧ Aside0 (Below w.heap.size w w'))
  case atStart => exact ⟨(([] : List ByteArray)), (0), (0), eqv, eqv, H', ⟨Nat.le_refl _⟩, ⟨by first | exact Kd.R_nil _ _ _ _ _ | exact Kd.N_nil _ _ _ _ _ | exact Kd.V_nil _ _ _ _ _ | exact Kd.Q_nil _ _ _ _ _ | exact Kd.S_nil _ _ _ _ _⟩, ⟨by exact bv HB.out⟩⟩
  case round =>
   clear H'; obtain ⟨x5_1, x6_1, x7_1, rfl, rfl, HA, HK1, HO_5, HB⟩ := hrel
   cases gk with
   | zero => exact absurd HA.out (by simp [spec_l1Split.l0])
   | succ k1 =>
    have H := HA.out; clear HA; simp only [spec_l1Split.l0] at H
    by_cases c3 : x7_1 < (a0.size : Int)
    ·rw [if_pos c3] at H; have c3b0 : decide (x7_1 < (a0.size : Int)) = true := decide_eq_true c3; clear c3
     obtain ⟨c4, H⟩ := ifp_ H; have c4b0 : decide (0 ≤ x7_1) = true := decide_eq_true c4; clear c4
     by_cases c6 : (bt a0 x7_1) = a1
     ·rw [if_pos c6] at H; have c6b0 : ((bt a0 x7_1) == a1) = true := beq_iff_eq.mpr c6; have c6b1 : ((bt a0 x7_1) != a1) = false := bne_eq_false_iff_eq.mpr c6; clear c6
      obtain ⟨c7, H⟩ := ifp_ H; have c7b0 := eq_true c7; have c7b1 : decide (0 ≤ x6_1) = true := decide_eq_true c7; clear c7
      obtain ⟨c8, H⟩ := ifp_ H; have c8b0 := eq_true c8; have c8b1 : decide (x6_1 ≤ x7_1) = true := decide_eq_true c8; clear c8
      obtain ⟨c9, H⟩ := ifp_ H; have c9b0 := eq_true c9; have c9b1 : decide (x7_1 ≤ (a0.size : Int)) = true := decide_eq_true c9; clear c9
      obtain ⟨c10, H⟩ := ifp_ H; have LMc10 := q_ c10; clear c10; obtain ⟨y180, hy180⟩ : ∃ y_ : List ByteArray, y_ = (x5_1 ++ [a0.extract (x6_1 : Int).toNat (x7_1 : Int).toNat]) := ⟨_, rfl⟩; (replace H : (spec_l1Split.l0 k1 a0 a1 y180 (wrap64 (x7_1 + 1)) (wrap64 (x7_1 + 1))) = some r := by first | (rw [hy180]; with_reducible exact H) | (have H2_ := (Option.bind_some _ _).symm.trans H; rw [hy180]; with_reducible exact H2_) | (have H2_ := (Option.bind_some _ _).symm.trans H; with_reducible exact H2_) | with_reducible exact H | (rw [hy180]; exact H) | exact H); have Ny180 := q_ hy180; clear hy180; have H' := q_ H; clear H; have p5 : 0 ≤ (x7_1 : Int) := od; have q5 : x7_1 < (a0.size : Int) := od; have hx5 := bt_at a0 x7_1; replace p5 := eq_true p5; replace q5 := eq_true q5; go_wp2_with (first | ((with_reducible refine gate_builtin (b := .append) (xs := #[.tmp 19, .tmp 24]) rfl ?_); at_builtin; refine Kd.R_append Kd.string (w0 := w) w.heap.size rfl (.tmp 19) (.tmp 24) 35 9 (.string ⟨#[]⟩) 16 rfl Tryd.underlying35 info9 rfl (by decide) (by omega) u5 x5_1 (a0.extract (x6_1 : Int).toNat (x7_1 : Int).toNat) [.string (a0.extract (x6_1 : Int).toNat (x7_1 : Int).toNat)] (fun _ => True) (fun _ => False) rfl rfl ?aP (fun _ hk => hk.elim) ?aF ?aO ?aB ?aS ?aL ?_; (case aP => exact rfl); (case aB => exact (by exact bv HB.out)); (case aF => exact (fun _ _ => trivial)); (case aO => exact (by exact Kd.R_v HO_5.out)); (case aS => exact (below_size (by exact bv HB.out))); (case aL => have := LMc10.out; omega); intro v181 w11 ho hb hg hat; rw [← Ny180.out] at ho; have HO182 := q_ (ho); replace HB := q_ (hb); clear HO_5; clear ho hb hg hat)); go_roundg k1
      case measure => have := HK1.out; omega
      case rel => exact ⟨(y180), (wrap64 (x7_1 + 1)), (wrap64 (x7_1 + 1)), eqv, eqv, H', ⟨by have := HK1.out; omega⟩, ⟨by exact Kd.R_v HO182.out⟩, ⟨by exact bv HB.out⟩⟩
     ·rw [if_neg c6] at H; have c6b0 : ((bt a0 x7_1) == a1) = false := beq_eq_false_iff_ne.mpr c6; have c6b1 : ((bt a0 x7_1) != a1) = true := bne_iff_ne.mpr c6; have H' := q_ H; clear H; have p5 : 0 ≤ (x7_1 : Int) := od; have q5 : x7_1 < (a0.size : Int) := od; have hx5 := bt_at a0 x7_1; replace p5 := eq_true p5; replace q5 := eq_true q5; go_wp2; go_roundg k1
      case measure => have := HK1.out; omega
      case rel => exact ⟨(x5_1), (x6_1), (wrap64 (x7_1 + 1)), eqv, eqv, H', ⟨by have := HK1.out; omega⟩, ⟨by exact Kd.R_v HO_5.out⟩, ⟨by exact bv HB.out⟩⟩
    ·rw [if_neg c3] at H; have c3b0 : decide (x7_1 < (a0.size : Int)) = false := decide_eq_false c3; clear c3
     obtain ⟨c12, H⟩ := ifp_ H; have c12b0 := eq_true c12; have c12b1 : decide (0 ≤ x6_1) = true := decide_eq_true c12; clear c12
     obtain ⟨c13, H⟩ := ifp_ H; have c13b0 := eq_true c13; have c13b1 : decide (x6_1 ≤ (a0.size : Int)) = true := decide_eq_true c13; clear c13
     obtain ⟨c14, H⟩ := ifp_ H; have LMc14 := q_ c14; clear c14; obtain ⟨y183, hy183⟩ : ∃ y_ : List ByteArray, y_ = (x5_1 ++ [a0.extract (x6_1 : Int).toNat a0.size]) := ⟨_, rfl⟩; (replace H : (some y183) = some r := by first | (rw [hy183]; with_reducible exact H) | (have H2_ := (Option.bind_some _ _).symm.trans H; rw [hy183]; with_reducible exact H2_) | (have H2_ := (Option.bind_some _ _).symm.trans H; with_reducible exact H2_) | with_reducible exact H | (rw [hy183]; exact H) | exact H); have Ny183 := q_ hy183; clear hy183; obtain rfl := Option.some.inj H; go_wp2_with (first | ((with_reducible refine gate_builtin (b := .append) (xs := #[.tmp 28, .tmp 32]) rfl ?_); at_builtin; refine Kd.R_append Kd.string (w0 := w) w.heap.size rfl (.tmp 28) (.tmp 32) 35 9 (.string ⟨#[]⟩) 16 rfl Tryd.underlying35 info9 rfl (by decide) (by omega) u5 x5_1 (a0.extract (x6_1 : Int).toNat a0.size) [.string (a0.extract (x6_1 : Int).toNat a0.size)] (fun _ => True) (fun _ => False) rfl rfl ?aP (fun _ hk => hk.elim) ?aF ?aO ?aB ?aS ?aL ?_; (case aP => exact rfl); (case aB => exact (by exact bv HB.out)); (case aF => exact (fun _ _ => trivial)); (case aO => exact (by exact Kd.R_v HO_5.out)); (case aS => exact (below_size (by exact bv HB.out))); (case aL => have := LMc14.out; omega); intro v184 w15 ho hb hg hat; rw [← Ny183.out] at ho; have HO185 := q_ (ho); replace HB := q_ (hb); clear HO_5; clear ho hb hg hat)); go_ret; exact ⟨_, by first | rfl | (simp [errW_none, errW_some] <;> rfl) | (simp [*, errW_none, errW_some] <;> rfl), by exact Kd.R_v HO185.out, by exact bv HB.out⟩

/-! ### spec_l1Read: function 18 -/
mutual
def spec_l1Read.j0 : Nat → ByteArray → Bool → Option (Int)
  | 0, _, _ => none
  | k + 1, x0, x18 => if x18 = true then (some (-1)) else (spec_l1Read.l0 k x0 0 0)
def spec_l1Read.l0 : Nat → ByteArray → Int → Int → Option (Int)
  | 0, _, _, _ => none
  | k + 1, x0, x3, x4 => if x4 < (x0.size : Int) then (if 0 ≤ x4 then (if (bt x0 x4) < 48 then (some (-1)) else (if (bt x0 x4) > 57 then (some (-1)) else (spec_l1Read.l0 k x0 (wrap64 ((wrap64 (10 * x3)) + (((bt x0 x4) - 48) % 256))) (wrap64 (x4 + 1))))) else (none)) else (some x3)
end
def spec_l1Read.f (k : Nat) (a0 : ByteArray) : Option (Int) := (spec_l1In.f (a0.size : Int) 1 6).bind fun t186 => (if t186 = true then (if 0 < (a0.size : Int) then (if (bt a0 0) = 48 then (spec_l1Read.j0 k a0 (decide ((a0.size : Int) > 1))) else (spec_l1Read.j0 k a0 false)) else (none)) else (spec_l1Read.j0 k a0 true))
set_option maxHeartbeats 8000000 in
set_option maxRecDepth 100000 in
theorem spec_l1Read.calls (k : Nat) (a0 : ByteArray) (r : Int) (w : World) (h : spec_l1Read.f k a0 = some r) :
    Calls Tryd.prog 18 #[.string a0] w fun e w' => e = .returned (.int .i64 r) ∧ Drawn0 w w' := by
  have H : ((spec_l1In.f (a0.size : Int) 1 6).bind fun t186 => (if t186 = true then (if 0 < (a0.size : Int) then (if (bt a0 0) = 48 then (spec_l1Read.j0 k a0 (decide ((a0.size : Int) > 1))) else (spec_l1Read.j0 k a0 false)) else (none)) else (spec_l1Read.j0 k a0 true))) = some r := h; clear h; have HC2 := q_ H; clear H; go_enter Tryd.func18, Tryd.ntmps18
  go_upto_region 1 with (fail)
  go_cut [18] (fun v18 wc => ∃ (kq : Nat) (x18_1 : Bool), v18 = .bool x18_1 ∧ Aside0 (spec_l1Read.j0 kq a0 x18_1 = some r) ∧ Aside0 (kq ≤ k) ∧ Drawn0 w wc)
  case first =>
   have H := HC2.out; clear HC2; obtain ⟨t186, A3, H⟩ := bnd_ H
   by_cases c4 : t186 = true
   ·subst c4; replace H := itt_ H
    obtain ⟨c5, H⟩ := ifp_ H; have c5b0 : decide (0 < (a0.size : Int)) = true := decide_eq_true c5; have c5b1 : decide (0 < a0.size) = true := decide_eq_true (by omega); clear c5; (first | rw [c5b0] | rw [c5b1] | (simp only [i64_w, i32_w]; rw [c5b0]) | skip)
    by_cases c7 : (bt a0 0) = 48
    ·rw [if_pos c7] at H; have c7b0 : ((bt a0 0) == 48) = true := beq_iff_eq.mpr c7; have c7b1 : ((bt a0 0) != 48) = false := bne_eq_false_iff_eq.mpr c7; clear c7; have H' := q_ H; clear H; go_wp2_with (first | (refine goesM (some 7) rfl rfl Tryd.func29 #[.int .i64 (a0.size : Int), .int .i64 1, .int .i64 6] rfl ?_; (with_reducible refine (spec_l1In.calls (a0.size : Int) 1 6 true _ A3.out).mono ?_); rintro e w' ⟨rfl, ⟨nd, rfl⟩⟩; refine ⟨_, rfl, ?_⟩; have p6 : 0 ≤ (0 : Int) := (by omega); have q6 : 0 < a0.size := (by have : (0 : Int) < (a0.size : Int) := od; omega); have hx6 : ∀ h : 0 < a0.size, ((a0[0]'h).toNat : Int) = bt a0 0 := bt_at a0 0; clear p6; have qi6 : (0 < (a0.size : Int)) = True := eq_true (od); replace q6 := eq_true q6)); go_meet
     case rel => exact ⟨_, (decide ((a0.size : Int) > 1)), eqv, H', ⟨by first | omega | exact Nat.le_refl _⟩, by repeat (first | exact Drawn0.refl _ | apply Drawn0.step)⟩
    ·rw [if_neg c7] at H; have c7b0 : ((bt a0 0) == 48) = false := beq_eq_false_iff_ne.mpr c7; have c7b1 : ((bt a0 0) != 48) = true := bne_iff_ne.mpr c7; have H' := q_ H; clear H; go_wp2_with (first | (refine goesM (some 7) rfl rfl Tryd.func29 #[.int .i64 (a0.size : Int), .int .i64 1, .int .i64 6] rfl ?_; (with_reducible refine (spec_l1In.calls (a0.size : Int) 1 6 true _ A3.out).mono ?_); rintro e w' ⟨rfl, ⟨nd, rfl⟩⟩; refine ⟨_, rfl, ?_⟩; have p6 : 0 ≤ (0 : Int) := (by omega); have q6 : 0 < a0.size := (by have : (0 : Int) < (a0.size : Int) := od; omega); have hx6 : ∀ h : 0 < a0.size, ((a0[0]'h).toNat : Int) = bt a0 0 := bt_at a0 0; clear p6; have qi6 : (0 < (a0.size : Int)) = True := eq_true (od); replace q6 := eq_true q6)); go_meet
     case rel => exact ⟨_, (false), eqv, H', ⟨by first | omega | exact Nat.le_refl _⟩, by repeat (first | exact Drawn0.refl _ | apply Drawn0.step)⟩
   ·replace c4 := Bool.eq_false_iff.mpr c4; subst c4; replace H := iff_ H; have H' := q_ H; clear H; go_wp2_with (first | (refine goesM (some 7) rfl rfl Tryd.func29 #[.int .i64 (a0.size : Int), .int .i64 1, .int .i64 6] rfl ?_; (with_reducible refine (spec_l1In.calls (a0.size : Int) 1 6 false _ A3.out).mono ?_); rintro e w' ⟨rfl, ⟨nd, rfl⟩⟩; refine ⟨_, rfl, ?_⟩)); go_meet
    case rel => exact ⟨_, (true), eqv, H', ⟨by first | omega | exact Nat.le_refl _⟩, by repeat (first | exact Drawn0.refl _ | apply Drawn0.step)⟩
  case rest =>
   clear HC2; obtain ⟨kq, x18_1, rfl, HA, HJ1, ⟨mc1, rfl⟩⟩ := hcut
   cases kq with
   | zero => exact absurd HA.out (by simp [spec_l1Read.j0])
   | succ kj1 =>
    have H := HA.out; clear HA; simp only [spec_l1Read.j0] at H
    by_cases c8 : x18_1 = true
    ·subst c8; replace H := itt_ H; obtain rfl := Option.some.inj H; go_wp2; go_ret; exact ⟨by first | rfl | (simp; done) | (simp [*]; done), by repeat (first | exact Drawn0.refl _ | apply Drawn0.step)⟩
    ·replace c8 := Bool.eq_false_iff.mpr c8; subst c8; replace H := iff_ H; have H' := q_ H; clear H; go_wp2; go_loopg [3, 4] kj1 (fun kq v3 v4 w' => ∃ (x3_2 : Int) (x4_2 : Int), v3 = .int .i64 x3_2 ∧ v4 = .int .i64 x4_2 ∧ Aside0 (spec_l1Read.l0 kq a0 x3_2 x4_2 = some r) ∧ Aside0 (kq ≤ kj1) ∧ Drawn0 w w')
     case atStart => exact ⟨(0), (0), eqv, eqv, H', ⟨Nat.le_refl _⟩, by repeat (first | exact Drawn0.refl _ | apply Drawn0.step)⟩
     case round =>
      clear H'; (try clear c8); obtain ⟨x3_2, x4_2, rfl, rfl, HA, HK2, ⟨m2, rfl⟩⟩ := hrel
      cases gk with
      | zero => exact absurd HA.out (by simp [spec_l1Read.l0])
      | succ k2 =>
       have H := HA.out; clear HA; simp only [spec_l1Read.l0] at H
       by_cases c9 : x4_2 < (a0.size : Int)
       ·rw [if_pos c9] at H; have c9b0 : decide (x4_2 < (a0.size : Int)) = true := decide_eq_true c9; clear c9
        obtain ⟨c10, H⟩ := ifp_ H; have c10b0 : decide (0 ≤ x4_2) = true := decide_eq_true c10; clear c10
        by_cases c12 : (bt a0 x4_2) < 48
        ·rw [if_pos c12] at H; have c12b0 : decide ((bt a0 x4_2) < 48) = true := decide_eq_true c12; clear c12; obtain rfl := Option.some.inj H; have p11 : 0 ≤ (x4_2 : Int) := od; have q11 : x4_2 < (a0.size : Int) := od; have hx11 := bt_at a0 x4_2; replace p11 := eq_true p11; replace q11 := eq_true q11; go_wp2; go_ret; exact ⟨by first | rfl | (simp; done) | (simp [*]; done), by repeat (first | exact Drawn0.refl _ | apply Drawn0.step)⟩
        ·rw [if_neg c12] at H; have c12b0 : decide ((bt a0 x4_2) < 48) = false := decide_eq_false c12; clear c12
         by_cases c14 : (bt a0 x4_2) > 57
         ·rw [if_pos c14] at H; have c14b0 : decide (57 < (bt a0 x4_2)) = true := decide_eq_true c14; clear c14; obtain rfl := Option.some.inj H; have p11 : 0 ≤ (x4_2 : Int) := od; have q11 : x4_2 < (a0.size : Int) := od; have hx11 := bt_at a0 x4_2; replace p11 := eq_true p11; replace q11 := eq_true q11; have p13 : 0 ≤ (x4_2 : Int) := od; have q13 : x4_2 < (a0.size : Int) := od; have hx13 := bt_at a0 x4_2; replace p13 := eq_true p13; replace q13 := eq_true q13; go_wp2; go_ret; exact ⟨by first | rfl | (simp; done) | (simp [*]; done), by repeat (first | exact Drawn0.refl _ | apply Drawn0.step)⟩
         ·rw [if_neg c14] at H; have c14b0 : decide (57 < (bt a0 x4_2)) = false := decide_eq_false c14; clear c14; have H' := q_ H; clear H; have p11 : 0 ≤ (x4_2 : Int) := od; have q11 : x4_2 < (a0.size : Int) := od; have hx11 := bt_at a0 x4_2; replace p11 := eq_true p11; replace q11 := eq_true q11; have p13 : 0 ≤ (x4_2 : Int) := od; have q13 : x4_2 < (a0.size : Int) := od; have hx13 := bt_at a0 x4_2; replace p13 := eq_true p13; replace q13 := eq_true q13; have p15 : 0 ≤ (x4_2 : Int) := od; have q15 : x4_2 < (a0.size : Int) := od; have hx15 := bt_at a0 x4_2; replace p15 := eq_true p15; replace q15 := eq_true q15; go_wp2; go_roundg k2
          case measure => have := HJ1.out; have := HK2.out; omega
          case rel => exact ⟨(wrap64 ((wrap64 (10 * x3_2)) + (((bt a0 x4_2) - 48) % 256))), (wrap64 (x4_2 + 1)), eqv, eqv, H', ⟨by have := HJ1.out; have := HK2.out; omega⟩, by repeat (first | exact Drawn0.refl _ | apply Drawn0.step)⟩
       ·rw [if_neg c9] at H; have c9b0 : decide (x4_2 < (a0.size : Int)) = false := decide_eq_false c9; clear c9; obtain rfl := Option.some.inj H; go_wp2; go_ret; exact ⟨by first | rfl | (simp; done) | (simp [*]; done), by repeat (first | exact Drawn0.refl _ | apply Drawn0.step)⟩

/-! ### spec_ReadMark: function 9 -/
def spec_ReadMark.l0 : Nat → Int → List Int → List ByteArray → Int → Int → Option (List Int × Bool)
  | 0, _, _, _, _, _ => none
  | k + 1, x0, x6, x13, x14, x15 => if x15 < x14 then (if 0 ≤ x15 then (if x15 < (x13.length : Int) then ((spec_l1Read.f k (rdOf ByteArray.empty x13 x15)).bind fun t191 => (if x6.length < 17592186044416 then (spec_ReadMark.l0 k x0 (x6 ++ [t191]) x13 x14 (wrap64 (x15 + 1))) else (none))) else (none)) else (none)) else ((spec_GoodMark.f k x0 x6).bind fun t195 => (if t195 = true then (some (x6, true)) else (some (([] : List Int), false))))
def spec_ReadMark.f (k : Nat) (a0 : Int) (a1 : ByteArray) : Option (List Int × Bool) := if (a1.size : Int) > 100 then (some (([] : List Int), false)) else ((spec_l1Split.f k a1 32).bind fun t187 => (spec_ReadMark.l0 k a0 ([] : List Int) t187 (t187.length : Int) 0))
set_option maxHeartbeats 8000000 in
set_option maxRecDepth 100000 in
theorem spec_ReadMark.calls (k : Nat) (a0 : Int) (a1 : ByteArray) (r1 : List Int) (r2 : Bool) (w : World) (h : spec_ReadMark.f k a0 a1 = some (r1, r2)) :
    Calls Tryd.prog 9 #[.int .i64 a0, .string a1] w fun e w' => ∃ v0_ : Value, e = .returned (.tuple #[v0_, .bool r2]) ∧ Kd.R (Kd.int .i64) 3 w' w.heap.size (fun _ => True) v0_ r1 ∧ Below w.heap.size w w' := by
  have HB := q_ (Below.refl w.heap.size w); have H : (if (a1.size : Int) > 100 then (some (([] : List Int), false)) else ((spec_l1Split.f k a1 32).bind fun t187 => (spec_ReadMark.l0 k a0 ([] : List Int) t187 (t187.length : Int) 0))) = some (r1, r2) := h; clear h
  by_cases c3 : (a1.size : Int) > 100
  ·rw [if_pos c3] at H; have c3b0 : decide (100 < (a1.size : Int)) = true := decide_eq_true c3; have c3b1 : decide (100 < a1.size) = true := decide_eq_true (by omega); clear c3; simp only [Option.some.injEq, Prod.mk.injEq] at H; obtain ⟨rfl, rfl⟩ := H; go_enter Tryd.func9, Tryd.ntmps9; go_wp2
   go_ret2
   exact ⟨_, by first | rfl | (simp [errW_none, errW_some] <;> rfl) | (simp [*, errW_none, errW_some] <;> rfl), by first | exact Kd.R_nil _ _ _ _ _ | exact Kd.N_nil _ _ _ _ _ | exact Kd.V_nil _ _ _ _ _ | exact Kd.Q_nil _ _ _ _ _ | exact Kd.S_nil _ _ _ _ _, by exact bv HB.out⟩
  ·rw [if_neg c3] at H; have c3b0 : decide (100 < (a1.size : Int)) = false := decide_eq_false c3; have c3b1 : decide (100 < a1.size) = false := decide_eq_false (by omega); clear c3; obtain ⟨t187, A4, H⟩ := bnd_ H; have H' := q_ H; clear H; go_enter Tryd.func9, Tryd.ntmps9; go_wp2_with (first | (refine goesM (some 13) rfl rfl Tryd.func17 #[.string a1, .int .u8 32] rfl ?_; (with_reducible refine (spec_l1Split.calls k a1 32 t187 _ A4.out).mono ?_); rintro e w5 ⟨v188, rfl, ho0, hb⟩; refine ⟨_, rfl, ?_⟩; have HO189 := q_ (Kd.R_lower ho0 (below_size (by exact bv HB.out))); replace HB := q_ (below_step (by exact bv HB.out) hb); (try clear hb); (try clear hb2); (try clear hk); (try clear hi); (try clear ho0); obtain ⟨Ao6, co6, eo6⟩ := Kd.R_slice HO189.out; subst eo6)); go_loopg [6, 15] k (fun kq v6 v15 w' => ∃ (x6_1 : List Int) (x15_1 : Int), v15 = .int .i64 x15_1 ∧ Aside0 (spec_ReadMark.l0 kq a0 x6_1 t187 (t187.length : Int) x15_1 = some (r1, r2)) ∧ Aside0 (kq ≤ k) ∧ Aside0 (Kd.R (Kd.int .i64) 3 w' w.heap.size (fun _ => True) v6 x6_1) ∧ Aside0 (Kd.R Kd.string 9 w' w.heap.size (fun _ => True) (.slice Ao6 t187.length co6) t187) ∧ Aside0 (Below w.heap.size w w'))
   case atStart => exact ⟨(([] : List Int)), (0), eqv, H', ⟨Nat.le_refl _⟩, ⟨by first | exact Kd.R_nil _ _ _ _ _ | exact Kd.N_nil _ _ _ _ _ | exact Kd.V_nil _ _ _ _ _ | exact Kd.Q_nil _ _ _ _ _ | exact Kd.S_nil _ _ _ _ _⟩, ⟨by exact Kd.R_v HO189.out⟩, ⟨by exact bv HB.out⟩⟩
   case round =>
    clear H'; (try clear c3b0); (try clear c3b1); obtain ⟨x6_1, x15_1, rfl, HA, HK1, HO_6, HO_13, HB⟩ := hrel
    cases gk with
    | zero => exact absurd HA.out (by simp [spec_ReadMark.l0])
    | succ k1 =>
     have H := HA.out; clear HA; simp only [spec_ReadMark.l0] at H
     by_cases c7 : x15_1 < (t187.length : Int)
     ·rw [if_pos c7] at H; have c7b0 : decide (x15_1 < (t187.length : Int)) = true := decide_eq_true c7; clear c7
      obtain ⟨c8, H⟩ := ifp_ H; have c8b0 : decide (0 ≤ x15_1) = true := decide_eq_true c8; clear c8
      obtain ⟨c9, H⟩ := ifp_ H; have c9b0 : decide (x15_1 < (t187.length : Int)) = true := decide_eq_true c9; clear c9; obtain ⟨t191, A10, H⟩ := bnd_ H
      obtain ⟨c11, H⟩ := ifp_ H; have LMc11 := q_ c11; clear c11; obtain ⟨y192, hy192⟩ : ∃ y_ : List Int, y_ = (x6_1 ++ [t191]) := ⟨_, rfl⟩; (replace H : (spec_ReadMark.l0 k1 a0 y192 t187 (t187.length : Int) (wrap64 (x15_1 + 1))) = some (r1, r2) := by first | (rw [hy192]; with_reducible exact H) | (have H2_ := (Option.bind_some _ _).symm.trans H; rw [hy192]; with_reducible exact H2_) | (have H2_ := (Option.bind_some _ _).symm.trans H; with_reducible exact H2_) | with_reducible exact H | (rw [hy192]; exact H) | exact H); have Ny192 := q_ hy192; clear hy192; have H' := q_ H; clear H; have p190 : 0 ≤ (x15_1 : Int) := od; have q190 : x15_1 < (t187.length : Int) := od; obtain ⟨ad190, e190, hx190_0⟩ := Kd.at_string (Kd.R_reads' HO_13.out).2.2 x15_1 p190 q190
      cases e190
      replace p190 := eq_true p190; replace q190 := eq_true q190; go_wp2_with (first | (refine goesM (some 21) rfl rfl Tryd.func18 #[.string (rdOf ByteArray.empty t187 x15_1)] rfl ?_; (with_reducible refine (spec_l1Read.calls k1 (rdOf ByteArray.empty t187 x15_1) t191 _ A10.out).mono ?_); rintro e w' ⟨rfl, ⟨nd, rfl⟩⟩; refine ⟨_, rfl, ?_⟩) | ((with_reducible refine gate_builtin (b := .append) (xs := #[.tmp 19, .tmp 22]) rfl ?_); at_builtin; refine Kd.R_append (Kd.int .i64) (w0 := w) w.heap.size rfl (.tmp 19) (.tmp 22) 22 3 (.int .i64 0) 8 rfl Tryd.underlying22 info3 rfl (by decide) (by omega) u6 x6_1 t191 [.int .i64 t191] (fun _ => True) (fun _ => False) rfl rfl ?aP (fun _ hk => hk.elim) ?aF ?aO ?aB ?aS ?aL ?_; (case aP => exact rfl); (case aB => exact (by exact bv HB.out)); (case aF => exact (fun _ _ => trivial)); (case aO => exact (by exact Kd.R_v HO_6.out)); (case aS => exact (below_size (by exact bv HB.out))); (case aL => have := LMc11.out; omega); intro v193 w12 ho hb hg hat; rw [← Ny192.out] at ho; have HO194 := q_ (ho); replace HO_13 := q_ (Kd.R_over' (by exact Kd.R_v HO_13.out) (Kd.R_typed (by exact Kd.R_v HO_6.out)) (by decide) hg); replace HB := q_ (hb); clear HO_6; clear ho hb hg hat)); go_roundg k1
      case measure => have := HK1.out; omega
      case rel => exact ⟨(y192), (wrap64 (x15_1 + 1)), eqv, H', ⟨by have := HK1.out; omega⟩, ⟨by exact Kd.R_v HO194.out⟩, ⟨by exact Kd.R_v HO_13.out⟩, ⟨by exact bv HB.out⟩⟩
     ·rw [if_neg c7] at H; have c7b0 : decide (x15_1 < (t187.length : Int)) = false := decide_eq_false c7; clear c7; obtain ⟨t195, A13, H⟩ := bnd_ H; have HC14 := q_ H; clear H; obtain ⟨Ao15, co15, eo15⟩ := Kd.R_slice HO_6.out; subst eo15
      go_upto_if 28 with (first | (refine goesM (some 27) rfl rfl Tryd.func13 #[.int .i64 a0, .slice Ao15 x6_1.length co15] rfl ?_; (with_reducible refine (spec_GoodMark.calls k1 a0 _ _ x6_1 t195 _ ?side1 ?side2 A13.out).mono ?_); (case side1 => exact Kd.C_v ((Kd.R_reads' HO_6.out).2.2)); (case side2 => exact (Kd.R_reads' HO_6.out).2.1); rintro e w' ⟨rfl, ⟨nd, rfl⟩⟩; refine ⟨_, rfl, ?_⟩))
      (try simp only [Act.put, List.setIfInBounds_toArray, List.set_cons_zero, List.set_cons_succ]); have H := HC14.out; clear HC14
      by_cases c16 : t195 = true
      ·subst c16; replace H := itt_ H; simp only [Option.some.injEq, Prod.mk.injEq] at H; obtain ⟨rfl, rfl⟩ := H; go_wp2
       go_ret2
       exact ⟨_, by first | rfl | (simp [errW_none, errW_some] <;> rfl) | (simp [*, errW_none, errW_some] <;> rfl), by exact Kd.R_v HO_6.out, by exact bv HB.out⟩
      ·replace c16 := Bool.eq_false_iff.mpr c16; subst c16; replace H := iff_ H; simp only [Option.some.injEq, Prod.mk.injEq] at H; obtain ⟨rfl, rfl⟩ := H; go_wp2
       go_ret2
       exact ⟨_, by first | rfl | (simp [errW_none, errW_some] <;> rfl) | (simp [*, errW_none, errW_some] <;> rfl), by first | exact Kd.R_nil _ _ _ _ _ | exact Kd.N_nil _ _ _ _ _ | exact Kd.V_nil _ _ _ _ _ | exact Kd.Q_nil _ _ _ _ _ | exact Kd.S_nil _ _ _ _ _, by exact bv HB.out⟩

/-! ### impl_readInt: function 30 -/
def layAtoi_ren : Go.Shelf.Ren := ⟨fun | 172 => 39 | 244 => 46 | 245 => 47 | 247 => 58 | 279 => 59 | 280 => 60 | 281 => 61 | 282 => 62 | 287 => 73 | 316 => 74 | 171 => 27 | 205 => 75 | 321 => 80 | 322 => 81 | 243 => 35 | 246 => 43 | 283 => 52 | 284 => 53 | 285 => 54 | 286 => 55 | 129 => 69 | 317 => 68 | 318 => 70 | 319 => 71 | 320 => 72 | 337 => 78 | 338 => 79 | n => n, fun | 9 => 9 | 3 => 3 | 75 => 58 | 76 => 59 | 4 => 4 | 5 => 5 | 167 => 79 | 37 => 51 | 0 => 0 | 85 => 80 | 2 => 2 | 168 => 82 | 53 => 71 | 175 => 92 | 46 => 86 | 210 => 96 | 127 => 65 | 145 => 109 | 143 => 107 | 21 => 21 | 171 => 70 | 173 => 74 | 212 => 88 | 51 => 89 | 20 => 20 | 213 => 90 | 232 => 110 | 233 => 111 | 80 => 61 | n => n, fun | 15 => 2 | 16 => 3 | 17 => 1 | 18 => 6 | 19 => 7 | n => n⟩
theorem layAtoi : Go.Proofs.LaysC.n172 Tryd.prog layAtoi_ren := {
  mixed := by kernel_rfl
  f129 := Tryd.func69.trans (congrArg some (by kernel_rfl))
  f171 := Tryd.func27.trans (congrArg some (by kernel_rfl))
  f172 := Tryd.func39.trans (congrArg some (by kernel_rfl))
  f205 := Tryd.func75.trans (congrArg some (by kernel_rfl))
  f243 := Tryd.func35.trans (congrArg some (by kernel_rfl))
  f244 := Tryd.func46.trans (congrArg some (by kernel_rfl))
  f245 := Tryd.func47.trans (congrArg some (by kernel_rfl))
  f246 := Tryd.func43.trans (congrArg some (by kernel_rfl))
  f247 := Tryd.func58.trans (congrArg some (by kernel_rfl))
  f279 := Tryd.func59.trans (congrArg some (by kernel_rfl))
  f280 := Tryd.func60.trans (congrArg some (by kernel_rfl))
  f281 := Tryd.func61.trans (congrArg some (by kernel_rfl))
  f282 := Tryd.func62.trans (congrArg some (by kernel_rfl))
  f283 := Tryd.func52.trans (congrArg some (by kernel_rfl))
  f284 := Tryd.func53.trans (congrArg some (by kernel_rfl))
  f285 := Tryd.func54.trans (congrArg some (by kernel_rfl))
  f286 := Tryd.func55.trans (congrArg some (by kernel_rfl))
  f287 := Tryd.func73.trans (congrArg some (by kernel_rfl))
  f316 := Tryd.func74.trans (congrArg some (by kernel_rfl))
  f317 := Tryd.func68.trans (congrArg some (by kernel_rfl))
  f318 := Tryd.func70.trans (congrArg some (by kernel_rfl))
  f319 := Tryd.func71.trans (congrArg some (by kernel_rfl))
  f320 := Tryd.func72.trans (congrArg some (by kernel_rfl))
  f321 := Tryd.func80.trans (congrArg some (by kernel_rfl))
  f322 := Tryd.func81.trans (congrArg some (by kernel_rfl))
  f337 := Tryd.func78.trans (congrArg some (by kernel_rfl))
  f338 := Tryd.func79.trans (congrArg some (by kernel_rfl))
  t0 := Tryd.underlying0
  a0 := Tryd.isAgg0
  z0 := Tryd.sizeOf0
  v0 := Tryd.zeroValue0
  t2 := Tryd.underlying2
  a2 := Tryd.isAgg2
  z2 := Tryd.sizeOf2
  v2 := Tryd.zeroValue2
  t3 := Tryd.underlying3
  a3 := Tryd.isAgg3
  z3 := Tryd.sizeOf3
  v3 := Tryd.zeroValue3
  t4 := Tryd.underlying4
  a4 := Tryd.isAgg4
  z4 := Tryd.sizeOf4
  v4 := Tryd.zeroValue4
  t5 := Tryd.underlying5
  a5 := Tryd.isAgg5
  z5 := Tryd.sizeOf5
  v5 := Tryd.zeroValue5
  t9 := Tryd.underlying9
  a9 := Tryd.isAgg9
  z9 := Tryd.sizeOf9
  v9 := Tryd.zeroValue9
  t20 := Tryd.underlying20
  a20 := Tryd.isAgg20
  z20 := Tryd.sizeOf20
  v20 := Tryd.zeroValue20
  t21 := Tryd.underlying21
  a21 := Tryd.isAgg21
  z21 := Tryd.sizeOf21
  v21 := Tryd.zeroValue21
  t37 := Tryd.underlying51
  a37 := Tryd.isAgg51
  z37 := Tryd.sizeOf51
  v37 := Tryd.zeroValue51
  t46 := Tryd.underlying86
  a46 := Tryd.isAgg86
  z46 := Tryd.sizeOf86
  v46 := Tryd.zeroValue86
  t51 := Tryd.underlying89
  a51 := Tryd.isAgg89
  z51 := Tryd.sizeOf89
  v51 := Tryd.zeroValue89
  t53 := Tryd.underlying71
  a53 := Tryd.isAgg71
  z53 := Tryd.sizeOf71
  v53 := Tryd.zeroValue71
  t75 := Tryd.underlying58
  a75 := Tryd.isAgg58
  z75 := Tryd.sizeOf58
  v75 := Tryd.zeroValue58
  t76 := Tryd.underlying59
  a76 := Tryd.isAgg59
  z76 := Tryd.sizeOf59
  v76 := Tryd.zeroValue59
  t85 := Tryd.underlying80
  a85 := Tryd.isAgg80
  z85 := Tryd.sizeOf80
  v85 := Tryd.zeroValue80
  t127 := Tryd.underlying65
  a127 := Tryd.isAgg65
  z127 := Tryd.sizeOf65
  v127 := Tryd.zeroValue65
  t143 := Tryd.underlying107
  a143 := Tryd.isAgg107
  z143 := Tryd.sizeOf107
  v143 := Tryd.zeroValue107
  t145 := Tryd.underlying109
  a145 := Tryd.isAgg109
  z145 := Tryd.sizeOf109
  v145 := Tryd.zeroValue109
  t167 := Tryd.underlying79
  a167 := Tryd.isAgg79
  z167 := Tryd.sizeOf79
  v167 := Tryd.zeroValue79
  t168 := Tryd.underlying82
  a168 := Tryd.isAgg82
  z168 := Tryd.sizeOf82
  v168 := Tryd.zeroValue82
  t171 := Tryd.underlying70
  a171 := Tryd.isAgg70
  z171 := Tryd.sizeOf70
  v171 := Tryd.zeroValue70
  t173 := Tryd.underlying74
  a173 := Tryd.isAgg74
  z173 := Tryd.sizeOf74
  v173 := Tryd.zeroValue74
  t175 := Tryd.underlying92
  a175 := Tryd.isAgg92
  z175 := Tryd.sizeOf92
  v175 := Tryd.zeroValue92
  t210 := Tryd.underlying96
  a210 := Tryd.isAgg96
  z210 := Tryd.sizeOf96
  v210 := Tryd.zeroValue96
  t212 := Tryd.underlying88
  a212 := Tryd.isAgg88
  z212 := Tryd.sizeOf88
  v212 := Tryd.zeroValue88
  t213 := Tryd.underlying90
  a213 := Tryd.isAgg90
  z213 := Tryd.sizeOf90
  t232 := Tryd.underlying110
  a232 := Tryd.isAgg110
  z232 := Tryd.sizeOf110
  v232 := Tryd.zeroValue110
  t233 := Tryd.underlying111
  a233 := Tryd.isAgg111
  z233 := Tryd.sizeOf111
  v233 := Tryd.zeroValue111
  g15 := by kernel_rfl
  g16 := by kernel_rfl
  g17 := by kernel_rfl
  g18 := by kernel_rfl
  g19 := by kernel_rfl
  t80 := Tryd.underlying61
  a80 := Tryd.isAgg61
  z80 := Tryd.sizeOf61
  v80 := Tryd.zeroValue61
  i0 := by kernel_rfl
  i2 := by kernel_rfl
  i3 := by kernel_rfl
  i4 := by kernel_rfl
  i5 := by kernel_rfl
  i9 := by kernel_rfl
  i20 := by kernel_rfl
  i21 := by kernel_rfl
  i37 := by kernel_rfl
  i46 := by kernel_rfl
  i51 := by kernel_rfl
  i53 := by kernel_rfl
  i75 := by kernel_rfl
  i76 := by kernel_rfl
  i80 := by kernel_rfl
  i85 := by kernel_rfl
  i127 := by kernel_rfl
  i143 := by kernel_rfl
  i145 := by kernel_rfl
  i167 := by kernel_rfl
  i168 := by kernel_rfl
  i171 := by kernel_rfl
  i173 := by kernel_rfl
  i175 := by kernel_rfl
  i210 := by kernel_rfl
  i212 := by kernel_rfl
  i232 := by kernel_rfl
  i233 := by kernel_rfl
  m15 := by kernel_rfl
  m16 := by kernel_rfl
  m17 := by kernel_rfl
  m18 := by kernel_rfl
  m19 := by kernel_rfl
  c0 := by kernel_rfl
  c2 := by kernel_rfl
  c3 := by kernel_rfl
  c4 := by kernel_rfl
  c5 := by kernel_rfl
  c9 := by kernel_rfl
  c20 := by kernel_rfl
  c21 := by kernel_rfl
  c37 := by kernel_rfl
  c46 := by kernel_rfl
  c51 := by kernel_rfl
  c53 := by kernel_rfl
  c75 := by kernel_rfl
  c76 := by kernel_rfl
  c80 := by kernel_rfl
  c85 := by kernel_rfl
  c127 := by kernel_rfl
  c143 := by kernel_rfl
  c145 := by kernel_rfl
  c167 := by kernel_rfl
  c168 := by kernel_rfl
  c171 := by kernel_rfl
  c173 := by kernel_rfl
  c175 := by kernel_rfl
  c210 := by kernel_rfl
  c212 := by kernel_rfl
  c213 := by kernel_rfl
  c232 := by kernel_rfl
  c233 := by kernel_rfl }
def layItoaM_ren : Go.Shelf.Ren := ⟨fun | 171 => 27 | 243 => 35 | 246 => 43 | 283 => 52 | 284 => 53 | 285 => 54 | 286 => 55 | 129 => 69 | 317 => 68 | 318 => 70 | 319 => 71 | 320 => 72 | 337 => 78 | 338 => 79 | n => n, fun | 3 => 3 | 9 => 9 | 2 => 2 | 4 => 4 | 171 => 70 | 0 => 0 | 53 => 71 | 37 => 51 | 5 => 5 | 173 => 74 | 212 => 88 | 51 => 89 | 20 => 20 | 213 => 90 | 46 => 86 | 232 => 110 | 233 => 111 | n => n, fun | 17 => 1 | 18 => 6 | 19 => 7 | n => n⟩
theorem layItoaM : Go.Proofs.LaysM.n171 Tryd.prog layItoaM_ren := {
  mixed := by kernel_rfl
  f129 := Tryd.func69.trans (congrArg some (by kernel_rfl))
  f171 := Tryd.func27.trans (congrArg some (by kernel_rfl))
  f243 := Tryd.func35.trans (congrArg some (by kernel_rfl))
  f246 := Tryd.func43.trans (congrArg some (by kernel_rfl))
  f283 := Tryd.func52.trans (congrArg some (by kernel_rfl))
  f284 := Tryd.func53.trans (congrArg some (by kernel_rfl))
  f285 := Tryd.func54.trans (congrArg some (by kernel_rfl))
  f286 := Tryd.func55.trans (congrArg some (by kernel_rfl))
  f317 := Tryd.func68.trans (congrArg some (by kernel_rfl))
  f318 := Tryd.func70.trans (congrArg some (by kernel_rfl))
  f319 := Tryd.func71.trans (congrArg some (by kernel_rfl))
  f320 := Tryd.func72.trans (congrArg some (by kernel_rfl))
  f337 := Tryd.func78.trans (congrArg some (by kernel_rfl))
  f338 := Tryd.func79.trans (congrArg some (by kernel_rfl))
  t0 := Tryd.underlying0
  a0 := Tryd.isAgg0
  z0 := Tryd.sizeOf0
  v0 := Tryd.zeroValue0
  t2 := Tryd.underlying2
  a2 := Tryd.isAgg2
  z2 := Tryd.sizeOf2
  v2 := Tryd.zeroValue2
  t3 := Tryd.underlying3
  a3 := Tryd.isAgg3
  z3 := Tryd.sizeOf3
  v3 := Tryd.zeroValue3
  t4 := Tryd.underlying4
  a4 := Tryd.isAgg4
  z4 := Tryd.sizeOf4
  v4 := Tryd.zeroValue4
  t5 := Tryd.underlying5
  a5 := Tryd.isAgg5
  z5 := Tryd.sizeOf5
  v5 := Tryd.zeroValue5
  t9 := Tryd.underlying9
  a9 := Tryd.isAgg9
  z9 := Tryd.sizeOf9
  v9 := Tryd.zeroValue9
  t20 := Tryd.underlying20
  a20 := Tryd.isAgg20
  z20 := Tryd.sizeOf20
  v20 := Tryd.zeroValue20
  t37 := Tryd.underlying51
  a37 := Tryd.isAgg51
  z37 := Tryd.sizeOf51
  v37 := Tryd.zeroValue51
  t46 := Tryd.underlying86
  a46 := Tryd.isAgg86
  z46 := Tryd.sizeOf86
  v46 := Tryd.zeroValue86
  t51 := Tryd.underlying89
  a51 := Tryd.isAgg89
  z51 := Tryd.sizeOf89
  v51 := Tryd.zeroValue89
  t53 := Tryd.underlying71
  a53 := Tryd.isAgg71
  z53 := Tryd.sizeOf71
  v53 := Tryd.zeroValue71
  t171 := Tryd.underlying70
  a171 := Tryd.isAgg70
  z171 := Tryd.sizeOf70
  v171 := Tryd.zeroValue70
  t173 := Tryd.underlying74
  a173 := Tryd.isAgg74
  z173 := Tryd.sizeOf74
  v173 := Tryd.zeroValue74
  t212 := Tryd.underlying88
  a212 := Tryd.isAgg88
  z212 := Tryd.sizeOf88
  v212 := Tryd.zeroValue88
  t213 := Tryd.underlying90
  a213 := Tryd.isAgg90
  z213 := Tryd.sizeOf90
  t232 := Tryd.underlying110
  a232 := Tryd.isAgg110
  z232 := Tryd.sizeOf110
  v232 := Tryd.zeroValue110
  t233 := Tryd.underlying111
  a233 := Tryd.isAgg111
  z233 := Tryd.sizeOf111
  v233 := Tryd.zeroValue111
  g17 := by kernel_rfl
  g18 := by kernel_rfl
  g19 := by kernel_rfl
  i0 := by kernel_rfl
  i2 := by kernel_rfl
  i3 := by kernel_rfl
  i4 := by kernel_rfl
  i5 := by kernel_rfl
  i9 := by kernel_rfl
  i20 := by kernel_rfl
  i37 := by kernel_rfl
  i46 := by kernel_rfl
  i51 := by kernel_rfl
  i53 := by kernel_rfl
  i171 := by kernel_rfl
  i173 := by kernel_rfl
  i212 := by kernel_rfl
  i232 := by kernel_rfl
  i233 := by kernel_rfl
  m17 := by kernel_rfl
  m18 := by kernel_rfl
  m19 := by kernel_rfl }
/-- What the library's own variables hold: the tables and errors that the row lists. -/
def DoorOk (w : World) : Prop := (∃ m, w.cell? ⟨0, 0, none⟩ = some (.int .i64 m)) ∧ (∃ tp p, w.cell? ⟨2, 0, none⟩ = some (.iface tp p)) ∧ (∃ tp p, w.cell? ⟨3, 0, none⟩ = some (.iface tp p)) ∧ Go.Lib.TabIs Tryd.prog w "internal/strconv.uint64pow10" .u64 Go.Lib.pow10Tab
theorem gPow : Tryd.prog.globalNamed "internal/strconv.uint64pow10" = some 1 := by kernel_rfl
theorem DoorOk.below {w w' : World} (h : DoorOk w) (hb : Below w.heap.size w w') : DoorOk w' := by
  obtain ⟨⟨m, h1⟩, ⟨t2, p2, h2⟩, ⟨t3, p3, h3⟩, h4⟩ := h
  exact ⟨⟨m, pw_cell_below hb h1⟩, ⟨t2, p2, pw_cell_below hb h2⟩, ⟨t3, p3, pw_cell_below hb h3⟩, Go.Joins.tab_stays gPow h4 hb (Nat.le_refl _)⟩
def impl_readInt.f (a0 : ByteArray) : Option (Int × Bool) := if a0.size ≤ 1000 then (match Go.Lib.atoiAll a0.data.toList with | .ok v => (if -9223372036854775808 ≤ v then (if v ≤ 9223372036854775807 then (if Go.Lib.itoa v = a0.data.toList then (some (v, true)) else (some (0, false))) else (none)) else (none)) | _ => (some (0, false))) else (none)
set_option maxHeartbeats 8000000 in
set_option maxRecDepth 100000 in
theorem impl_readInt.calls (a0 : ByteArray) (r1 : Int) (r2 : Bool) (w : World) (hE : DoorOk w) (h : impl_readInt.f a0 = some (r1, r2)) :
    Calls Tryd.prog 30 #[.string a0] w fun e w' => e = .returned (.tuple #[.int .i64 r1, .bool r2]) ∧ Below w.heap.size w w' := by
  unfold impl_readInt.f at h
  obtain ⟨c1, h⟩ := ifp_ h
  obtain ⟨hm, ⟨t2, p2, hs⟩, ⟨t3, p3, hr⟩, htab⟩ := hE
  cases hc : Go.Lib.atoiAll a0.data.toList with
  | ok v =>
    rw [hc] at h
    dsimp only at h
    obtain ⟨c2, h⟩ := ifp_ h
    obtain ⟨c3, h⟩ := ifp_ h
    have hstr : ((⟨(Go.Lib.itoa v).toArray⟩ : ByteArray) = a0) ↔ Go.Lib.itoa v = a0.data.toList := by
      constructor
      · intro e; rw [← e]
      · intro e; rw [e]
    go_enter Tryd.func30, Tryd.ntmps30
    go_wp2_with (first
      | (go_at_call 39; refine (Go.Proofs.Any.strconv_Atoi_ok layAtoi a0 (by omega) v hc _).mono ?_; rintro e w1 ⟨rfl, hw1⟩; have hb1 : Below w.heap.size w w1 := (by rcases hw1 with rfl | ⟨t, rfl⟩; exact Below.refl _ _; exact Go.Lib.bytesWorld_below _ _ _); have htab1 := Go.Joins.tab_stays gPow htab hb1 (Nat.le_refl _); clear hw1)
      | (go_at_call 27; refine (Go.Proofs.Any.strconv_Itoa layItoaM v c2 c3 _ htab1).mono ?_; rintro e w2 ⟨rfl, k, os, rfl⟩))
    · rename_i hne
      rw [Go.Lib.toList_data] at hne
      have hn : ¬ Go.Lib.itoa v = a0.data.toList := (by simpa using hne)
      rw [if_neg hn] at h
      cases h
      go_ret2
      exact ⟨rfl, hb1.trans (Go.Lib.below_grow _ w1 (below_size hb1) k os)⟩
    · rename_i hne
      rw [Go.Lib.toList_data] at hne
      have hn : Go.Lib.itoa v = a0.data.toList := (by simpa using hne)
      rw [if_pos hn] at h
      cases h
      go_ret2
      exact ⟨rfl, hb1.trans (Go.Lib.below_grow _ w1 (below_size hb1) k os)⟩
  | «syntax» =>
    rw [hc] at h
    dsimp only at h
    cases h
    go_enter Tryd.func30, Tryd.ntmps30
    go_wp2_with (first
      | (go_at_call 39; refine (Go.Proofs.Any.strconv_Atoi_syntax layAtoi a0 (by omega) hc _ _ hs (.inr ⟨_, _, rfl⟩)).mono ?_; rintro e w1 ⟨N, rfl, hN, hN2, hb1⟩))
    all_goals go_ret2
    all_goals exact ⟨rfl, hb1⟩
  | range =>
    rw [hc] at h
    dsimp only at h
    cases h
    go_enter Tryd.func30, Tryd.ntmps30
    go_wp2_with (first
      | (go_at_call 39; refine (Go.Proofs.Any.strconv_Atoi_range layAtoi a0 (by omega) hc _ _ hr (.inr ⟨_, _, rfl⟩)).mono ?_; rintro e w1 ⟨N, rfl, hN, hN2, hb1⟩))
    all_goals go_ret2
    all_goals exact ⟨rfl, hb1⟩

/-! ### impl_readInts: function 19 -/
def impl_readInts.l0 : Nat → List Int → List ByteArray → Int → Int → Option (List Int × Bool)
  | 0, _, _, _, _ => none
  | k + 1, x4, x12, x13, x14 => if x14 < x13 then (if 0 ≤ x14 then (if x14 < (x12.length : Int) then ((impl_readInt.f (rdOf ByteArray.empty x12 x14)).bind fun bt215 => (if bt215.2 = true then (if x14 < (x4.length : Int) then (impl_readInts.l0 k (x4.set (x14 : Int).toNat bt215.1) x12 x13 (wrap64 (x14 + 1))) else (none)) else (some (([] : List Int), false)))) else (none)) else (none)) else (some (x4, true))
def impl_readInts.f (k : Nat) (l0 : List ByteArray) : Option (List Int × Bool) := if 0 ≤ (l0.length : Int) then (if ((l0.length : Int) : Int).toNat ≤ 35184372088832 then (impl_readInts.l0 k (List.replicate ((l0.length : Int) : Int).toNat 0) l0 (l0.length : Int) 0) else (none)) else (none)
set_option maxHeartbeats 8000000 in
set_option maxRecDepth 100000 in
theorem impl_readInts.calls (k : Nat) (A0 : Option Addr) (c0 : Nat) (l0 : List ByteArray) (r1 : List Int) (r2 : Bool) (w : World) (hE : DoorOk w) (hr0 : Kd.C Kd.string w A0 l0.length l0) (hc0 : l0.length ≤ c0) (h : impl_readInts.f k l0 = some (r1, r2)) :
    Calls Tryd.prog 19 #[.slice A0 l0.length c0] w fun e w' => ∃ v0_ : Value, e = .returned (.tuple #[v0_, .bool r2]) ∧ Kd.R (Kd.int .i64) 3 w' w.heap.size (fun _ => True) v0_ r1 ∧ Below w.heap.size w w' := by
  have HR0 := q_ hr0; have HC0 := q_ hc0; clear hr0 hc0; have HB := q_ (Below.refl w.heap.size w); have H : (if 0 ≤ (l0.length : Int) then (if ((l0.length : Int) : Int).toNat ≤ 35184372088832 then (impl_readInts.l0 k (List.replicate ((l0.length : Int) : Int).toNat 0) l0 (l0.length : Int) 0) else (none)) else (none)) = some (r1, r2) := h; clear h
  obtain ⟨c2, H⟩ := ifp_ H; have c2b0 := eq_true c2; have c2b1 : decide (0 ≤ (l0.length : Int)) = true := decide_eq_true c2; clear c2
  obtain ⟨c3, H⟩ := ifp_ H; have c3b0 := eq_true c3; have c3b1 : decide (((l0.length : Int) : Int).toNat ≤ 35184372088832) = true := decide_eq_true c3; clear c3; obtain ⟨y211, hy211⟩ : ∃ y_ : List Int, y_ = (List.replicate ((l0.length : Int) : Int).toNat 0) := ⟨_, rfl⟩; (replace H : (impl_readInts.l0 k y211 l0 (l0.length : Int) 0) = some (r1, r2) := by first | (rw [hy211]; with_reducible exact H) | (have H2_ := (Option.bind_some _ _).symm.trans H; rw [hy211]; with_reducible exact H2_) | (have H2_ := (Option.bind_some _ _).symm.trans H; with_reducible exact H2_) | with_reducible exact H | (rw [hy211]; exact H) | exact H); have Ny211 := q_ hy211; clear hy211; have H' := q_ H; clear H; go_enter Tryd.func19, Tryd.ntmps19; go_wp2_with (first | ((with_reducible refine gate_dst (N := 11) rfl ?_); refine Kd.R_make (Kd.int .i64) _ 3 rfl (N := 11) rfl 22 _ _ rfl (l0.length : Int) rfl rfl Tryd.underlying22 (.int .i64 0) 8 info3 rfl (by decide) (by omega) 0 (ok := fun _ => True) (okp := fun _ => True) rfl (fun _ hk => hk) trivial (od) (Nat.le_trans (Nat.mul_le_mul_right _ (od : (l0.length : Int).toNat ≤ 35184372088832)) (by omega)) (Below.refl _ _) (Nat.le_refl _) ?_; intro v212 w4 ho5 hb hg_ hnew_; clear hg_ hnew_; (first | rw [← Ny211.out] at ho5 | (simp only [Int.reduceToNat] at ho5; rw [← Ny211.out] at ho5)); have HO213 := q_ (Kd.R_lower ho5 (below_size (by exact bv HB.out))); replace HB := q_ (below_step (by exact bv HB.out) hb); clear hb ho5)); go_loopg [14] k (fun kq v14 w' => ∃ (x4_1 : List Int) (x14_1 : Int), v14 = .int .i64 x14_1 ∧ Aside0 (impl_readInts.l0 kq x4_1 l0 (l0.length : Int) x14_1 = some (r1, r2)) ∧ Aside0 (kq ≤ k) ∧ Aside0 (Kd.R (Kd.int .i64) 3 w' w.heap.size (fun _ => True) v212 x4_1) ∧ Aside0 (Below w.heap.size w w'))
  case atStart => exact ⟨(y211), (0), eqv, H', ⟨Nat.le_refl _⟩, ⟨by exact Kd.R_v HO213.out⟩, ⟨by exact bv HB.out⟩⟩
  case round =>
   clear H'; (try clear c2b0); (try clear c2b1); (try clear c3b0); (try clear c3b1); obtain ⟨x4_1, x14_1, rfl, HA, HK1, HO_4, HB⟩ := hrel
   cases gk with
   | zero => exact absurd HA.out (by simp [impl_readInts.l0])
   | succ k1 =>
    have H := HA.out; clear HA; simp only [impl_readInts.l0] at H
    by_cases c6 : x14_1 < (l0.length : Int)
    ·rw [if_pos c6] at H; have c6b0 : decide (x14_1 < (l0.length : Int)) = true := decide_eq_true c6; clear c6
     obtain ⟨c7, H⟩ := ifp_ H; have c7b0 : decide (0 ≤ x14_1) = true := decide_eq_true c7; clear c7
     obtain ⟨c8, H⟩ := ifp_ H; have c8b0 : decide (x14_1 < (l0.length : Int)) = true := decide_eq_true c8; clear c8; replace H := Option.bind_eq_some_iff.mp H; obtain ⟨⟨t215, t216⟩, A90, H⟩ := H; replace H : (if t216 = true then (if x14_1 < (x4_1.length : Int) then (impl_readInts.l0 k1 (x4_1.set (x14_1 : Int).toNat t215) l0 (l0.length : Int) (wrap64 (x14_1 + 1))) else (none)) else (some (([] : List Int), false))) = some (r1, r2) := H; have A9 := q_ A90; clear A90; have HC10 := q_ H; clear H; have p214 : 0 ≤ (x14_1 : Int) := od; have q214 : x14_1 < (l0.length : Int) := od; obtain ⟨ad214, e214, hx214_0⟩ := Kd.at_string HR0.out x14_1 p214 q214
     cases e214
     replace hx214_0 := cb_ HB.out hx214_0; replace p214 := eq_true p214; replace q214 := eq_true q214
     go_upto_if 25 with (first | (refine goesM (some 21) rfl rfl Tryd.func30 #[.string (rdOf ByteArray.empty l0 x14_1)] rfl ?_; (with_reducible refine (impl_readInt.calls (hE := DoorOk.below hE (by exact bv HB.out)) (rdOf ByteArray.empty l0 x14_1) t215 t216 _ A9.out).mono ?_); rintro e w11 ⟨rfl, hb⟩; refine ⟨_, rfl, ?_⟩; replace HO_4 := q_ (Kd.R_below (by exact Kd.R_v HO_4.out) hb); replace HB := q_ (below_step (by exact bv HB.out) hb); (try clear hb); (try clear hb2); (try clear hk); (try clear hi)))
     (try simp only [Act.put, List.setIfInBounds_toArray, List.set_cons_zero, List.set_cons_succ]); have H := HC10.out; clear HC10
     by_cases c12 : t216 = true
     ·subst c12; replace H := itt_ H
      obtain ⟨c13, H⟩ := ifp_ H; have c13b0 : decide (x14_1 < (x4_1.length : Int)) = true := decide_eq_true c13; clear c13; (first | rw [c13b0] | (simp only [i64_w, i32_w]; rw [c13b0]) | skip); obtain ⟨y217, hy217⟩ : ∃ y_ : List Int, y_ = (x4_1.set (x14_1 : Int).toNat t215) := ⟨_, rfl⟩; (replace H : (impl_readInts.l0 k1 y217 l0 (l0.length : Int) (wrap64 (x14_1 + 1))) = some (r1, r2) := by first | (rw [hy217]; with_reducible exact H) | (have H2_ := (Option.bind_some _ _).symm.trans H; rw [hy217]; with_reducible exact H2_) | (have H2_ := (Option.bind_some _ _).symm.trans H; with_reducible exact H2_) | with_reducible exact H | (rw [hy217]; exact H) | exact H); have Ny217 := q_ hy217; clear hy217; have H' := q_ H; clear H; have p14 : 0 ≤ (x14_1 : Int) := od; have q14 : (x14_1 : Int) < ((x4_1.length : Int) : Int) := od; obtain ⟨go14, co14, eo14, gb14, gl14, cl14, HG14⟩ := Kd.R_form HO_4.out (by omega); (first | cases eo14 | (injection eo14 with ea_ en_ ec_; (first | subst ea_ | (injection ea_ with ea_; subst ea_)); subst ec_; clear en_)); have GB14 := q_ gb14; have GG14 := q_ HG14; clear gb14 gl14 HG14; obtain ⟨hx14_0, hf14_0⟩ := Kd.R_celln 0 HO_4.out (x14_1 : Int) p14 q14; replace p14 := eq_true p14; replace q14 := eq_true q14; have HP15 := Kd.R_putg HO_4.out (x14_1 : Int) t215; go_wp2_with (first | ((with_reducible refine gate_store (t := 3) (p := 29) rfl ?_); refine store_event (t := 3) (p := 29) (v := ?vo_w16) (w1 := (w11.setCell ⟨go14, (x14_1 : Int).toNat, none⟩ (.int .i64 t215))) ?hg ?ho ?hn ?hr ?_; (case ho => rfl); (case hg => rfl); (case hn => rfl); (case hr => first | (go_simp; done) | (go_simp; rfl)); intro w16 hw; have hg : w11.grownBy w16 (some go14) := (by rw [hw]; exact HP15.2); have hp_ : Kd.R (Kd.int .i64) 3 w16 w.heap.size (fun _ => True) (.slice (some ⟨go14, 0, none⟩) x4_1.length co14) y217 := (by rw [hw, Ny217.out]; exact HP15.1); clear HP15; replace HO_4 := q_ (hp_); replace HB := q_ ((by rw [hw]; exact below_set (HB.out) GB14.out : Below w.heap.size w w16)); clear hg hw hp_)); go_roundg k1
      case measure => have := HK1.out; omega
      case rel => exact ⟨(y217), (wrap64 (x14_1 + 1)), eqv, H', ⟨by have := HK1.out; omega⟩, ⟨by exact Kd.R_v HO_4.out⟩, ⟨by exact bv HB.out⟩⟩
     ·replace c12 := Bool.eq_false_iff.mpr c12; subst c12; replace H := iff_ H; simp only [Option.some.injEq, Prod.mk.injEq] at H; obtain ⟨rfl, rfl⟩ := H; go_wp2
      go_ret2
      exact ⟨_, by first | rfl | (simp [errW_none, errW_some] <;> rfl) | (simp [*, errW_none, errW_some] <;> rfl), by first | exact Kd.R_nil _ _ _ _ _ | exact Kd.N_nil _ _ _ _ _ | exact Kd.V_nil _ _ _ _ _ | exact Kd.Q_nil _ _ _ _ _ | exact Kd.S_nil _ _ _ _ _, by exact bv HB.out⟩
    ·rw [if_neg c6] at H; have c6b0 : decide (x14_1 < (l0.length : Int)) = false := decide_eq_false c6; clear c6; simp only [Option.some.injEq, Prod.mk.injEq] at H; obtain ⟨rfl, rfl⟩ := H; go_wp2
     go_ret2
     exact ⟨_, by first | rfl | (simp [errW_none, errW_some] <;> rfl) | (simp [*, errW_none, errW_some] <;> rfl), by exact Kd.R_v HO_4.out, by exact bv HB.out⟩

/-! ### strings_Split: function 20 -/
def laySplit_ren : Go.Shelf.Ren := ⟨fun | 146 => 20 | 221 => 31 | 268 => 40 | 138 => 41 | 143 => 42 | 195 => 48 | 197 => 49 | 218 => 50 | 219 => 51 | 260 => 63 | 217 => 64 | 225 => 65 | 224 => 66 | 267 => 67 | 266 => 76 | 314 => 77 | n => n, fun | 9 => 9 | 31 => 35 | 3 => 3 | 4 => 4 | 0 => 0 | 105 => 67 | 21 => 21 | 5 => 5 | 46 => 86 | 119 => 98 | 139 => 101 | 138 => 100 | 146 => 102 | 51 => 89 | n => n, fun | 1 => 0 | 3 => 4 | 4 => 5 | n => n⟩
theorem laySplit : Go.Proofs.Lays.n146 Tryd.prog laySplit_ren := {
  mixed := by kernel_rfl
  f138 := Tryd.func41.trans (congrArg some (by kernel_rfl))
  f143 := Tryd.func42.trans (congrArg some (by kernel_rfl))
  f146 := Tryd.func20.trans (congrArg some (by kernel_rfl))
  f195 := Tryd.func48.trans (congrArg some (by kernel_rfl))
  f197 := Tryd.func49.trans (congrArg some (by kernel_rfl))
  f217 := Tryd.func64.trans (congrArg some (by kernel_rfl))
  f218 := Tryd.func50.trans (congrArg some (by kernel_rfl))
  f219 := Tryd.func51.trans (congrArg some (by kernel_rfl))
  f221 := Tryd.func31.trans (congrArg some (by kernel_rfl))
  f224 := Tryd.func66.trans (congrArg some (by kernel_rfl))
  f225 := Tryd.func65.trans (congrArg some (by kernel_rfl))
  f260 := Tryd.func63.trans (congrArg some (by kernel_rfl))
  f266 := Tryd.func76.trans (congrArg some (by kernel_rfl))
  f267 := Tryd.func67.trans (congrArg some (by kernel_rfl))
  f268 := Tryd.func40.trans (congrArg some (by kernel_rfl))
  f314 := Tryd.func77.trans (congrArg some (by kernel_rfl))
  t0 := Tryd.underlying0
  a0 := Tryd.isAgg0
  z0 := Tryd.sizeOf0
  v0 := Tryd.zeroValue0
  t3 := Tryd.underlying3
  a3 := Tryd.isAgg3
  z3 := Tryd.sizeOf3
  v3 := Tryd.zeroValue3
  t4 := Tryd.underlying4
  a4 := Tryd.isAgg4
  z4 := Tryd.sizeOf4
  v4 := Tryd.zeroValue4
  t5 := Tryd.underlying5
  a5 := Tryd.isAgg5
  z5 := Tryd.sizeOf5
  v5 := Tryd.zeroValue5
  t9 := Tryd.underlying9
  a9 := Tryd.isAgg9
  z9 := Tryd.sizeOf9
  v9 := Tryd.zeroValue9
  t21 := Tryd.underlying21
  a21 := Tryd.isAgg21
  z21 := Tryd.sizeOf21
  v21 := Tryd.zeroValue21
  t31 := Tryd.underlying35
  a31 := Tryd.isAgg35
  z31 := Tryd.sizeOf35
  v31 := Tryd.zeroValue35
  t46 := Tryd.underlying86
  a46 := Tryd.isAgg86
  z46 := Tryd.sizeOf86
  v46 := Tryd.zeroValue86
  t51 := Tryd.underlying89
  a51 := Tryd.isAgg89
  z51 := Tryd.sizeOf89
  v51 := Tryd.zeroValue89
  t105 := Tryd.underlying67
  a105 := Tryd.isAgg67
  z105 := Tryd.sizeOf67
  v105 := Tryd.zeroValue67
  t119 := Tryd.underlying98
  a119 := Tryd.isAgg98
  z119 := Tryd.sizeOf98
  t138 := Tryd.underlying100
  a138 := Tryd.isAgg100
  z138 := Tryd.sizeOf100
  v138 := Tryd.zeroValue100
  t139 := Tryd.underlying101
  a139 := Tryd.isAgg101
  z139 := Tryd.sizeOf101
  v139 := Tryd.zeroValue101
  t146 := Tryd.underlying102
  a146 := Tryd.isAgg102
  z146 := Tryd.sizeOf102
  v146 := Tryd.zeroValue102
  g1 := by kernel_rfl
  g3 := by kernel_rfl
  g4 := by kernel_rfl }
def strings_Split.f (a0 : ByteArray) (a1 : ByteArray) : Option (List ByteArray) := if a0.size ≤ 1000 then (if 1 ≤ a1.size then (if (Go.Lib.splitB a1 0 (Go.Lib.countB a0 a1) a0).length = Go.Lib.countB a0 a1 + 1 then (if Go.Lib.countB a0 a1 ≤ 1000 then (some (Go.Lib.splitB a1 0 (Go.Lib.countB a0 a1) a0)) else (none)) else (none)) else (none)) else (none)
set_option maxHeartbeats 8000000 in
set_option maxRecDepth 100000 in
theorem strings_Split.calls (a0 : ByteArray) (a1 : ByteArray) (r : List ByteArray) (w : World) (hE : DoorOk w) (h : strings_Split.f a0 a1 = some r) :
    Calls Tryd.prog 20 #[.string a0, .string a1] w fun e w' => ∃ v0_ : Value, e = .returned (v0_) ∧ Kd.R Kd.string 9 w' w.heap.size (fun _ => True) v0_ r ∧ Below w.heap.size w w' := by
  unfold strings_Split.f at h
  obtain ⟨c1, h⟩ := ifp_ h
  obtain ⟨c2, h⟩ := ifp_ h
  obtain ⟨c3, h⟩ := ifp_ h
  obtain ⟨c4, h⟩ := ifp_ h
  obtain rfl := Option.some.inj h
  obtain ⟨⟨m, hm⟩, _⟩ := hE
  refine (Go.Proofs.Any.strings_Split laySplit (by kernel_rfl) a0 a1 m w (by omega) hm c2).mono ?_
  rintro e w' ⟨he, rfl⟩
  refine ⟨_, he, Kd.R_of_own ?_ (fun _ _ => trivial), below_alloc (Below.refl _ _) _⟩
  have h2 := World.ownsRow_lit (base := w.heap.size) (e := 9) (size := 1) w ((Go.Lib.splitB a1 0 (Go.Lib.countB a0 a1) a0).map Value.string).toArray (Go.Lib.countB a0 a1 + 1) (Nat.le_refl _) (by unfold maxLen; omega) (by simp [c3])
  rw [c3, show laySplit_ren.t 9 = 9 from rfl]
  simpa [encs] using h2

/-! ### impl_ReadMark: function 10 -/
def impl_ReadMark.f (k : Nat) (a0 : Int) (a1 : ByteArray) : Option (List Int × Bool) := if (a1.size : Int) > 100 then (some (([] : List Int), false)) else ((strings_Split.f a1 (⟨#[32]⟩ : ByteArray)).bind fun t220 => ((impl_readInts.f k t220).bind fun bt223 => (if bt223.2 = true then ((impl_GoodMark.f k a0 bt223.1).bind fun t227 => (if t227 = true then (some (bt223.1, true)) else (some (([] : List Int), false)))) else (some (([] : List Int), false)))))
set_option maxHeartbeats 8000000 in
set_option maxRecDepth 100000 in
theorem impl_ReadMark.calls (k : Nat) (a0 : Int) (a1 : ByteArray) (r1 : List Int) (r2 : Bool) (w : World) (hE : DoorOk w) (h : impl_ReadMark.f k a0 a1 = some (r1, r2)) :
    Calls Tryd.prog 10 #[.int .i64 a0, .string a1] w fun e w' => ∃ v0_ : Value, e = .returned (.tuple #[v0_, .bool r2]) ∧ Kd.R (Kd.int .i64) 3 w' w.heap.size (fun _ => True) v0_ r1 ∧ Below w.heap.size w w' := by
  have HB := q_ (Below.refl w.heap.size w); have H : (if (a1.size : Int) > 100 then (some (([] : List Int), false)) else ((strings_Split.f a1 (⟨#[32]⟩ : ByteArray)).bind fun t220 => ((impl_readInts.f k t220).bind fun bt223 => (if bt223.2 = true then ((impl_GoodMark.f k a0 bt223.1).bind fun t227 => (if t227 = true then (some (bt223.1, true)) else (some (([] : List Int), false)))) else (some (([] : List Int), false)))))) = some (r1, r2) := h; clear h
  by_cases c3 : (a1.size : Int) > 100
  ·rw [if_pos c3] at H; have c3b0 : decide (100 < (a1.size : Int)) = true := decide_eq_true c3; have c3b1 : decide (100 < a1.size) = true := decide_eq_true (by omega); clear c3; simp only [Option.some.injEq, Prod.mk.injEq] at H; obtain ⟨rfl, rfl⟩ := H; go_enter Tryd.func10, Tryd.ntmps10; go_wp2
   go_ret2
   exact ⟨_, by first | rfl | (simp [errW_none, errW_some] <;> rfl) | (simp [*, errW_none, errW_some] <;> rfl), by first | exact Kd.R_nil _ _ _ _ _ | exact Kd.N_nil _ _ _ _ _ | exact Kd.V_nil _ _ _ _ _ | exact Kd.Q_nil _ _ _ _ _ | exact Kd.S_nil _ _ _ _ _, by exact bv HB.out⟩
  ·rw [if_neg c3] at H; have c3b0 : decide (100 < (a1.size : Int)) = false := decide_eq_false c3; have c3b1 : decide (100 < a1.size) = false := decide_eq_false (by omega); clear c3; obtain ⟨t220, A4, H⟩ := bnd_ H; replace H := Option.bind_eq_some_iff.mp H; obtain ⟨⟨t223, t224⟩, A50, H⟩ := H; replace H : (if t224 = true then ((impl_GoodMark.f k a0 t223).bind fun t227 => (if t227 = true then (some (t223, true)) else (some (([] : List Int), false)))) else (some (([] : List Int), false))) = some (r1, r2) := H; have A5 := q_ A50; clear A50
   by_cases c6 : t224 = true
   ·subst c6; replace H := itt_ H; obtain ⟨t227, A7, H⟩ := bnd_ H; have HC8 := q_ H; clear H; go_enter Tryd.func10, Tryd.ntmps10
    go_upto_if 24 with (first | (refine goesM (some 13) rfl rfl Tryd.func20 #[.string a1, .string (⟨#[32]⟩ : ByteArray)] rfl ?_; (with_reducible refine (strings_Split.calls (hE := DoorOk.below hE (by exact bv HB.out)) a1 (⟨#[32]⟩ : ByteArray) t220 _ A4.out).mono ?_); rintro e w9 ⟨v221, rfl, ho0, hb⟩; refine ⟨_, rfl, ?_⟩; have HO222 := q_ (Kd.R_lower ho0 (below_size (by exact bv HB.out))); replace HB := q_ (below_step (by exact bv HB.out) hb); (try clear hb); (try clear hb2); (try clear hk); (try clear hi); (try clear ho0); obtain ⟨Ao10, co10, eo10⟩ := Kd.R_slice HO222.out; subst eo10) | (refine goesM (some 14) rfl rfl Tryd.func19 #[.slice Ao10 t220.length co10] rfl ?_; (with_reducible refine (impl_readInts.calls (hE := DoorOk.below hE (by exact bv HB.out)) k _ _ t220 t223 true _ ?side1 ?side2 A5.out).mono ?_); (case side1 => exact Kd.C_v ((Kd.R_reads' HO222.out).2.2)); (case side2 => exact (Kd.R_reads' HO222.out).2.1); rintro e w11 ⟨v225, rfl, ho0, hb⟩; refine ⟨_, rfl, ?_⟩; have HO226 := q_ (Kd.R_lower ho0 (below_size (by exact bv HB.out))); replace HO222 := q_ (Kd.R_below (by exact Kd.R_v HO222.out) hb); replace HB := q_ (below_step (by exact bv HB.out) hb); (try clear hb); (try clear hb2); (try clear hk); (try clear hi); (try clear ho0); obtain ⟨Ao12, co12, eo12⟩ := Kd.R_slice HO226.out; subst eo12) | (go_at_call 21; (with_reducible refine (impl_GoodMark.calls k a0 _ _ t223 t227 _ ?side1 ?side2 A7.out).mono ?_); (case side1 => exact Kd.C_v ((Kd.R_reads' HO226.out).2.2)); (case side2 => exact (Kd.R_reads' HO226.out).2.1); rintro e w' ⟨rfl, ⟨nd, rfl⟩⟩))
    (try simp only [Act.put, List.setIfInBounds_toArray, List.set_cons_zero, List.set_cons_succ]); have H := HC8.out; clear HC8
    by_cases c13 : t227 = true
    ·subst c13; replace H := itt_ H; simp only [Option.some.injEq, Prod.mk.injEq] at H; obtain ⟨rfl, rfl⟩ := H; go_wp2
     go_ret2
     exact ⟨_, by first | rfl | (simp [errW_none, errW_some] <;> rfl) | (simp [*, errW_none, errW_some] <;> rfl), by exact Kd.R_v HO226.out, by exact bv HB.out⟩
    ·replace c13 := Bool.eq_false_iff.mpr c13; subst c13; replace H := iff_ H; simp only [Option.some.injEq, Prod.mk.injEq] at H; obtain ⟨rfl, rfl⟩ := H; go_wp2
     go_ret2
     exact ⟨_, by first | rfl | (simp [errW_none, errW_some] <;> rfl) | (simp [*, errW_none, errW_some] <;> rfl), by first | exact Kd.R_nil _ _ _ _ _ | exact Kd.N_nil _ _ _ _ _ | exact Kd.V_nil _ _ _ _ _ | exact Kd.Q_nil _ _ _ _ _ | exact Kd.S_nil _ _ _ _ _, by exact bv HB.out⟩
   ·replace c6 := Bool.eq_false_iff.mpr c6; subst c6; replace H := iff_ H; simp only [Option.some.injEq, Prod.mk.injEq] at H; obtain ⟨rfl, rfl⟩ := H; go_enter Tryd.func10, Tryd.ntmps10; go_wp2_with (first | (refine goesM (some 13) rfl rfl Tryd.func20 #[.string a1, .string (⟨#[32]⟩ : ByteArray)] rfl ?_; (with_reducible refine (strings_Split.calls (hE := DoorOk.below hE (by exact bv HB.out)) a1 (⟨#[32]⟩ : ByteArray) t220 _ A4.out).mono ?_); rintro e w14 ⟨v221, rfl, ho0, hb⟩; refine ⟨_, rfl, ?_⟩; have HO222 := q_ (Kd.R_lower ho0 (below_size (by exact bv HB.out))); replace HB := q_ (below_step (by exact bv HB.out) hb); (try clear hb); (try clear hb2); (try clear hk); (try clear hi); (try clear ho0); obtain ⟨Ao15, co15, eo15⟩ := Kd.R_slice HO222.out; subst eo15) | (refine goesM (some 14) rfl rfl Tryd.func19 #[.slice Ao15 t220.length co15] rfl ?_; (with_reducible refine (impl_readInts.calls (hE := DoorOk.below hE (by exact bv HB.out)) k _ _ t220 t223 false _ ?side1 ?side2 A5.out).mono ?_); (case side1 => exact Kd.C_v ((Kd.R_reads' HO222.out).2.2)); (case side2 => exact (Kd.R_reads' HO222.out).2.1); rintro e w16 ⟨v225, rfl, ho0, hb⟩; refine ⟨_, rfl, ?_⟩; have HO226 := q_ (Kd.R_lower ho0 (below_size (by exact bv HB.out))); replace HO222 := q_ (Kd.R_below (by exact Kd.R_v HO222.out) hb); replace HB := q_ (below_step (by exact bv HB.out) hb); (try clear hb); (try clear hb2); (try clear hk); (try clear hi); (try clear ho0)))
    go_ret2
    exact ⟨_, by first | rfl | (simp [errW_none, errW_some] <;> rfl) | (simp [*, errW_none, errW_some] <;> rfl), by first | exact Kd.R_nil _ _ _ _ _ | exact Kd.N_nil _ _ _ _ _ | exact Kd.V_nil _ _ _ _ _ | exact Kd.Q_nil _ _ _ _ _ | exact Kd.S_nil _ _ _ _ _, by exact bv HB.out⟩

/-! ### laws_markIntS: function 11 -/
def laws_markIntS.l0 : Nat → List Int → Int → Int → Option (Int × List Int)
  | 0, _, _, _ => none
  | k + 1, x0, x1, x5 => if x5 < (x0.length : Int) then (if 0 ≤ x5 then (laws_markIntS.l0 k (x0.set (x5 : Int).toNat x1) (wrap64 (x1 + 1)) (wrap64 (x5 + 1))) else (none)) else (some (x1, x0))
def laws_markIntS.f (k : Nat) (l0 : List Int) (a1 : Int) : Option (Int × List Int) := laws_markIntS.l0 k l0 a1 0
set_option maxHeartbeats 8000000 in
set_option maxRecDepth 100000 in
theorem laws_markIntS.calls (k : Nat) (P0_ : Nat → Prop) (u9000_ : Value) (l0 : List Int) (a1 : Int) (r1 : Int) (r2 : List Int) (w0 w : World) (hB : Below w0.heap.size w0 w) (ho0 : Kd.R (Kd.int .i64) 3 w w0.heap.size P0_ u9000_ l0) (h : laws_markIntS.f k l0 a1 = some (r1, r2)) :
    Calls Tryd.prog 11 #[u9000_, .int .i64 a1] w fun e w' => e = .returned (.int .i64 r1) ∧ Kd.R (Kd.int .i64) 3 w' w0.heap.size (fun k_ => (P0_ k_ ∨ w.heap.size ≤ k_)) u9000_ r2 ∧ Below w0.heap.size w0 w' ∧ Kept w w' (fun k_ => P0_ k_) := by
  have HO0 := q_ (show Kd.R (Kd.int .i64) 3 w w0.heap.size (fun k_ => (P0_ k_ ∨ w.heap.size ≤ k_)) u9000_ l0 from Kd.R_mono ho0 (fun k_ hk => (.inl hk))); have HK := q_ (Kept.refl w (fun k_ => P0_ k_)); have HW0 := q_ hB.size; have HB := q_ hB; clear hB; have H : (laws_markIntS.l0 k l0 a1 0) = some (r1, r2) := h; clear h; have H' := q_ H; clear H; go_enter Tryd.func11, Tryd.ntmps11; go_wp2; go_loopg [1, 5] k (fun kq v1 v5 w' => ∃ (x0_1 : List Int) (x1_1 : Int) (x5_1 : Int), v1 = .int .i64 x1_1 ∧ v5 = .int .i64 x5_1 ∧ Aside0 (laws_markIntS.l0 kq x0_1 x1_1 x5_1 = some (r1, r2)) ∧ Aside0 (kq ≤ k) ∧ Aside0 (Kd.R (Kd.int .i64) 3 w' w0.heap.size (fun k_ => (P0_ k_ ∨ w.heap.size ≤ k_)) u9000_ x0_1) ∧ Aside0 (Kept w w' (fun k_ => P0_ k_)) ∧ Aside0 (Below w0.heap.size w0 w'))
  case atStart => exact ⟨(l0), (a1), (0), eqv, eqv, H', ⟨Nat.le_refl _⟩, ⟨by exact Kd.R_v HO0.out⟩, ⟨by exact kv HK.out⟩, ⟨by exact bv HB.out⟩⟩
  case round =>
   clear H'; obtain ⟨x0_1, x1_1, x5_1, rfl, rfl, HA, HK1, HO_0, HK, HB⟩ := hrel
   cases gk with
   | zero => exact absurd HA.out (by simp [laws_markIntS.l0])
   | succ k1 =>
    have H := HA.out; clear HA; simp only [laws_markIntS.l0] at H
    by_cases c3 : x5_1 < (x0_1.length : Int)
    ·rw [if_pos c3] at H; have c3b0 : decide (x5_1 < (x0_1.length : Int)) = true := decide_eq_true c3; clear c3
     obtain ⟨c4, H⟩ := ifp_ H; have c4b0 : decide (0 ≤ x5_1) = true := decide_eq_true c4; clear c4; obtain ⟨y228, hy228⟩ : ∃ y_ : List Int, y_ = (x0_1.set (x5_1 : Int).toNat x1_1) := ⟨_, rfl⟩; (replace H : (laws_markIntS.l0 k1 y228 (wrap64 (x1_1 + 1)) (wrap64 (x5_1 + 1))) = some (r1, r2) := by first | (rw [hy228]; with_reducible exact H) | (have H2_ := (Option.bind_some _ _).symm.trans H; rw [hy228]; with_reducible exact H2_) | (have H2_ := (Option.bind_some _ _).symm.trans H; with_reducible exact H2_) | with_reducible exact H | (rw [hy228]; exact H) | exact H); have Ny228 := q_ hy228; clear hy228; have H' := q_ H; clear H; obtain ⟨Ao6, co6, eo6⟩ := Kd.R_slice HO_0.out; subst eo6; have p5 : 0 ≤ (x5_1 : Int) := od; have q5 : (x5_1 : Int) < ((x0_1.length : Int) : Int) := od; obtain ⟨go5, co5, eo5, gb5, gl5, cl5, HG5⟩ := Kd.R_form HO_0.out (by omega); (first | cases eo5 | (injection eo5 with ea_ en_ ec_; (first | subst ea_ | (injection ea_ with ea_; subst ea_)); subst ec_; clear en_)); have GB5 := q_ gb5; have GG5 := q_ HG5; clear gb5 gl5 HG5; have HMgo5 := q_ (show (P0_ go5 ∨ w.heap.size ≤ go5) from (HO_0.out.1 _ rfl)); obtain ⟨hx5_0, hf5_0⟩ := Kd.R_celln 0 HO_0.out (x5_1 : Int) p5 q5; replace p5 := eq_true p5; replace q5 := eq_true q5; have HP7 := Kd.R_putg HO_0.out (x5_1 : Int) x1_1; go_wp2_with (first | ((with_reducible refine gate_store (t := 3) (p := 15) rfl ?_); refine store_event (t := 3) (p := 15) (v := ?vo_w8) (w1 := (wr.setCell ⟨go5, (x5_1 : Int).toNat, none⟩ (.int .i64 x1_1))) ?hg ?ho ?hn ?hr ?_; (case ho => rfl); (case hg => rfl); (case hn => rfl); (case hr => first | (go_simp; done) | (go_simp; rfl)); intro w8 hw; have hg : wr.grownBy w8 (some go5) := (by rw [hw]; exact HP7.2); have hp_ : Kd.R (Kd.int .i64) 3 w8 w0.heap.size (fun k_ => (P0_ k_ ∨ w.heap.size ≤ k_)) (.slice (some ⟨go5, 0, none⟩) x0_1.length co6) y228 := (by rw [hw, Ny228.out]; exact HP7.1); clear HP7; have n0_ := q_ (hp_); replace HB := q_ ((by rw [hw]; exact below_set (HB.out) GB5.out : Below w0.heap.size w0 w8)); replace HK := q_ (Kept.of_grown (S := (fun k_ => P0_ k_)) hg (by exact kv HK.out) (fun k_ e_ => (HO_0.out.1 k_ e_))); clear HO_0; have HO_0 := n0_; clear n0_; clear hg hw hp_)); go_roundg k1
     case measure => have := HK1.out; omega
     case rel => exact ⟨(y228), (wrap64 (x1_1 + 1)), (wrap64 (x5_1 + 1)), eqv, eqv, H', ⟨by have := HK1.out; omega⟩, ⟨by exact Kd.R_v HO_0.out⟩, ⟨by exact kv HK.out⟩, ⟨by exact bv HB.out⟩⟩
    ·rw [if_neg c3] at H; have c3b0 : decide (x5_1 < (x0_1.length : Int)) = false := decide_eq_false c3; clear c3; simp only [Option.some.injEq, Prod.mk.injEq] at H; obtain ⟨rfl, rfl⟩ := H; obtain ⟨Ao9, co9, eo9⟩ := Kd.R_slice HO_0.out; subst eo9; go_wp2; go_ret; exact ⟨by first | rfl | (simp [errW_none, errW_some] <;> rfl) | (simp [*, errW_none, errW_some] <;> rfl), by exact Kd.R_v HO_0.out, by exact bv HB.out, by exact kv HK.out⟩

/-! ### laws_heldIntS: function 12 -/
def laws_heldIntS.l0 : Nat → List Int → Int → Int → Option (Int)
  | 0, _, _, _ => none
  | k + 1, x0, x1, x5 => if x5 < (x0.length : Int) then (if 0 ≤ x5 then (if (rd x0 x5) = x1 then (laws_heldIntS.l0 k x0 (wrap64 (x1 + 1)) (wrap64 (x5 + 1))) else (some (-1))) else (none)) else (some x1)
def laws_heldIntS.f (k : Nat) (l0 : List Int) (a1 : Int) : Option (Int) := laws_heldIntS.l0 k l0 a1 0
set_option maxHeartbeats 8000000 in
set_option maxRecDepth 100000 in
theorem laws_heldIntS.calls (k : Nat) (A0 : Option Addr) (c0 : Nat) (l0 : List Int) (a1 : Int) (r : Int) (w : World) (hr0 : Kd.C (Kd.int .i64) w A0 l0.length l0) (hc0 : l0.length ≤ c0) (h : laws_heldIntS.f k l0 a1 = some r) :
    Calls Tryd.prog 12 #[.slice A0 l0.length c0, .int .i64 a1] w fun e w' => e = .returned (.int .i64 r) ∧ Drawn0 w w' := by
  have HR0 := q_ hr0; have HC0 := q_ hc0; clear hr0 hc0; have H : (laws_heldIntS.l0 k l0 a1 0) = some r := h; clear h; have H' := q_ H; clear H; go_enter Tryd.func12, Tryd.ntmps12; go_wp2; go_loopg [1, 5] k (fun kq v1 v5 w' => ∃ (x1_1 : Int) (x5_1 : Int), v1 = .int .i64 x1_1 ∧ v5 = .int .i64 x5_1 ∧ Aside0 (laws_heldIntS.l0 kq l0 x1_1 x5_1 = some r) ∧ Aside0 (kq ≤ k) ∧ Drawn0 w w')
  case atStart => exact ⟨(a1), (0), eqv, eqv, H', ⟨Nat.le_refl _⟩, by repeat (first | exact Drawn0.refl _ | apply Drawn0.step)⟩
  case round =>
   clear H'; obtain ⟨x1_1, x5_1, rfl, rfl, HA, HK1, ⟨m1, rfl⟩⟩ := hrel
   cases gk with
   | zero => exact absurd HA.out (by simp [laws_heldIntS.l0])
   | succ k1 =>
    have H := HA.out; clear HA; simp only [laws_heldIntS.l0] at H
    by_cases c3 : x5_1 < (l0.length : Int)
    ·rw [if_pos c3] at H; have c3b0 : decide (x5_1 < (l0.length : Int)) = true := decide_eq_true c3; clear c3
     obtain ⟨c4, H⟩ := ifp_ H; have c4b0 : decide (0 ≤ x5_1) = true := decide_eq_true c4; clear c4
     by_cases c5 : (rd l0 x5_1) = x1_1
     ·rw [if_pos c5] at H; have c5b0 : ((rd l0 x5_1) == x1_1) = true := beq_iff_eq.mpr c5; have c5b1 : ((rd l0 x5_1) != x1_1) = false := bne_eq_false_iff_eq.mpr c5; clear c5; have H' := q_ H; clear H; have p229 : 0 ≤ (x5_1 : Int) := od; have q229 : x5_1 < (l0.length : Int) := od; obtain ⟨ad229, e229, hx229_0⟩ := Kd.at_int HR0.out x5_1 p229 q229
      cases e229
      replace p229 := eq_true p229; replace q229 := eq_true q229; go_wp2; go_roundg k1
      case measure => have := HK1.out; omega
      case rel => exact ⟨(wrap64 (x1_1 + 1)), (wrap64 (x5_1 + 1)), eqv, eqv, H', ⟨by have := HK1.out; omega⟩, by repeat (first | exact Drawn0.refl _ | apply Drawn0.step)⟩
     ·rw [if_neg c5] at H; have c5b0 : ((rd l0 x5_1) == x1_1) = false := beq_eq_false_iff_ne.mpr c5; have c5b1 : ((rd l0 x5_1) != x1_1) = true := bne_iff_ne.mpr c5; obtain rfl := Option.some.inj H; have p229 : 0 ≤ (x5_1 : Int) := od; have q229 : x5_1 < (l0.length : Int) := od; obtain ⟨ad229, e229, hx229_0⟩ := Kd.at_int HR0.out x5_1 p229 q229
      cases e229
      replace p229 := eq_true p229; replace q229 := eq_true q229; go_wp2; go_ret; exact ⟨by first | rfl | (simp; done) | (simp [*]; done), by repeat (first | exact Drawn0.refl _ | apply Drawn0.step)⟩
    ·rw [if_neg c3] at H; have c3b0 : decide (x5_1 < (l0.length : Int)) = false := decide_eq_false c3; clear c3; obtain rfl := Option.some.inj H; go_wp2; go_ret; exact ⟨by first | rfl | (simp; done) | (simp [*]; done), by repeat (first | exact Drawn0.refl _ | apply Drawn0.step)⟩

/-! ### laws_FnExactReadMark: function 4 -/
def laws_FnExactReadMark.f (k : Nat) (a0 : Int) (a1 : ByteArray) : Option (Bool) := if (a1.size : Int) > 1048576 then (some true) else ((spec_ReadMark.f k a0 a1).bind fun bt230 => ((impl_ReadMark.f k a0 a1).bind fun bt234 => ((laws_eqIntS.f k bt234.1 bt230.1).bind fun t238 => (if t238 = true then (if (bt234.2 != bt230.2) = true then (none) else ((laws_markIntS.f k bt234.1 1).bind fun bt239 => ((laws_heldIntS.f k bt239.2 1).bind fun t241 => (if t241 < 0 then (none) else (if t241 = bt239.1 then ((impl_ReadMark.f k a0 a1).bind fun bt242 => ((laws_eqIntS.f k bt242.1 bt230.1).bind fun t246 => (if t246 = true then (if (bt242.2 != bt230.2) = true then (none) else ((laws_heldIntS.f k bt239.2 1).bind fun t247 => (if t247 < 0 then (none) else (if t247 = bt239.1 then (some true) else (none))))) else (none)))) else (none)))))) else (none)))))
set_option maxHeartbeats 8000000 in
set_option maxRecDepth 100000 in
theorem laws_FnExactReadMark.calls (k : Nat) (a0 : Int) (a1 : ByteArray) (r : Bool) (w : World) (hE : DoorOk w) (h : laws_FnExactReadMark.f k a0 a1 = some r) :
    Calls Tryd.prog 4 #[.int .i64 a0, .string a1] w fun e w' => e = .returned (.bool r) ∧ Below w.heap.size w w' := by
  have HB := q_ (Below.refl w.heap.size w); have H : (if (a1.size : Int) > 1048576 then (some true) else ((spec_ReadMark.f k a0 a1).bind fun bt230 => ((impl_ReadMark.f k a0 a1).bind fun bt234 => ((laws_eqIntS.f k bt234.1 bt230.1).bind fun t238 => (if t238 = true then (if (bt234.2 != bt230.2) = true then (none) else ((laws_markIntS.f k bt234.1 1).bind fun bt239 => ((laws_heldIntS.f k bt239.2 1).bind fun t241 => (if t241 < 0 then (none) else (if t241 = bt239.1 then ((impl_ReadMark.f k a0 a1).bind fun bt242 => ((laws_eqIntS.f k bt242.1 bt230.1).bind fun t246 => (if t246 = true then (if (bt242.2 != bt230.2) = true then (none) else ((laws_heldIntS.f k bt239.2 1).bind fun t247 => (if t247 < 0 then (none) else (if t247 = bt239.1 then (some true) else (none))))) else (none)))) else (none)))))) else (none)))))) = some r := h; clear h
  by_cases c3 : (a1.size : Int) > 1048576
  ·rw [if_pos c3] at H; have c3b0 : decide (1048576 < (a1.size : Int)) = true := decide_eq_true c3; have c3b1 : decide (1048576 < a1.size) = true := decide_eq_true (by omega); clear c3; obtain rfl := Option.some.inj H; go_enter Tryd.func4, Tryd.ntmps4; go_wp2; go_ret; exact fin_ (by exact bv HB.out)
  ·rw [if_neg c3] at H; have c3b0 : decide (1048576 < (a1.size : Int)) = false := decide_eq_false c3; have c3b1 : decide (1048576 < a1.size) = false := decide_eq_false (by omega); clear c3; replace H := Option.bind_eq_some_iff.mp H; obtain ⟨⟨t230, t231⟩, A40, H⟩ := H; replace H : ((impl_ReadMark.f k a0 a1).bind fun bt234 => ((laws_eqIntS.f k bt234.1 t230).bind fun t238 => (if t238 = true then (if (bt234.2 != t231) = true then (none) else ((laws_markIntS.f k bt234.1 1).bind fun bt239 => ((laws_heldIntS.f k bt239.2 1).bind fun t241 => (if t241 < 0 then (none) else (if t241 = bt239.1 then ((impl_ReadMark.f k a0 a1).bind fun bt242 => ((laws_eqIntS.f k bt242.1 t230).bind fun t246 => (if t246 = true then (if (bt242.2 != t231) = true then (none) else ((laws_heldIntS.f k bt239.2 1).bind fun t247 => (if t247 < 0 then (none) else (if t247 = bt239.1 then (some true) else (none))))) else (none)))) else (none)))))) else (none)))) = some r := H; have A4 := q_ A40; clear A40; replace H := Option.bind_eq_some_iff.mp H; obtain ⟨⟨t234, t235⟩, A50, H⟩ := H; replace H : ((laws_eqIntS.f k t234 t230).bind fun t238 => (if t238 = true then (if (t235 != t231) = true then (none) else ((laws_markIntS.f k t234 1).bind fun bt239 => ((laws_heldIntS.f k bt239.2 1).bind fun t241 => (if t241 < 0 then (none) else (if t241 = bt239.1 then ((impl_ReadMark.f k a0 a1).bind fun bt242 => ((laws_eqIntS.f k bt242.1 t230).bind fun t246 => (if t246 = true then (if (bt242.2 != t231) = true then (none) else ((laws_heldIntS.f k bt239.2 1).bind fun t247 => (if t247 < 0 then (none) else (if t247 = bt239.1 then (some true) else (none))))) else (none)))) else (none)))))) else (none))) = some r := H; have A5 := q_ A50; clear A50; obtain ⟨t238, A6, H⟩ := bnd_ H
   by_cases c7 : t238 = true
   case neg => (replace c7 := Bool.eq_false_iff.mpr c7); subst c7; rw [if_neg (show ¬ (false = true) by decide)] at H; exact absurd H (by simp)
   subst c7; replace H := itt_ H
   obtain ⟨c8, H⟩ := ifn_ H; (have c8b0 : (t235 != t231) = false := by simpa using c8); (try (have c8b1 : decide (t235 = t231) = true := by simpa using c8)); (try (have c8b2 : (t235 == t231) = true := by simpa using c8)); clear c8; replace H := Option.bind_eq_some_iff.mp H; obtain ⟨⟨t239, t240⟩, A90, H⟩ := H; replace H : ((laws_heldIntS.f k t240 1).bind fun t241 => (if t241 < 0 then (none) else (if t241 = t239 then ((impl_ReadMark.f k a0 a1).bind fun bt242 => ((laws_eqIntS.f k bt242.1 t230).bind fun t246 => (if t246 = true then (if (bt242.2 != t231) = true then (none) else ((laws_heldIntS.f k t240 1).bind fun t247 => (if t247 < 0 then (none) else (if t247 = t239 then (some true) else (none))))) else (none)))) else (none)))) = some r := H; have A9 := q_ A90; clear A90; obtain ⟨t241, A10, H⟩ := bnd_ H
   obtain ⟨c11, H⟩ := ifn_ H; have c11b0 : decide (t241 < 0) = false := decide_eq_false c11; clear c11
   obtain ⟨c12, H⟩ := ifp_ H; have c12b0 : (t241 == t239) = true := beq_iff_eq.mpr c12; have c12b1 : (t241 != t239) = false := bne_eq_false_iff_eq.mpr c12; clear c12; replace H := Option.bind_eq_some_iff.mp H; obtain ⟨⟨t242, t243⟩, A130, H⟩ := H; replace H : ((laws_eqIntS.f k t242 t230).bind fun t246 => (if t246 = true then (if (t243 != t231) = true then (none) else ((laws_heldIntS.f k t240 1).bind fun t247 => (if t247 < 0 then (none) else (if t247 = t239 then (some true) else (none))))) else (none))) = some r := H; have A13 := q_ A130; clear A130; obtain ⟨t246, A14, H⟩ := bnd_ H
   by_cases c15 : t246 = true
   case neg => (replace c15 := Bool.eq_false_iff.mpr c15); subst c15; rw [if_neg (show ¬ (false = true) by decide)] at H; exact absurd H (by simp)
   subst c15; replace H := itt_ H
   obtain ⟨c16, H⟩ := ifn_ H; (have c16b0 : (t243 != t231) = false := by simpa using c16); (try (have c16b1 : decide (t243 = t231) = true := by simpa using c16)); (try (have c16b2 : (t243 == t231) = true := by simpa using c16)); clear c16; obtain ⟨t247, A17, H⟩ := bnd_ H
   obtain ⟨c18, H⟩ := ifn_ H; have c18b0 : decide (t247 < 0) = false := decide_eq_false c18; clear c18
   obtain ⟨c19, H⟩ := ifp_ H; have c19b0 : (t247 == t239) = true := beq_iff_eq.mpr c19; have c19b1 : (t247 != t239) = false := bne_eq_false_iff_eq.mpr c19; clear c19; obtain rfl := Option.some.inj H; go_enter Tryd.func4, Tryd.ntmps4; go_wp2_with (first | (refine goesM (some 19) rfl rfl Tryd.func9 #[.int .i64 a0, .string a1] rfl ?_; (with_reducible refine (spec_ReadMark.calls k a0 a1 t230 t231 _ A4.out).mono ?_); rintro e w20 ⟨v232, rfl, ho0, hb⟩; refine ⟨_, rfl, ?_⟩; have HO233 := q_ (Kd.R_lower (Kd.R_iv (lo := w.heap.size) ho0 (Nat.le_refl _)) (below_size (by exact bv HB.out))); have HZw20 := q_ ((hz_ hb : w.heap.size ≤ w20.heap.size)); replace HB := q_ (below_step (by exact bv HB.out) hb); (try clear hb); (try clear hb2); (try clear hk); (try clear hi); (try clear ho0)) | (refine goesM (some 25) rfl rfl Tryd.func10 #[.int .i64 a0, .string a1] rfl ?_; (with_reducible refine (impl_ReadMark.calls (hE := DoorOk.below hE (by exact bv HB.out)) k a0 a1 t234 t235 _ A5.out).mono ?_); rintro e w21 ⟨v236, rfl, ho0, hb⟩; refine ⟨_, rfl, ?_⟩; have HO237 := q_ (Kd.R_lower (Kd.R_new' (Kd.R_iv (lo := w20.heap.size) ho0 (Nat.le_refl _)) (Kd.R_lt (by exact Kd.R_v HO233.out))) (below_size (by exact bv HB.out))); have HZw21 := q_ ((hz_ hb : w20.heap.size ≤ w21.heap.size)); replace HO233 := q_ (Kd.R_elder' (by exact Kd.R_v HO233.out) (Kd.R_base ho0) hb); replace HB := q_ (below_step (by exact bv HB.out) hb); (try clear hb); (try clear hb2); (try clear hk); (try clear hi); (try clear ho0); obtain ⟨Ao22, co22, eo22⟩ := Kd.R_slice HO237.out; subst eo22; obtain ⟨Ao23, co23, eo23⟩ := Kd.R_slice HO233.out; subst eo23) | (refine goesM (some 30) rfl rfl Tryd.func8 #[.slice Ao22 t234.length co22, .slice Ao23 t230.length co23] rfl ?_; (with_reducible refine (laws_eqIntS.calls k _ _ t234 _ _ t230 true _ ?side1 ?side2 ?side3 ?side4 A6.out).mono ?_); (case side1 => exact Kd.C_v ((Kd.R_reads' HO237.out).2.2)); (case side2 => exact (Kd.R_reads' HO237.out).2.1); (case side3 => exact Kd.C_v ((Kd.R_reads' HO233.out).2.2)); (case side4 => exact (Kd.R_reads' HO233.out).2.1); rintro e w' ⟨rfl, ⟨nd, rfl⟩⟩; refine ⟨_, rfl, ?_⟩) | (refine goesM (some 39) rfl rfl Tryd.func11 #[.slice Ao22 t234.length co22, .int .i64 1] rfl ?_; (with_reducible refine (laws_markIntS.calls k (fun k_ => some k_ = (.slice Ao22 t234.length co22 : Value).ownBlock) (.slice Ao22 t234.length co22) t234 1 t239 t240 w _ ?side1 ?side2 A9.out).mono ?_); (case side1 => exact bv HB.out); (case side2 => exact Kd.R_tight rfl HO237.out); rintro e w24 ⟨rfl, hy0, hb, hkp⟩; refine ⟨_, rfl, ?_⟩; have HZw24 := q_ ((hkp.1 : w21.heap.size ≤ w24.heap.size)); replace HO233 := q_ (Kd.R_mono (ok' := fun k_ => some k_ ≠ (.slice Ao22 t234.length co22 : Value).ownBlock ∧ (w.heap.size ≤ k_ ∧ k_ < w20.heap.size)) (Kd.R_keptB (HO233.out) hkp (fun k_ hk_ hs_ => (hk_.2) hs_)) (fun k_ hk_ => ⟨hk_.1.2, hk_.1.1.2⟩)); replace HO237 := q_ (Kd.R_reok rfl hy0 (fun k_ e_ => HO237.out.1 k_ e_)); replace HB := q_ (hb); (try clear hb); (try clear hkp); (try clear hy0)) | ((with_reducible refine gate_callee (f := 12) rfl ?_); refine goesL_ (some 42) rfl rfl Tryd.func12 (by kernel_rfl) rfl #[.slice Ao22 t240.length co22, .int .i64 1] rfl (by (try simp only [List.map_toArray, List.map_cons, List.map_nil]); first | done | (rw [show t240.length = t234.length from (Kd.R_reads' HO237.out).1.symm] <;> rfl) | rfl | (simp only [List.length_drop, List.length_take]; rfl)) ?_; (with_reducible refine (laws_heldIntS.calls k _ _ t240 1 t241 _ ?side1 ?side2 A10.out).mono ?_); (case side1 => exact Kd.C_v ((Kd.R_reads' HO237.out).2.2)); (case side2 => rw [show t240.length = t234.length from (Kd.R_reads' HO237.out).1.symm]; exact (Kd.R_reads' HO237.out).2.1); rintro e w' ⟨rfl, ⟨nd, rfl⟩⟩; refine ⟨_, rfl, ?_⟩) | (refine goesM (some 51) rfl rfl Tryd.func10 #[.int .i64 a0, .string a1] rfl ?_; (with_reducible refine (impl_ReadMark.calls (hE := DoorOk.below hE (by exact bv HB.out)) k a0 a1 t242 t243 _ A13.out).mono ?_); rintro e w25 ⟨v244, rfl, ho0, hb⟩; refine ⟨_, rfl, ?_⟩; have HO245 := q_ (Kd.R_lower (Kd.R_new' (Kd.R_new' (Kd.R_iv (lo := w24.heap.size) ho0 (Nat.le_refl _)) (Kd.R_lt (by exact Kd.R_v HO233.out))) (Kd.R_lt (by exact Kd.R_v HO237.out))) (below_size (by exact bv HB.out))); have HZw25 := q_ ((hz_ hb : w24.heap.size ≤ w25.heap.size)); replace HO233 := q_ (Kd.R_elder' (by exact Kd.R_v HO233.out) (Kd.R_base ho0) hb); replace HO237 := q_ (Kd.R_elder' (by exact Kd.R_v HO237.out) (Kd.R_base ho0) hb); replace HB := q_ (below_step (by exact bv HB.out) hb); (try clear hb); (try clear hb2); (try clear hk); (try clear hi); (try clear ho0); obtain ⟨Ao26, co26, eo26⟩ := Kd.R_slice HO245.out; subst eo26) | (refine goesM (some 56) rfl rfl Tryd.func8 #[.slice Ao26 t242.length co26, .slice Ao23 t230.length co23] rfl ?_; (with_reducible refine (laws_eqIntS.calls k _ _ t242 _ _ t230 true _ ?side1 ?side2 ?side3 ?side4 A14.out).mono ?_); (case side1 => exact Kd.C_v ((Kd.R_reads' HO245.out).2.2)); (case side2 => exact (Kd.R_reads' HO245.out).2.1); (case side3 => exact Kd.C_v ((Kd.R_reads' HO233.out).2.2)); (case side4 => exact (Kd.R_reads' HO233.out).2.1); rintro e w' ⟨rfl, ⟨nd, rfl⟩⟩; refine ⟨_, rfl, ?_⟩; clear HO233 HO245) | ((with_reducible refine gate_callee (f := 12) rfl ?_); refine goesL_ (some 65) rfl rfl Tryd.func12 (by kernel_rfl) rfl #[.slice Ao22 t240.length co22, .int .i64 1] rfl (by (try simp only [List.map_toArray, List.map_cons, List.map_nil]); first | done | (rw [show t240.length = t234.length from (Kd.R_reads' HO237.out).1.symm] <;> rfl) | rfl | (simp only [List.length_drop, List.length_take]; rfl)) ?_; (with_reducible refine (laws_heldIntS.calls k _ _ t240 1 t247 _ ?side1 ?side2 A17.out).mono ?_); (case side1 => exact Kd.C_v ((Kd.R_reads' HO237.out).2.2)); (case side2 => rw [show t240.length = t234.length from (Kd.R_reads' HO237.out).1.symm]; exact (Kd.R_reads' HO237.out).2.1); rintro e w' ⟨rfl, ⟨nd, rfl⟩⟩; refine ⟨_, rfl, ?_⟩)); go_ret; exact fin_ (by exact bv HB.out)

/-- THE ONE PURE STATEMENT of laws_FnExactReadMark: yours. -/
def laws_FnExactReadMark.Pure : Prop := ∀ (a0 : Int) (a1 : ByteArray), (Lit.int .i64 a0).wf = true → a1.size ≤ 140737488351232 → ∃ k, laws_FnExactReadMark.f k a0 a1 = some true
theorem laws_FnExactReadMark.walk (P : laws_FnExactReadMark.Pure) (a0 : Int) (a1 : ByteArray) (w : World) (hE : DoorOk w) (w0 : (Lit.int .i64 a0).wf = true) (w1 : a1.size ≤ 140737488351232) :
   Calls Tryd.prog 4 #[.int .i64 a0, .string a1] w fun e w' => e = .returned (.bool true) ∧ Below w.heap.size w w' := by
  obtain ⟨k, h⟩ := P a0 a1 w0 w1; refine (laws_FnExactReadMark.calls k a0 a1 true w hE h).mono ?_; rintro e w' ⟨rfl, hd⟩; exact ⟨rfl, hd⟩

end Go.Proofs.YtbkjgnfnjgebiaaDoor.F
