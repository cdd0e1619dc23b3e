-- Written by a program of this session (fork.py, fprint.sh). Lean checks it.
import Derived.Test.YtiglhdibibbkjaaF0
import Derived.Test.YtiglhdibibbkjaaF1
import Derived.Test.YtiglhdibibbkjaaF2
import Derived.Test.YtiglhdibibbkjaaF4
import Derived.Test.YtiglhdibibbkjaaF5
namespace Go.Proofs.Ytiglhdibibbkjaa.F
open Go.RowKit Go.Proofs.YtiglhdibibbkjaaW.PrintWords Go.Proofs.YtiglhdibibbkjaaW.PrintLast Go.Proofs.YtiglhdibibbkjaaW.PrintMore
attribute [local go_sem] max2_int min2_int max_two min_two max_three min_three max_four min_four   -- for this text's walks alone
set_option linter.unusedVariables false
set_option linter.unusedSimpArgs false

/-! ### laws_eqIntSS: function 13 -/
def laws_eqIntSS.l0 : Nat → List (List Int) → List (List Int) → Int → Option (Bool)
  | 0, _, _, _ => none
  | k + 1, x0, x1, x5 => if x5 < (x0.length : Int) then (if 0 ≤ x5 then (if x5 < (x1.length : Int) then ((laws_eqIntS.f k (rd_L1 x0 x5) (rd_L1 x1 x5)).bind fun t470 => (if t470 = true then (laws_eqIntSS.l0 k x0 x1 (wrap64 (x5 + 1))) else (some false))) else (none)) else (none)) else (some true)
def laws_eqIntSS.f (k : Nat) (l0 : List (List Int)) (l1 : List (List Int)) : Option (Bool) := if (l0.length : Int) = (l1.length : Int) then (laws_eqIntSS.l0 k l0 l1 0) else (some false)
set_option maxHeartbeats 8000000 in
set_option maxRecDepth 100000 in
theorem laws_eqIntSS.calls (k : Nat) (A0 : Option Addr) (c0 : Nat) (l0 : List (List Int)) (A1 : Option Addr) (c1 : Nat) (l1 : List (List Int)) (r : Bool) (w : World) (hr0 : Kd.C (Kd.slice 3 (Kd.int .i64)) w A0 l0.length l0) (hc0 : l0.length ≤ c0) (hr1 : Kd.C (Kd.slice 3 (Kd.int .i64)) w A1 l1.length l1) (hc1 : l1.length ≤ c1) (h : laws_eqIntSS.f k l0 l1 = some r) :
    Calls Try.prog 13 #[.slice A0 l0.length c0, .slice A1 l1.length c1] w fun e w' => e = .returned (.bool r) ∧ Drawn0 w w' := by
  have HR0 := q_ hr0; have HC0 := q_ hc0; clear hr0 hc0; have HR1 := q_ hr1; have HC1 := q_ hc1; clear hr1 hc1; have H : (if (l0.length : Int) = (l1.length : Int) then (laws_eqIntSS.l0 k l0 l1 0) else (some false)) = some r := h; clear h
  by_cases c3 : (l0.length : Int) = (l1.length : Int)
  ·rw [if_pos c3] at H; have c3b0 : ((l0.length : Int) == (l1.length : Int)) = true := beq_iff_eq.mpr c3; have c3b1 : ((l0.length : Int) != (l1.length : Int)) = false := bne_eq_false_iff_eq.mpr c3; (have c3b2 : (l0.length == l1.length) = true := by first | simpa using c3 | (simp at c3 ⊢; omega)); clear c3; have H' := q_ H; clear H; go_enter Try.func13, Try.ntmps13; go_wp2; (repeat (go_quiet (fail); try go_wp2)); go_loopg [5] k (fun kq v5 w' => ∃ (x5_1 : Int), v5 = .int .i64 x5_1 ∧ Aside0 (laws_eqIntSS.l0 kq l0 l1 x5_1 = some r) ∧ Aside0 (kq ≤ k) ∧ Drawn0 w w')
   case atStart => exact ⟨(0), eqv, H', ⟨Nat.le_refl _⟩, by repeat (first | exact Drawn0.refl _ | apply Drawn0.step)⟩
   case round =>
    clear H'; (try clear c3b0); (try clear c3b1); (try clear c3b2); obtain ⟨x5_1, rfl, HA, HK1, ⟨m1, rfl⟩⟩ := hrel
    cases gk with
    | zero => exact absurd HA.out (by simp [laws_eqIntSS.l0])
    | succ k1 =>
     have H := HA.out; clear HA; simp only [laws_eqIntSS.l0] at H
     by_cases c4 : x5_1 < (l0.length : Int)
     ·rw [if_pos c4] at H; have c4b0 : decide (x5_1 < (l0.length : Int)) = true := decide_eq_true c4; clear c4
      obtain ⟨c5, H⟩ := ifp_ H; have c5b0 : decide (0 ≤ x5_1) = true := decide_eq_true c5; clear c5
      obtain ⟨c6, H⟩ := ifp_ H; have c6b0 : decide (x5_1 < (l1.length : Int)) = true := decide_eq_true c6; clear c6; obtain ⟨t470, A7, H⟩ := bnd_ H; have HC8 := q_ H; clear H; have p468 : 0 ≤ (x5_1 : Int) := od; have q468 : x5_1 < (l0.length : Int) := od; obtain ⟨ad468, A468_0, c468_0, e468, hx468_0, hl468_0, hi468_0⟩ := at_L1 HR0.out x5_1 p468 q468
      cases e468
      have HR468_0 := q_ hi468_0; have HC468_0 := q_ hl468_0; clear hi468_0 hl468_0; replace p468 := eq_true p468; replace q468 := eq_true q468; have p469 : 0 ≤ (x5_1 : Int) := od; have q469 : x5_1 < (l1.length : Int) := od; obtain ⟨ad469, A469_0, c469_0, e469, hx469_0, hl469_0, hi469_0⟩ := at_L1 HR1.out x5_1 p469 q469
      cases e469
      have HR469_0 := q_ hi469_0; have HC469_0 := q_ hl469_0; clear hi469_0 hl469_0; replace p469 := eq_true p469; replace q469 := eq_true q469
      go_upto_if 26 with (first | (go_at_call 22; (with_reducible refine (laws_eqIntS.calls k1 _ _ (rd_L1 l0 x5_1) _ _ (rd_L1 l1 x5_1) t470 _ ?side1 ?side2 ?side3 ?side4 A7.out).mono ?_); (case side1 => exact Kd.C_v HR468_0.out); (case side2 => exact HC468_0.out); (case side3 => exact Kd.C_v HR469_0.out); (case side4 => exact HC469_0.out); rintro e w' ⟨rfl, ⟨nd, rfl⟩⟩; (try first | exact ⟨rfl, _, World.drewN_drewN _ _ _⟩ | exact ⟨rfl, _, Eq.trans (World.drewN_drewN _ _ _) (congrArg (World.drewN _) (Nat.add_assoc _ _ _))⟩)))
      (repeat (go_quiet (first | (go_at_call 22; (with_reducible refine (laws_eqIntS.calls k1 _ _ (rd_L1 l0 x5_1) _ _ (rd_L1 l1 x5_1) t470 _ ?side1 ?side2 ?side3 ?side4 A7.out).mono ?_); (case side1 => exact Kd.C_v HR468_0.out); (case side2 => exact HC468_0.out); (case side3 => exact Kd.C_v HR469_0.out); (case side4 => exact HC469_0.out); rintro e w' ⟨rfl, ⟨nd, rfl⟩⟩; (try first | exact ⟨rfl, _, World.drewN_drewN _ _ _⟩ | exact ⟨rfl, _, Eq.trans (World.drewN_drewN _ _ _) (congrArg (World.drewN _) (Nat.add_assoc _ _ _))⟩))); go_upto_if 26 with (first | (go_at_call 22; (with_reducible refine (laws_eqIntS.calls k1 _ _ (rd_L1 l0 x5_1) _ _ (rd_L1 l1 x5_1) t470 _ ?side1 ?side2 ?side3 ?side4 A7.out).mono ?_); (case side1 => exact Kd.C_v HR468_0.out); (case side2 => exact HC468_0.out); (case side3 => exact Kd.C_v HR469_0.out); (case side4 => exact HC469_0.out); rintro e w' ⟨rfl, ⟨nd, rfl⟩⟩; (try first | exact ⟨rfl, _, World.drewN_drewN _ _ _⟩ | exact ⟨rfl, _, Eq.trans (World.drewN_drewN _ _ _) (congrArg (World.drewN _) (Nat.add_assoc _ _ _))⟩))))); (try simp only [Act.put, List.setIfInBounds_toArray, List.set_cons_zero, List.set_cons_succ]); have H := HC8.out; clear HC8
      by_cases c9 : t470 = true
      ·subst c9; replace H := itt_ H; have H' := q_ H; clear H; go_wp2; (repeat (go_quiet (fail); try go_wp2)); go_roundg k1
       case measure => have := HK1.out; omega
       case rel => exact ⟨(wrap64 (x5_1 + 1)), eqv, H', ⟨by have := HK1.out; omega⟩, by repeat (first | exact Drawn0.refl _ | apply Drawn0.step)⟩
      ·replace c9 := Bool.eq_false_iff.mpr c9; subst c9; replace H := iff_ H; obtain rfl := Option.some.inj H; go_wp2; (repeat (go_quiet (fail); try go_wp2)); go_ret; exact ⟨by first | rfl | (simp; done) | (simp [*]; done), by repeat (first | exact Drawn0.refl _ | apply Drawn0.step)⟩
     ·rw [if_neg c4] at H; have c4b0 : decide (x5_1 < (l0.length : Int)) = false := decide_eq_false c4; clear c4; obtain rfl := Option.some.inj H; go_wp2; (repeat (go_quiet (fail); try go_wp2)); go_ret; exact ⟨by first | rfl | (simp; done) | (simp [*]; done), by repeat (first | exact Drawn0.refl _ | apply Drawn0.step)⟩
  ·rw [if_neg c3] at H; have c3b0 : ((l0.length : Int) == (l1.length : Int)) = false := beq_eq_false_iff_ne.mpr c3; have c3b1 : ((l0.length : Int) != (l1.length : Int)) = true := bne_iff_ne.mpr c3; (have c3b2 : (l0.length == l1.length) = false := by first | simpa using c3 | (simp at c3 ⊢; omega)); obtain rfl := Option.some.inj H; go_enter Try.func13, Try.ntmps13; go_wp2; (repeat (go_quiet (fail); try go_wp2)); go_ret; exact ⟨by first | rfl | (simp; done) | (simp [*]; done), by repeat (first | exact Drawn0.refl _ | apply Drawn0.step)⟩

/-! ### laws_markIntS: function 26 -/
def laws_markIntS.l0 : Nat → List Int → Int → Int → Option (Int × List Int)
  | 0, _, _, _ => none
  | k + 1, x0, x1, x5 => if x5 < (x0.length : Int) then (if 0 ≤ x5 then (laws_markIntS.l0 k (x0.set (x5 : Int).toNat x1) (wrap64 (x1 + 1)) (wrap64 (x5 + 1))) else (none)) else (some (x1, x0))
def laws_markIntS.f (k : Nat) (l0 : List Int) (a1 : Int) : Option (Int × List Int) := laws_markIntS.l0 k l0 a1 0
set_option maxHeartbeats 8000000 in
set_option maxRecDepth 100000 in
theorem laws_markIntS.calls (k : Nat) (P0_ : Nat → Prop) (u9000_ : Value) (l0 : List Int) (a1 : Int) (r1 : Int) (r2 : List Int) (w0 w : World) (hB : Below w0.heap.size w0 w) (ho0 : Kd.R (Kd.int .i64) 3 w w0.heap.size P0_ u9000_ l0) (h : laws_markIntS.f k l0 a1 = some (r1, r2)) :
    Calls Try.prog 26 #[u9000_, .int .i64 a1] w fun e w' => e = .returned (.int .i64 r1) ∧ Kd.R (Kd.int .i64) 3 w' w0.heap.size (fun k_ => (P0_ k_ ∨ w.heap.size ≤ k_)) u9000_ r2 ∧ Below w0.heap.size w0 w' ∧ Kept w w' (fun k_ => P0_ k_) := by
  have HO0 := q_ (show Kd.R (Kd.int .i64) 3 w w0.heap.size (fun k_ => (P0_ k_ ∨ w.heap.size ≤ k_)) u9000_ l0 from Kd.R_mono ho0 (fun k_ hk => (.inl hk))); have HK := q_ (Kept.refl w (fun k_ => P0_ k_)); have HW0 := q_ hB.size; have HB := q_ hB; clear hB; have H : (laws_markIntS.l0 k l0 a1 0) = some (r1, r2) := h; clear h; have H' := q_ H; clear H; go_enter Try.func26, Try.ntmps26; go_wp2; go_loopg [1, 5] k (fun kq v1 v5 w' => ∃ (x0_1 : List Int) (x1_1 : Int) (x5_1 : Int), v1 = .int .i64 x1_1 ∧ v5 = .int .i64 x5_1 ∧ Aside0 (laws_markIntS.l0 kq x0_1 x1_1 x5_1 = some (r1, r2)) ∧ Aside0 (kq ≤ k) ∧ Aside0 (Kd.R (Kd.int .i64) 3 w' w0.heap.size (fun k_ => (P0_ k_ ∨ w.heap.size ≤ k_)) u9000_ x0_1) ∧ Aside0 (Kept w w' (fun k_ => P0_ k_)) ∧ Aside0 (Below w0.heap.size w0 w'))
  case atStart => exact ⟨(l0), (a1), (0), eqv, eqv, H', ⟨Nat.le_refl _⟩, ⟨by exact Kd.R_v HO0.out⟩, ⟨by exact kv HK.out⟩, ⟨by exact bv HB.out⟩⟩
  case round =>
   clear H'; obtain ⟨x0_1, x1_1, x5_1, rfl, rfl, HA, HK1, HO_0, HK, HB⟩ := hrel
   cases gk with
   | zero => exact absurd HA.out (by simp [laws_markIntS.l0])
   | succ k1 =>
    have H := HA.out; clear HA; simp only [laws_markIntS.l0] at H
    by_cases c3 : x5_1 < (x0_1.length : Int)
    ·rw [if_pos c3] at H; have c3b0 : decide (x5_1 < (x0_1.length : Int)) = true := decide_eq_true c3; clear c3
     obtain ⟨c4, H⟩ := ifp_ H; have c4b0 : decide (0 ≤ x5_1) = true := decide_eq_true c4; clear c4; obtain ⟨y471, hy471⟩ : ∃ y_ : List Int, y_ = (x0_1.set (x5_1 : Int).toNat x1_1) := ⟨_, rfl⟩; (replace H : (laws_markIntS.l0 k1 y471 (wrap64 (x1_1 + 1)) (wrap64 (x5_1 + 1))) = some (r1, r2) := by first | (rw [hy471]; with_reducible exact H) | (have H2_ := (Option.bind_some _ _).symm.trans H; rw [hy471]; with_reducible exact H2_) | (have H2_ := (Option.bind_some _ _).symm.trans H; with_reducible exact H2_) | with_reducible exact H | (rw [hy471]; exact H) | exact H); have Ny471 := q_ hy471; clear hy471; have H' := q_ H; clear H; obtain ⟨Ao6, co6, eo6⟩ := Kd.R_slice HO_0.out; subst eo6; have p5 : 0 ≤ (x5_1 : Int) := od; have q5 : (x5_1 : Int) < ((x0_1.length : Int) : Int) := od; obtain ⟨go5, co5, eo5, gb5, gl5, cl5, HG5⟩ := Kd.R_form HO_0.out (by omega); (first | cases eo5 | (injection eo5 with ea_ en_ ec_; (first | subst ea_ | (injection ea_ with ea_; subst ea_)); subst ec_; clear en_)); have GB5 := q_ gb5; have GG5 := q_ HG5; clear gb5 gl5 HG5; have HMgo5 := q_ (show (P0_ go5 ∨ w.heap.size ≤ go5) from (HO_0.out.1 _ rfl)); obtain ⟨hx5_0, hf5_0⟩ := Kd.R_celln 0 HO_0.out (x5_1 : Int) p5 q5; replace p5 := eq_true p5; replace q5 := eq_true q5; have HP7 := Kd.R_putg HO_0.out (x5_1 : Int) x1_1; go_wp2_with (first | ((with_reducible refine gate_store (t := 3) (p := 15) rfl ?_); refine store_event (t := 3) (p := 15) (v := ?vo_w8) (w1 := (wr.setCell ⟨go5, (x5_1 : Int).toNat, none⟩ (.int .i64 x1_1))) ?hg ?ho ?hn ?hr ?_; (case ho => rfl); (case hg => rfl); (case hn => rfl); (case hr => first | (go_simp; done) | (go_simp; rfl)); intro w8 hw; have hg : wr.grownBy w8 (some go5) := (by rw [hw]; exact HP7.2); have hp_ : Kd.R (Kd.int .i64) 3 w8 w0.heap.size (fun k_ => (P0_ k_ ∨ w.heap.size ≤ k_)) (.slice (some ⟨go5, 0, none⟩) x0_1.length co6) y471 := (by rw [hw, Ny471.out]; exact HP7.1); clear HP7; have n0_ := q_ (hp_); replace HB := q_ ((by rw [hw]; exact below_set (HB.out) GB5.out : Below w0.heap.size w0 w8)); replace HK := q_ (Kept.of_grown (S := (fun k_ => P0_ k_)) hg (by exact kv HK.out) (fun k_ e_ => (HO_0.out.1 k_ e_))); clear HO_0; have HO_0 := n0_; clear n0_; clear hg hw hp_)); go_roundg k1
     case measure => have := HK1.out; omega
     case rel => exact ⟨(y471), (wrap64 (x1_1 + 1)), (wrap64 (x5_1 + 1)), eqv, eqv, H', ⟨by have := HK1.out; omega⟩, ⟨by exact Kd.R_v HO_0.out⟩, ⟨by exact kv HK.out⟩, ⟨by exact bv HB.out⟩⟩
    ·rw [if_neg c3] at H; have c3b0 : decide (x5_1 < (x0_1.length : Int)) = false := decide_eq_false c3; clear c3; simp only [Option.some.injEq, Prod.mk.injEq] at H; obtain ⟨rfl, rfl⟩ := H; obtain ⟨Ao9, co9, eo9⟩ := Kd.R_slice HO_0.out; subst eo9; go_wp2; go_ret; exact ⟨by first | rfl | (simp [errW_none, errW_some] <;> rfl) | (simp [*, errW_none, errW_some] <;> rfl), by exact Kd.R_v HO_0.out, by exact bv HB.out, by exact kv HK.out⟩

/-! ### laws_markIntSS: function 14 -/
/-- markIntS on the row inside element i: all else stays, the element has its marks. -/
theorem laws_markIntSS.inner {w0 w : World} {g n cap kq : Nat} {P : Nat → Prop} {xs : List (List Int)} {i a1 r1 : Int} {r2 : List Int} (h0 : 0 ≤ i) (h1 : i < n) (hB : Below w0.heap.size w0 w) (hS : Kd.S (Kd.slice 3 (Kd.int .i64)) 32 w w0.heap.size P (.slice (some ⟨g, 0, none⟩) n cap) xs) (h : laws_markIntS.f kq (rd_L1 xs i) a1 = some (r1, r2)) :
    ∃ v, w.cell? ⟨g, i.toNat, none⟩ = some v ∧ Calls Try.prog 26 #[v, .int .i64 a1] w fun e w' => e = .returned (.int .i64 r1) ∧ Kd.S (Kd.slice 3 (Kd.int .i64)) 32 w' w0.heap.size P (.slice (some ⟨g, 0, none⟩) n cap) (xs.set i.toNat r2) ∧ Below w0.heap.size w0 w' ∧ Kept w w' P := by
  obtain ⟨oki, c, hcl, hM, hcc, hoki, hH⟩ := Kd.S_lend hS [] i h0 h1
  obtain ⟨v, rfl, hR⟩ := hM
  refine ⟨v, by have h2 := hcc 0 v rfl; rw [show (Kd.slice 3 (Kd.int .i64)).sz = 1 from rfl, Nat.mul_one, Nat.add_zero] at h2; exact h2, (laws_markIntS.calls kq oki v _ a1 r1 r2 w0 w hB hR h).mono ?_⟩
  rintro e w' ⟨he, hR', hb, hk⟩
  exact ⟨he, Kd.H_back (Kd.H_kept hH hk (fun k _ hn => hn)) (⟨v, rfl, Kd.R_reok rfl hR' (fun k e => hR.1 k e)⟩ : (Kd.slice 3 (Kd.int .i64)).M w' w0.heap.size oki r2 [v]) (fun _ h => h), hb, hk.mono (fun k h => (hoki k h).1)⟩
def laws_markIntSS.l0 : Nat → List (List Int) → Int → Int → Option (Int × List (List Int))
  | 0, _, _, _ => none
  | k + 1, x0, x1, x5 => if x5 < (x0.length : Int) then (if 0 ≤ x5 then ((laws_markIntS.f k (rd_L1 x0 x5) x1).bind fun p => (laws_markIntSS.l0 k (x0.set (x5 : Int).toNat p.2) p.1 (wrap64 (x5 + 1)))) else (none)) else (some (x1, x0))
def laws_markIntSS.f (k : Nat) (l0 : List (List Int)) (a1 : Int) : Option (Int × List (List Int)) := laws_markIntSS.l0 k l0 a1 0
set_option maxHeartbeats 8000000 in
set_option maxRecDepth 100000 in
theorem laws_markIntSS.calls (k : Nat) (P0_ : Nat → Prop) (u9000_ : Value) (l0 : List (List Int)) (a1 : Int) (r1 : Int) (r2 : List (List Int)) (w0 w : World) (hB : Below w0.heap.size w0 w) (ho0 : Kd.S (Kd.slice 3 (Kd.int .i64)) 32 w w0.heap.size P0_ u9000_ l0) (h : laws_markIntSS.f k l0 a1 = some (r1, r2)) :
    Calls Try.prog 14 #[u9000_, .int .i64 a1] w fun e w' => e = .returned (.int .i64 r1) ∧ Kd.S (Kd.slice 3 (Kd.int .i64)) 32 w' w0.heap.size P0_ u9000_ r2 ∧ Below w0.heap.size w0 w' ∧ Kept w w' (fun k_ => P0_ k_) := by
  obtain ⟨Ao, co, eo⟩ := Kd.S_slice ho0
  subst eo
  have hgo : l0.length = 0 ∨ ∃ go, Ao = some ⟨go, 0, none⟩ := by
    by_cases hz : l0.length = 0
    · exact .inl hz
    · obtain ⟨g, cap, e, _⟩ := Kd.S_form ho0 (by omega)
      injection e with e1 _ _
      exact .inr ⟨g, e1⟩
  have HK := Aside0.mk (Kept.refl w P0_)
  have HB := Aside0.mk hB
  have H : (laws_markIntSS.l0 k l0 a1 0) = some (r1, r2) := h
  clear h
  have H' := Aside0.mk H
  clear H
  have HS := Aside0.mk ho0
  clear hB ho0
  obtain ⟨nl, hnl⟩ : ∃ nl, nl = l0.length := ⟨_, rfl⟩
  rw [← hnl] at HS hgo
  rw [← hnl]
  clear hnl
  go_enter Try.func14, Try.ntmps14
  go_wp2
  go_loopg [1, 5] k (fun kq v1 v5 w' => ∃ (x0_1 : List (List Int)) (x1_1 : Int) (x5_1 : Int), v1 = .int .i64 x1_1 ∧ v5 = .int .i64 x5_1 ∧ Aside0 (laws_markIntSS.l0 kq x0_1 x1_1 x5_1 = some (r1, r2)) ∧ Aside0 (kq ≤ k) ∧ Aside0 (Kd.S (Kd.slice 3 (Kd.int .i64)) 32 w' w0.heap.size P0_ (.slice Ao nl co) x0_1) ∧ Aside0 (Kept w w' P0_) ∧ Aside0 (Below w0.heap.size w0 w'))
  case atStart => exact ⟨(l0), (a1), (0), (by first | rfl | (simp; done) | (simp [*]; done)), (by first | rfl | (simp; done) | (simp [*]; done)), H', ⟨Nat.le_refl _⟩, ⟨by (with_reducible repeat (first | apply Kd.S_alloc | apply Kd.S_drewN | apply Kd.S_drew)); exact HS.out⟩, ⟨by repeat (first | (with_reducible first | exact HK.out | apply Kept.alloc | apply Kept.drewN | apply Kept.drew) | exact HK.out)⟩, ⟨by repeat (first | (with_reducible first | exact HB.out | apply below_alloc | apply pw_below_drewN | apply below_drew1) | exact HB.out)⟩⟩
  case round =>
    clear H' HS HK HB
    try clear c1
    try clear p2
    obtain ⟨x0_1, x1_1, x5_1, rfl, rfl, HA, HK1, HS, HK, HB⟩ := hrel
    have hlen := (Kd.S_reads' HS.out).1
    cases gk with
    | zero => exact absurd HA.out (by simp [laws_markIntSS.l0])
    | succ k1 =>
      have H := HA.out
      clear HA
      simp only [laws_markIntSS.l0] at H
      rw [← hlen] at H
      clear hlen
      by_cases c3 : x5_1 < (nl : Int)
      · rw [if_pos c3] at H
        have c3b0 : decide (x5_1 < (nl : Int)) = true := decide_eq_true c3
        by_cases c4 : 0 ≤ x5_1
        · rw [if_pos c4] at H
          have c4b0 : decide (0 ≤ x5_1) = true := decide_eq_true c4
          replace H := Option.bind_eq_some_iff.mp H
          obtain ⟨⟨p1, p2⟩, A0, H⟩ := H
          have H' := Aside0.mk H
          clear H
          obtain ⟨go, rfl⟩ := hgo.resolve_left (by omega)
          obtain ⟨v0, hx0, hcall⟩ := laws_markIntSS.inner c4 c3 HB.out HS.out A0
          have HC := Aside0.mk hcall
          clear hcall A0
          clear c3 c4
          have p5 : 0 ≤ (x5_1 : Int) := of_decide_eq_true (by first | (with_reducible assumption) | assumption)
          have q5 : (x5_1 : Int) < (nl : Int) := of_decide_eq_true (by first | (with_reducible assumption) | assumption)
          replace p5 := eq_true p5
          replace q5 := eq_true q5
          go_wp2_with (first | ((with_reducible refine gate_callee (f := 26) rfl ?_); refine goesL_ (some 17) rfl rfl Try.func26 (by kernel_rfl) rfl #[v0, .int .i64 x1_1] rfl (by (try simp only [List.map_toArray, List.map_cons, List.map_nil]); first | done | rfl) ?_; (refine HC.out.mono ?_); rintro e w8 ⟨rfl, hS, hb, hk⟩; refine ⟨_, rfl, ?_⟩; have n0_ := Aside0.mk hS; have n1_ := Aside0.mk hb; have n2_ := Aside0.mk (Kept.then_ HK.out hk (fun k_ h_ => .inl h_)); clear HS; clear HB; clear HK; have HS := n0_; have HB := n1_; have HK := n2_; clear n0_ n1_ n2_; clear hS hb hk))
          go_roundg k1
          case measure => have := HK1.out; omega
          case rel => exact ⟨(x0_1.set (x5_1 : Int).toNat p2), (p1), (wrap64 (x5_1 + 1)), (by first | rfl | (simp; done) | (simp [*]; done)), (by first | rfl | (simp; done) | (simp [*]; done)), H', ⟨by have := HK1.out; omega⟩, ⟨by (with_reducible repeat (first | apply Kd.S_alloc | apply Kd.S_drewN | apply Kd.S_drew)); exact HS.out⟩, ⟨by repeat (first | (with_reducible first | exact HK.out | apply Kept.alloc | apply Kept.drewN | apply Kept.drew) | exact HK.out)⟩, ⟨by repeat (first | (with_reducible first | exact HB.out | apply below_alloc | apply pw_below_drewN | apply below_drew1) | exact HB.out)⟩⟩
        · rw [if_neg c4] at H
          exact absurd H (by simp)
      · rw [if_neg c3] at H
        have c3b0 : decide (x5_1 < (nl : Int)) = false := decide_eq_false c3
        clear c3
        simp only [Option.some.injEq, Prod.mk.injEq] at H
        obtain ⟨rfl, rfl⟩ := H
        go_wp2
        go_ret
        exact ⟨by first | rfl | (simp [errW_none, errW_some] <;> rfl) | (simp [*, errW_none, errW_some] <;> rfl), by (with_reducible repeat (first | apply Kd.S_alloc | apply Kd.S_drewN | apply Kd.S_drew)); exact HS.out, by repeat (first | (with_reducible first | exact HB.out | apply below_alloc | apply pw_below_drewN | apply below_drew1) | exact HB.out), by repeat (first | (with_reducible first | exact HK.out | apply Kept.alloc | apply Kept.drewN | apply Kept.drew) | exact HK.out)⟩

/-! ### laws_heldIntS: function 31 -/
def laws_heldIntS.l0 : Nat → List Int → Int → Int → Option (Int)
  | 0, _, _, _ => none
  | k + 1, x0, x1, x5 => if x5 < (x0.length : Int) then (if 0 ≤ x5 then (if (rd x0 x5) = x1 then (laws_heldIntS.l0 k x0 (wrap64 (x1 + 1)) (wrap64 (x5 + 1))) else (some (-1))) else (none)) else (some x1)
def laws_heldIntS.f (k : Nat) (l0 : List Int) (a1 : Int) : Option (Int) := laws_heldIntS.l0 k l0 a1 0
set_option maxHeartbeats 8000000 in
set_option maxRecDepth 100000 in
theorem laws_heldIntS.calls (k : Nat) (A0 : Option Addr) (c0 : Nat) (l0 : List Int) (a1 : Int) (r : Int) (w : World) (hr0 : Kd.C (Kd.int .i64) w A0 l0.length l0) (hc0 : l0.length ≤ c0) (h : laws_heldIntS.f k l0 a1 = some r) :
    Calls Try.prog 31 #[.slice A0 l0.length c0, .int .i64 a1] w fun e w' => e = .returned (.int .i64 r) ∧ Drawn0 w w' := by
  have HR0 := q_ hr0; have HC0 := q_ hc0; clear hr0 hc0; have H : (laws_heldIntS.l0 k l0 a1 0) = some r := h; clear h; have H' := q_ H; clear H; go_enter Try.func31, Try.ntmps31; go_wp2; go_loopg [1, 5] k (fun kq v1 v5 w' => ∃ (x1_1 : Int) (x5_1 : Int), v1 = .int .i64 x1_1 ∧ v5 = .int .i64 x5_1 ∧ Aside0 (laws_heldIntS.l0 kq l0 x1_1 x5_1 = some r) ∧ Aside0 (kq ≤ k) ∧ Drawn0 w w')
  case atStart => exact ⟨(a1), (0), eqv, eqv, H', ⟨Nat.le_refl _⟩, by repeat (first | exact Drawn0.refl _ | apply Drawn0.step)⟩
  case round =>
   clear H'; obtain ⟨x1_1, x5_1, rfl, rfl, HA, HK1, ⟨m1, rfl⟩⟩ := hrel
   cases gk with
   | zero => exact absurd HA.out (by simp [laws_heldIntS.l0])
   | succ k1 =>
    have H := HA.out; clear HA; simp only [laws_heldIntS.l0] at H
    by_cases c3 : x5_1 < (l0.length : Int)
    ·rw [if_pos c3] at H; have c3b0 : decide (x5_1 < (l0.length : Int)) = true := decide_eq_true c3; clear c3
     obtain ⟨c4, H⟩ := ifp_ H; have c4b0 : decide (0 ≤ x5_1) = true := decide_eq_true c4; clear c4
     by_cases c5 : (rd l0 x5_1) = x1_1
     ·rw [if_pos c5] at H; have c5b0 : ((rd l0 x5_1) == x1_1) = true := beq_iff_eq.mpr c5; have c5b1 : ((rd l0 x5_1) != x1_1) = false := bne_eq_false_iff_eq.mpr c5; clear c5; have H' := q_ H; clear H; have p472 : 0 ≤ (x5_1 : Int) := od; have q472 : x5_1 < (l0.length : Int) := od; obtain ⟨ad472, e472, hx472_0⟩ := Kd.at_int HR0.out x5_1 p472 q472
      cases e472
      replace p472 := eq_true p472; replace q472 := eq_true q472; go_wp2; go_roundg k1
      case measure => have := HK1.out; omega
      case rel => exact ⟨(wrap64 (x1_1 + 1)), (wrap64 (x5_1 + 1)), eqv, eqv, H', ⟨by have := HK1.out; omega⟩, by repeat (first | exact Drawn0.refl _ | apply Drawn0.step)⟩
     ·rw [if_neg c5] at H; have c5b0 : ((rd l0 x5_1) == x1_1) = false := beq_eq_false_iff_ne.mpr c5; have c5b1 : ((rd l0 x5_1) != x1_1) = true := bne_iff_ne.mpr c5; obtain rfl := Option.some.inj H; have p472 : 0 ≤ (x5_1 : Int) := od; have q472 : x5_1 < (l0.length : Int) := od; obtain ⟨ad472, e472, hx472_0⟩ := Kd.at_int HR0.out x5_1 p472 q472
      cases e472
      replace p472 := eq_true p472; replace q472 := eq_true q472; go_wp2; go_ret; exact ⟨by first | rfl | (simp; done) | (simp [*]; done), by repeat (first | exact Drawn0.refl _ | apply Drawn0.step)⟩
    ·rw [if_neg c3] at H; have c3b0 : decide (x5_1 < (l0.length : Int)) = false := decide_eq_false c3; clear c3; obtain rfl := Option.some.inj H; go_wp2; go_ret; exact ⟨by first | rfl | (simp; done) | (simp [*]; done), by repeat (first | exact Drawn0.refl _ | apply Drawn0.step)⟩

/-! ### laws_heldIntSS: function 15 -/
def laws_heldIntSS.l0 : Nat → List (List Int) → Int → Int → Option (Int)
  | 0, _, _, _ => none
  | k + 1, x0, x1, x5 => if x5 < (x0.length : Int) then (if 0 ≤ x5 then ((laws_heldIntS.f k (rd_L1 x0 x5) x1).bind fun t474 => (if t474 < 0 then (some (-1)) else (laws_heldIntSS.l0 k x0 t474 (wrap64 (x5 + 1))))) else (none)) else (some x1)
def laws_heldIntSS.f (k : Nat) (l0 : List (List Int)) (a1 : Int) : Option (Int) := laws_heldIntSS.l0 k l0 a1 0
set_option maxHeartbeats 8000000 in
set_option maxRecDepth 100000 in
theorem laws_heldIntSS.calls (k : Nat) (A0 : Option Addr) (c0 : Nat) (l0 : List (List Int)) (a1 : Int) (r : Int) (w : World) (hr0 : Kd.C (Kd.slice 3 (Kd.int .i64)) w A0 l0.length l0) (hc0 : l0.length ≤ c0) (h : laws_heldIntSS.f k l0 a1 = some r) :
    Calls Try.prog 15 #[.slice A0 l0.length c0, .int .i64 a1] w fun e w' => e = .returned (.int .i64 r) ∧ Drawn0 w w' := by
  have HR0 := q_ hr0; have HC0 := q_ hc0; clear hr0 hc0; have H : (laws_heldIntSS.l0 k l0 a1 0) = some r := h; clear h; have H' := q_ H; clear H; go_enter Try.func15, Try.ntmps15; go_wp2; go_loopg [1, 5] k (fun kq v1 v5 w' => ∃ (x1_1 : Int) (x5_1 : Int), v1 = .int .i64 x1_1 ∧ v5 = .int .i64 x5_1 ∧ Aside0 (laws_heldIntSS.l0 kq l0 x1_1 x5_1 = some r) ∧ Aside0 (kq ≤ k) ∧ Drawn0 w w')
  case atStart => exact ⟨(a1), (0), eqv, eqv, H', ⟨Nat.le_refl _⟩, by repeat (first | exact Drawn0.refl _ | apply Drawn0.step)⟩
  case round =>
   clear H'; obtain ⟨x1_1, x5_1, rfl, rfl, HA, HK1, ⟨m1, rfl⟩⟩ := hrel
   cases gk with
   | zero => exact absurd HA.out (by simp [laws_heldIntSS.l0])
   | succ k1 =>
    have H := HA.out; clear HA; simp only [laws_heldIntSS.l0] at H
    by_cases c3 : x5_1 < (l0.length : Int)
    ·rw [if_pos c3] at H; have c3b0 : decide (x5_1 < (l0.length : Int)) = true := decide_eq_true c3; clear c3
     obtain ⟨c4, H⟩ := ifp_ H; have c4b0 : decide (0 ≤ x5_1) = true := decide_eq_true c4; clear c4; obtain ⟨t474, A5, H⟩ := bnd_ H; have HC6 := q_ H; clear H; have p473 : 0 ≤ (x5_1 : Int) := od; have q473 : x5_1 < (l0.length : Int) := od; obtain ⟨ad473, A473_0, c473_0, e473, hx473_0, hl473_0, hi473_0⟩ := at_L1 HR0.out x5_1 p473 q473
     cases e473
     have HR473_0 := q_ hi473_0; have HC473_0 := q_ hl473_0; clear hi473_0 hl473_0; replace p473 := eq_true p473; replace q473 := eq_true q473
     go_upto_if 19 with (first | (refine goesM (some 17) rfl rfl Try.func31 #[.slice A473_0 (rd_L1 l0 x5_1).length c473_0, .int .i64 x1_1] rfl ?_; (with_reducible refine (laws_heldIntS.calls k1 _ _ (rd_L1 l0 x5_1) x1_1 t474 _ ?side1 ?side2 A5.out).mono ?_); (case side1 => exact Kd.C_v HR473_0.out); (case side2 => exact HC473_0.out); rintro e w' ⟨rfl, ⟨nd, rfl⟩⟩; refine ⟨_, rfl, ?_⟩))
     (try simp only [Act.put, List.setIfInBounds_toArray, List.set_cons_zero, List.set_cons_succ]); have H := HC6.out; clear HC6
     by_cases c7 : t474 < 0
     ·rw [if_pos c7] at H; have c7b0 : decide (t474 < 0) = true := decide_eq_true c7; clear c7; (first | rw [c7b0] | (simp only [i64_w, i32_w]; rw [c7b0]) | skip); obtain rfl := Option.some.inj H; go_wp2; go_ret; exact ⟨by first | rfl | (simp; done) | (simp [*]; done), by repeat (first | exact Drawn0.refl _ | apply Drawn0.step)⟩
     ·rw [if_neg c7] at H; have c7b0 : decide (t474 < 0) = false := decide_eq_false c7; clear c7; (first | rw [c7b0] | (simp only [i64_w, i32_w]; rw [c7b0]) | skip); have H' := q_ H; clear H; go_wp2; go_roundg k1
      case measure => have := HK1.out; omega
      case rel => exact ⟨(t474), (wrap64 (x5_1 + 1)), eqv, eqv, H', ⟨by have := HK1.out; omega⟩, by repeat (first | exact Drawn0.refl _ | apply Drawn0.step)⟩
    ·rw [if_neg c3] at H; have c3b0 : decide (x5_1 < (l0.length : Int)) = false := decide_eq_false c3; clear c3; obtain rfl := Option.some.inj H; go_wp2; go_ret; exact ⟨by first | rfl | (simp; done) | (simp [*]; done), by repeat (first | exact Drawn0.refl _ | apply Drawn0.step)⟩

/-! ### impl_BackBasis: function 24 -/
def impl_BackBasis.f (k : Nat) (a0_0 : Int) (l0_1 : List (S105)) (l1 : List Int) (a2 : Int) : Option ((List (List Int)) × Bool) := (impl_backBasis.f k a0_0 l0_1 l1 a2).bind fun bt476 => (some (bt476.1, bt476.2.2))
set_option maxHeartbeats 8000000 in
set_option maxRecDepth 100000 in
theorem impl_BackBasis.calls (k : Nat) (a0_0 : Int) (A0_1 : Option Addr) (c0_1 : Nat) (l0_1 : List (S105)) (A1 : Option Addr) (c1 : Nat) (l1 : List Int) (a2 : Int) (r1 : List (List Int)) (r2 : Bool) (w : World) (hr0_1 : Kd.C k105 w A0_1 l0_1.length l0_1) (hc0_1 : l0_1.length ≤ c0_1) (hr1 : Kd.C (Kd.int .i64) w A1 l1.length l1) (hc1 : l1.length ≤ c1) (h : impl_BackBasis.f k a0_0 l0_1 l1 a2 = some (r1, r2)) :
    Calls Try.prog 24 #[.agg #[.int .i64 a0_0, .slice A0_1 l0_1.length c0_1], .slice A1 l1.length c1, .int .i64 a2] w fun e w' => ∃ v0_ : Value, e = .returned (.tuple #[v0_, .bool r2]) ∧ Kd.S (Kd.slice 3 (Kd.int .i64)) 32 w' w.heap.size (fun _ => True) v0_ r1 ∧ Below w.heap.size w w' := by
  have hu38 := Try.underlying38
  have HR0_1 := q_ hr0_1; have HC0_1 := q_ hc0_1; clear hr0_1 hc0_1; have HR1 := q_ hr1; have HC1 := q_ hc1; clear hr1 hc1; have HB := q_ (Below.refl w.heap.size w); have H : ((impl_backBasis.f k a0_0 l0_1 l1 a2).bind fun bt476 => (some (bt476.1, bt476.2.2))) = some (r1, r2) := h; clear h; replace H := Option.bind_eq_some_iff.mp H; obtain ⟨⟨t476, t479, t480⟩, A40, H⟩ := H; replace H : (some (t476, t480)) = some (r1, r2) := H; have A4 := q_ A40; clear A40; simp only [Option.some.injEq, Prod.mk.injEq] at H; obtain ⟨rfl, rfl⟩ := H; go_enter Try.func24, Try.ntmps24; go_wp2_with (first | (refine boxE 3 #[.int .i64 a0_0, .slice A0_1 l0_1.length c0_1] 38 ?_; intro gb475 hg w5 hbox hb; have BK475 := q_ (hbox); have GW475 := q_ (gw_ hg HB.out); have GE475 := q_ (gw_ hg HB.out); replace HB := q_ (bs HB.out hb); clear hb hbox hg; obtain ⟨hcz6_0, hcz6_1, hfz6_0, hfz6_1⟩ := cz2 BK475.out) | (refine goesM (some 15) rfl rfl Try.func51 #[.agg #[.int .i64 a0_0, .slice A0_1 l0_1.length c0_1], .slice A1 l1.length c1, .int .i64 a2] rfl ?_; (with_reducible refine (impl_backBasis.calls k a0_0 _ _ l0_1 _ _ l1 a2 t476 t479 t480 _ ?side1 ?side2 ?side3 ?side4 A4.out).mono ?_); (case side1 => exact Kd.C_v ((Kd.C_below HR0_1.out HB.out))); (case side2 => exact HC0_1.out); (case side3 => exact Kd.C_v ((Kd.C_below HR1.out HB.out))); (case side4 => exact HC1.out); rintro e w7 ⟨v477, rfl, ho0, hb⟩; refine ⟨_, rfl, ?_⟩; have HO478 := q_ (Kd.S_lower ho0 (below_size (by exact bv HB.out))); replace BK475 := q_ (bb BK475.out hb); replace HB := q_ (below_step (by exact bv HB.out) hb); (try clear hb); (try clear hb2); (try clear hk); (try clear hi); (try clear ho0)))
  go_ret2
  exact ⟨_, by first | rfl | (simp [errW_none, errW_some] <;> rfl) | (simp [*, errW_none, errW_some] <;> rfl), by exact Kd.S_v HO478.out, by exact bv HB.out⟩

/-! ### laws_markTransS: function 59 -/
/-- The block g holds m cells of the type t. -/
def Blk (w : World) (g m t : Nat) : Prop := ∃ cs : Array Value, w.heap[g]? = some (.cells cs t (0, 0)) ∧ cs.size = m
theorem Blk.kept {w w' : World} {g m t : Nat} {S : Nat → Prop} (h : Blk w g m t) (hk : Kept w w' S) (hs : ¬ S g) : Blk w' g m t := by
  obtain ⟨cs, h1, h2⟩ := h
  exact ⟨cs, (hk.2 g (blk_lt h1) hs).trans h1, h2⟩
theorem Blk.set {w : World} {g m t : Nat} (h : Blk w g m t) (i : Nat) (u : Value) : Blk (w.setCell ⟨g, i, none⟩ u) g m t := by
  obtain ⟨cs, h1, h2⟩ := h
  exact ⟨_, blk_set h1 i u, by simp [h2]⟩
theorem Blk.cell {w : World} {g m t : Nat} (h : Blk w g m t) (i : Nat) (hi : i < m) : ∃ u, w.cell? ⟨g, i, none⟩ = some u := by
  obtain ⟨cs, h1, h2⟩ := h
  exact ⟨cs[i]'(by omega), (blk_cell h1 i).trans (Array.getElem?_eq_getElem (by omega))⟩
theorem Blk.frozen {w : World} {g m t : Nat} (h : Blk w g m t) (i : Nat) : w.frozen? ⟨g, i, none⟩ = false := by
  obtain ⟨cs, h1, h2⟩ := h
  exact blk_frozen h1 i
theorem Blk.alloc {w : World} {g m t : Nat} (h : Blk w g m t) (o : Obj) : Blk (w.alloc o) g m t := by
  obtain ⟨cs, h1, h2⟩ := h
  exact ⟨cs, blk_alloc h1 o, h2⟩
theorem Blk.drew {w : World} {g m t : Nat} (h : Blk w g m t) : Blk w.drew g m t := h
theorem Blk.drewN {w : World} {g m t : Nat} (h : Blk w g m t) (n : Nat) : Blk (w.drewN n) g m t := h

set_option maxHeartbeats 8000000 in
set_option maxRecDepth 100000 in
theorem laws_markIntS.raw (k : Nat) (g n cap m t : Nat) (l0 : List Int) (a1 : Int) (r1 : Int) (r2 : List Int) (w0 w : World) (hB : Below w0.heap.size w0 w) (hg : w0.heap.size ≤ g) (hblk : Blk w g m t) (hn : l0.length = n) (hm : n ≤ m) (h : laws_markIntS.f k l0 a1 = some (r1, r2)) :
    Calls Try.prog 26 #[.slice (some ⟨g, 0, none⟩) n cap, .int .i64 a1] w fun e w' => e = .returned (.int .i64 r1) ∧ Blk w' g m t ∧ Below w0.heap.size w0 w' ∧ Kept w w' (fun k_ => k_ = g) := by
  have HO0 := Aside0.mk hblk
  have HK := Aside0.mk (Kept.refl w (fun k_ => k_ = g))
  have HB := Aside0.mk hB
  clear hB hblk
  have H : (laws_markIntS.l0 k l0 a1 0) = some (r1, r2) := h
  clear h
  have H' := Aside0.mk H
  have HN := Aside0.mk hn
  clear H hn
  go_enter Try.func26, Try.ntmps26
  go_wp2
  go_loopg [1, 5] k (fun kq v1 v5 w' => ∃ (x0_1 : List Int) (x1_1 : Int) (x5_1 : Int), v1 = .int .i64 x1_1 ∧ v5 = .int .i64 x5_1 ∧ Aside0 (laws_markIntS.l0 kq x0_1 x1_1 x5_1 = some (r1, r2)) ∧ Aside0 (kq ≤ k) ∧ Aside0 (x0_1.length = n) ∧ Aside0 (Blk w' g m t) ∧ Aside0 (Kept w w' (fun k_ => k_ = g)) ∧ Aside0 (Below w0.heap.size w0 w'))
  case atStart => exact ⟨(l0), (a1), (0), (by first | rfl | (simp; done) | (simp [*]; done)), (by first | rfl | (simp; done) | (simp [*]; done)), H', ⟨Nat.le_refl _⟩, HN, ⟨by (with_reducible repeat (first | apply Blk.alloc | apply Blk.drewN | apply Blk.drew)); exact HO0.out⟩, ⟨by repeat (first | (with_reducible first | exact HK.out | apply Kept.alloc | apply Kept.drewN | apply Kept.drew) | exact HK.out)⟩, ⟨by repeat (first | (with_reducible first | exact HB.out | apply below_alloc | apply pw_below_drewN | apply below_drew1) | exact HB.out)⟩⟩
  case round =>
    clear H' HN HO0 HK HB
    try clear c1
    try clear p2
    obtain ⟨x0_1, x1_1, x5_1, rfl, rfl, HA, HK1, HN, HO_0, HK, HB⟩ := hrel
    cases gk with
    | zero => exact absurd HA.out (by simp [laws_markIntS.l0])
    | succ k1 =>
      have H := HA.out
      clear HA
      simp only [laws_markIntS.l0] at H
      rw [HN.out] at H
      by_cases c3 : x5_1 < (n : Int)
      · rw [if_pos c3] at H
        have c3b0 : decide (x5_1 < (n : Int)) = true := decide_eq_true c3
        by_cases c4 : 0 ≤ x5_1
        · rw [if_pos c4] at H
          have c4b0 : decide (0 ≤ x5_1) = true := decide_eq_true c4
          have H' := Aside0.mk H
          clear H
          obtain ⟨uo, hx5_0⟩ := Blk.cell HO_0.out (x5_1 : Int).toNat (by omega)
          have hf5_0 := Blk.frozen HO_0.out (x5_1 : Int).toNat
          clear c3 c4
          have p5 : 0 ≤ (x5_1 : Int) := of_decide_eq_true (by first | (with_reducible assumption) | assumption)
          have q5 : (x5_1 : Int) < (n : Int) := of_decide_eq_true (by first | (with_reducible assumption) | assumption)
          replace p5 := eq_true p5
          replace q5 := eq_true q5
          go_wp2_with (first | ((with_reducible refine gate_store (t := 3) (p := 15) rfl ?_); refine store_event (t := 3) (p := 15) (v := ?vo_w8) (w1 := (wr.setCell ⟨g, (x5_1 : Int).toNat, none⟩ (.int .i64 x1_1))) ?hg ?ho ?hn ?hr ?_; (case ho => rfl); (case hg => rfl); (case hn => rfl); (case hr => first | (go_simp; done) | (go_simp; rfl)); intro w8 hw; have n0_ := Aside0.mk (show Blk w8 g m t by rw [hw]; exact Blk.set HO_0.out _ _); have n1_ := Aside0.mk ((by rw [hw]; exact below_set (HB.out) hg : Below w0.heap.size w0 w8)); have n2_ := Aside0.mk (show Kept w w8 (fun k_ => k_ = g) by rw [hw]; exact Kept.setCell HK.out (.inl rfl) _); clear HO_0; clear HB; clear HK; have HO_0 := n0_; have HB := n1_; have HK := n2_; clear n0_ n1_ n2_; clear hw))
          go_roundg k1
          case measure => have := HK1.out; omega
          case rel => exact ⟨(x0_1.set (x5_1 : Int).toNat x1_1), (wrap64 (x1_1 + 1)), (wrap64 (x5_1 + 1)), (by first | rfl | (simp; done) | (simp [*]; done)), (by first | rfl | (simp; done) | (simp [*]; done)), H', ⟨by have := HK1.out; omega⟩, ⟨by rw [List.length_set]; exact HN.out⟩, ⟨by (with_reducible repeat (first | apply Blk.alloc | apply Blk.drewN | apply Blk.drew)); exact HO_0.out⟩, ⟨by repeat (first | (with_reducible first | exact HK.out | apply Kept.alloc | apply Kept.drewN | apply Kept.drew) | exact HK.out)⟩, ⟨by repeat (first | (with_reducible first | exact HB.out | apply below_alloc | apply pw_below_drewN | apply below_drew1) | exact HB.out)⟩⟩
        · rw [if_neg c4] at H
          exact absurd H (by simp)
      · rw [if_neg c3] at H
        have c3b0 : decide (x5_1 < (n : Int)) = false := decide_eq_false c3
        clear c3
        simp only [Option.some.injEq, Prod.mk.injEq] at H
        obtain ⟨rfl, rfl⟩ := H
        go_wp2
        go_ret
        exact ⟨by first | rfl | (simp [errW_none, errW_some] <;> rfl) | (simp [*, errW_none, errW_some] <;> rfl), by (with_reducible repeat (first | apply Blk.alloc | apply Blk.drewN | apply Blk.drew)); exact HO_0.out, by repeat (first | (with_reducible first | exact HB.out | apply below_alloc | apply pw_below_drewN | apply below_drew1) | exact HB.out), by repeat (first | (with_reducible first | exact HK.out | apply Kept.alloc | apply Kept.drewN | apply Kept.drew) | exact HK.out)⟩
/-- A row of n whole numbers, in a block of P that isn't go: what it holds is not told. -/
def Rowed (w : World) (base : Nat) (P : Nat → Prop) (go : Nat) (v : Value) (n : Nat) : Prop :=
  (v = .slice none 0 0 ∧ n = 0) ∨ ∃ g cap, v = .slice (some ⟨g, 0, none⟩) n cap ∧ base ≤ g ∧ P g ∧ g ≠ go ∧ n ≤ cap ∧ Blk w g cap 3
theorem Rowed.of {w : World} {base go : Nat} {P oki : Nat → Prop} {v : Value} {l : List Int} (h : (Kd.int .i64).R 3 w base oki v l) (hok : ∀ k, oki k → P k ∧ k ≠ go) : Rowed w base P go v l.length := by
  obtain ⟨h0, inner, ho, _⟩ := h
  rcases ho.2 with ⟨hv, hn⟩ | ⟨g, cap, cur, hv, hb, hh, hc, _, hs, _⟩
  · exact .inl ⟨hv, hn⟩
  · have hk := hok g (h0 g (by rw [hv]; simp [Value.ownBlock]))
    exact .inr ⟨g, cap, hv, hb, hk.1, hk.2, hc, cur, hh, by rw [hs]; show cap * 1 = cap; omega⟩
theorem Rowed.kept {w w' : World} {base go : Nat} {P : Nat → Prop} {v : Value} {n gw m : Nat} (h : Rowed w base P go v n) (hk : Kept w w' (fun k => k = gw)) (hg : Blk w gw m 3) (hg' : Blk w' gw m 3) : Rowed w' base P go v n := by
  rcases h with h | ⟨g, cap, hv, hb, hP, hne, hn, hB⟩
  · exact .inl h
  · refine .inr ⟨g, cap, hv, hb, hP, hne, hn, ?_⟩
    by_cases e : g = gw
    · subst e
      obtain ⟨c1, e1, s1⟩ := hB
      obtain ⟨c2, e2, s2⟩ := hg
      obtain ⟨c3, e3, s3⟩ := hg'
      rw [e1] at e2; injection e2 with e2; injection e2 with e2
      subst e2
      exact ⟨c3, e3, by omega⟩
    · exact hB.kept hk e
theorem Rowed.nothing {w w' : World} {base go : Nat} {P : Nat → Prop} {v : Value} {n : Nat} (h : Rowed w base P go v n) (hk : Kept w w' (fun _ => False)) : Rowed w' base P go v n := by
  rcases h with h | ⟨g, cap, hv, hb, hP, hne, hn, hB⟩
  · exact .inl h
  · exact .inr ⟨g, cap, hv, hb, hP, hne, hn, hB.kept hk (fun h => h)⟩
/-- The three rows of an element. -/
def Trio (w : World) (base : Nat) (P : Nat → Prop) (go i : Nat) (t : S105) : Prop :=
  ∃ v0 v1 v2, w.cell? ⟨go, i * 3, none⟩ = some v0 ∧ w.cell? ⟨go, i * 3 + 1, none⟩ = some v1 ∧ w.cell? ⟨go, i * 3 + 2, none⟩ = some v2 ∧ Rowed w base P go v0 t.f0.length ∧ Rowed w base P go v1 t.f1.length ∧ Rowed w base P go v2 t.f2.length
def Trios (w : World) (base : Nat) (P : Nat → Prop) (go : Nat) (l : List S105) : Prop := (∃ m, Blk w go m 105) ∧ ∀ i, i < l.length → Trio w base P go i (l.getD i z105)
theorem Trios.of {w : World} {base go cap : Nat} {P : Nat → Prop} {l : List S105} (h : Kd.S k105 105 w base P (.slice (some ⟨go, 0, none⟩) l.length cap) l) : Trios w base P go l := by
  constructor
  · obtain ⟨_, inner, ho, _⟩ := Kd.S_R h
    rcases ho.2 with ⟨hv, hn⟩ | ⟨g, cap, cur, hv, hb, hh, hc, _, hs, _⟩
    · cases hv
    · injection hv with hv; injection hv with hv; injection hv with hv
      subst hv
      exact ⟨_, cur, hh, rfl⟩
  · intro i hi
    obtain ⟨oki, c, hcl, hM, hcc, hfr, hok, _⟩ := Kd.S_elem h z105 (i : Int) (by omega) (by omega)
    obtain ⟨v0, v1, v2, rfl, r0, r1, r2⟩ := k105_openM hM
    refine ⟨v0, v1, v2, ?_, ?_, ?_, Rowed.of r0 hok, Rowed.of r1 hok, Rowed.of r2 hok⟩
    · exact hcc 0 v0 rfl
    · exact hcc 1 v1 rfl
    · exact hcc 2 v2 rfl
/-- A step that keeps the row's own block, and the elements' rows as rows. -/
theorem Trios.step {w w' : World} {base go : Nat} {P : Nat → Prop} {l : List S105} (h : Trios w base P go l) (ho : w'.heap[go]? = w.heap[go]?) (hr : ∀ v n, Rowed w base P go v n → Rowed w' base P go v n) : Trios w' base P go l := by
  have hc : ∀ j, w'.cell? ⟨go, j, none⟩ = w.cell? ⟨go, j, none⟩ := by
    intro j
    obtain ⟨m, cs, h1, _⟩ := h.1
    rw [blk_cell h1 j, blk_cell (ho.trans h1) j]
  refine ⟨?_, fun i hi => ?_⟩
  · obtain ⟨m, cs, h1, h2⟩ := h.1
    exact ⟨m, cs, ho.trans h1, h2⟩
  · obtain ⟨v0, v1, v2, e0, e1, e2, r0, r1, r2⟩ := h.2 i hi
    exact ⟨v0, v1, v2, (hc _).trans e0, (hc _).trans e1, (hc _).trans e2, hr _ _ r0, hr _ _ r1, hr _ _ r2⟩
theorem Trios.alloc {w : World} {base go : Nat} {P : Nat → Prop} {l : List S105} (h : Trios w base P go l) (o : Obj) : Trios (w.alloc o) base P go l := by
  have hk : Kept w (w.alloc o) (fun _ => False) := Kept.alloc (Kept.refl _ _) o
  obtain ⟨m, cs, h1, _⟩ := h.1
  exact h.step (hk.2 go (blk_lt h1) (fun h => h)) (fun _ _ hr => hr.nothing hk)
theorem Trios.drew {w : World} {base go : Nat} {P : Nat → Prop} {l : List S105} (h : Trios w base P go l) : Trios w.drew base P go l := h
theorem Trios.drewN {w : World} {base go : Nat} {P : Nat → Prop} {l : List S105} (h : Trios w base P go l) (n : Nat) : Trios (w.drewN n) base P go l := h
/-- markIntS on one of the rows: whatever the row holds. -/
theorem markRow {w0 w : World} {go k : Nat} {P : Nat → Prop} {v : Value} {l : List S105} {x : List Int} {a1 r1 : Int} {r2 : List Int} (hB : Below w0.heap.size w0 w) (hT : Trios w w0.heap.size P go l) (hv : Rowed w w0.heap.size P go v x.length) (h : laws_markIntS.f k x a1 = some (r1, r2)) :
    Calls Try.prog 26 #[v, .int .i64 a1] w fun e w' => e = .returned (.int .i64 r1) ∧ Trios w' w0.heap.size P go l ∧ Below w0.heap.size w0 w' ∧ Kept w w' P := by
  obtain ⟨m0, cs0, ho, _⟩ := hT.1
  rcases hv with ⟨hv, hn⟩ | ⟨g, cap, hv, hb, hP, hne, hn, hBlk⟩
  · subst hv
    have hx : x = [] := List.eq_nil_of_length_eq_zero hn
    subst hx
    refine (laws_markIntS.calls k (fun _ => False) (.slice none 0 0) [] a1 r1 r2 w0 w hB (Kd.R_nil _ _ _ _ _) h).mono ?_
    rintro e w' ⟨he, _, hb, hk⟩
    exact ⟨he, hT.step (hk.2 go (blk_lt ho) (fun h => h)) (fun _ _ hr => hr.nothing hk), hb, hk.mono (fun _ h => h.elim)⟩
  · subst hv
    refine (laws_markIntS.raw k g x.length cap cap 3 x a1 r1 r2 w0 w hB hb hBlk rfl hn h).mono ?_
    rintro e w' ⟨he, hBlk', hb', hk⟩
    exact ⟨he, hT.step (hk.2 go (blk_lt ho) (fun e => hne e.symm)) (fun _ _ hr => hr.kept hk hBlk hBlk'), hb', hk.mono (fun _ e => by rw [e]; exact hP)⟩

def laws_markTransS.l0 : Nat → List S105 → Int → Int → Option Int
  | 0, _, _, _ => none
  | k + 1, x0, x1, x5 => if x5 < (x0.length : Int) then (if 0 ≤ x5 then ((laws_markIntS.f k ((rd_T105 x0 x5).f0) x1).bind fun p => ((laws_markIntS.f k ((rd_T105 x0 x5).f1) p.1).bind fun q => ((laws_markIntS.f k ((rd_T105 x0 x5).f2) q.1).bind fun s => (laws_markTransS.l0 k x0 s.1 (wrap64 (x5 + 1)))))) else (none)) else (some x1)
def laws_markTransS.f (k : Nat) (l0 : List S105) (a1 : Int) : Option Int := laws_markTransS.l0 k l0 a1 0
set_option maxHeartbeats 8000000 in
set_option maxRecDepth 100000 in
theorem laws_markTransS.calls (k : Nat) (P0_ : Nat → Prop) (u9000_ : Value) (l0 : List S105) (a1 : Int) (r : Int) (w0 w : World) (hB : Below w0.heap.size w0 w) (ho0 : Kd.S k105 105 w w0.heap.size P0_ u9000_ l0) (h : laws_markTransS.f k l0 a1 = some r) :
    Calls Try.prog 59 #[u9000_, .int .i64 a1] w fun e w' => e = .returned (.int .i64 r) ∧ Below w0.heap.size w0 w' ∧ Kept w w' (fun k_ => P0_ k_) := by
  have huT := Try.underlying105
  have huS := Try.underlying36
  obtain ⟨Ao, co, eo⟩ := Kd.S_slice ho0
  subst eo
  have hgo : l0.length = 0 ∨ ∃ go, Ao = some ⟨go, 0, none⟩ := by
    by_cases hz : l0.length = 0
    · exact .inl hz
    · obtain ⟨g, cap, e, _⟩ := Kd.S_form ho0 (by omega)
      injection e with e1 _ _
      exact .inr ⟨g, e1⟩
  have HK := Aside0.mk (Kept.refl w P0_)
  have HB := Aside0.mk hB
  have H : (laws_markTransS.l0 k l0 a1 0) = some r := h
  clear h
  have H' := Aside0.mk H
  clear H
  have HT : Aside0 (∀ go, Ao = some ⟨go, 0, none⟩ → Trios w w0.heap.size P0_ go l0) := ⟨fun go e => by subst e; exact Trios.of ho0⟩
  clear hB ho0
  go_enter Try.func59, Try.ntmps59
  go_wp2
  go_loopg [1, 5] k (fun kq v1 v5 w' => ∃ (x1_1 : Int) (x5_1 : Int), v1 = .int .i64 x1_1 ∧ v5 = .int .i64 x5_1 ∧ Aside0 (laws_markTransS.l0 kq l0 x1_1 x5_1 = some r) ∧ Aside0 (kq ≤ k) ∧ Aside0 (∀ go, Ao = some ⟨go, 0, none⟩ → Trios w' w0.heap.size P0_ go l0) ∧ Aside0 (Kept w w' P0_) ∧ Aside0 (Below w0.heap.size w0 w'))
  case atStart => exact ⟨(a1), (0), (by first | rfl | (simp; done) | (simp [*]; done)), (by first | rfl | (simp; done) | (simp [*]; done)), H', ⟨Nat.le_refl _⟩, ⟨fun go e => by (with_reducible repeat (first | apply Trios.alloc | apply Trios.drewN | apply Trios.drew)); exact HT.out go e⟩, ⟨by repeat (first | (with_reducible first | exact HK.out | apply Kept.alloc | apply Kept.drewN | apply Kept.drew) | exact HK.out)⟩, ⟨by repeat (first | (with_reducible first | exact HB.out | apply below_alloc | apply pw_below_drewN | apply below_drew1) | exact HB.out)⟩⟩
  case round =>
    clear H' HT HK HB
    try clear c1
    try clear p2
    obtain ⟨x1_1, x5_1, rfl, rfl, HA, HK1, HT, HK, HB⟩ := hrel
    cases gk with
    | zero => exact absurd HA.out (by simp [laws_markTransS.l0])
    | succ k1 =>
      have H := HA.out
      clear HA
      simp only [laws_markTransS.l0] at H
      by_cases c3 : x5_1 < (l0.length : Int)
      · rw [if_pos c3] at H
        have c3b0 : decide (x5_1 < (l0.length : Int)) = true := decide_eq_true c3
        by_cases c4 : 0 ≤ x5_1
        · rw [if_pos c4] at H
          have c4b0 : decide (0 ≤ x5_1) = true := decide_eq_true c4
          replace H := Option.bind_eq_some_iff.mp H
          obtain ⟨⟨p1, p2⟩, A0, H⟩ := H
          replace H := Option.bind_eq_some_iff.mp H
          obtain ⟨⟨q1, q2⟩, A1, H⟩ := H
          replace H := Option.bind_eq_some_iff.mp H
          obtain ⟨⟨s1, s2⟩, A2, H⟩ := H
          have H' := Aside0.mk H
          clear H
          obtain ⟨go, rfl⟩ := hgo.resolve_left (by omega)
          obtain ⟨v0, v1, v2, e0, e1, e2, r0, r1, r2⟩ := (HT.out go rfl).2 x5_1.toNat (by omega)
          have hx0 : wr.cell? ⟨go, x5_1.toNat * 3, none⟩ = some v0 := e0
          have B0 := Aside0.mk A0
          have B1 := Aside0.mk A1
          have B2 := Aside0.mk A2
          have R0 := Aside0.mk r0
          clear A0 A1 A2 e0 e1 e2 r0 r1 r2
          clear c3 c4
          have p5 : 0 ≤ (x5_1 : Int) := of_decide_eq_true (by first | (with_reducible assumption) | assumption)
          have q5 : (x5_1 : Int) < (l0.length : Int) := of_decide_eq_true (by first | (with_reducible assumption) | assumption)
          replace p5 := eq_true p5
          replace q5 := eq_true q5
          go_wp2_with (first | ((with_reducible refine gate_callee (f := 26) rfl ?_); refine goesL_ (some 18) rfl rfl Try.func26 (by kernel_rfl) rfl #[v0, .int .i64 x1_1] rfl (by (try simp only [List.map_toArray, List.map_cons, List.map_nil]); first | done | rfl) ?_; (refine (markRow (w0 := w0) (go := go) (P := P0_) (l := l0) ?side1 ?side2 ?side3 B0.out).mono ?_); (case side1 => repeat (first | (with_reducible first | exact HB.out | apply below_alloc | apply pw_below_drewN | apply below_drew1) | exact HB.out)); (case side2 => (with_reducible repeat (first | apply Trios.alloc | apply Trios.drewN | apply Trios.drew)); exact HT.out go rfl); (case side3 => exact R0.out); rintro e w8 ⟨rfl, hT, hb, hk⟩; refine ⟨_, rfl, ?_⟩; have n0_ := Aside0.mk (show ∀ g_, some (⟨go, 0, none⟩ : Addr) = some ⟨g_, 0, none⟩ → Trios w8 w0.heap.size P0_ g_ l0 from fun g_ e_ => by injection e_ with e_; injection e_ with e_; rw [← e_]; exact hT); have n1_ := Aside0.mk hb; have n2_ := Aside0.mk (Kept.then_ HK.out hk (fun k_ h_ => .inl h_)); clear HT; clear HB; clear HK; have HT := n0_; have HB := n1_; have HK := n2_; clear n0_ n1_ n2_; clear hT hb hk; obtain ⟨w0_1, w1_1, w2_1, e0, e1, e2, r0, r1, r2⟩ := (HT.out go rfl).2 x5_1.toNat (by have := of_eq_true q5; have := of_eq_true p5; omega); have hx1 : w8.cell? ⟨go, x5_1.toNat * 3 + 1, none⟩ = some w1_1 := e1; have R1 := Aside0.mk r1; clear e0 e1 e2 r0 r1 r2) | ((with_reducible refine gate_callee (f := 26) rfl ?_); refine goesL_ (some 25) rfl rfl Try.func26 (by kernel_rfl) rfl #[w1_1, .int .i64 p1] rfl (by (try simp only [List.map_toArray, List.map_cons, List.map_nil]); first | done | rfl) ?_; (refine (markRow (w0 := w0) (go := go) (P := P0_) (l := l0) ?side1 ?side2 ?side3 B1.out).mono ?_); (case side1 => repeat (first | (with_reducible first | exact HB.out | apply below_alloc | apply pw_below_drewN | apply below_drew1) | exact HB.out)); (case side2 => (with_reducible repeat (first | apply Trios.alloc | apply Trios.drewN | apply Trios.drew)); exact HT.out go rfl); (case side3 => exact R1.out); rintro e w9 ⟨rfl, hT, hb, hk⟩; refine ⟨_, rfl, ?_⟩; have n0_ := Aside0.mk (show ∀ g_, some (⟨go, 0, none⟩ : Addr) = some ⟨g_, 0, none⟩ → Trios w9 w0.heap.size P0_ g_ l0 from fun g_ e_ => by injection e_ with e_; injection e_ with e_; rw [← e_]; exact hT); have n1_ := Aside0.mk hb; have n2_ := Aside0.mk (Kept.then_ HK.out hk (fun k_ h_ => .inl h_)); clear HT; clear HB; clear HK; have HT := n0_; have HB := n1_; have HK := n2_; clear n0_ n1_ n2_; clear hT hb hk; obtain ⟨w0_2, w1_2, w2_2, e0, e1, e2, r0, r1, r2⟩ := (HT.out go rfl).2 x5_1.toNat (by have := of_eq_true q5; have := of_eq_true p5; omega); have hx2 : w9.cell? ⟨go, x5_1.toNat * 3 + 2, none⟩ = some w2_2 := e2; have R2 := Aside0.mk r2; clear e0 e1 e2 r0 r1 r2) | ((with_reducible refine gate_callee (f := 26) rfl ?_); refine goesL_ (some 32) rfl rfl Try.func26 (by kernel_rfl) rfl #[w2_2, .int .i64 q1] rfl (by (try simp only [List.map_toArray, List.map_cons, List.map_nil]); first | done | rfl) ?_; (refine (markRow (w0 := w0) (go := go) (P := P0_) (l := l0) ?side1 ?side2 ?side3 B2.out).mono ?_); (case side1 => repeat (first | (with_reducible first | exact HB.out | apply below_alloc | apply pw_below_drewN | apply below_drew1) | exact HB.out)); (case side2 => (with_reducible repeat (first | apply Trios.alloc | apply Trios.drewN | apply Trios.drew)); exact HT.out go rfl); (case side3 => exact R2.out); rintro e w10 ⟨rfl, hT, hb, hk⟩; refine ⟨_, rfl, ?_⟩; have n0_ := Aside0.mk (show ∀ g_, some (⟨go, 0, none⟩ : Addr) = some ⟨g_, 0, none⟩ → Trios w10 w0.heap.size P0_ g_ l0 from fun g_ e_ => by injection e_ with e_; injection e_ with e_; rw [← e_]; exact hT); have n1_ := Aside0.mk hb; have n2_ := Aside0.mk (Kept.then_ HK.out hk (fun k_ h_ => .inl h_)); clear HT; clear HB; clear HK; have HT := n0_; have HB := n1_; have HK := n2_; clear n0_ n1_ n2_; clear hT hb hk))
          go_roundg k1
          case measure => have := HK1.out; omega
          case rel => exact ⟨(s1), (wrap64 (x5_1 + 1)), (by first | rfl | (simp; done) | (simp [*]; done)), (by first | rfl | (simp; done) | (simp [*]; done)), H', ⟨by have := HK1.out; omega⟩, ⟨fun g_ e_ => by (with_reducible repeat (first | apply Trios.alloc | apply Trios.drewN | apply Trios.drew)); exact HT.out g_ e_⟩, ⟨by repeat (first | (with_reducible first | exact HK.out | apply Kept.alloc | apply Kept.drewN | apply Kept.drew) | exact HK.out)⟩, ⟨by repeat (first | (with_reducible first | exact HB.out | apply below_alloc | apply pw_below_drewN | apply below_drew1) | exact HB.out)⟩⟩
        · rw [if_neg c4] at H
          exact absurd H (by simp)
      · rw [if_neg c3] at H
        have c3b0 : decide (x5_1 < (l0.length : Int)) = false := decide_eq_false c3
        clear c3
        obtain rfl := Option.some.inj H
        go_wp2
        go_ret
        exact ⟨by first | rfl | (simp [errW_none, errW_some] <;> rfl) | (simp [*, errW_none, errW_some] <;> rfl), by repeat (first | (with_reducible first | exact HB.out | apply below_alloc | apply pw_below_drewN | apply below_drew1) | exact HB.out), by repeat (first | (with_reducible first | exact HK.out | apply Kept.alloc | apply Kept.drewN | apply Kept.drew) | exact HK.out)⟩

/-! ### laws_markNet: function 25 -/
def laws_markNet.f (k : Nat) (a0_0 : Int) (l0_1 : List S105) (a1 : Int) : Option Int := laws_markTransS.f k l0_1 a1
set_option maxHeartbeats 8000000 in
set_option maxRecDepth 100000 in
theorem laws_markNet.calls (k : Nat) (a0_0 : Int) (P0_1_ : Nat → Prop) (u9000_ : Value) (l0_1 : List S105) (a1 : Int) (r : Int) (w0 w : World) (hB : Below w0.heap.size w0 w) (ho0 : Kd.S k105 105 w w0.heap.size P0_1_ u9000_ l0_1) (h : laws_markNet.f k a0_0 l0_1 a1 = some r) :
    Calls Try.prog 25 #[.agg #[.int .i64 a0_0, u9000_], .int .i64 a1] w fun e w' => e = .returned (.int .i64 r) ∧ Below w0.heap.size w0 w' ∧ Kept w w' (fun k_ => P0_1_ k_) := by
  have huN := Try.underlying38
  have HO := Aside0.mk ho0
  have HK := Aside0.mk (Kept.refl w P0_1_)
  have HB := Aside0.mk hB
  have H := Aside0.mk h
  obtain ⟨Ao, co, rfl⟩ := Kd.S_slice ho0
  clear hB ho0 h
  go_enter Try.func25, Try.ntmps25
  go_wp2_with (((with_reducible refine gate_callee (f := 59) rfl ?_); refine goesL_ (some 8) rfl rfl Try.func59 (by kernel_rfl) rfl #[.slice Ao l0_1.length co, .int .i64 a1] rfl (by (try simp only [List.map_toArray, List.map_cons, List.map_nil]); first | done | rfl) ?_; (refine (laws_markTransS.calls k P0_1_ (.slice Ao l0_1.length co) l0_1 a1 r w0 _ ?side1 ?side2 H.out).mono ?_); (case side1 => repeat (first | (with_reducible first | exact HB.out | apply below_alloc | apply pw_below_drewN | apply below_drew1) | exact HB.out)); (case side2 => (with_reducible repeat (first | apply Kd.S_alloc | apply Kd.S_drewN | apply Kd.S_drew)); exact HO.out); rintro e w8 ⟨rfl, hb, hk⟩; refine ⟨_, rfl, ?_⟩; have n1_ := Aside0.mk hb; have n2_ := Aside0.mk (Kept.then_ (S := P0_1_) (show Kept w _ P0_1_ by repeat (first | (with_reducible first | exact HK.out | apply Kept.alloc | apply Kept.drewN | apply Kept.drew) | exact HK.out)) hk (fun k_ h_ => .inl h_)); clear HB; clear HK; have HB := n1_; have HK := n2_; clear n1_ n2_; clear hb hk))
  go_ret
  exact ⟨by first | rfl | (simp [errW_none, errW_some] <;> rfl) | (simp [*, errW_none, errW_some] <;> rfl), by repeat (first | (with_reducible first | exact HB.out | apply below_alloc | apply pw_below_drewN | apply below_drew1) | exact HB.out), by repeat (first | (with_reducible first | exact HK.out | apply Kept.alloc | apply Kept.drewN | apply Kept.drew) | exact HK.out)⟩

/-! ### laws_FnExactBackBasis: function 5 -/
def laws_FnExactBackBasis.f (k : Nat) (a0_0 : Int) (l0_1 : List (S104)) (l1 : List Int) (a2 : Int) : Option (Bool) := if (l1.length : Int) > 1048576 then (some true) else ((laws_szNet.f k a0_0 l0_1 1048576).bind fun t482 => (if t482 < 0 then (some true) else ((laws_toNet.f k a0_0 l0_1).bind fun bt483 => ((laws_toIntS.f k l1).bind fun t487 => ((spec_BackBasis.f k bt483.1 bt483.2 t487 a2).bind fun bt490 => ((laws_toNet.f k a0_0 l0_1).bind fun bt494 => ((laws_toIntS.f k l1).bind fun t499 => ((impl_BackBasis.f k bt494.1 bt494.2 t499 a2).bind fun bt502 => ((laws_eqIntSS.f k bt502.1 bt490.1).bind fun t506 => (if t506 = true then (if (bt502.2 != bt490.2) = true then (none) else ((laws_toNet.f k a0_0 l0_1).bind fun bt507 => ((laws_eqNet.f k bt494.1 bt494.2 bt507.1 bt507.2).bind fun t511 => (if t511 = true then ((laws_toIntS.f k l1).bind fun t512 => ((laws_eqIntS.f k t499 t512).bind fun t515 => (if t515 = true then ((laws_markNet.f k bt494.1 bt494.2 1).bind fun t516 => ((laws_markIntS.f k t499 t516).bind fun bt517 => (if bt517.1 < 0 then (none) else ((laws_eqIntSS.f k bt502.1 bt490.1).bind fun t519 => (if t519 = true then ((laws_markIntSS.f k bt502.1 1).bind fun bt520 => ((laws_heldIntSS.f k bt520.2 1).bind fun t522 => (if t522 < 0 then (none) else (if t522 = bt520.1 then ((laws_toNet.f k a0_0 l0_1).bind fun bt523 => ((laws_toIntS.f k l1).bind fun t527 => ((impl_BackBasis.f k bt523.1 bt523.2 t527 a2).bind fun bt530 => ((laws_eqIntSS.f k bt530.1 bt490.1).bind fun t534 => (if t534 = true then (if (bt530.2 != bt490.2) = true then (none) else ((laws_heldIntSS.f k bt520.2 1).bind fun t535 => (if t535 < 0 then (none) else (if t535 = bt520.1 then (some true) else (none))))) else (none)))))) else (none))))) else (none)))))) else (none)))) else (none))))) else (none)))))))))))
set_option maxHeartbeats 8000000 in
set_option maxRecDepth 100000 in
theorem laws_FnExactBackBasis.calls (k : Nat) (a0_0 : Int) (A0_1 : Option Addr) (c0_1 : Nat) (l0_1 : List (S104)) (A1 : Option Addr) (c1 : Nat) (l1 : List Int) (a2 : Int) (r : Bool) (w : World) (hr0_1 : Kd.C k104 w A0_1 l0_1.length l0_1) (hc0_1 : l0_1.length ≤ c0_1) (hr1 : Kd.C (Kd.int .i64) w A1 l1.length l1) (hc1 : l1.length ≤ c1) (h : laws_FnExactBackBasis.f k a0_0 l0_1 l1 a2 = some r) :
    Calls Try.prog 5 #[.agg #[.int .i64 a0_0, .slice A0_1 l0_1.length c0_1], .slice A1 l1.length c1, .int .i64 a2] w fun e w' => e = .returned (.bool r) ∧ Below w.heap.size w w' := by
  have hu31 := Try.underlying31
  have hu38 := Try.underlying38
  have HR0_1 := q_ hr0_1; have HC0_1 := q_ hc0_1; clear hr0_1 hc0_1; have HR1 := q_ hr1; have HC1 := q_ hc1; clear hr1 hc1; have HB := q_ (Below.refl w.heap.size w); have H : (if (l1.length : Int) > 1048576 then (some true) else ((laws_szNet.f k a0_0 l0_1 1048576).bind fun t482 => (if t482 < 0 then (some true) else ((laws_toNet.f k a0_0 l0_1).bind fun bt483 => ((laws_toIntS.f k l1).bind fun t487 => ((spec_BackBasis.f k bt483.1 bt483.2 t487 a2).bind fun bt490 => ((laws_toNet.f k a0_0 l0_1).bind fun bt494 => ((laws_toIntS.f k l1).bind fun t499 => ((impl_BackBasis.f k bt494.1 bt494.2 t499 a2).bind fun bt502 => ((laws_eqIntSS.f k bt502.1 bt490.1).bind fun t506 => (if t506 = true then (if (bt502.2 != bt490.2) = true then (none) else ((laws_toNet.f k a0_0 l0_1).bind fun bt507 => ((laws_eqNet.f k bt494.1 bt494.2 bt507.1 bt507.2).bind fun t511 => (if t511 = true then ((laws_toIntS.f k l1).bind fun t512 => ((laws_eqIntS.f k t499 t512).bind fun t515 => (if t515 = true then ((laws_markNet.f k bt494.1 bt494.2 1).bind fun t516 => ((laws_markIntS.f k t499 t516).bind fun bt517 => (if bt517.1 < 0 then (none) else ((laws_eqIntSS.f k bt502.1 bt490.1).bind fun t519 => (if t519 = true then ((laws_markIntSS.f k bt502.1 1).bind fun bt520 => ((laws_heldIntSS.f k bt520.2 1).bind fun t522 => (if t522 < 0 then (none) else (if t522 = bt520.1 then ((laws_toNet.f k a0_0 l0_1).bind fun bt523 => ((laws_toIntS.f k l1).bind fun t527 => ((impl_BackBasis.f k bt523.1 bt523.2 t527 a2).bind fun bt530 => ((laws_eqIntSS.f k bt530.1 bt490.1).bind fun t534 => (if t534 = true then (if (bt530.2 != bt490.2) = true then (none) else ((laws_heldIntSS.f k bt520.2 1).bind fun t535 => (if t535 < 0 then (none) else (if t535 = bt520.1 then (some true) else (none))))) else (none)))))) else (none))))) else (none)))))) else (none)))) else (none))))) else (none)))))))))))) = some r := h; clear h
  by_cases c4 : (l1.length : Int) > 1048576
  ·rw [if_pos c4] at H; have c4b0 : decide (1048576 < (l1.length : Int)) = true := decide_eq_true c4; have c4b1 : decide (1048576 < l1.length) = true := decide_eq_true (by omega); clear c4; obtain rfl := Option.some.inj H; go_enter Try.func5, Try.ntmps5; go_wp2_with (first | (refine boxE 3 #[.int .i64 a0_0, .slice A0_1 l0_1.length c0_1] 31 ?_; intro gb481 hg w5 hbox hb; have BK481 := q_ (hbox); have GW481 := q_ (gw_ hg HB.out); have GE481 := q_ (gw_ hg HB.out); have HZw5 := q_ ((hz_ hb : w.heap.size ≤ w5.heap.size)); replace HB := q_ (bs HB.out hb); clear hb hbox hg)); go_ret; exact fin_ (by exact bv HB.out)
  ·rw [if_neg c4] at H; have c4b0 : decide (1048576 < (l1.length : Int)) = false := decide_eq_false c4; have c4b1 : decide (1048576 < l1.length) = false := decide_eq_false (by omega); clear c4; obtain ⟨t482, A6, H⟩ := bnd_ H
   by_cases c7 : t482 < 0
   ·rw [if_pos c7] at H; have c7b0 : decide (t482 < 0) = true := decide_eq_true c7; clear c7; obtain rfl := Option.some.inj H; go_enter Try.func5, Try.ntmps5; go_wp2_with (first | (refine boxE 3 #[.int .i64 a0_0, .slice A0_1 l0_1.length c0_1] 31 ?_; intro gb481 hg w8 hbox hb; have BK481 := q_ (hbox); have GW481 := q_ (gw_ hg HB.out); have GE481 := q_ (gw_ hg HB.out); have HZw8 := q_ ((hz_ hb : w.heap.size ≤ w8.heap.size)); replace HB := q_ (bs HB.out hb); clear hb hbox hg; obtain ⟨hcz9_0, hcz9_1, hfz9_0, hfz9_1⟩ := cz2 BK481.out) | (refine goesM (some 24) rfl rfl Try.func16 #[.agg #[.int .i64 a0_0, .slice A0_1 l0_1.length c0_1], .int .i64 1048576] rfl ?_; (with_reducible refine (laws_szNet.calls k a0_0 _ _ l0_1 1048576 t482 _ ?side1 ?side2 A6.out).mono ?_); (case side1 => exact Kd.C_v ((Kd.C_below HR0_1.out HB.out))); (case side2 => exact HC0_1.out); rintro e w10 ⟨rfl, hb⟩; refine ⟨_, rfl, ?_⟩; have HZw10 := q_ ((hz_ hb : w8.heap.size ≤ w10.heap.size)); replace BK481 := q_ (bb BK481.out hb); replace HB := q_ (below_step (by exact bv HB.out) hb); (try clear hb); (try clear hb2); (try clear hk); (try clear hi))); go_ret; exact fin_ (by exact bv HB.out)
   ·rw [if_neg c7] at H; have c7b0 : decide (t482 < 0) = false := decide_eq_false c7; clear c7; replace H := Option.bind_eq_some_iff.mp H; obtain ⟨⟨t483, t484⟩, A110, H⟩ := H; replace H : ((laws_toIntS.f k l1).bind fun t487 => ((spec_BackBasis.f k t483 t484 t487 a2).bind fun bt490 => ((laws_toNet.f k a0_0 l0_1).bind fun bt494 => ((laws_toIntS.f k l1).bind fun t499 => ((impl_BackBasis.f k bt494.1 bt494.2 t499 a2).bind fun bt502 => ((laws_eqIntSS.f k bt502.1 bt490.1).bind fun t506 => (if t506 = true then (if (bt502.2 != bt490.2) = true then (none) else ((laws_toNet.f k a0_0 l0_1).bind fun bt507 => ((laws_eqNet.f k bt494.1 bt494.2 bt507.1 bt507.2).bind fun t511 => (if t511 = true then ((laws_toIntS.f k l1).bind fun t512 => ((laws_eqIntS.f k t499 t512).bind fun t515 => (if t515 = true then ((laws_markNet.f k bt494.1 bt494.2 1).bind fun t516 => ((laws_markIntS.f k t499 t516).bind fun bt517 => (if bt517.1 < 0 then (none) else ((laws_eqIntSS.f k bt502.1 bt490.1).bind fun t519 => (if t519 = true then ((laws_markIntSS.f k bt502.1 1).bind fun bt520 => ((laws_heldIntSS.f k bt520.2 1).bind fun t522 => (if t522 < 0 then (none) else (if t522 = bt520.1 then ((laws_toNet.f k a0_0 l0_1).bind fun bt523 => ((laws_toIntS.f k l1).bind fun t527 => ((impl_BackBasis.f k bt523.1 bt523.2 t527 a2).bind fun bt530 => ((laws_eqIntSS.f k bt530.1 bt490.1).bind fun t534 => (if t534 = true then (if (bt530.2 != bt490.2) = true then (none) else ((laws_heldIntSS.f k bt520.2 1).bind fun t535 => (if t535 < 0 then (none) else (if t535 = bt520.1 then (some true) else (none))))) else (none)))))) else (none))))) else (none)))))) else (none)))) else (none))))) else (none)))))))) = some r := H; have A11 := q_ A110; clear A110; obtain ⟨t487, A12, H⟩ := bnd_ H; replace H := Option.bind_eq_some_iff.mp H; obtain ⟨⟨t490, t493⟩, A130, H⟩ := H; replace H : ((laws_toNet.f k a0_0 l0_1).bind fun bt494 => ((laws_toIntS.f k l1).bind fun t499 => ((impl_BackBasis.f k bt494.1 bt494.2 t499 a2).bind fun bt502 => ((laws_eqIntSS.f k bt502.1 t490).bind fun t506 => (if t506 = true then (if (bt502.2 != t493) = true then (none) else ((laws_toNet.f k a0_0 l0_1).bind fun bt507 => ((laws_eqNet.f k bt494.1 bt494.2 bt507.1 bt507.2).bind fun t511 => (if t511 = true then ((laws_toIntS.f k l1).bind fun t512 => ((laws_eqIntS.f k t499 t512).bind fun t515 => (if t515 = true then ((laws_markNet.f k bt494.1 bt494.2 1).bind fun t516 => ((laws_markIntS.f k t499 t516).bind fun bt517 => (if bt517.1 < 0 then (none) else ((laws_eqIntSS.f k bt502.1 t490).bind fun t519 => (if t519 = true then ((laws_markIntSS.f k bt502.1 1).bind fun bt520 => ((laws_heldIntSS.f k bt520.2 1).bind fun t522 => (if t522 < 0 then (none) else (if t522 = bt520.1 then ((laws_toNet.f k a0_0 l0_1).bind fun bt523 => ((laws_toIntS.f k l1).bind fun t527 => ((impl_BackBasis.f k bt523.1 bt523.2 t527 a2).bind fun bt530 => ((laws_eqIntSS.f k bt530.1 t490).bind fun t534 => (if t534 = true then (if (bt530.2 != t493) = true then (none) else ((laws_heldIntSS.f k bt520.2 1).bind fun t535 => (if t535 < 0 then (none) else (if t535 = bt520.1 then (some true) else (none))))) else (none)))))) else (none))))) else (none)))))) else (none)))) else (none))))) else (none)))))) = some r := H; have A13 := q_ A130; clear A130; replace H := Option.bind_eq_some_iff.mp H; obtain ⟨⟨t494, t495⟩, A140, H⟩ := H; replace H : ((laws_toIntS.f k l1).bind fun t499 => ((impl_BackBasis.f k t494 t495 t499 a2).bind fun bt502 => ((laws_eqIntSS.f k bt502.1 t490).bind fun t506 => (if t506 = true then (if (bt502.2 != t493) = true then (none) else ((laws_toNet.f k a0_0 l0_1).bind fun bt507 => ((laws_eqNet.f k t494 t495 bt507.1 bt507.2).bind fun t511 => (if t511 = true then ((laws_toIntS.f k l1).bind fun t512 => ((laws_eqIntS.f k t499 t512).bind fun t515 => (if t515 = true then ((laws_markNet.f k t494 t495 1).bind fun t516 => ((laws_markIntS.f k t499 t516).bind fun bt517 => (if bt517.1 < 0 then (none) else ((laws_eqIntSS.f k bt502.1 t490).bind fun t519 => (if t519 = true then ((laws_markIntSS.f k bt502.1 1).bind fun bt520 => ((laws_heldIntSS.f k bt520.2 1).bind fun t522 => (if t522 < 0 then (none) else (if t522 = bt520.1 then ((laws_toNet.f k a0_0 l0_1).bind fun bt523 => ((laws_toIntS.f k l1).bind fun t527 => ((impl_BackBasis.f k bt523.1 bt523.2 t527 a2).bind fun bt530 => ((laws_eqIntSS.f k bt530.1 t490).bind fun t534 => (if t534 = true then (if (bt530.2 != t493) = true then (none) else ((laws_heldIntSS.f k bt520.2 1).bind fun t535 => (if t535 < 0 then (none) else (if t535 = bt520.1 then (some true) else (none))))) else (none)))))) else (none))))) else (none)))))) else (none)))) else (none))))) else (none))))) = some r := H; have A14 := q_ A140; clear A140; obtain ⟨t499, A15, H⟩ := bnd_ H; replace H := Option.bind_eq_some_iff.mp H; obtain ⟨⟨t502, t505⟩, A160, H⟩ := H; replace H : ((laws_eqIntSS.f k t502 t490).bind fun t506 => (if t506 = true then (if (t505 != t493) = true then (none) else ((laws_toNet.f k a0_0 l0_1).bind fun bt507 => ((laws_eqNet.f k t494 t495 bt507.1 bt507.2).bind fun t511 => (if t511 = true then ((laws_toIntS.f k l1).bind fun t512 => ((laws_eqIntS.f k t499 t512).bind fun t515 => (if t515 = true then ((laws_markNet.f k t494 t495 1).bind fun t516 => ((laws_markIntS.f k t499 t516).bind fun bt517 => (if bt517.1 < 0 then (none) else ((laws_eqIntSS.f k t502 t490).bind fun t519 => (if t519 = true then ((laws_markIntSS.f k t502 1).bind fun bt520 => ((laws_heldIntSS.f k bt520.2 1).bind fun t522 => (if t522 < 0 then (none) else (if t522 = bt520.1 then ((laws_toNet.f k a0_0 l0_1).bind fun bt523 => ((laws_toIntS.f k l1).bind fun t527 => ((impl_BackBasis.f k bt523.1 bt523.2 t527 a2).bind fun bt530 => ((laws_eqIntSS.f k bt530.1 t490).bind fun t534 => (if t534 = true then (if (bt530.2 != t493) = true then (none) else ((laws_heldIntSS.f k bt520.2 1).bind fun t535 => (if t535 < 0 then (none) else (if t535 = bt520.1 then (some true) else (none))))) else (none)))))) else (none))))) else (none)))))) else (none)))) else (none))))) else (none))) = some r := H; have A16 := q_ A160; clear A160; obtain ⟨t506, A17, H⟩ := bnd_ H
    by_cases c18 : t506 = true
    case neg => (replace c18 := Bool.eq_false_iff.mpr c18); subst c18; rw [if_neg (show ¬ (false = true) by decide)] at H; exact absurd H (by simp)
    subst c18; replace H := itt_ H
    obtain ⟨c19, H⟩ := ifn_ H; (have c19b0 : (t505 != t493) = false := by simpa using c19); (try (have c19b1 : decide (t505 = t493) = true := by simpa using c19)); (try (have c19b2 : (t505 == t493) = true := by simpa using c19)); clear c19; replace H := Option.bind_eq_some_iff.mp H; obtain ⟨⟨t507, t508⟩, A200, H⟩ := H; replace H : ((laws_eqNet.f k t494 t495 t507 t508).bind fun t511 => (if t511 = true then ((laws_toIntS.f k l1).bind fun t512 => ((laws_eqIntS.f k t499 t512).bind fun t515 => (if t515 = true then ((laws_markNet.f k t494 t495 1).bind fun t516 => ((laws_markIntS.f k t499 t516).bind fun bt517 => (if bt517.1 < 0 then (none) else ((laws_eqIntSS.f k t502 t490).bind fun t519 => (if t519 = true then ((laws_markIntSS.f k t502 1).bind fun bt520 => ((laws_heldIntSS.f k bt520.2 1).bind fun t522 => (if t522 < 0 then (none) else (if t522 = bt520.1 then ((laws_toNet.f k a0_0 l0_1).bind fun bt523 => ((laws_toIntS.f k l1).bind fun t527 => ((impl_BackBasis.f k bt523.1 bt523.2 t527 a2).bind fun bt530 => ((laws_eqIntSS.f k bt530.1 t490).bind fun t534 => (if t534 = true then (if (bt530.2 != t493) = true then (none) else ((laws_heldIntSS.f k bt520.2 1).bind fun t535 => (if t535 < 0 then (none) else (if t535 = bt520.1 then (some true) else (none))))) else (none)))))) else (none))))) else (none)))))) else (none)))) else (none))) = some r := H; have A20 := q_ A200; clear A200; obtain ⟨t511, A21, H⟩ := bnd_ H
    by_cases c22 : t511 = true
    case neg => (replace c22 := Bool.eq_false_iff.mpr c22); subst c22; rw [if_neg (show ¬ (false = true) by decide)] at H; exact absurd H (by simp)
    subst c22; replace H := itt_ H; obtain ⟨t512, A23, H⟩ := bnd_ H; obtain ⟨t515, A24, H⟩ := bnd_ H
    by_cases c25 : t515 = true
    case neg => (replace c25 := Bool.eq_false_iff.mpr c25); subst c25; rw [if_neg (show ¬ (false = true) by decide)] at H; exact absurd H (by simp)
    subst c25; replace H := itt_ H; obtain ⟨t516, A26, H⟩ := bnd_ H; replace H := Option.bind_eq_some_iff.mp H; obtain ⟨⟨t517, t518⟩, A270, H⟩ := H; replace H : (if t517 < 0 then (none) else ((laws_eqIntSS.f k t502 t490).bind fun t519 => (if t519 = true then ((laws_markIntSS.f k t502 1).bind fun bt520 => ((laws_heldIntSS.f k bt520.2 1).bind fun t522 => (if t522 < 0 then (none) else (if t522 = bt520.1 then ((laws_toNet.f k a0_0 l0_1).bind fun bt523 => ((laws_toIntS.f k l1).bind fun t527 => ((impl_BackBasis.f k bt523.1 bt523.2 t527 a2).bind fun bt530 => ((laws_eqIntSS.f k bt530.1 t490).bind fun t534 => (if t534 = true then (if (bt530.2 != t493) = true then (none) else ((laws_heldIntSS.f k bt520.2 1).bind fun t535 => (if t535 < 0 then (none) else (if t535 = bt520.1 then (some true) else (none))))) else (none)))))) else (none))))) else (none)))) = some r := H; have A27 := q_ A270; clear A270
    obtain ⟨c28, H⟩ := ifn_ H; have c28b0 : decide (t517 < 0) = false := decide_eq_false c28; clear c28; obtain ⟨t519, A29, H⟩ := bnd_ H
    by_cases c30 : t519 = true
    case neg => (replace c30 := Bool.eq_false_iff.mpr c30); subst c30; rw [if_neg (show ¬ (false = true) by decide)] at H; exact absurd H (by simp)
    subst c30; replace H := itt_ H; replace H := Option.bind_eq_some_iff.mp H; obtain ⟨⟨t520, t521⟩, A310, H⟩ := H; replace H : ((laws_heldIntSS.f k t521 1).bind fun t522 => (if t522 < 0 then (none) else (if t522 = t520 then ((laws_toNet.f k a0_0 l0_1).bind fun bt523 => ((laws_toIntS.f k l1).bind fun t527 => ((impl_BackBasis.f k bt523.1 bt523.2 t527 a2).bind fun bt530 => ((laws_eqIntSS.f k bt530.1 t490).bind fun t534 => (if t534 = true then (if (bt530.2 != t493) = true then (none) else ((laws_heldIntSS.f k t521 1).bind fun t535 => (if t535 < 0 then (none) else (if t535 = t520 then (some true) else (none))))) else (none)))))) else (none)))) = some r := H; have A31 := q_ A310; clear A310; obtain ⟨t522, A32, H⟩ := bnd_ H
    obtain ⟨c33, H⟩ := ifn_ H; have c33b0 : decide (t522 < 0) = false := decide_eq_false c33; clear c33
    obtain ⟨c34, H⟩ := ifp_ H; have c34b0 : (t522 == t520) = true := beq_iff_eq.mpr c34; have c34b1 : (t522 != t520) = false := bne_eq_false_iff_eq.mpr c34; clear c34; replace H := Option.bind_eq_some_iff.mp H; obtain ⟨⟨t523, t524⟩, A350, H⟩ := H; replace H : ((laws_toIntS.f k l1).bind fun t527 => ((impl_BackBasis.f k t523 t524 t527 a2).bind fun bt530 => ((laws_eqIntSS.f k bt530.1 t490).bind fun t534 => (if t534 = true then (if (bt530.2 != t493) = true then (none) else ((laws_heldIntSS.f k t521 1).bind fun t535 => (if t535 < 0 then (none) else (if t535 = t520 then (some true) else (none))))) else (none))))) = some r := H; have A35 := q_ A350; clear A350; obtain ⟨t527, A36, H⟩ := bnd_ H; replace H := Option.bind_eq_some_iff.mp H; obtain ⟨⟨t530, t533⟩, A370, H⟩ := H; replace H : ((laws_eqIntSS.f k t530 t490).bind fun t534 => (if t534 = true then (if (t533 != t493) = true then (none) else ((laws_heldIntSS.f k t521 1).bind fun t535 => (if t535 < 0 then (none) else (if t535 = t520 then (some true) else (none))))) else (none))) = some r := H; have A37 := q_ A370; clear A370; obtain ⟨t534, A38, H⟩ := bnd_ H
    by_cases c39 : t534 = true
    case neg => (replace c39 := Bool.eq_false_iff.mpr c39); subst c39; rw [if_neg (show ¬ (false = true) by decide)] at H; exact absurd H (by simp)
    subst c39; replace H := itt_ H
    obtain ⟨c40, H⟩ := ifn_ H; (have c40b0 : (t533 != t493) = false := by simpa using c40); (try (have c40b1 : decide (t533 = t493) = true := by simpa using c40)); (try (have c40b2 : (t533 == t493) = true := by simpa using c40)); clear c40; obtain ⟨t535, A41, H⟩ := bnd_ H
    obtain ⟨c42, H⟩ := ifn_ H; have c42b0 : decide (t535 < 0) = false := decide_eq_false c42; clear c42
    obtain ⟨c43, H⟩ := ifp_ H; have c43b0 : (t535 == t520) = true := beq_iff_eq.mpr c43; have c43b1 : (t535 != t520) = false := bne_eq_false_iff_eq.mpr c43; clear c43; obtain rfl := Option.some.inj H; go_enter Try.func5, Try.ntmps5
    try go_wp2_with (first | (refine boxE 3 #[.int .i64 a0_0, .slice A0_1 l0_1.length c0_1] 31 ?_; intro gb481 hg w44 hbox hb; have BK481 := q_ (hbox); have GW481 := q_ (gw_ hg HB.out); have GE481 := q_ (gw_ hg HB.out); have HZw44 := q_ ((hz_ hb : w.heap.size ≤ w44.heap.size)); replace HB := q_ (bs HB.out hb); clear hb hbox hg; obtain ⟨hcz45_0, hcz45_1, hfz45_0, hfz45_1⟩ := cz2 BK481.out) | (refine goesM (some 24) rfl rfl Try.func16 #[.agg #[.int .i64 a0_0, .slice A0_1 l0_1.length c0_1], .int .i64 1048576] rfl ?_; (with_reducible refine (laws_szNet.calls k a0_0 _ _ l0_1 1048576 t482 _ ?side1 ?side2 A6.out).mono ?_); (case side1 => exact Kd.C_v ((Kd.C_below HR0_1.out HB.out))); (case side2 => exact HC0_1.out); rintro e w46 ⟨rfl, hb⟩; refine ⟨_, rfl, ?_⟩; have HZw46 := q_ ((hz_ hb : w44.heap.size ≤ w46.heap.size)); replace BK481 := q_ (bb BK481.out hb); replace HB := q_ (below_step (by exact bv HB.out) hb); (try clear hb); (try clear hb2); (try clear hk); (try clear hi); obtain ⟨hcz47_0, hcz47_1, hfz47_0, hfz47_1⟩ := cz2 BK481.out) | (refine goesM (some 29) rfl rfl Try.func18 #[.agg #[.int .i64 a0_0, .slice A0_1 l0_1.length c0_1]] rfl ?_; (with_reducible refine (laws_toNet.calls k a0_0 _ _ l0_1 t483 t484 _ ?side1 ?side2 A11.out).mono ?_); (case side1 => exact Kd.C_v ((Kd.C_below HR0_1.out HB.out))); (case side2 => exact HC0_1.out); rintro e w48 ⟨v485, rfl, ho0, hb⟩; refine ⟨_, rfl, ?_⟩; have HO486 := q_ (Kd.S_lower (Kd.S_iv (lo := w46.heap.size) ho0 (Nat.le_refl _)) (below_size (by exact bv HB.out))); have HZw48 := q_ ((hz_ hb : w46.heap.size ≤ w48.heap.size)); replace BK481 := q_ (bb BK481.out hb); replace HB := q_ (below_step (by exact bv HB.out) hb); (try clear hb); (try clear hb2); (try clear hk); (try clear hi); (try clear ho0)) | (refine goesM (some 31) rfl rfl Try.func19 #[.slice A1 l1.length c1] rfl ?_; (with_reducible refine (laws_toIntS.calls k _ _ l1 t487 _ ?side1 ?side2 A12.out).mono ?_); (case side1 => exact Kd.C_v ((Kd.C_below HR1.out HB.out))); (case side2 => exact HC1.out); rintro e w49 ⟨v488, rfl, ho0, hb⟩; refine ⟨_, rfl, ?_⟩; have HO489 := q_ (Kd.R_lower (Kd.R_iv (lo := w48.heap.size) ho0 (Nat.le_refl _)) (below_size (by exact bv HB.out))); have HZw49 := q_ ((hz_ hb : w48.heap.size ≤ w49.heap.size)); replace HO486 := q_ (Kd.S_elder' (by exact Kd.S_v HO486.out) (Kd.R_base ho0) hb); replace BK481 := q_ (bb BK481.out hb); replace HB := q_ (below_step (by exact bv HB.out) hb); (try clear hb); (try clear hb2); (try clear hk); (try clear hi); (try clear ho0); obtain ⟨Ao50, co50, eo50⟩ := Kd.S_slice HO486.out; subst eo50; obtain ⟨Ao51, co51, eo51⟩ := Kd.R_slice HO489.out; subst eo51) | (refine goesM (some 33) rfl rfl Try.func23 #[.agg #[.int .i64 t483, .slice Ao50 t484.length co50], .slice Ao51 t487.length co51, .int .i64 a2] rfl ?_; (with_reducible refine (spec_BackBasis.calls k t483 _ _ t484 _ _ t487 a2 t490 t493 _ ?side1 ?side2 ?side3 ?side4 A13.out).mono ?_); (case side1 => exact Kd.C_v ((Kd.S_reads' HO486.out).2.2)); (case side2 => exact (Kd.S_reads' HO486.out).2.1); (case side3 => exact Kd.C_v ((Kd.R_reads' HO489.out).2.2)); (case side4 => exact (Kd.R_reads' HO489.out).2.1); rintro e w52 ⟨v491, rfl, ho0, hb⟩; refine ⟨_, rfl, ?_⟩; have HO492 := q_ (Kd.V_lower (Kd.V_mono (ok' := fun k_ => some k_ ≠ (.slice Ao50 t484.length co50 : Value).ownBlock ∧ some k_ ≠ (.slice Ao51 t487.length co51 : Value).ownBlock ∧ k_ ≠ gb481 ∧ (w49.heap.size ≤ k_ ∧ k_ < w52.heap.size)) (Kd.V_bound ho0) (fun k_ hk_ => ⟨(Kd.fresh' (Kd.S_lt (by exact Kd.S_v HO486.out)) k_ hk_.1), (Kd.fresh' (Kd.R_lt (by exact Kd.R_v HO489.out)) k_ hk_.1), (Kd.freshB (g := gb481) (o := .cells #[.int .i64 a0_0, .slice A0_1 l0_1.length c0_1] 31 (0, 0)) (by exact blk_v BK481.out) k_ hk_.1), ⟨Nat.le_trans (Nat.le_refl _) hk_.1, hk_.2⟩⟩)) (below_size (by exact bv HB.out))); have HZw52 := q_ ((hz_ hb : w49.heap.size ≤ w52.heap.size)); replace HO486 := q_ (Kd.S_below (by exact Kd.S_v HO486.out) hb); replace HO489 := q_ (Kd.R_below (by exact Kd.R_v HO489.out) hb); replace BK481 := q_ (bb BK481.out hb); replace HB := q_ (below_step (by exact bv HB.out) hb); (try clear hb); (try clear hb2); (try clear hk); (try clear hi); (try clear ho0); obtain ⟨hcz53_0, hcz53_1, hfz53_0, hfz53_1⟩ := cz2 BK481.out) | (refine goesM (some 37) rfl rfl Try.func18 #[.agg #[.int .i64 a0_0, .slice A0_1 l0_1.length c0_1]] rfl ?_; (with_reducible refine (laws_toNet.calls k a0_0 _ _ l0_1 t494 t495 _ ?side1 ?side2 A14.out).mono ?_); (case side1 => exact Kd.C_v ((Kd.C_below HR0_1.out HB.out))); (case side2 => exact HC0_1.out); rintro e w54 ⟨v496, rfl, ho0, hb⟩; refine ⟨_, rfl, ?_⟩; have HO497 := q_ (Kd.S_lower (Kd.S_new' (Kd.S_new' (Kd.S_iv (lo := w52.heap.size) ho0 (Nat.le_refl _)) (Kd.S_lt (by exact Kd.S_v HO486.out))) (Kd.R_lt (by exact Kd.R_v HO489.out))) (below_size (by exact bv HB.out))); have HZw54 := q_ ((hz_ hb : w52.heap.size ≤ w54.heap.size)); replace HO486 := q_ (Kd.S_elder' (by exact Kd.S_v HO486.out) (Kd.S_base ho0) hb); replace HO489 := q_ (Kd.R_below (by exact Kd.R_v HO489.out) hb); replace HO492 := q_ (Kd.V_elder' (by exact Kd.V_v HO492.out) (Kd.S_base ho0) hb); replace BK481 := q_ (bb BK481.out hb); replace HB := q_ (below_step (by exact bv HB.out) hb); (try clear hb); (try clear hb2); (try clear hk); (try clear hi); (try clear ho0)) | (refine boxE 10 #[.int .i64 0, .slice none 0 0] 38 ?_; intro gb498 hg w55 hbox hb; have BK498 := q_ (hbox); have GW498 := q_ (gw_ hg HB.out); have GE498 := q_ (gw_ hg HB.out); have NB481_498 := q_ (nb_ hg BK481.out); have NB498_481 := q_ (bn_ hg BK481.out); have HZw55 := q_ ((hz_ hb : w54.heap.size ≤ w55.heap.size)); replace HO486 := q_ (Kd.S_below (by exact Kd.S_v HO486.out) hb); replace HO489 := q_ (Kd.R_below (by exact Kd.R_v HO489.out) hb); replace HO492 := q_ (Kd.V_below (Kd.V_elderB (by exact Kd.V_v HO492.out) gb498 (Nat.le_of_eq hg.symm)) hb); replace HO497 := q_ (Kd.S_below (by exact Kd.S_v HO497.out) hb); replace BK481 := q_ (bb BK481.out hb); replace HB := q_ (bs HB.out hb); clear hb hbox hg; have hnb56 := NB498_481.out; have hnc56 := NB481_498.out; obtain ⟨hcz57_0, hcz57_1, hfz57_0, hfz57_1⟩ := cz2 BK498.out; obtain ⟨Ao58, co58, eo58⟩ := Kd.S_slice HO497.out; subst eo58) | (refine goesM (some 39) rfl rfl Try.func19 #[.slice A1 l1.length c1] rfl ?_; (with_reducible refine (laws_toIntS.calls k _ _ l1 t499 _ ?side1 ?side2 A15.out).mono ?_); (case side1 => exact Kd.C_below HR1.out (by exact (below_set (below_set HB.out GE498.out) GE498.out))); (case side2 => exact HC1.out); rintro e w59 ⟨v500, rfl, ho0, hb⟩; refine ⟨_, rfl, ?_⟩; have HO501 := q_ (Kd.R_lower (Kd.R_new' (Kd.R_iv (lo := w55.heap.size) ho0 (by simp)) (Kd.R_lt (by exact (Kd.R_mono (Kd.R_far (p := ⟨gb498, 1, none⟩) (Kd.R_far (p := ⟨gb498, 0, none⟩) (Kd.R_types HO489.out BK498.out (by decide)) (fun _ hk => hk.2) (.int .i64 t494)) (fun _ hk => hk.2) (.slice Ao58 t495.length co58)) (fun _ h_ => h_.1))))) (below_size (by exact (below_set (below_set HB.out GE498.out) GE498.out)))); have HZw59 := q_ ((Nat.le_trans (Nat.le_of_eq (by first | rfl | simp)) (below_size hb) : w55.heap.size ≤ w59.heap.size)); replace HO486 := q_ (Kd.S_elder' (by exact (Kd.S_mono (Kd.S_far (p := ⟨gb498, 1, none⟩) (Kd.S_far (p := ⟨gb498, 0, none⟩) (Kd.S_types HO486.out BK498.out (by decide)) (fun _ hk => hk.2) (.int .i64 t494)) (fun _ hk => hk.2) (.slice Ao58 t495.length co58)) (fun _ h_ => h_.1))) (Kd.R_base ho0) hb); replace HO489 := q_ (Kd.R_elder' (by exact (Kd.R_mono (Kd.R_far (p := ⟨gb498, 1, none⟩) (Kd.R_far (p := ⟨gb498, 0, none⟩) (Kd.R_types HO489.out BK498.out (by decide)) (fun _ hk => hk.2) (.int .i64 t494)) (fun _ hk => hk.2) (.slice Ao58 t495.length co58)) (fun _ h_ => h_.1))) (Kd.R_base ho0) hb); replace HO492 := q_ (Kd.V_elder' (by exact (Kd.V_mono (Kd.V_far (p := ⟨gb498, 1, none⟩) (Kd.V_far (p := ⟨gb498, 0, none⟩) (Kd.V_mono HO492.out (fun k_ hk => (⟨hk, hk.2⟩ : _ ∧ k_ ≠ gb498))) (fun _ hk => hk.2) (.int .i64 t494)) (fun _ hk => hk.2) (.slice Ao58 t495.length co58)) (fun _ h_ => h_.1))) (Kd.R_base ho0) hb); replace HO497 := q_ (Kd.S_elder' (by exact (Kd.S_mono (Kd.S_far (p := ⟨gb498, 1, none⟩) (Kd.S_far (p := ⟨gb498, 0, none⟩) (Kd.S_types HO497.out BK498.out (by decide)) (fun _ hk => hk.2) (.int .i64 t494)) (fun _ hk => hk.2) (.slice Ao58 t495.length co58)) (fun _ h_ => h_.1))) (Kd.R_base ho0) hb); replace BK481 := q_ (blk_below (g := gb481) (o := .cells #[.int .i64 a0_0, .slice A0_1 l0_1.length c0_1] 31 (0, 0)) (by exact (blk_far (blk_far BK481.out NB481_498.out _) NB481_498.out _)) hb); replace BK498 := q_ (blk_below (g := gb498) (o := .cells #[.int .i64 t494, .slice Ao58 t495.length co58] 38 (0, 0)) (by exact (blk_put (blk_put BK498.out 0 _ rfl) 1 _ rfl)) hb); replace HB := q_ (below_step (by exact (below_set (below_set HB.out GE498.out) GE498.out)) hb); (try clear hb); (try clear hb2); (try clear hk); (try clear hi); (try clear ho0); obtain ⟨hcz60_0, hcz60_1, hfz60_0, hfz60_1⟩ := cz2 BK498.out; obtain ⟨Ao61, co61, eo61⟩ := Kd.R_slice HO501.out; subst eo61) | (refine goesM (some 44) rfl rfl Try.func24 #[.agg #[.int .i64 t494, .slice Ao58 t495.length co58], .slice Ao61 t499.length co61, .int .i64 a2] rfl ?_; (with_reducible refine (impl_BackBasis.calls k t494 _ _ t495 _ _ t499 a2 t502 t505 _ ?side1 ?side2 ?side3 ?side4 A16.out).mono ?_); (case side1 => exact Kd.C_v ((Kd.S_reads' HO497.out).2.2)); (case side2 => exact (Kd.S_reads' HO497.out).2.1); (case side3 => exact Kd.C_v ((Kd.R_reads' HO501.out).2.2)); (case side4 => exact (Kd.R_reads' HO501.out).2.1); rintro e w62 ⟨v503, rfl, ho0, hb⟩; refine ⟨_, rfl, ?_⟩; have HO504 := q_ (Kd.S_lower (Kd.S_new' (Kd.S_new' (Kd.S_iv (lo := w59.heap.size) ho0 (Nat.le_refl _)) (Kd.R_lt (by exact Kd.R_v HO489.out))) (Kd.R_lt (by exact Kd.R_v HO501.out))) (below_size (by exact bv HB.out))); have HZw62 := q_ ((hz_ hb : w59.heap.size ≤ w62.heap.size)); replace HO486 := q_ (Kd.S_below (by exact Kd.S_v HO486.out) hb); replace HO489 := q_ (Kd.R_below (by exact Kd.R_v HO489.out) hb); replace HO492 := q_ (Kd.V_elder' (by exact Kd.V_v HO492.out) (Kd.S_base ho0) hb); replace HO497 := q_ (Kd.S_below (by exact Kd.S_v HO497.out) hb); replace HO501 := q_ (Kd.R_below (by exact Kd.R_v HO501.out) hb); replace BK481 := q_ (bb BK481.out hb); replace BK498 := q_ (bb BK498.out hb); replace HB := q_ (below_step (by exact bv HB.out) hb); (try clear hb); (try clear hb2); (try clear hk); (try clear hi); (try clear ho0); obtain ⟨Ao63, co63, eo63⟩ := Kd.S_slice HO504.out; subst eo63; obtain ⟨Ao64, co64, eo64⟩ := Kd.V_slice HO492.out; subst eo64) | (refine goesM (some 49) rfl rfl Try.func13 #[.slice Ao63 t502.length co63, .slice Ao64 t490.length co64] rfl ?_; (with_reducible refine (laws_eqIntSS.calls k _ _ t502 _ _ t490 true _ ?side1 ?side2 ?side3 ?side4 A17.out).mono ?_); (case side1 => exact Kd.C_v ((Kd.S_reads' HO504.out).2.2)); (case side2 => exact (Kd.S_reads' HO504.out).2.1); (case side3 => exact Kd.C_v ((Kd.V_reads' HO492.out).2.2)); (case side4 => exact (Kd.V_reads' HO492.out).2.1); rintro e w' ⟨rfl, ⟨nd, rfl⟩⟩; refine ⟨_, rfl, ?_⟩))
    (try (rw [drewN_self w62]; generalize hq_ : World.drewN w62 _ = w62; have n0_ : Aside0 (Kd.S k105 105 w62 w.heap.size (fun k_ => some k_ ≠ (.slice Ao51 t487.length co51 : Value).ownBlock ∧ some k_ ≠ (.slice Ao58 t495.length co58 : Value).ownBlock ∧ some k_ ≠ (.slice Ao61 t499.length co61 : Value).ownBlock ∧ (w46.heap.size ≤ k_ ∧ k_ < w48.heap.size)) (.slice Ao50 t484.length co50) t484) := ⟨by rw [← hq_]; exact (by exact Kd.S_v (Kd.S_mono HO486.out (fun _ hk => ⟨hk.1.1.2, ⟨hk.1.2, ⟨hk.2, hk.1.1.1.2⟩⟩⟩)))⟩; have n1_ : Aside0 (Kd.R (Kd.int .i64) 3 w62 w.heap.size (fun k_ => some k_ ≠ (.slice Ao61 t499.length co61 : Value).ownBlock ∧ (w48.heap.size ≤ k_ ∧ k_ < w49.heap.size)) (.slice Ao51 t487.length co51) t487) := ⟨by rw [← hq_]; exact (by exact Kd.R_v (Kd.R_mono HO489.out (fun _ hk => ⟨hk.2, hk.1.2⟩)))⟩; have n2_ : Aside0 (Kd.V (Kd.slice 3 (Kd.int .i64)) 32 w62 w.heap.size (fun k_ => some k_ ≠ (.slice Ao50 t484.length co50 : Value).ownBlock ∧ some k_ ≠ (.slice Ao51 t487.length co51 : Value).ownBlock ∧ some k_ ≠ (.slice Ao58 t495.length co58 : Value).ownBlock ∧ some k_ ≠ (.slice Ao61 t499.length co61 : Value).ownBlock ∧ some k_ ≠ (.slice Ao63 t502.length co63 : Value).ownBlock ∧ k_ ≠ gb481 ∧ k_ ≠ gb498 ∧ (w49.heap.size ≤ k_ ∧ k_ < w52.heap.size)) (.slice Ao64 t490.length co64) t490) := ⟨by rw [← hq_]; exact (by exact Kd.V_v (Kd.V_mono HO492.out (fun _ hk => ⟨hk.1.1.1.1.1, ⟨hk.1.1.1.1.2.1, ⟨hk.1.1.1.2, ⟨hk.1.2, ⟨hk.2, ⟨hk.1.1.1.1.2.2.1, ⟨hk.1.1.2, hk.1.1.1.1.2.2.2⟩⟩⟩⟩⟩⟩⟩)))⟩; have n3_ : Aside0 (Kd.S k105 105 w62 w.heap.size (fun k_ => some k_ ≠ (.slice Ao50 t484.length co50 : Value).ownBlock ∧ some k_ ≠ (.slice Ao51 t487.length co51 : Value).ownBlock ∧ some k_ ≠ (.slice Ao61 t499.length co61 : Value).ownBlock ∧ (w52.heap.size ≤ k_ ∧ k_ < w54.heap.size)) (.slice Ao58 t495.length co58) t495) := ⟨by rw [← hq_]; exact (by exact Kd.S_v (Kd.S_mono HO497.out (fun _ hk => ⟨hk.1.1.2, ⟨hk.1.2, ⟨hk.2, hk.1.1.1.2⟩⟩⟩)))⟩; have n4_ : Aside0 (Kd.R (Kd.int .i64) 3 w62 w.heap.size (fun k_ => some k_ ≠ (.slice Ao51 t487.length co51 : Value).ownBlock ∧ (w55.heap.size ≤ k_ ∧ k_ < w59.heap.size)) (.slice Ao61 t499.length co61) t499) := ⟨by rw [← hq_]; exact (by exact Kd.R_v (Kd.R_mono HO501.out (fun _ hk => ⟨hk.2, hk.1.2⟩)))⟩; have n5_ : Aside0 (Kd.S (Kd.slice 3 (Kd.int .i64)) 32 w62 w.heap.size (fun k_ => some k_ ≠ (.slice Ao51 t487.length co51 : Value).ownBlock ∧ some k_ ≠ (.slice Ao61 t499.length co61 : Value).ownBlock ∧ (w59.heap.size ≤ k_ ∧ k_ < w62.heap.size)) (.slice Ao63 t502.length co63) t502) := ⟨by rw [← hq_]; exact (by exact Kd.S_v (Kd.S_mono HO504.out (fun _ hk => ⟨hk.1.2, ⟨hk.2, hk.1.1.2⟩⟩)))⟩; have n6_ : Aside0 (w62.heap[gb481]? = some (.cells #[.int .i64 a0_0, .slice A0_1 l0_1.length c0_1] 31 (0, 0))) := ⟨by rw [← hq_]; exact (by exact blk_v BK481.out)⟩; have n7_ : Aside0 (w62.heap[gb498]? = some (.cells #[.int .i64 t494, .slice Ao58 t495.length co58] 38 (0, 0))) := ⟨by rw [← hq_]; exact (by exact blk_v BK498.out)⟩; have n8_ : Aside0 (Below w.heap.size w w62) := ⟨by rw [← hq_]; exact (by exact bv HB.out)⟩; have n9_ : Aside0 (w59.heap.size ≤ w62.heap.size) := ⟨by rw [← hq_]; exact HZw62.out⟩; clear HO486 HO489 HO492 HO497 HO501 HO504 BK481 BK498 HB HZw62 hq_; have HO486 := n0_; have HO489 := n1_; have HO492 := n2_; have HO497 := n3_; have HO501 := n4_; have HO504 := n5_; have BK481 := n6_; have BK498 := n7_; have HB := n8_; have HZw62 := n9_; clear n0_ n1_ n2_ n3_ n4_ n5_ n6_ n7_ n8_ n9_)); replace HO486 := q_ (Kd.S_drew HO486.out); replace HO489 := q_ (Kd.R_drew HO489.out); replace HO492 := q_ (Kd.V_drew HO492.out); replace HO497 := q_ (Kd.S_drew HO497.out); replace HO501 := q_ (Kd.R_drew HO501.out); replace HO504 := q_ (Kd.S_drew HO504.out); replace BK481 := q_ (blk_drew BK481.out); replace BK498 := q_ (blk_drew BK498.out); replace HB := q_ (below_drew1 HB.out); refine start_ (n := 5) (S := fun w' => w'.cell? ⟨gb498, 0, none⟩ = some (.int .i64 t494) ∧ w'.cell? ⟨gb498, 1, none⟩ = some (.slice Ao58 t495.length co58) ∧ w'.cell? ⟨gb481, 0, none⟩ = some (.int .i64 a0_0) ∧ w'.cell? ⟨gb481, 1, none⟩ = some (.slice A0_1 l0_1.length c0_1)) (ds := []) #[false, false, false, false, false] (by kernel_rfl) rfl rfl ⟨(blk_cell BK498.out 0).trans rfl, (blk_cell BK498.out 1).trans rfl, (blk_cell BK481.out 0).trans rfl, (blk_cell BK481.out 1).trans rfl⟩ (fun hHeld => ?_); generalize w62.drew = w65 at HO486 HO489 HO492 HO497 HO501 HO504 BK481 BK498 HB hHeld ⊢; refine take_ (i := 0) (N := some 56) (v := ?_) (a' := ?_) #[true, false, false, false, false] rfl rfl (by kernel_rfl) (fun _ _ _ h => h) (Or.inl ⟨by rfl, ?_⟩) hHeld ?_ ?_; rotate_left
    ·rintro w' ⟨s0, s1, s2, s3⟩; go_simp; (with_reducible rfl)
    rotate_left
    ·simp only [Act.put, List.setIfInBounds_toArray, List.set_cons_zero, List.set_cons_succ, i64_w, i32_w]; rfl
    refine take_ (i := 1) (N := some 57) (v := ?_) (a' := ?_) #[true, true, false, false, false] rfl rfl (by kernel_rfl) (fun _ _ _ h => h) (Or.inl ⟨by rfl, ?_⟩) hHeld ?_ ?_; rotate_left
    ·rintro w' ⟨s0, s1, s2, s3⟩; go_simp; (with_reducible rfl)
    rotate_left
    ·simp only [Act.put, List.setIfInBounds_toArray, List.set_cons_zero, List.set_cons_succ, i64_w, i32_w]; rfl
    refine one_ (i := 2) (N := some 58) #[true, true, true, false, false] rfl rfl (by kernel_rfl) (by decide) (fun K hK => ?_); refine goesN Try.func18 #[.agg #[.int .i64 a0_0, .slice A0_1 l0_1.length c0_1]] (by rfl) rfl rfl ?_; (with_reducible refine (laws_toNet.calls k a0_0 _ _ l0_1 t507 t508 _ ?side1 ?side2 A20.out).mono ?_)
    (case side1 => exact Kd.C_v ((Kd.C_below HR0_1.out HB.out)))
    (case side2 => exact HC0_1.out)
    rintro e w66 ⟨v509, rfl, ho0, hb⟩; refine ⟨_, rfl, ?_⟩; have HO510 := q_ (Kd.S_lower (Kd.S_new' (Kd.S_new' (Kd.S_new' (Kd.S_new' (Kd.S_iv (lo := w65.heap.size) ho0 (Nat.le_refl _)) (Kd.S_lt (by exact Kd.S_v HO486.out))) (Kd.R_lt (by exact Kd.R_v HO489.out))) (Kd.S_lt (by exact Kd.S_v HO497.out))) (Kd.R_lt (by exact Kd.R_v HO501.out))) (below_size (by exact bv HB.out))); have HZw66 := q_ ((hz_ hb : w65.heap.size ≤ w66.heap.size)); replace HO486 := q_ (Kd.S_elder' (by exact Kd.S_v HO486.out) (Kd.S_base ho0) hb); replace HO489 := q_ (Kd.R_below (by exact Kd.R_v HO489.out) hb); replace HO492 := q_ (Kd.V_elder' (by exact Kd.V_v HO492.out) (Kd.S_base ho0) hb); replace HO497 := q_ (Kd.S_elder' (by exact Kd.S_v HO497.out) (Kd.S_base ho0) hb); replace HO501 := q_ (Kd.R_below (by exact Kd.R_v HO501.out) hb); replace HO504 := q_ (Kd.S_below (by exact Kd.S_v HO504.out) hb); replace BK481 := q_ (bb BK481.out hb); replace BK498 := q_ (bb BK498.out hb); replace HB := q_ (below_step (by exact bv HB.out) hb); (try clear hb); (try clear hb2); (try clear hk); (try clear hi); (try clear ho0); obtain ⟨Ao67, co67, eo67⟩ := Kd.S_slice HO510.out; (first | subst eo67 | (injection eo67 with f1_ f2_ f3_; have f4_ := f1_.symm; have f5_ := f3_.symm; clear f1_ f2_ f3_; subst f4_; subst f5_)); refine hK.out _ _ ⟨(blk_cell BK498.out 0).trans rfl, (blk_cell BK498.out 1).trans rfl, (blk_cell BK481.out 0).trans rfl, (blk_cell BK481.out 1).trans rfl⟩ (fun hHeld => ?_); clear hK K; refine norm_ (a' := ?_) ?_ ?_; rotate_left
    ·show Act.put _ (some 58) _ = _
     simp only [Act.put, List.setIfInBounds_toArray, List.set_cons_zero, List.set_cons_succ, i64_w, i32_w]; rfl
    refine one_ (i := 3) (N := some 59) #[true, true, true, true, false] rfl rfl (by kernel_rfl) (by decide) (fun K hK => ?_); refine goesN Try.func21 #[.agg #[.int .i64 t494, .slice Ao58 t495.length co58], .agg #[.int .i64 t507, .slice Ao67 t508.length co67]] (by rfl) rfl rfl ?_; (with_reducible refine (laws_eqNet.calls k t494 _ _ t495 t507 _ _ t508 true _ ?side1 ?side2 ?side3 ?side4 A21.out).mono ?_)
    (case side1 => exact Kd.C_v ((Kd.S_reads' HO497.out).2.2))
    (case side2 => exact (Kd.S_reads' HO497.out).2.1)
    (case side3 => exact Kd.C_v ((Kd.S_reads' HO510.out).2.2))
    (case side4 => exact (Kd.S_reads' HO510.out).2.1)
    rintro e w68 ⟨rfl, hb⟩; refine ⟨_, rfl, ?_⟩; have HZw68 := q_ ((hz_ hb : w66.heap.size ≤ w68.heap.size)); replace HO486 := q_ (Kd.S_below (by exact Kd.S_v HO486.out) hb); replace HO489 := q_ (Kd.R_below (by exact Kd.R_v HO489.out) hb); replace HO492 := q_ (Kd.V_below (by exact Kd.V_v HO492.out) hb); replace HO497 := q_ (Kd.S_below (by exact Kd.S_v HO497.out) hb); replace HO501 := q_ (Kd.R_below (by exact Kd.R_v HO501.out) hb); replace HO504 := q_ (Kd.S_below (by exact Kd.S_v HO504.out) hb); replace HO510 := q_ (Kd.S_below (by exact Kd.S_v HO510.out) hb); replace BK481 := q_ (bb BK481.out hb); replace BK498 := q_ (bb BK498.out hb); replace HB := q_ (below_step (by exact bv HB.out) hb); (try clear hb); (try clear hb2); (try clear hk); (try clear hi); refine hK.out _ _ ⟨(blk_cell BK498.out 0).trans rfl, (blk_cell BK498.out 1).trans rfl, (blk_cell BK481.out 0).trans rfl, (blk_cell BK481.out 1).trans rfl⟩ (fun hHeld => ?_); clear hK K; refine norm_ (a' := ?_) ?_ ?_; rotate_left
    ·show Act.put _ (some 59) _ = _
     simp only [Act.put, List.setIfInBounds_toArray, List.set_cons_zero, List.set_cons_succ, i64_w, i32_w]; rfl
    refine pure_ (i := 4) (N := some 60) (v := ?_) (a' := ?_) #[true, true, true, true, true] rfl rfl (by kernel_rfl) (fun _ _ _ h => h) (Or.inl ⟨by rfl, ?_⟩) ?_ ?_; rotate_left
    ·intro w'; go_simp; (with_reducible rfl)
    rotate_left
    ·simp only [Act.put, List.setIfInBounds_toArray, List.set_cons_zero, List.set_cons_succ, i64_w, i32_w]; rfl
    refine done_ (by kernel_rfl) ?_; clear HO486 HO489 HO510
    try go_wp2_with (first | (refine goesM (some 63) rfl rfl Try.func19 #[.slice A1 l1.length c1] rfl ?_; (with_reducible refine (laws_toIntS.calls k _ _ l1 t512 _ ?side1 ?side2 A23.out).mono ?_); (case side1 => exact Kd.C_v ((Kd.C_below HR1.out HB.out))); (case side2 => exact HC1.out); rintro e w69 ⟨v513, rfl, ho0, hb⟩; refine ⟨_, rfl, ?_⟩; have HO514 := q_ (Kd.R_lower (Kd.R_new' (Kd.R_iv (lo := w68.heap.size) ho0 (Nat.le_refl _)) (Kd.R_lt (by exact Kd.R_v HO501.out))) (below_size (by exact bv HB.out))); have HZw69 := q_ ((hz_ hb : w68.heap.size ≤ w69.heap.size)); replace HO492 := q_ (Kd.V_elder' (by exact Kd.V_v HO492.out) (Kd.R_base ho0) hb); replace HO497 := q_ (Kd.S_elder' (by exact Kd.S_v HO497.out) (Kd.R_base ho0) hb); replace HO501 := q_ (Kd.R_elder' (by exact Kd.R_v HO501.out) (Kd.R_base ho0) hb); replace HO504 := q_ (Kd.S_elder' (by exact Kd.S_v HO504.out) (Kd.R_base ho0) hb); replace BK481 := q_ (bb BK481.out hb); replace BK498 := q_ (bb BK498.out hb); replace HB := q_ (below_step (by exact bv HB.out) hb); (try clear hb); (try clear hb2); (try clear hk); (try clear hi); (try clear ho0); obtain ⟨Ao70, co70, eo70⟩ := Kd.R_slice HO514.out; subst eo70) | (refine goesM (some 64) rfl rfl Try.func22 #[.slice Ao61 t499.length co61, .slice Ao70 t512.length co70] rfl ?_; (with_reducible refine (laws_eqIntS.calls k _ _ t499 _ _ t512 true _ ?side1 ?side2 ?side3 ?side4 A24.out).mono ?_); (case side1 => exact Kd.C_v ((Kd.R_reads' HO501.out).2.2)); (case side2 => exact (Kd.R_reads' HO501.out).2.1); (case side3 => exact Kd.C_v ((Kd.R_reads' HO514.out).2.2)); (case side4 => exact (Kd.R_reads' HO514.out).2.1); rintro e w' ⟨rfl, ⟨nd, rfl⟩⟩; refine ⟨_, rfl, ?_⟩; obtain ⟨hcz71_0, hcz71_1, hfz71_0, hfz71_1⟩ := cz2 BK498.out; clear HO514) | (refine goesM (some 68) rfl rfl Try.func25 #[.agg #[.int .i64 t494, .slice Ao58 t495.length co58], .int .i64 1] rfl ?_; (with_reducible refine (laws_markNet.calls k t494 (fun k_ => some k_ ≠ (.slice Ao61 t499.length co61 : Value).ownBlock ∧ k_ ≠ gb481 ∧ k_ ≠ gb498 ∧ (w52.heap.size ≤ k_ ∧ k_ < w54.heap.size)) (.slice Ao58 t495.length co58) t495 1 t516 w _ ?side1 ?side2 A26.out).mono ?_); (case side1 => exact bv HB.out); (case side2 => exact Kd.S_mono (Kd.S_types (Kd.S_types (Kd.S_v HO497.out) (by exact blk_v BK481.out) (by decide)) (by exact blk_v BK498.out) (by decide)) (fun k_ hk => ⟨hk.1.1.1.1.2.2.1, hk.1.2, hk.2, hk.1.1.1.1.2.2.2⟩)); rintro e w72 ⟨rfl, hb, hkp⟩; refine ⟨_, rfl, ?_⟩; have HZw72 := q_ ((hkp.1 : w69.heap.size ≤ w72.heap.size)); replace BK481 := q_ (blk_kept (by exact blk_v BK481.out) hkp (fun hs_ => (fun h_ => (h_.2.1) rfl) hs_)); replace HO492 := q_ (Kd.V_kept (by exact Kd.V_v HO492.out) hkp (fun k_ hk_ hs_ => (fun h_ => by have i1_ := hk_.1.1.2.2.2.2.2.2.2; have i2_ := h_.2.2.2; have z0_ := HZw44.out; have z1_ := HZw46.out; have z2_ := HZw48.out; have z3_ := HZw49.out; have z4_ := HZw52.out; have z5_ := HZw54.out; have z6_ := HZw55.out; have z7_ := HZw59.out; have z8_ := HZw62.out; have z9_ := HZw66.out; have z10_ := HZw68.out; have z11_ := HZw69.out; omega) hs_)); replace BK498 := q_ (blk_kept (by exact blk_v BK498.out) hkp (fun hs_ => (fun h_ => (h_.2.2.1) rfl) hs_)); replace HO501 := q_ (Kd.R_reok rfl (Kd.R_kept (Kd.R_tight rfl (HO501.out)) hkp (fun k_ hk_ hs_ => (fun h_ => (h_.1) hk_) hs_)) (fun k_ e_ => HO501.out.1 k_ e_)); replace HO504 := q_ (Kd.S_kept (by exact Kd.S_v HO504.out) hkp (fun k_ hk_ hs_ => (fun h_ => by have i1_ := hk_.1.2.2; have i2_ := h_.2.2.2; have z0_ := HZw44.out; have z1_ := HZw46.out; have z2_ := HZw48.out; have z3_ := HZw49.out; have z4_ := HZw52.out; have z5_ := HZw54.out; have z6_ := HZw55.out; have z7_ := HZw59.out; have z8_ := HZw62.out; have z9_ := HZw66.out; have z10_ := HZw68.out; have z11_ := HZw69.out; omega) hs_)); replace HB := q_ (hb); clear HO497; (try clear hb); (try clear hkp)) | (refine goesM (some 71) rfl rfl Try.func26 #[.slice Ao61 t499.length co61, .int .i64 t516] rfl ?_; (with_reducible refine (laws_markIntS.calls k (fun k_ => some k_ = (.slice Ao61 t499.length co61 : Value).ownBlock) (.slice Ao61 t499.length co61) t499 t516 t517 t518 w _ ?side1 ?side2 A27.out).mono ?_); (case side1 => exact bv HB.out); (case side2 => exact Kd.R_tight rfl HO501.out); rintro e w73 ⟨rfl, hy0, hb, hkp⟩; refine ⟨_, rfl, ?_⟩; have HZw73 := q_ ((hkp.1 : w72.heap.size ≤ w73.heap.size)); replace BK481 := q_ (blk_kept (by exact blk_v BK481.out) hkp (fun hs_ => (fun e_ => (Kd.R_ne HO501.out BK481.out (by decide)) e_) hs_)); replace HO492 := q_ (Kd.V_mono (ok' := fun k_ => some k_ ≠ (.slice Ao61 t499.length co61 : Value).ownBlock ∧ some k_ ≠ (.slice Ao63 t502.length co63 : Value).ownBlock ∧ k_ ≠ gb481 ∧ k_ ≠ gb498 ∧ (w49.heap.size ≤ k_ ∧ k_ < w52.heap.size)) (Kd.V_keptB (HO492.out) hkp (fun k_ hk_ hs_ => (hk_.1.1.2.2.2.1) hs_)) (fun k_ hk_ => ⟨hk_.1.1.1.2.2.2.1, hk_.1.1.1.2.2.2.2.1, hk_.1.1.1.2.2.2.2.2.1, hk_.1.1.1.2.2.2.2.2.2.1, hk_.1.1.1.2.2.2.2.2.2.2⟩)); replace BK498 := q_ (blk_kept (by exact blk_v BK498.out) hkp (fun hs_ => (fun e_ => (Kd.R_ne HO501.out BK498.out (by decide)) e_) hs_)); replace HO501 := q_ (Kd.R_reok rfl hy0 (fun k_ e_ => HO501.out.1 k_ e_)); replace HO504 := q_ (Kd.S_mono (ok' := fun k_ => some k_ ≠ (.slice Ao61 t499.length co61 : Value).ownBlock ∧ (w59.heap.size ≤ k_ ∧ k_ < w62.heap.size)) (Kd.S_keptB (HO504.out) hkp (fun k_ hk_ hs_ => (hk_.1.2.1) hs_)) (fun k_ hk_ => ⟨hk_.1.1.2.1, hk_.1.1.2.2⟩)); replace HB := q_ (hb); (try clear hb); (try clear hkp); (try clear hy0); clear HO501) | (go_at_call 13; (with_reducible refine (laws_eqIntSS.calls k _ _ t502 _ _ t490 true _ ?side1 ?side2 ?side3 ?side4 A29.out).mono ?_); (case side1 => exact Kd.C_v ((Kd.S_reads' HO504.out).2.2)); (case side2 => exact (Kd.S_reads' HO504.out).2.1); (case side3 => exact Kd.C_v ((Kd.V_reads' HO492.out).2.2)); (case side4 => exact (Kd.V_reads' HO492.out).2.1); rintro e w' ⟨rfl, ⟨nd, rfl⟩⟩) | (refine goesM (some 87) rfl rfl Try.func14 #[.slice Ao63 t502.length co63, .int .i64 1] rfl ?_; (with_reducible refine (laws_markIntSS.calls k (fun k_ => k_ ≠ gb481 ∧ k_ ≠ gb498 ∧ (w59.heap.size ≤ k_ ∧ k_ < w62.heap.size)) (.slice Ao63 t502.length co63) t502 1 t520 t521 w _ ?side1 ?side2 A31.out).mono ?_); (case side1 => exact bv HB.out); (case side2 => exact Kd.S_mono (Kd.S_types (Kd.S_types (Kd.S_v HO504.out) (by exact blk_v BK481.out) (by decide)) (by exact blk_v BK498.out) (by decide)) (fun k_ hk => ⟨hk.1.2, hk.2, hk.1.1.2⟩)); rintro e w74 ⟨rfl, hy0, hb, hkp⟩; refine ⟨_, rfl, ?_⟩; have HZw74 := q_ ((hkp.1 : w73.heap.size ≤ w74.heap.size)); replace BK481 := q_ (blk_kept (by exact blk_v BK481.out) hkp (fun hs_ => (fun h_ => (h_.1) rfl) hs_)); replace HO492 := q_ (Kd.V_kept (by exact Kd.V_v HO492.out) hkp (fun k_ hk_ hs_ => (fun h_ => by have i1_ := hk_.2.2.2.2; have i2_ := h_.2.2; have z0_ := HZw44.out; have z1_ := HZw46.out; have z2_ := HZw48.out; have z3_ := HZw49.out; have z4_ := HZw52.out; have z5_ := HZw54.out; have z6_ := HZw55.out; have z7_ := HZw59.out; have z8_ := HZw62.out; have z9_ := HZw66.out; have z10_ := HZw68.out; have z11_ := HZw69.out; have z12_ := HZw72.out; have z13_ := HZw73.out; omega) hs_)); replace BK498 := q_ (blk_kept (by exact blk_v BK498.out) hkp (fun hs_ => (fun h_ => (h_.2.1) rfl) hs_)); replace HO504 := q_ (hy0); replace HB := q_ (hb); (try clear hb); (try clear hkp); (try clear hy0)) | ((with_reducible refine gate_callee (f := 15) rfl ?_); refine goesL_ (some 90) rfl rfl Try.func15 (by kernel_rfl) rfl #[.slice Ao63 t521.length co63, .int .i64 1] rfl (by (try simp only [List.map_toArray, List.map_cons, List.map_nil]); first | done | (rw [show t521.length = t502.length from (Kd.S_reads' HO504.out).1.symm] <;> rfl) | rfl | (simp only [List.length_drop, List.length_take]; rfl)) ?_; (with_reducible refine (laws_heldIntSS.calls k _ _ t521 1 t522 _ ?side1 ?side2 A32.out).mono ?_); (case side1 => exact Kd.C_v ((Kd.S_reads' HO504.out).2.2)); (case side2 => rw [show t521.length = t502.length from (Kd.S_reads' HO504.out).1.symm]; exact (Kd.S_reads' HO504.out).2.1); rintro e w' ⟨rfl, ⟨nd, rfl⟩⟩; refine ⟨_, rfl, ?_⟩; obtain ⟨hcz75_0, hcz75_1, hfz75_0, hfz75_1⟩ := cz2 BK481.out) | (refine goesM (some 98) rfl rfl Try.func18 #[.agg #[.int .i64 a0_0, .slice A0_1 l0_1.length c0_1]] rfl ?_; (with_reducible refine (laws_toNet.calls k a0_0 _ _ l0_1 t523 t524 _ ?side1 ?side2 A35.out).mono ?_); (case side1 => exact (Kd.C_below HR0_1.out (by exact bv HB.out))); (case side2 => exact HC0_1.out); rintro e w76 ⟨v525, rfl, ho0, hb⟩; refine ⟨_, rfl, ?_⟩; have HO526 := q_ (Kd.S_lower (Kd.S_iv (lo := w74.heap.size) ho0 (Nat.le_refl _)) (below_size (by exact bv HB.out))); have HZw76 := q_ ((hz_ hb : w74.heap.size ≤ w76.heap.size)); replace HO492 := q_ (Kd.V_elder' (by exact Kd.V_v HO492.out) (Kd.S_base ho0) hb); replace HO504 := q_ (Kd.S_below (by exact Kd.S_v HO504.out) hb); replace BK481 := q_ (bb BK481.out hb); replace BK498 := q_ (bb BK498.out hb); replace HB := q_ (below_step (by exact bv HB.out) hb); (try clear hb); (try clear hb2); (try clear hk); (try clear hi); (try clear ho0)) | (refine goesM (some 100) rfl rfl Try.func19 #[.slice A1 l1.length c1] rfl ?_; (with_reducible refine (laws_toIntS.calls k _ _ l1 t527 _ ?side1 ?side2 A36.out).mono ?_); (case side1 => exact Kd.C_v ((Kd.C_below HR1.out HB.out))); (case side2 => exact HC1.out); rintro e w77 ⟨v528, rfl, ho0, hb⟩; refine ⟨_, rfl, ?_⟩; have HO529 := q_ (Kd.R_lower (Kd.R_iv (lo := w76.heap.size) ho0 (Nat.le_refl _)) (below_size (by exact bv HB.out))); have HZw77 := q_ ((hz_ hb : w76.heap.size ≤ w77.heap.size)); replace HO492 := q_ (Kd.V_elder' (by exact Kd.V_v HO492.out) (Kd.R_base ho0) hb); replace HO504 := q_ (Kd.S_elder' (by exact Kd.S_v HO504.out) (Kd.R_base ho0) hb); replace HO526 := q_ (Kd.S_elder' (by exact Kd.S_v HO526.out) (Kd.R_base ho0) hb); replace BK481 := q_ (bb BK481.out hb); replace BK498 := q_ (bb BK498.out hb); replace HB := q_ (below_step (by exact bv HB.out) hb); (try clear hb); (try clear hb2); (try clear hk); (try clear hi); (try clear ho0); obtain ⟨Ao78, co78, eo78⟩ := Kd.S_slice HO526.out; subst eo78; obtain ⟨Ao79, co79, eo79⟩ := Kd.R_slice HO529.out; subst eo79) | (refine goesM (some 102) rfl rfl Try.func24 #[.agg #[.int .i64 t523, .slice Ao78 t524.length co78], .slice Ao79 t527.length co79, .int .i64 a2] rfl ?_; (with_reducible refine (impl_BackBasis.calls k t523 _ _ t524 _ _ t527 a2 t530 t533 _ ?side1 ?side2 ?side3 ?side4 A37.out).mono ?_); (case side1 => exact Kd.C_v ((Kd.S_reads' HO526.out).2.2)); (case side2 => exact (Kd.S_reads' HO526.out).2.1); (case side3 => exact Kd.C_v ((Kd.R_reads' HO529.out).2.2)); (case side4 => exact (Kd.R_reads' HO529.out).2.1); rintro e w80 ⟨v531, rfl, ho0, hb⟩; refine ⟨_, rfl, ?_⟩; have HO532 := q_ (Kd.S_lower (Kd.S_new' (Kd.S_new' (Kd.S_iv (lo := w77.heap.size) ho0 (Nat.le_refl _)) (Kd.S_lt (by exact Kd.S_v HO504.out))) (Kd.R_lt (by exact Kd.R_v HO529.out))) (below_size (by exact bv HB.out))); have HZw80 := q_ ((hz_ hb : w77.heap.size ≤ w80.heap.size)); replace HO492 := q_ (Kd.V_elder' (by exact Kd.V_v HO492.out) (Kd.S_base ho0) hb); replace HO504 := q_ (Kd.S_elder' (by exact Kd.S_v HO504.out) (Kd.S_base ho0) hb); replace HO526 := q_ (Kd.S_below (by exact Kd.S_v HO526.out) hb); replace HO529 := q_ (Kd.R_below (by exact Kd.R_v HO529.out) hb); replace BK481 := q_ (bb BK481.out hb); replace BK498 := q_ (bb BK498.out hb); replace HB := q_ (below_step (by exact bv HB.out) hb); (try clear hb); (try clear hb2); (try clear hk); (try clear hi); (try clear ho0); clear HO526 HO529; obtain ⟨Ao81, co81, eo81⟩ := Kd.S_slice HO532.out; subst eo81) | (refine goesM (some 107) rfl rfl Try.func13 #[.slice Ao81 t530.length co81, .slice Ao64 t490.length co64] rfl ?_; (with_reducible refine (laws_eqIntSS.calls k _ _ t530 _ _ t490 true _ ?side1 ?side2 ?side3 ?side4 A38.out).mono ?_); (case side1 => exact Kd.C_v ((Kd.S_reads' HO532.out).2.2)); (case side2 => exact (Kd.S_reads' HO532.out).2.1); (case side3 => exact Kd.C_v ((Kd.V_reads' HO492.out).2.2)); (case side4 => exact (Kd.V_reads' HO492.out).2.1); rintro e w' ⟨rfl, ⟨nd, rfl⟩⟩; refine ⟨_, rfl, ?_⟩; clear HO492 HO532) | ((with_reducible refine gate_callee (f := 15) rfl ?_); refine goesL_ (some 116) rfl rfl Try.func15 (by kernel_rfl) rfl #[.slice Ao63 t521.length co63, .int .i64 1] rfl (by (try simp only [List.map_toArray, List.map_cons, List.map_nil]); first | done | (rw [show t521.length = t502.length from (Kd.S_reads' HO504.out).1.symm] <;> rfl) | rfl | (simp only [List.length_drop, List.length_take]; rfl)) ?_; (with_reducible refine (laws_heldIntSS.calls k _ _ t521 1 t535 _ ?side1 ?side2 A41.out).mono ?_); (case side1 => exact Kd.C_v ((Kd.S_reads' HO504.out).2.2)); (case side2 => rw [show t521.length = t502.length from (Kd.S_reads' HO504.out).1.symm]; exact (Kd.S_reads' HO504.out).2.1); rintro e w' ⟨rfl, ⟨nd, rfl⟩⟩; refine ⟨_, rfl, ?_⟩))
    go_ret; exact fin_ (by exact bv HB.out)

/-- THE ONE PURE STATEMENT of laws_FnExactBackBasis: yours. -/
def laws_FnExactBackBasis.Pure : Prop := ∀ (a0_0 : Int) (l0_1 : List (S104)) (l1 : List Int) (a2 : Int), ((Lit.int .i64 a0_0).wf = true ∧ (l0_1.length ≤ maxLen ∧ ∀ e12_ ∈ l0_1, ((e12_.f0.length ≤ maxLen ∧ ∀ e13_ ∈ e12_.f0, (Lit.int .i64 e13_).wf = true) ∧ (e12_.f1.length ≤ maxLen ∧ ∀ e14_ ∈ e12_.f1, (Lit.int .i64 e14_).wf = true) ∧ (e12_.f2.length ≤ maxLen ∧ ∀ e15_ ∈ e12_.f2, (Lit.int .i64 e15_).wf = true)))) → ((l1.length ≤ maxLen ∧ ∀ e16_ ∈ l1, (Lit.int .i64 e16_).wf = true)) → ((Lit.int .i64 a2).wf = true) → ∃ k, laws_FnExactBackBasis.f k a0_0 l0_1 l1 a2 = some true
theorem laws_FnExactBackBasis.walk (P : laws_FnExactBackBasis.Pure) (a0_0 : Int) (A0_1 : Option Addr) (c0_1 : Nat) (l0_1 : List (S104)) (A1 : Option Addr) (c1 : Nat) (l1 : List Int) (a2 : Int) (w : World) (hr0_1 : Kd.C k104 w A0_1 l0_1.length l0_1) (hc0_1 : l0_1.length ≤ c0_1) (hr1 : Kd.C (Kd.int .i64) w A1 l1.length l1) (hc1 : l1.length ≤ c1) (g0_ : (Lit.int .i64 a0_0).wf = true ∧ (l0_1.length ≤ maxLen ∧ ∀ e12_ ∈ l0_1, ((e12_.f0.length ≤ maxLen ∧ ∀ e13_ ∈ e12_.f0, (Lit.int .i64 e13_).wf = true) ∧ (e12_.f1.length ≤ maxLen ∧ ∀ e14_ ∈ e12_.f1, (Lit.int .i64 e14_).wf = true) ∧ (e12_.f2.length ≤ maxLen ∧ ∀ e15_ ∈ e12_.f2, (Lit.int .i64 e15_).wf = true)))) (g1_ : (l1.length ≤ maxLen ∧ ∀ e16_ ∈ l1, (Lit.int .i64 e16_).wf = true)) (g2_ : (Lit.int .i64 a2).wf = true) :
   Calls Try.prog 5 #[.agg #[.int .i64 a0_0, .slice A0_1 l0_1.length c0_1], .slice A1 l1.length c1, .int .i64 a2] w fun e w' => e = .returned (.bool true) ∧ Below w.heap.size w w' := by
  obtain ⟨k, h⟩ := P a0_0 l0_1 l1 a2 g0_ g1_ g2_; refine (laws_FnExactBackBasis.calls k a0_0 _ _ l0_1 _ _ l1 a2 true w hr0_1 hc0_1 hr1 hc1 h).mono ?_; rintro e w' ⟨rfl, hd⟩; exact ⟨rfl, hd⟩

end Go.Proofs.Ytiglhdibibbkjaa.F
