-- Written by a program of this session (fork.py, fprint.sh). Lean checks it.
import Derived.Test.YtbkjgnfnjgebiaaDoorF0
import Derived.Test.YtbkjgnfnjgebiaaDoorF1
namespace Go.Proofs.YtbkjgnfnjgebiaaDoor.F
open Go.RowKit Go.Proofs.YtbkjgnfnjgebiaaDoorW.PrintWords Go.Proofs.YtbkjgnfnjgebiaaDoorW.PrintLast Go.Proofs.YtbkjgnfnjgebiaaDoorW.PrintMore
attribute [local go_sem] max2_int min2_int max_two min_two max_three min_three max_four min_four   -- for this text's walks alone
set_option linter.unusedVariables false
set_option linter.unusedSimpArgs false

/-! ### spec_l1Num: function 24 -/
def spec_l1Num.f : Nat → Int → Option (ByteArray)
  | 0, _ => none
  | k + 1, a0 => if a0 < 10 then (some (strOfNums (([(wrap64 (48 + a0)) % 256] : List Int)))) else ((spec_l1Num.f k (wrap64 (Int.tdiv a0 10))).bind fun t109 => ((some (([(wrap64 (48 + (Int.tmod a0 10))) % 256] : List Int) : List Int)).bind fun y110 => (if t109.size + (strOfNums y110).size ≤ 9223372036854775807 then (some (t109 ++ (strOfNums y110))) else (none))))
def spec_l1Num.T3 : Bool × List (List Nat × List Nat) := (true, [([], []), ([0], [0]), ([1], [1]), ([], []), ([3], [3]), ([4], [4]), ([5], [5]), ([6], [6]), ([7], [7]), ([2, 8], [2, 8]), ([9, 2, 0, 1, 2, 3, 4, 5, 6, 7, 8, 9], [9])])
def spec_l1Num.B3 : List Nat := [0, 1, 3, 0, 8, 24, 56, 120, 248, 511, 1023]
theorem spec_l1Num.tab3 : rtab .any (opsOf Tryd.f24 3) = spec_l1Num.T3 := by kernel_rfl
theorem spec_l1Num.bits3 : waitsOk spec_l1Num.T3.2 spec_l1Num.B3 = true := by kernel_rfl
set_option maxHeartbeats 8000000 in
set_option maxRecDepth 100000 in
theorem spec_l1Num.calls (k : Nat) : ∀ (a0 : Int) (r : ByteArray) (w : World) (h : spec_l1Num.f k a0 = some r),
    Calls Tryd.prog 24 #[.int .i64 a0] w fun e w' => e = .returned (.string r) ∧ Below w.heap.size w w' := by
  induction k using Nat.strongRecOn with
  | _ k ih =>
  intro a0 r w h
  cases k with
  | zero => exact absurd h (by simp [spec_l1Num.f])
  | succ k =>
  simp only [spec_l1Num.f] at h
  have HB := q_ (Below.refl w.heap.size w); have H : (if a0 < 10 then (some (strOfNums (([(wrap64 (48 + a0)) % 256] : List Int)))) else ((spec_l1Num.f k (wrap64 (Int.tdiv a0 10))).bind fun t109 => ((some (([(wrap64 (48 + (Int.tmod a0 10))) % 256] : List Int) : List Int)).bind fun y110 => (if t109.size + (strOfNums y110).size ≤ 9223372036854775807 then (some (t109 ++ (strOfNums y110))) else (none))))) = some r := h; clear h
  by_cases c2 : a0 < 10
  ·rw [if_pos c2] at H; have c2b0 : decide (a0 < 10) = true := decide_eq_true c2; clear c2; obtain ⟨y106, hy106⟩ : ∃ y_ : List Int, y_ = (([(wrap64 (48 + a0)) % 256] : List Int)) := ⟨_, rfl⟩; (replace H : (some (strOfNums y106)) = some r := by first | (rw [hy106]; with_reducible exact H) | (have H2_ := (Option.bind_some _ _).symm.trans H; rw [hy106]; with_reducible exact H2_) | (have H2_ := (Option.bind_some _ _).symm.trans H; with_reducible exact H2_) | with_reducible exact H | (rw [hy106]; exact H) | exact H); have Ny106 := q_ hy106; clear hy106; obtain rfl := Option.some.inj H; go_enter Tryd.func24, Tryd.ntmps24; go_wp2_with (first | ((with_reducible refine gate_dst (N := 8) rfl ?_); refine Kd.R_lit (Kd.int .u8) _ 5 ?hg (N := 8) ?hd (xs := ([(wrap64 (48 + a0)) % 256] : List Int)) (inner := [.int .u8 ((wrap64 (48 + a0)) % 256)]) (ok := fun _ => True) (okp := fun _ => True) ?hr ?hp (fun _ hk => hk) trivial (Below.refl _ _) (Nat.le_refl _) (by simp) ?_; (case hd => rfl); (case hg => rfl); (case hr => first | (go_simp; done) | (go_simp; rfl)); (case hp => exact (Reps.one (show Kd.M (Kd.int .u8) _ _ _ ((wrap64 (48 + a0)) % 256) [.int .u8 ((wrap64 (48 + a0)) % 256)] from rfl) (Reps.none _ _))); intro v107 w3 ho4 hb hg_ hnew_; clear hg_ hnew_; (first | rw [← Ny106.out] at ho4 | (simp only [Int.reduceToNat] at ho4; rw [← Ny106.out] at ho4)); have HO108 := q_ (Kd.R_lower ho4 (below_size (by exact bv HB.out))); replace HB := q_ (below_step (by exact bv HB.out) hb); clear hb ho4; have hcv5 := own_string (P := Tryd.prog) Tryd.underlying51 Tryd.underlying5 Tryd.underlying9 (Kd.own_of_R HO108.out))); go_ret; exact fin_ (by exact bv HB.out)
  ·rw [if_neg c2] at H; have c2b0 : decide (a0 < 10) = false := decide_eq_false c2; clear c2; obtain ⟨t109, A6, H⟩ := bnd_ H; obtain ⟨y110, hy110⟩ : ∃ y_ : List Int, y_ = (([(wrap64 (48 + (Int.tmod a0 10))) % 256] : List Int)) := ⟨_, rfl⟩; (replace H : (if t109.size + (strOfNums y110).size ≤ 9223372036854775807 then (some (t109 ++ (strOfNums y110))) else (none)) = some r := by first | (rw [hy110]; with_reducible exact H) | (have H2_ := (Option.bind_some _ _).symm.trans H; rw [hy110]; with_reducible exact H2_) | (have H2_ := (Option.bind_some _ _).symm.trans H; with_reducible exact H2_) | with_reducible exact H | (rw [hy110]; exact H) | exact H); have Ny110 := q_ hy110; clear hy110
   obtain ⟨c7, H⟩ := ifp_ H; have c7b0 := eq_true c7; have c7b1 : decide (t109.size + (strOfNums y110).size ≤ 9223372036854775807) = true := decide_eq_true c7
   try have c7b2 : (9223372036854775807 < t109.size + (strOfNums y110).size) = False := eq_false (Nat.not_lt.2 c7)
   obtain rfl := Option.some.inj H; go_enter Tryd.func24, Tryd.ntmps24
   try go_wp2
   replace HB := q_ (below_drew1 HB.out); refine start_ (n := 11) (S := fun w' => True) (ds := []) #[false, false, false, false, false, false, false, false, false, false, false] (by kernel_rfl) rfl rfl trivial (fun hHeld => ?_); refine with_tabW spec_l1Num.tab3 spec_l1Num.bits3 (fun HT_ HW_ => ?_); generalize w.drew = w8 at HB hHeld ⊢; refine pureA (i := 0) (N := some 10) #[true, false, false, false, false, false, false, false, false, false, false] rfl rfl (any_of HT_.out (by kernel_rfl)) ?_
   refine pureA (i := 1) (N := some 11) #[true, true, false, false, false, false, false, false, false, false, false] rfl rfl (any_of HT_.out (by kernel_rfl)) ?_
   refine pureA (i := 3) (N := some 13) #[true, true, false, true, false, false, false, false, false, false, false] rfl rfl (any_of HT_.out (by kernel_rfl)) ?_
   refine pureA (i := 4) (N := some 14) #[true, true, false, true, true, false, false, false, false, false, false] rfl rfl (any_of HT_.out (by kernel_rfl)) ?_
   refine pureA (i := 5) (N := some 15) #[true, true, false, true, true, true, false, false, false, false, false] rfl rfl (any_of HT_.out (by kernel_rfl)) ?_
   refine pureA (i := 6) (N := some 16) #[true, true, false, true, true, true, true, false, false, false, false] rfl rfl (any_of HT_.out (by kernel_rfl)) ?_
   refine join_ (σ := Value) 2 #[true, true, true, true, true, true, true, true, true, false, false] (fun s_ => [(12, .string t109), (17, s_), (18, .string (strOfNums y110))]) (fun s_ w' => (Kd.R (Kd.int .u8) 5 w' w.heap.size (fun _ => True) s_ y110) ∧ (Below w.heap.size w w')) ?_ ?_; rotate_left
   ·intro hCont; refine two_ (i := 2) (j := 7) (Ni := some 12) (Nj := some 17) #[true, true, true, true, true, true, true, false, false, false, false] #[true, true, false, true, true, true, true, true, false, false, false] rfl rfl rfl rfl (two_of HT_.out (by kernel_rfl)) (by decide) (by decide) (fun K hK => ?_) (fun K hK => ?_)
    ·skip
     refine goesN Tryd.func24 #[.int .i64 (wrap64 (Int.tdiv a0 10))] (by rfl) rfl rfl ?_; (with_reducible refine (ih k (by omega) (wrap64 (Int.tdiv a0 10)) t109 _ A6.out).mono ?_); rintro e w9 ⟨rfl, hb⟩; refine ⟨_, rfl, ?_⟩; replace HB := q_ (below_step (by exact bv HB.out) hb); (try clear hb); (try clear hb2); (try clear hk); (try clear hi); refine hK.out _ _ trivial (fun hHeld => ?_); clear hK K; refine norm_ (a' := ?_) ?_ ?_; rotate_left
     ·show Act.put _ (some 12) _ = _
      simp only [Act.put, List.setIfInBounds_toArray, List.set_cons_zero, List.set_cons_succ, i64_w, i32_w]; rfl
     refine one_ (i := 7) (N := some 17) #[true, true, true, true, true, true, true, true, false, false, false] rfl rfl (one_of HT_.out (by kernel_rfl)) (by decide) (fun K hK => ?_); refine Kd.R_lit_step (Kd.int .u8) _ 5 ?hg (N := 17) ?hd (xs := ([(wrap64 (48 + (Int.tmod a0 10))) % 256] : List Int)) (inner := [.int .u8 ((wrap64 (48 + (Int.tmod a0 10))) % 256)]) (ok := fun _ => True) (okp := fun _ => True) ?hr ?hp (fun _ hk => hk) trivial (Below.refl _ _) (Nat.le_refl _) (by simp) ?_; (case hd => rfl); (case hg => rfl); (case hr => first | (go_simp; done) | (go_simp; rfl)); (case hp => exact (Reps.one (show Kd.M (Kd.int .u8) _ _ _ ((wrap64 (48 + (Int.tmod a0 10))) % 256) [.int .u8 ((wrap64 (48 + (Int.tmod a0 10))) % 256)] from rfl) (Reps.none _ _))); intro v111 w10 ho11 hb hg_ hnew_; clear hg_ hnew_; (first | rw [← Ny110.out] at ho11 | (simp only [Int.reduceToNat] at ho11; rw [← Ny110.out] at ho11)); have HO112 := q_ (Kd.R_lower ho11 (below_size (by exact bv HB.out))); replace HB := q_ (below_step (by exact bv HB.out) hb); clear hb ho11; refine hK.out _ _ trivial (fun hHeld => ?_); clear hK K; refine norm_ (a' := ?_) ?_ ?_; rotate_left
     ·show Act.put _ (some 17) _ = _
      simp only [Act.put, List.setIfInBounds_toArray, List.set_cons_zero, List.set_cons_succ, i64_w, i32_w]; rfl
     refine one_ (i := 8) (N := some 18) #[true, true, true, true, true, true, true, true, true, false, false] rfl rfl (one_of HT_.out (by kernel_rfl)) (by decide) (fun K hK => ?_); have hcv12 := own_string (P := Tryd.prog) Tryd.underlying51 Tryd.underlying5 Tryd.underlying9 (Kd.own_of_R HO112.out); refine value_ (w1 := ?_) (v := ?_) (by rfl) rfl ?_ ?_; rotate_left 2
     ·go_simp
      constructor
      ·rfl
      ·rfl
     clear hcv12; refine hK.out _ _ trivial (fun hHeld => ?_); clear hK K; refine norm_ (a' := ?_) ?_ ?_; rotate_left
     ·show Act.put _ (some 18) _ = _
      simp only [Act.put, List.setIfInBounds_toArray, List.set_cons_zero, List.set_cons_succ, i64_w, i32_w]; rfl
     exact norm_ (by simp only [putAll, Act.put, List.setIfInBounds_toArray, List.set_cons_zero, List.set_cons_succ]) (hCont (v111) _ ⟨(by exact Kd.R_v HO112.out), (by exact bv HB.out)⟩)
    ·skip
     refine Kd.R_lit_step (Kd.int .u8) _ 5 ?hg (N := 17) ?hd (xs := ([(wrap64 (48 + (Int.tmod a0 10))) % 256] : List Int)) (inner := [.int .u8 ((wrap64 (48 + (Int.tmod a0 10))) % 256)]) (ok := fun _ => True) (okp := fun _ => True) ?hr ?hp (fun _ hk => hk) trivial (Below.refl _ _) (Nat.le_refl _) (by simp) ?_; (case hd => rfl); (case hg => rfl); (case hr => first | (go_simp; done) | (go_simp; rfl)); (case hp => exact (Reps.one (show Kd.M (Kd.int .u8) _ _ _ ((wrap64 (48 + (Int.tmod a0 10))) % 256) [.int .u8 ((wrap64 (48 + (Int.tmod a0 10))) % 256)] from rfl) (Reps.none _ _))); intro v111 w9 ho10 hb hg_ hnew_; clear hg_ hnew_; (first | rw [← Ny110.out] at ho10 | (simp only [Int.reduceToNat] at ho10; rw [← Ny110.out] at ho10)); have HO112 := q_ (Kd.R_lower ho10 (below_size (by exact bv HB.out))); replace HB := q_ (below_step (by exact bv HB.out) hb); clear hb ho10; refine hK.out _ _ trivial (fun hHeld => ?_); clear hK K; refine norm_ (a' := ?_) ?_ ?_; rotate_left
     ·show Act.put _ (some 17) _ = _
      simp only [Act.put, List.setIfInBounds_toArray, List.set_cons_zero, List.set_cons_succ, i64_w, i32_w]; rfl
     refine two_ (i := 2) (j := 8) (Ni := some 12) (Nj := some 18) #[true, true, true, true, true, true, true, true, false, false, false] #[true, true, false, true, true, true, true, true, true, false, false] rfl rfl rfl rfl (two_of HT_.out (by kernel_rfl)) (by decide) (by decide) (fun K hK => ?_) (fun K hK => ?_)
     ·skip
      refine goesN Tryd.func24 #[.int .i64 (wrap64 (Int.tdiv a0 10))] (by rfl) rfl rfl ?_; (with_reducible refine (ih k (by omega) (wrap64 (Int.tdiv a0 10)) t109 _ A6.out).mono ?_); rintro e w11 ⟨rfl, hb⟩; refine ⟨_, rfl, ?_⟩; replace HO112 := q_ (Kd.R_below (by exact Kd.R_v HO112.out) hb); replace HB := q_ (below_step (by exact bv HB.out) hb); (try clear hb); (try clear hb2); (try clear hk); (try clear hi); refine hK.out _ _ trivial (fun hHeld => ?_); clear hK K; refine norm_ (a' := ?_) ?_ ?_; rotate_left
      ·show Act.put _ (some 12) _ = _
       simp only [Act.put, List.setIfInBounds_toArray, List.set_cons_zero, List.set_cons_succ, i64_w, i32_w]; rfl
      refine one_ (i := 8) (N := some 18) #[true, true, true, true, true, true, true, true, true, false, false] rfl rfl (one_of HT_.out (by kernel_rfl)) (by decide) (fun K hK => ?_); have hcv12 := own_string (P := Tryd.prog) Tryd.underlying51 Tryd.underlying5 Tryd.underlying9 (Kd.own_of_R HO112.out); refine value_ (w1 := ?_) (v := ?_) (by rfl) rfl ?_ ?_; rotate_left 2
      ·go_simp
       constructor
       ·rfl
       ·rfl
      clear hcv12; refine hK.out _ _ trivial (fun hHeld => ?_); clear hK K; refine norm_ (a' := ?_) ?_ ?_; rotate_left
      ·show Act.put _ (some 18) _ = _
       simp only [Act.put, List.setIfInBounds_toArray, List.set_cons_zero, List.set_cons_succ, i64_w, i32_w]; rfl
      exact norm_ (by simp only [putAll, Act.put, List.setIfInBounds_toArray, List.set_cons_zero, List.set_cons_succ]) (hCont (v111) _ ⟨(by exact Kd.R_v HO112.out), (by exact bv HB.out)⟩)
     ·skip
      have hcv11 := own_string (P := Tryd.prog) Tryd.underlying51 Tryd.underlying5 Tryd.underlying9 (Kd.own_of_R HO112.out); refine value_ (w1 := ?_) (v := ?_) (by rfl) rfl ?_ ?_; rotate_left 2
      ·go_simp
       constructor
       ·rfl
       ·rfl
      clear hcv11; refine hK.out _ _ trivial (fun hHeld => ?_); clear hK K; refine norm_ (a' := ?_) ?_ ?_; rotate_left
      ·show Act.put _ (some 18) _ = _
       simp only [Act.put, List.setIfInBounds_toArray, List.set_cons_zero, List.set_cons_succ, i64_w, i32_w]; rfl
      refine one_ (i := 2) (N := some 12) #[true, true, true, true, true, true, true, true, true, false, false] rfl rfl (one_of HT_.out (by kernel_rfl)) (by decide) (fun K hK => ?_); refine goesN Tryd.func24 #[.int .i64 (wrap64 (Int.tdiv a0 10))] (by rfl) rfl rfl ?_; (with_reducible refine (ih k (by omega) (wrap64 (Int.tdiv a0 10)) t109 _ A6.out).mono ?_); rintro e w12 ⟨rfl, hb⟩; refine ⟨_, rfl, ?_⟩; replace HO112 := q_ (Kd.R_below (by exact Kd.R_v HO112.out) hb); replace HB := q_ (below_step (by exact bv HB.out) hb); (try clear hb); (try clear hb2); (try clear hk); (try clear hi); refine hK.out _ _ trivial (fun hHeld => ?_); clear hK K; refine norm_ (a' := ?_) ?_ ?_; rotate_left
      ·show Act.put _ (some 12) _ = _
       simp only [Act.put, List.setIfInBounds_toArray, List.set_cons_zero, List.set_cons_succ, i64_w, i32_w]; rfl
      exact norm_ (by simp only [putAll, Act.put, List.setIfInBounds_toArray, List.set_cons_zero, List.set_cons_succ]) (hCont (v111) _ ⟨(by exact Kd.R_v HO112.out), (by exact bv HB.out)⟩)
   rintro v111 w13 ⟨h0_, h1_⟩; have n0_ : Aside0 (Kd.R (Kd.int .u8) 5 w13 w.heap.size (fun _ => True) v111 y110) := ⟨h0_⟩; have n1_ : Aside0 (Below w.heap.size w w13) := ⟨h1_⟩; clear HB; clear h0_ h1_; have HO112 := n0_; have HB := n1_; clear n0_ n1_; have hHeld := trivial; refine norm_ (a' := ?_) ?_ ?_; rotate_left
   ·simp only [putAll, Act.put, List.setIfInBounds_toArray, List.set_cons_zero, List.set_cons_succ]; rfl
   refine pureA (i := 9) (N := some 19) #[true, true, true, true, true, true, true, true, true, true, false] rfl rfl (any_of HT_.out (by kernel_rfl)) ?_
   refine pureA (i := 10) (N := some 2) #[true, true, true, true, true, true, true, true, true, true, true] rfl rfl (any_of HT_.out (by kernel_rfl)) ?_
   refine done_ (done_of HT_.out (by kernel_rfl)) ?_
   try go_wp2
   go_ret; exact fin_ (by exact bv HB.out)

/-! ### spec_l1Text: function 14 -/
def spec_l1Text.l0 : Nat → ByteArray → List Int → Int → Int → Option (ByteArray)
  | 0, _, _, _, _ => none
  | k + 1, x3, x6, x7, x8 => if x8 < x7 then (if 0 ≤ x8 then (if x8 < (x6.length : Int) then (if x8 > 0 then (if x3.size + 1 ≤ 9223372036854775807 then ((spec_l1Num.f k (rd x6 x8)).bind fun t114 => (if (x3 ++ (⟨#[32]⟩ : ByteArray)).size + t114.size ≤ 9223372036854775807 then (spec_l1Text.l0 k ((x3 ++ (⟨#[32]⟩ : ByteArray)) ++ t114) x6 x7 (wrap64 (x8 + 1))) else (none))) else (none)) else ((spec_l1Num.f k (rd x6 x8)).bind fun t115 => (if x3.size + t115.size ≤ 9223372036854775807 then (spec_l1Text.l0 k (x3 ++ t115) x6 x7 (wrap64 (x8 + 1))) else (none)))) else (none)) else (none)) else (some x3)
def spec_l1Text.f (k : Nat) (l0 : List Int) : Option (ByteArray) := spec_l1Text.l0 k (⟨#[]⟩ : ByteArray) l0 (l0.length : Int) 0
set_option maxHeartbeats 8000000 in
set_option maxRecDepth 100000 in
theorem spec_l1Text.calls (k : Nat) (A0 : Option Addr) (c0 : Nat) (l0 : List Int) (r : ByteArray) (w : World) (hr0 : Kd.C (Kd.int .i64) w A0 l0.length l0) (hc0 : l0.length ≤ c0) (h : spec_l1Text.f k l0 = some r) :
    Calls Tryd.prog 14 #[.slice A0 l0.length c0] w fun e w' => e = .returned (.string r) ∧ Below w.heap.size w w' := by
  have HR0 := q_ hr0; have HC0 := q_ hc0; clear hr0 hc0; have HB := q_ (Below.refl w.heap.size w); have H : (spec_l1Text.l0 k (⟨#[]⟩ : ByteArray) l0 (l0.length : Int) 0) = some r := h; clear h; have H' := q_ H; clear H; go_enter Tryd.func14, Tryd.ntmps14; go_wp2; go_loopg [3, 8] k (fun kq v3 v8 w' => ∃ (x3_1 : ByteArray) (x8_1 : Int), v3 = .string x3_1 ∧ v8 = .int .i64 x8_1 ∧ Aside0 (spec_l1Text.l0 kq x3_1 l0 (l0.length : Int) x8_1 = some r) ∧ Aside0 (kq ≤ k) ∧ Aside0 (Below w.heap.size w w'))
  case atStart => exact ⟨((⟨#[]⟩ : ByteArray)), (0), eqv, eqv, H', ⟨Nat.le_refl _⟩, ⟨by exact bv HB.out⟩⟩
  case round =>
   clear H'; obtain ⟨x3_1, x8_1, rfl, rfl, HA, HK1, HB⟩ := hrel
   cases gk with
   | zero => exact absurd HA.out (by simp [spec_l1Text.l0])
   | succ k1 =>
    have H := HA.out; clear HA; simp only [spec_l1Text.l0] at H
    by_cases c2 : x8_1 < (l0.length : Int)
    ·rw [if_pos c2] at H; have c2b0 : decide (x8_1 < (l0.length : Int)) = true := decide_eq_true c2; clear c2
     obtain ⟨c3, H⟩ := ifp_ H; have c3b0 : decide (0 ≤ x8_1) = true := decide_eq_true c3; clear c3
     obtain ⟨c4, H⟩ := ifp_ H; have c4b0 : decide (x8_1 < (l0.length : Int)) = true := decide_eq_true c4; clear c4
     by_cases c5 : x8_1 > 0
     ·rw [if_pos c5] at H; have c5b0 : decide (0 < x8_1) = true := decide_eq_true c5; clear c5
      obtain ⟨c6, H⟩ := ifp_ H; have c6b0 := eq_true c6; have c6b1 : decide (x3_1.size + 1 ≤ 9223372036854775807) = true := decide_eq_true c6
      try have c6b2 : (9223372036854775807 < x3_1.size + 1) = False := eq_false (Nat.not_lt.2 c6)
      obtain ⟨t114, A7, H⟩ := bnd_ H
      obtain ⟨c8, H⟩ := ifp_ H; have c8b0 := eq_true c8; have c8b1 : decide ((x3_1 ++ (⟨#[32]⟩ : ByteArray)).size + t114.size ≤ 9223372036854775807) = true := decide_eq_true c8
      try have c8b2 : (9223372036854775807 < (x3_1 ++ (⟨#[32]⟩ : ByteArray)).size + t114.size) = False := eq_false (Nat.not_lt.2 c8)
      have c8b3 : (9223372036854775807 < x3_1.size + 1 + t114.size) = False := eq_false (by have e_ : (x3_1 ++ (⟨#[32]⟩ : ByteArray)).size = x3_1.size + 1 := (by simp; rfl); omega)
      have H' := q_ H; clear H; have p113 : 0 ≤ (x8_1 : Int) := od; have q113 : x8_1 < (l0.length : Int) := od; obtain ⟨ad113, e113, hx113_0⟩ := Kd.at_int HR0.out x8_1 p113 q113
      cases e113
      replace hx113_0 := cb_ HB.out hx113_0; replace p113 := eq_true p113; replace q113 := eq_true q113; go_wp2_with (first | (refine goesM (some 19) rfl rfl Tryd.func24 #[.int .i64 (rd l0 x8_1)] rfl ?_; (with_reducible refine (spec_l1Num.calls k1 (rd l0 x8_1) t114 _ A7.out).mono ?_); rintro e w9 ⟨rfl, hb⟩; refine ⟨_, rfl, ?_⟩; replace HB := q_ (below_step (by exact bv HB.out) hb); (try clear hb); (try clear hb2); (try clear hk); (try clear hi))); go_roundg k1
      case measure => have := HK1.out; omega
      case rel => exact ⟨((x3_1 ++ (⟨#[32]⟩ : ByteArray)) ++ t114), (wrap64 (x8_1 + 1)), eqv, eqv, H', ⟨by have := HK1.out; omega⟩, ⟨by exact bv HB.out⟩⟩
     ·rw [if_neg c5] at H; have c5b0 : decide (0 < x8_1) = false := decide_eq_false c5; clear c5; obtain ⟨t115, A10, H⟩ := bnd_ H
      obtain ⟨c11, H⟩ := ifp_ H; have c11b0 := eq_true c11; have c11b1 : decide (x3_1.size + t115.size ≤ 9223372036854775807) = true := decide_eq_true c11
      try have c11b2 : (9223372036854775807 < x3_1.size + t115.size) = False := eq_false (Nat.not_lt.2 c11)
      have H' := q_ H; clear H; have p113 : 0 ≤ (x8_1 : Int) := od; have q113 : x8_1 < (l0.length : Int) := od; obtain ⟨ad113, e113, hx113_0⟩ := Kd.at_int HR0.out x8_1 p113 q113
      cases e113
      replace hx113_0 := cb_ HB.out hx113_0; replace p113 := eq_true p113; replace q113 := eq_true q113; go_wp2_with (first | (refine goesM (some 19) rfl rfl Tryd.func24 #[.int .i64 (rd l0 x8_1)] rfl ?_; (with_reducible refine (spec_l1Num.calls k1 (rd l0 x8_1) t115 _ A10.out).mono ?_); rintro e w12 ⟨rfl, hb⟩; refine ⟨_, rfl, ?_⟩; replace HB := q_ (below_step (by exact bv HB.out) hb); (try clear hb); (try clear hb2); (try clear hk); (try clear hi))); go_roundg k1
      case measure => have := HK1.out; omega
      case rel => exact ⟨(x3_1 ++ t115), (wrap64 (x8_1 + 1)), eqv, eqv, H', ⟨by have := HK1.out; omega⟩, ⟨by exact bv HB.out⟩⟩
    ·rw [if_neg c2] at H; have c2b0 : decide (x8_1 < (l0.length : Int)) = false := decide_eq_false c2; clear c2; obtain rfl := Option.some.inj H; go_wp2; go_ret; exact fin_ (by exact bv HB.out)

/-! ### spec_MarkText: function 5 -/
def spec_MarkText.f (k : Nat) (a0 : Int) (l1 : List Int) : Option (ByteArray × Bool) := (spec_GoodMark.f k a0 l1).bind fun t116 => (if t116 = true then ((spec_l1Text.f k l1).bind fun t117 => (some (t117, true))) else (some ((⟨#[]⟩ : ByteArray), false)))
set_option maxHeartbeats 8000000 in
set_option maxRecDepth 100000 in
theorem spec_MarkText.calls (k : Nat) (a0 : Int) (A1 : Option Addr) (c1 : Nat) (l1 : List Int) (r1 : ByteArray) (r2 : Bool) (w : World) (hr1 : Kd.C (Kd.int .i64) w A1 l1.length l1) (hc1 : l1.length ≤ c1) (h : spec_MarkText.f k a0 l1 = some (r1, r2)) :
    Calls Tryd.prog 5 #[.int .i64 a0, .slice A1 l1.length c1] w fun e w' => e = .returned (.tuple #[.string r1, .bool r2]) ∧ Below w.heap.size w w' := by
  have HR1 := q_ hr1; have HC1 := q_ hc1; clear hr1 hc1; have HB := q_ (Below.refl w.heap.size w); have H : ((spec_GoodMark.f k a0 l1).bind fun t116 => (if t116 = true then ((spec_l1Text.f k l1).bind fun t117 => (some (t117, true))) else (some ((⟨#[]⟩ : ByteArray), false)))) = some (r1, r2) := h; clear h; obtain ⟨t116, A3, H⟩ := bnd_ H; have HC4 := q_ H; clear H; go_enter Tryd.func5, Tryd.ntmps5
  go_upto_if 9 with (first | (refine goesM (some 8) rfl rfl Tryd.func13 #[.int .i64 a0, .slice A1 l1.length c1] rfl ?_; (with_reducible refine (spec_GoodMark.calls k a0 _ _ l1 t116 _ ?side1 ?side2 A3.out).mono ?_); (case side1 => exact Kd.C_v HR1.out); (case side2 => exact HC1.out); rintro e w' ⟨rfl, ⟨nd, rfl⟩⟩; refine ⟨_, rfl, ?_⟩))
  (try simp only [Act.put, List.setIfInBounds_toArray, List.set_cons_zero, List.set_cons_succ]); have H := HC4.out; clear HC4
  by_cases c5 : t116 = true
  ·subst c5; replace H := itt_ H; obtain ⟨t117, A6, H⟩ := bnd_ H; simp only [Option.some.injEq, Prod.mk.injEq] at H; obtain ⟨rfl, rfl⟩ := H; go_wp2_with (first | (refine goesM (some 11) rfl rfl Tryd.func14 #[.slice A1 l1.length c1] rfl ?_; (with_reducible refine (spec_l1Text.calls k _ _ l1 t117 _ ?side1 ?side2 A6.out).mono ?_); (case side1 => exact Kd.C_v ((Kd.C_below HR1.out HB.out))); (case side2 => exact HC1.out); rintro e w7 ⟨rfl, hb⟩; refine ⟨_, rfl, ?_⟩; replace HB := q_ (below_step (by exact bv HB.out) hb); (try clear hb); (try clear hb2); (try clear hk); (try clear hi)))
   go_ret2
   exact fin_ (by exact bv HB.out)
  ·replace c5 := Bool.eq_false_iff.mpr c5; subst c5; replace H := iff_ H; simp only [Option.some.injEq, Prod.mk.injEq] at H; obtain ⟨rfl, rfl⟩ := H; go_wp2
   go_ret2
   exact fin_ (by exact bv HB.out)

/-! ### laws_toIntS: function 6 -/
def laws_toIntS.l0 : Nat → List Int → List Int → Int → Option (List Int)
  | 0, _, _, _ => none
  | k + 1, x0, x3, x4 => if x4 < (x0.length : Int) then (if 0 ≤ x4 then (if x4 < (x3.length : Int) then (laws_toIntS.l0 k x0 (x3.set (x4 : Int).toNat (rd x0 x4)) (wrap64 (x4 + 1))) else (none)) else (none)) else (some x3)
def laws_toIntS.f (k : Nat) (l0 : List Int) : Option (List Int) := if 0 ≤ (l0.length : Int) then (if ((l0.length : Int) : Int).toNat ≤ 35184372088832 then (laws_toIntS.l0 k l0 (List.replicate ((l0.length : Int) : Int).toNat 0) 0) else (none)) else (none)
set_option maxHeartbeats 8000000 in
set_option maxRecDepth 100000 in
theorem laws_toIntS.calls (k : Nat) (A0 : Option Addr) (c0 : Nat) (l0 : List Int) (r : List Int) (w : World) (hr0 : Kd.C (Kd.int .i64) w A0 l0.length l0) (hc0 : l0.length ≤ c0) (h : laws_toIntS.f k l0 = some r) :
    Calls Tryd.prog 6 #[.slice A0 l0.length c0] w fun e w' => ∃ v0_ : Value, e = .returned (v0_) ∧ Kd.R (Kd.int .i64) 3 w' w.heap.size (fun _ => True) v0_ r ∧ Below w.heap.size w w' := by
  have HR0 := q_ hr0; have HC0 := q_ hc0; clear hr0 hc0; have HB := q_ (Below.refl w.heap.size w); have H : (if 0 ≤ (l0.length : Int) then (if ((l0.length : Int) : Int).toNat ≤ 35184372088832 then (laws_toIntS.l0 k l0 (List.replicate ((l0.length : Int) : Int).toNat 0) 0) else (none)) else (none)) = some r := h; clear h
  obtain ⟨c2, H⟩ := ifp_ H; have c2b0 := eq_true c2; have c2b1 : decide (0 ≤ (l0.length : Int)) = true := decide_eq_true c2; clear c2
  obtain ⟨c3, H⟩ := ifp_ H; have c3b0 := eq_true c3; have c3b1 : decide (((l0.length : Int) : Int).toNat ≤ 35184372088832) = true := decide_eq_true c3; clear c3; obtain ⟨y118, hy118⟩ : ∃ y_ : List Int, y_ = (List.replicate ((l0.length : Int) : Int).toNat 0) := ⟨_, rfl⟩; (replace H : (laws_toIntS.l0 k l0 y118 0) = some r := by first | (rw [hy118]; with_reducible exact H) | (have H2_ := (Option.bind_some _ _).symm.trans H; rw [hy118]; with_reducible exact H2_) | (have H2_ := (Option.bind_some _ _).symm.trans H; with_reducible exact H2_) | with_reducible exact H | (rw [hy118]; exact H) | exact H); have Ny118 := q_ hy118; clear hy118; have H' := q_ H; clear H; go_enter Tryd.func6, Tryd.ntmps6; go_wp2_with (first | ((with_reducible refine gate_dst (N := 7) rfl ?_); refine Kd.R_make (Kd.int .i64) _ 3 rfl (N := 7) rfl 22 _ _ rfl (l0.length : Int) rfl rfl Tryd.underlying22 (.int .i64 0) 8 info3 rfl (by decide) (by omega) 0 (ok := fun _ => True) (okp := fun _ => True) rfl (fun _ hk => hk) trivial (od) (Nat.le_trans (Nat.mul_le_mul_right _ (od : (l0.length : Int).toNat ≤ 35184372088832)) (by omega)) (Below.refl _ _) (Nat.le_refl _) ?_; intro v119 w4 ho5 hb hg_ hnew_; clear hg_ hnew_; (first | rw [← Ny118.out] at ho5 | (simp only [Int.reduceToNat] at ho5; rw [← Ny118.out] at ho5)); have HO120 := q_ (Kd.R_lower ho5 (below_size (by exact bv HB.out))); replace HB := q_ (below_step (by exact bv HB.out) hb); clear hb ho5)); go_loopg [4] k (fun kq v4 w' => ∃ (x3_1 : List Int) (x4_1 : Int), v4 = .int .i64 x4_1 ∧ Aside0 (laws_toIntS.l0 kq l0 x3_1 x4_1 = some r) ∧ Aside0 (kq ≤ k) ∧ Aside0 (Kd.R (Kd.int .i64) 3 w' w.heap.size (fun _ => True) v119 x3_1) ∧ Aside0 (Below w.heap.size w w'))
  case atStart => exact ⟨(y118), (0), eqv, H', ⟨Nat.le_refl _⟩, ⟨by exact Kd.R_v HO120.out⟩, ⟨by exact bv HB.out⟩⟩
  case round =>
   clear H'; (try clear c2b0); (try clear c2b1); (try clear c3b0); (try clear c3b1); obtain ⟨x3_1, x4_1, rfl, HA, HK1, HO_3, HB⟩ := hrel
   cases gk with
   | zero => exact absurd HA.out (by simp [laws_toIntS.l0])
   | succ k1 =>
    have H := HA.out; clear HA; simp only [laws_toIntS.l0] at H
    by_cases c6 : x4_1 < (l0.length : Int)
    ·rw [if_pos c6] at H; have c6b0 : decide (x4_1 < (l0.length : Int)) = true := decide_eq_true c6; clear c6
     obtain ⟨c7, H⟩ := ifp_ H; have c7b0 : decide (0 ≤ x4_1) = true := decide_eq_true c7; clear c7
     obtain ⟨c8, H⟩ := ifp_ H; have c8b0 : decide (x4_1 < (x3_1.length : Int)) = true := decide_eq_true c8; clear c8; obtain ⟨y122, hy122⟩ : ∃ y_ : List Int, y_ = (x3_1.set (x4_1 : Int).toNat (rd l0 x4_1)) := ⟨_, rfl⟩; (replace H : (laws_toIntS.l0 k1 l0 y122 (wrap64 (x4_1 + 1))) = some r := by first | (rw [hy122]; with_reducible exact H) | (have H2_ := (Option.bind_some _ _).symm.trans H; rw [hy122]; with_reducible exact H2_) | (have H2_ := (Option.bind_some _ _).symm.trans H; with_reducible exact H2_) | with_reducible exact H | (rw [hy122]; exact H) | exact H); have Ny122 := q_ hy122; clear hy122; have H' := q_ H; clear H; have p121 : 0 ≤ (x4_1 : Int) := od; have q121 : x4_1 < (l0.length : Int) := od; obtain ⟨ad121, e121, hx121_0⟩ := Kd.at_int HR0.out x4_1 p121 q121
     cases e121
     replace hx121_0 := cb_ HB.out hx121_0; replace p121 := eq_true p121; replace q121 := eq_true q121; have p9 : 0 ≤ (x4_1 : Int) := od; have q9 : (x4_1 : Int) < ((x3_1.length : Int) : Int) := od; obtain ⟨go9, co9, eo9, gb9, gl9, cl9, HG9⟩ := Kd.R_form HO_3.out (by omega); (first | cases eo9 | (injection eo9 with ea_ en_ ec_; (first | subst ea_ | (injection ea_ with ea_; subst ea_)); subst ec_; clear en_)); have GB9 := q_ gb9; have GG9 := q_ HG9; clear gb9 gl9 HG9; obtain ⟨hx9_0, hf9_0⟩ := Kd.R_celln 0 HO_3.out (x4_1 : Int) p9 q9; replace p9 := eq_true p9; replace q9 := eq_true q9; have HP10 := Kd.R_putg HO_3.out (x4_1 : Int) (rd l0 x4_1); go_wp2_with (first | ((with_reducible refine gate_store (t := 3) (p := 20) rfl ?_); refine store_event (t := 3) (p := 20) (v := ?vo_w11) (w1 := (wr.setCell ⟨go9, (x4_1 : Int).toNat, none⟩ (.int .i64 (rd l0 x4_1)))) ?hg ?ho ?hn ?hr ?_; (case ho => rfl); (case hg => rfl); (case hn => rfl); (case hr => first | (go_simp; done) | (go_simp; rfl)); intro w11 hw; have hg : wr.grownBy w11 (some go9) := (by rw [hw]; exact HP10.2); have hp_ : Kd.R (Kd.int .i64) 3 w11 w.heap.size (fun _ => True) (.slice (some ⟨go9, 0, none⟩) x3_1.length co9) y122 := (by rw [hw, Ny122.out]; exact HP10.1); clear HP10; replace HO_3 := q_ (hp_); replace HB := q_ ((by rw [hw]; exact below_set (HB.out) GB9.out : Below w.heap.size w w11)); clear hg hw hp_)); go_roundg k1
     case measure => have := HK1.out; omega
     case rel => exact ⟨(y122), (wrap64 (x4_1 + 1)), eqv, H', ⟨by have := HK1.out; omega⟩, ⟨by exact Kd.R_v HO_3.out⟩, ⟨by exact bv HB.out⟩⟩
    ·rw [if_neg c6] at H; have c6b0 : decide (x4_1 < (l0.length : Int)) = false := decide_eq_false c6; clear c6; obtain rfl := Option.some.inj H; go_wp2; go_ret; exact ⟨_, by first | rfl | (simp [errW_none, errW_some] <;> rfl) | (simp [*, errW_none, errW_some] <;> rfl), by exact Kd.R_v HO_3.out, by exact bv HB.out⟩

/-! ### impl_areMarks_1: function 26 -/
def impl_areMarks_1.f (k : Nat) (l0 : List Int) (a1_0_0 : Int) : Option (Bool) := (impl_GoodMark.f k a1_0_0 l0).bind fun t127 => (some (!t127))
set_option maxHeartbeats 8000000 in
set_option maxRecDepth 100000 in
theorem impl_areMarks_1.calls (k : Nat) (A0 : Option Addr) (c0 : Nat) (l0 : List Int) (gq1_0 : Nat) (a1_0_0 : Int) (r : Bool) (w : World) (hr0 : Kd.C (Kd.int .i64) w A0 l0.length l0) (hc0 : l0.length ≤ c0) (hb1_0 : w.heap[gq1_0]? = some (.cells #[.int .i64 a1_0_0] 3 (0, 0))) (h : impl_areMarks_1.f k l0 a1_0_0 = some r) :
    Calls Tryd.prog 26 #[.slice A0 l0.length c0, .pointer (some ⟨gq1_0, 0, none⟩)] w fun e w' => e = .returned (.bool r) ∧ Drawn0 w w' := by
  have HR0 := q_ hr0; have HC0 := q_ hc0; clear hr0 hc0; have BK90100 := q_ hb1_0; clear hb1_0; have H : ((impl_GoodMark.f k a1_0_0 l0).bind fun t127 => (some (!t127))) = some r := h; clear h; obtain ⟨t127, A3, H⟩ := bnd_ H; obtain rfl := Option.some.inj H; obtain ⟨hcz4_0, hfz4_0⟩ := cz1 BK90100.out; go_enter Tryd.func26, Tryd.ntmps26; go_wp2_with (first | (refine goesM (some 6) rfl rfl Tryd.func21 #[.int .i64 a1_0_0, .slice A0 l0.length c0] rfl ?_; (with_reducible refine (impl_GoodMark.calls k a1_0_0 _ _ l0 t127 _ ?side1 ?side2 A3.out).mono ?_); (case side1 => exact Kd.C_v HR0.out); (case side2 => exact HC0.out); rintro e w' ⟨rfl, ⟨nd, rfl⟩⟩; refine ⟨_, rfl, ?_⟩)); go_ret; exact ⟨by first | rfl | (simp; done) | (simp [*]; done), by repeat (first | exact Drawn0.refl _ | apply Drawn0.step)⟩

/-! ### slices_IndexFunc_int_int_at_impl_areMarks_1: function 34 -/
def slices_IndexFunc_int_int_at_impl_areMarks_1.l0 : Nat → List (List Int) → Int → Int → Int → Option (Int)
  | 0, _, _, _, _ => none
  | k + 1, x0, x7, x8, x90101000 => if x8 < x7 then (if 0 ≤ x8 then (if x8 < (x0.length : Int) then ((impl_areMarks_1.f k (rd_L2 x0 x8) x90101000).bind fun t129 => (if t129 = true then (some x8) else (slices_IndexFunc_int_int_at_impl_areMarks_1.l0 k x0 x7 (wrap64 (x8 + 1)) x90101000))) else (none)) else (none)) else (some (-1))
def slices_IndexFunc_int_int_at_impl_areMarks_1.f (k : Nat) (l0 : List (List Int)) (a1_0_0 : Int) : Option (Int) := slices_IndexFunc_int_int_at_impl_areMarks_1.l0 k l0 (l0.length : Int) 0 a1_0_0
set_option maxHeartbeats 8000000 in
set_option maxRecDepth 100000 in
theorem slices_IndexFunc_int_int_at_impl_areMarks_1.calls (k : Nat) (A0 : Option Addr) (c0 : Nat) (l0 : List (List Int)) (gq1_0 : Nat) (a1_0_0 : Int) (r : Int) (w : World) (hr0 : Kd.C (Kd.slice 3 (Kd.int .i64)) w A0 l0.length l0) (hc0 : l0.length ≤ c0) (hb1_0 : w.heap[gq1_0]? = some (.cells #[.int .i64 a1_0_0] 3 (0, 0))) (h : slices_IndexFunc_int_int_at_impl_areMarks_1.f k l0 a1_0_0 = some r) :
    Calls Tryd.prog 34 #[.slice A0 l0.length c0, .func (.func 26) #[] #[.pointer (some ⟨gq1_0, 0, none⟩)]] w fun e w' => e = .returned (.int .i64 r) ∧ Drawn0 w w' := by
  have HR0 := q_ hr0; have HC0 := q_ hc0; clear hr0 hc0; have BK90100 := q_ hb1_0; clear hb1_0; have H : (slices_IndexFunc_int_int_at_impl_areMarks_1.l0 k l0 (l0.length : Int) 0 a1_0_0) = some r := h; clear h; have H' := q_ H; clear H; go_enter Tryd.func34, Tryd.ntmps34; go_wp2; go_loopg [8] k (fun kq v8 w' => ∃ (x8_1 : Int), v8 = .int .i64 x8_1 ∧ Aside0 (slices_IndexFunc_int_int_at_impl_areMarks_1.l0 kq l0 (l0.length : Int) x8_1 a1_0_0 = some r) ∧ Aside0 (kq ≤ k) ∧ Aside0 (w'.heap[gq1_0]? = some (.cells #[.int .i64 a1_0_0] 3 (0, 0))) ∧ Drawn0 w w')
  case atStart => exact ⟨(0), eqv, H', ⟨Nat.le_refl _⟩, ⟨by exact blk_v BK90100.out⟩, by repeat (first | exact Drawn0.refl _ | apply Drawn0.step)⟩
  case round =>
   clear H'; obtain ⟨x8_1, rfl, HA, HK1, BK90100, ⟨m1, rfl⟩⟩ := hrel
   cases gk with
   | zero => exact absurd HA.out (by simp [slices_IndexFunc_int_int_at_impl_areMarks_1.l0])
   | succ k1 =>
    have H := HA.out; clear HA; simp only [slices_IndexFunc_int_int_at_impl_areMarks_1.l0] at H
    by_cases c3 : x8_1 < (l0.length : Int)
    ·rw [if_pos c3] at H; have c3b0 : decide (x8_1 < (l0.length : Int)) = true := decide_eq_true c3; clear c3
     obtain ⟨c4, H⟩ := ifp_ H; have c4b0 : decide (0 ≤ x8_1) = true := decide_eq_true c4; clear c4
     obtain ⟨c5, H⟩ := ifp_ H; have c5b0 : decide (x8_1 < (l0.length : Int)) = true := decide_eq_true c5; clear c5; obtain ⟨t129, A6, H⟩ := bnd_ H; have HC7 := q_ H; clear H; have p128 : 0 ≤ (x8_1 : Int) := od; have q128 : x8_1 < (l0.length : Int) := od; obtain ⟨ad128, A128_0, c128_0, e128, hx128_0, hl128_0, hi128_0⟩ := at_L2 HR0.out x8_1 p128 q128
     cases e128
     have HR128_0 := q_ hi128_0; have HC128_0 := q_ hl128_0; clear hi128_0 hl128_0; replace p128 := eq_true p128; replace q128 := eq_true q128
     go_upto_if 16 with (first | (go_at_call 26; (with_reducible refine (impl_areMarks_1.calls k1 _ _ (rd_L2 l0 x8_1) gq1_0 a1_0_0 t129 _ ?side1 ?side2 ?side3 A6.out).mono ?_); (case side1 => exact Kd.C_v HR128_0.out); (case side2 => exact HC128_0.out); (case side3 => exact blk_v BK90100.out); rintro e w' ⟨rfl, ⟨nd, rfl⟩⟩))
     (try simp only [Act.put, List.setIfInBounds_toArray, List.set_cons_zero, List.set_cons_succ]); have H := HC7.out; clear HC7
     by_cases c8 : t129 = true
     ·subst c8; replace H := itt_ H; obtain rfl := Option.some.inj H; go_wp2; go_ret; exact ⟨by first | rfl | (simp; done) | (simp [*]; done), by repeat (first | exact Drawn0.refl _ | apply Drawn0.step)⟩
     ·replace c8 := Bool.eq_false_iff.mpr c8; subst c8; replace H := iff_ H; have H' := q_ H; clear H; go_wp2; go_roundg k1
      case measure => have := HK1.out; omega
      case rel => exact ⟨(wrap64 (x8_1 + 1)), eqv, H', ⟨by have := HK1.out; omega⟩, ⟨by exact blk_v BK90100.out⟩, by repeat (first | exact Drawn0.refl _ | apply Drawn0.step)⟩
    ·rw [if_neg c3] at H; have c3b0 : decide (x8_1 < (l0.length : Int)) = false := decide_eq_false c3; clear c3; obtain rfl := Option.some.inj H; go_wp2; go_ret; exact ⟨by first | rfl | (simp; done) | (simp [*]; done), by repeat (first | exact Drawn0.refl _ | apply Drawn0.step)⟩

/-! ### slices_ContainsFunc_int_int_at_impl_areMarks_1: function 25 -/
def slices_ContainsFunc_int_int_at_impl_areMarks_1.f (k : Nat) (l0 : List (List Int)) (a1_0_0 : Int) : Option (Bool) := (slices_IndexFunc_int_int_at_impl_areMarks_1.f k l0 a1_0_0).bind fun t130 => (some (decide (t130 ≥ 0)))
set_option maxHeartbeats 8000000 in
set_option maxRecDepth 100000 in
theorem slices_ContainsFunc_int_int_at_impl_areMarks_1.calls (k : Nat) (A0 : Option Addr) (c0 : Nat) (l0 : List (List Int)) (gq1_0 : Nat) (a1_0_0 : Int) (r : Bool) (w : World) (hr0 : Kd.C (Kd.slice 3 (Kd.int .i64)) w A0 l0.length l0) (hc0 : l0.length ≤ c0) (hb1_0 : w.heap[gq1_0]? = some (.cells #[.int .i64 a1_0_0] 3 (0, 0))) (h : slices_ContainsFunc_int_int_at_impl_areMarks_1.f k l0 a1_0_0 = some r) :
    Calls Tryd.prog 25 #[.slice A0 l0.length c0, .func (.func 26) #[] #[.pointer (some ⟨gq1_0, 0, none⟩)]] w fun e w' => e = .returned (.bool r) ∧ Drawn0 w w' := by
  have HR0 := q_ hr0; have HC0 := q_ hc0; clear hr0 hc0; have BK90100 := q_ hb1_0; clear hb1_0; have H : ((slices_IndexFunc_int_int_at_impl_areMarks_1.f k l0 a1_0_0).bind fun t130 => (some (decide (t130 ≥ 0)))) = some r := h; clear h; obtain ⟨t130, A3, H⟩ := bnd_ H; obtain rfl := Option.some.inj H; go_enter Tryd.func25, Tryd.ntmps25; go_wp2_with (first | (refine goesM (some 7) rfl rfl Tryd.func34 #[.slice A0 l0.length c0, .func (.func 26) #[] #[.pointer (some ⟨gq1_0, 0, none⟩)]] rfl ?_; (with_reducible refine (slices_IndexFunc_int_int_at_impl_areMarks_1.calls k _ _ l0 gq1_0 a1_0_0 t130 _ ?side1 ?side2 ?side3 A3.out).mono ?_); (case side1 => exact Kd.C_v HR0.out); (case side2 => exact HC0.out); (case side3 => exact blk_v BK90100.out); rintro e w' ⟨rfl, ⟨nd, rfl⟩⟩; refine ⟨_, rfl, ?_⟩)); go_ret; exact ⟨by first | rfl | (simp; done) | (simp [*]; done), by repeat (first | exact Drawn0.refl _ | apply Drawn0.step)⟩

/-! ### impl_areMarks: function 15 -/
def impl_areMarks.f (k : Nat) (a0 : Int) (l1 : List (List Int)) : Option (Bool) := (slices_ContainsFunc_int_int_at_impl_areMarks_1.f k l1 a0).bind fun t132 => (some (!t132))
set_option maxHeartbeats 8000000 in
set_option maxRecDepth 100000 in
theorem impl_areMarks.calls (k : Nat) (a0 : Int) (A1 : Option Addr) (c1 : Nat) (l1 : List (List Int)) (r : Bool) (w : World) (hr1 : Kd.C (Kd.slice 3 (Kd.int .i64)) w A1 l1.length l1) (hc1 : l1.length ≤ c1) (h : impl_areMarks.f k a0 l1 = some r) :
    Calls Tryd.prog 15 #[.int .i64 a0, .slice A1 l1.length c1] w fun e w' => e = .returned (.bool r) ∧ Below w.heap.size w w' := by
  have HR1 := q_ hr1; have HC1 := q_ hc1; clear hr1 hc1; have HB := q_ (Below.refl w.heap.size w); have H : ((slices_ContainsFunc_int_int_at_impl_areMarks_1.f k l1 a0).bind fun t132 => (some (!t132))) = some r := h; clear h; obtain ⟨t132, A3, H⟩ := bnd_ H; obtain rfl := Option.some.inj H; go_enter Tryd.func15, Tryd.ntmps15; go_wp2_with (first | (refine boxE 2 #[.int .i64 a0] 3 ?_; intro gb131 hg w4 hbox hb; have BK131 := q_ (hbox); have GW131 := q_ (gw_ hg HB.out); have GE131 := q_ (gw_ hg HB.out); replace HB := q_ (bs HB.out hb); clear hb hbox hg) | (refine goesM (some 7) rfl rfl Tryd.func25 #[.slice A1 l1.length c1, .func (.func 26) #[] #[.pointer (some ⟨gb131, 0, none⟩)]] rfl ?_; (with_reducible refine (slices_ContainsFunc_int_int_at_impl_areMarks_1.calls k _ _ l1 gb131 a0 t132 _ ?side1 ?side2 ?side3 A3.out).mono ?_); (case side1 => exact Kd.C_v ((Kd.C_below HR1.out HB.out))); (case side2 => exact HC1.out); (case side3 => exact blk_v BK131.out); rintro e w' ⟨rfl, ⟨nd, rfl⟩⟩; refine ⟨_, rfl, ?_⟩)); go_ret; exact fin_ (by exact bv HB.out)

/-! ### strconv_Itoa_27: function 27 -/
def layItoa_ren : Go.Shelf.Ren := ⟨fun | 171 => 27 | 243 => 35 | 246 => 43 | 283 => 52 | 284 => 53 | 285 => 54 | 286 => 55 | 129 => 69 | 317 => 68 | 318 => 70 | 319 => 71 | 320 => 72 | 337 => 78 | 338 => 79 | n => n, fun | 3 => 3 | 9 => 9 | 2 => 2 | 4 => 4 | 171 => 70 | 0 => 0 | 53 => 71 | 37 => 51 | 5 => 5 | 173 => 74 | 212 => 88 | 51 => 89 | 20 => 20 | 213 => 90 | 46 => 86 | 232 => 110 | 233 => 111 | n => n, fun | 17 => 1 | 18 => 6 | 19 => 7 | n => n⟩
theorem layItoa : Go.Proofs.Lays.n171 Tryd.prog layItoa_ren := {
  mixed := by kernel_rfl
  f129 := Tryd.func69.trans (congrArg some (by kernel_rfl))
  f171 := Tryd.func27.trans (congrArg some (by kernel_rfl))
  f243 := Tryd.func35.trans (congrArg some (by kernel_rfl))
  f246 := Tryd.func43.trans (congrArg some (by kernel_rfl))
  f283 := Tryd.func52.trans (congrArg some (by kernel_rfl))
  f284 := Tryd.func53.trans (congrArg some (by kernel_rfl))
  f285 := Tryd.func54.trans (congrArg some (by kernel_rfl))
  f286 := Tryd.func55.trans (congrArg some (by kernel_rfl))
  f317 := Tryd.func68.trans (congrArg some (by kernel_rfl))
  f318 := Tryd.func70.trans (congrArg some (by kernel_rfl))
  f319 := Tryd.func71.trans (congrArg some (by kernel_rfl))
  f320 := Tryd.func72.trans (congrArg some (by kernel_rfl))
  f337 := Tryd.func78.trans (congrArg some (by kernel_rfl))
  f338 := Tryd.func79.trans (congrArg some (by kernel_rfl))
  t0 := Tryd.underlying0
  a0 := Tryd.isAgg0
  z0 := Tryd.sizeOf0
  v0 := Tryd.zeroValue0
  t2 := Tryd.underlying2
  a2 := Tryd.isAgg2
  z2 := Tryd.sizeOf2
  v2 := Tryd.zeroValue2
  t3 := Tryd.underlying3
  a3 := Tryd.isAgg3
  z3 := Tryd.sizeOf3
  v3 := Tryd.zeroValue3
  t4 := Tryd.underlying4
  a4 := Tryd.isAgg4
  z4 := Tryd.sizeOf4
  v4 := Tryd.zeroValue4
  t5 := Tryd.underlying5
  a5 := Tryd.isAgg5
  z5 := Tryd.sizeOf5
  v5 := Tryd.zeroValue5
  t9 := Tryd.underlying9
  a9 := Tryd.isAgg9
  z9 := Tryd.sizeOf9
  v9 := Tryd.zeroValue9
  t20 := Tryd.underlying20
  a20 := Tryd.isAgg20
  z20 := Tryd.sizeOf20
  v20 := Tryd.zeroValue20
  t37 := Tryd.underlying51
  a37 := Tryd.isAgg51
  z37 := Tryd.sizeOf51
  v37 := Tryd.zeroValue51
  t46 := Tryd.underlying86
  a46 := Tryd.isAgg86
  z46 := Tryd.sizeOf86
  v46 := Tryd.zeroValue86
  t51 := Tryd.underlying89
  a51 := Tryd.isAgg89
  z51 := Tryd.sizeOf89
  v51 := Tryd.zeroValue89
  t53 := Tryd.underlying71
  a53 := Tryd.isAgg71
  z53 := Tryd.sizeOf71
  v53 := Tryd.zeroValue71
  t171 := Tryd.underlying70
  a171 := Tryd.isAgg70
  z171 := Tryd.sizeOf70
  v171 := Tryd.zeroValue70
  t173 := Tryd.underlying74
  a173 := Tryd.isAgg74
  z173 := Tryd.sizeOf74
  v173 := Tryd.zeroValue74
  t212 := Tryd.underlying88
  a212 := Tryd.isAgg88
  z212 := Tryd.sizeOf88
  v212 := Tryd.zeroValue88
  t213 := Tryd.underlying90
  a213 := Tryd.isAgg90
  z213 := Tryd.sizeOf90
  t232 := Tryd.underlying110
  a232 := Tryd.isAgg110
  z232 := Tryd.sizeOf110
  v232 := Tryd.zeroValue110
  t233 := Tryd.underlying111
  a233 := Tryd.isAgg111
  z233 := Tryd.sizeOf111
  v233 := Tryd.zeroValue111
  g17 := by kernel_rfl
  g18 := by kernel_rfl
  g19 := by kernel_rfl }
def strconv_Itoa_27.f (a0 : Int) : Option (ByteArray) := if 0 ≤ a0 then (if a0 < 100 then (some ⟨(Go.Lib.decDigits a0.toNat).toArray⟩) else (none)) else (none)
set_option maxHeartbeats 8000000 in
set_option maxRecDepth 100000 in
theorem strconv_Itoa_27.calls (a0 : Int) (r : ByteArray) (w : World) (h : strconv_Itoa_27.f a0 = some r) :
    Calls Tryd.prog 27 #[.int .i64 a0] w fun e w' => e = .returned (.string r) ∧ Drawn0 w w' := by
  unfold strconv_Itoa_27.f at h
  obtain ⟨c1, h⟩ := ifp_ h
  obtain ⟨c2, h⟩ := ifp_ h
  obtain rfl := Option.some.inj h
  obtain ⟨i, rfl⟩ : ∃ i : Nat, a0 = (i : Int) := ⟨a0.toNat, by omega⟩
  rw [Int.toNat_natCast]
  refine (Go.Proofs.Any.strconv_Itoa_small layItoa i (by omega) w).mono ?_
  rintro e w' ⟨he, hw⟩
  exact ⟨he, hw ▸ Drawn0.refl _⟩

/-! ### strings_Join: function 28 -/
def layJoin_ren : Go.Shelf.Ren := ⟨fun | 156 => 28 | 165 => 36 | 166 => 37 | 169 => 38 | 240 => 44 | 241 => 45 | 276 => 56 | 277 => 57 | n => n, fun | 31 => 35 | 9 => 9 | 3 => 3 | 4 => 4 | 0 => 0 | 20 => 20 | 72 => 55 | 76 => 59 | 70 => 53 | 37 => 51 | 75 => 58 | 127 => 65 | 164 => 76 | 5 => 5 | 80 => 61 | n => n, fun | n => n⟩
theorem layJoin : Go.Proofs.Lays.n156 Tryd.prog layJoin_ren := {
  mixed := by kernel_rfl
  f156 := Tryd.func28.trans (congrArg some (by kernel_rfl))
  f165 := Tryd.func36.trans (congrArg some (by kernel_rfl))
  f166 := Tryd.func37.trans (congrArg some (by kernel_rfl))
  f169 := Tryd.func38.trans (congrArg some (by kernel_rfl))
  f240 := Tryd.func44.trans (congrArg some (by kernel_rfl))
  f241 := Tryd.func45.trans (congrArg some (by kernel_rfl))
  f276 := Tryd.func56.trans (congrArg some (by kernel_rfl))
  f277 := Tryd.func57.trans (congrArg some (by kernel_rfl))
  t0 := Tryd.underlying0
  a0 := Tryd.isAgg0
  z0 := Tryd.sizeOf0
  v0 := Tryd.zeroValue0
  t3 := Tryd.underlying3
  a3 := Tryd.isAgg3
  z3 := Tryd.sizeOf3
  v3 := Tryd.zeroValue3
  t4 := Tryd.underlying4
  a4 := Tryd.isAgg4
  z4 := Tryd.sizeOf4
  v4 := Tryd.zeroValue4
  t9 := Tryd.underlying9
  a9 := Tryd.isAgg9
  z9 := Tryd.sizeOf9
  v9 := Tryd.zeroValue9
  t20 := Tryd.underlying20
  a20 := Tryd.isAgg20
  z20 := Tryd.sizeOf20
  v20 := Tryd.zeroValue20
  t31 := Tryd.underlying35
  a31 := Tryd.isAgg35
  z31 := Tryd.sizeOf35
  v31 := Tryd.zeroValue35
  t37 := Tryd.underlying51
  a37 := Tryd.isAgg51
  z37 := Tryd.sizeOf51
  v37 := Tryd.zeroValue51
  t70 := Tryd.underlying53
  a70 := Tryd.isAgg53
  z70 := Tryd.sizeOf53
  v70 := Tryd.zeroValue53
  t72 := Tryd.underlying55
  a72 := Tryd.isAgg55
  z72 := Tryd.sizeOf55
  v72 := Tryd.zeroValue55
  t75 := Tryd.underlying58
  a75 := Tryd.isAgg58
  z75 := Tryd.sizeOf58
  v75 := Tryd.zeroValue58
  t76 := Tryd.underlying59
  a76 := Tryd.isAgg59
  z76 := Tryd.sizeOf59
  v76 := Tryd.zeroValue59
  t127 := Tryd.underlying65
  a127 := Tryd.isAgg65
  z127 := Tryd.sizeOf65
  v127 := Tryd.zeroValue65
  t164 := Tryd.underlying76
  a164 := Tryd.isAgg76
  z164 := Tryd.sizeOf76
  v164 := Tryd.zeroValue76 }
theorem extraJoin : Go.Proofs.Builder.Extra Tryd.prog layJoin_ren where
  sizeBuilder := by kernel_rfl
  liesBuilder := by kernel_rfl
  t5 := Tryd.underlying5
  a5 := Tryd.isAgg5
  z5 := Tryd.sizeOf5
  v5 := Tryd.zeroValue5
  infoByte := by kernel_rfl
  cellsByte := by kernel_rfl
  sizeByte := by kernel_rfl
  neB5 := by decide
def strings_Join.f (l0 : List ByteArray) (a1 : ByteArray) : Option (ByteArray) := if 0 < l0.length then (if l0.length ≤ 1000 then (if (Go.Lib.join (l0.map (·.data.toList)) a1.data.toList).length ≤ 1000000 then (some ⟨(Go.Lib.join (l0.map (·.data.toList)) a1.data.toList).toArray⟩) else (none)) else (none)) else (none)
set_option maxHeartbeats 8000000 in
set_option maxRecDepth 100000 in
theorem strings_Join.calls (A0 : Option Addr) (c0 : Nat) (l0 : List ByteArray) (a1 : ByteArray) (r : ByteArray) (w : World) (hr0 : Kd.C Kd.string w A0 l0.length l0) (hc0 : l0.length ≤ c0) (hf : 0 < l0.length → ∃ g, A0 = some ⟨g, 0, none⟩ ∧ g < w.heap.size) (h : strings_Join.f l0 a1 = some r) :
    Calls Tryd.prog 28 #[.slice A0 l0.length c0, .string a1] w fun e w' => e = .returned (.string r) ∧ Below w.heap.size w w' := by
  unfold strings_Join.f at h
  obtain ⟨c1, h⟩ := ifp_ h
  obtain ⟨c2, h⟩ := ifp_ h
  obtain ⟨c3, h⟩ := ifp_ h
  obtain rfl := Option.some.inj h
  obtain ⟨bk, rfl, hbk⟩ := hf c1
  refine (Go.Proofs.Any.strings_Join layJoin extraJoin bk 0 c0 l0 a1 w ?_ hbk (by omega) hc0 (by omega)).mono ?_
  · intro j x hx
    obtain ⟨hj, hx2⟩ := List.getElem?_eq_some_iff.1 hx
    obtain ⟨ad, e, hc⟩ := Kd.at_string hr0 (j : Int) (by omega) (by omega)
    cases e
    rw [add_plain, Int.toNat_natCast] at hc
    rw [Nat.zero_add, hc]
    congr 2
    unfold rdOf
    rw [Int.toNat_natCast, List.getD_eq_getElem?_getD, hx]
    rfl
  · rintro e w' ⟨he, hw⟩
    exact ⟨he, hw⟩

/-! ### impl_joinInts: function 16 -/
def impl_joinInts.l0 : Nat → ByteArray → List ByteArray → List Int → Int → Int → Option (ByteArray)
  | 0, _, _, _, _, _ => none
  | k + 1, x1, x5, x11, x12, x13 => if x13 < x12 then (if 0 ≤ x13 then (if x13 < (x11.length : Int) then ((strconv_Itoa_27.f (rd x11 x13)).bind fun t156 => (if x13 < (x5.length : Int) then (impl_joinInts.l0 k x1 (x5.set (x13 : Int).toNat t156) x11 x12 (wrap64 (x13 + 1))) else (none))) else (none)) else (none)) else ((strings_Join.f x5 x1).bind fun t158 => (some t158))
def impl_joinInts.f (k : Nat) (l0 : List Int) (a1 : ByteArray) : Option (ByteArray) := if 0 ≤ (l0.length : Int) then (if ((l0.length : Int) : Int).toNat ≤ 17592186044416 then (impl_joinInts.l0 k a1 (List.replicate ((l0.length : Int) : Int).toNat (⟨#[]⟩ : ByteArray)) l0 (l0.length : Int) 0) else (none)) else (none)
set_option maxHeartbeats 8000000 in
set_option maxRecDepth 100000 in
theorem impl_joinInts.calls (k : Nat) (A0 : Option Addr) (c0 : Nat) (l0 : List Int) (a1 : ByteArray) (r : ByteArray) (w : World) (hr0 : Kd.C (Kd.int .i64) w A0 l0.length l0) (hc0 : l0.length ≤ c0) (h : impl_joinInts.f k l0 a1 = some r) :
    Calls Tryd.prog 16 #[.slice A0 l0.length c0, .string a1] w fun e w' => e = .returned (.string r) ∧ Below w.heap.size w w' := by
  have HR0 := q_ hr0; have HC0 := q_ hc0; clear hr0 hc0; have HB := q_ (Below.refl w.heap.size w); have H : (if 0 ≤ (l0.length : Int) then (if ((l0.length : Int) : Int).toNat ≤ 17592186044416 then (impl_joinInts.l0 k a1 (List.replicate ((l0.length : Int) : Int).toNat (⟨#[]⟩ : ByteArray)) l0 (l0.length : Int) 0) else (none)) else (none)) = some r := h; clear h
  obtain ⟨c3, H⟩ := ifp_ H; have c3b0 := eq_true c3; have c3b1 : decide (0 ≤ (l0.length : Int)) = true := decide_eq_true c3; clear c3
  obtain ⟨c4, H⟩ := ifp_ H; have c4b0 := eq_true c4; have c4b1 : decide (((l0.length : Int) : Int).toNat ≤ 17592186044416) = true := decide_eq_true c4; clear c4; obtain ⟨y152, hy152⟩ : ∃ y_ : List ByteArray, y_ = (List.replicate ((l0.length : Int) : Int).toNat (⟨#[]⟩ : ByteArray)) := ⟨_, rfl⟩; (replace H : (impl_joinInts.l0 k a1 y152 l0 (l0.length : Int) 0) = some r := by first | (rw [hy152]; with_reducible exact H) | (have H2_ := (Option.bind_some _ _).symm.trans H; rw [hy152]; with_reducible exact H2_) | (have H2_ := (Option.bind_some _ _).symm.trans H; with_reducible exact H2_) | with_reducible exact H | (rw [hy152]; exact H) | exact H); have Ny152 := q_ hy152; clear hy152; have H' := q_ H; clear H; go_enter Tryd.func16, Tryd.ntmps16; go_wp2_with (first | ((with_reducible refine gate_dst (N := 10) rfl ?_); refine Kd.R_make Kd.string _ 9 rfl (N := 10) rfl 35 _ _ rfl (l0.length : Int) rfl rfl Tryd.underlying35 (.string ⟨#[]⟩) 16 info9 rfl (by decide) (by omega) (⟨#[]⟩ : ByteArray) (ok := fun _ => True) (okp := fun _ => True) rfl (fun _ hk => hk) trivial (od) (Nat.le_trans (Nat.mul_le_mul_right _ (od : (l0.length : Int).toNat ≤ 17592186044416)) (by omega)) (Below.refl _ _) (Nat.le_refl _) ?_; intro v153 w5 ho6 hb hg_ hnew_; clear hg_ hnew_; (first | rw [← Ny152.out] at ho6 | (simp only [Int.reduceToNat] at ho6; rw [← Ny152.out] at ho6)); have HO154 := q_ (Kd.R_lower ho6 (below_size (by exact bv HB.out))); replace HB := q_ (below_step (by exact bv HB.out) hb); clear hb ho6)); go_loopg [13] k (fun kq v13 w' => ∃ (x5_1 : List ByteArray) (x13_1 : Int), v13 = .int .i64 x13_1 ∧ Aside0 (impl_joinInts.l0 kq a1 x5_1 l0 (l0.length : Int) x13_1 = some r) ∧ Aside0 (kq ≤ k) ∧ Aside0 (Kd.R Kd.string 9 w' w.heap.size (fun _ => True) v153 x5_1) ∧ Aside0 (Below w.heap.size w w'))
  case atStart => exact ⟨(y152), (0), eqv, H', ⟨Nat.le_refl _⟩, ⟨by exact Kd.R_v HO154.out⟩, ⟨by exact bv HB.out⟩⟩
  case round =>
   clear H'; (try clear c3b0); (try clear c3b1); (try clear c4b0); (try clear c4b1); obtain ⟨x5_1, x13_1, rfl, HA, HK1, HO_5, HB⟩ := hrel
   cases gk with
   | zero => exact absurd HA.out (by simp [impl_joinInts.l0])
   | succ k1 =>
    have H := HA.out; clear HA; simp only [impl_joinInts.l0] at H
    by_cases c7 : x13_1 < (l0.length : Int)
    ·rw [if_pos c7] at H; have c7b0 : decide (x13_1 < (l0.length : Int)) = true := decide_eq_true c7; clear c7
     obtain ⟨c8, H⟩ := ifp_ H; have c8b0 : decide (0 ≤ x13_1) = true := decide_eq_true c8; clear c8
     obtain ⟨c9, H⟩ := ifp_ H; have c9b0 : decide (x13_1 < (l0.length : Int)) = true := decide_eq_true c9; clear c9; obtain ⟨t156, A10, H⟩ := bnd_ H
     obtain ⟨c11, H⟩ := ifp_ H; have c11b0 : decide (x13_1 < (x5_1.length : Int)) = true := decide_eq_true c11; clear c11; obtain ⟨y157, hy157⟩ : ∃ y_ : List ByteArray, y_ = (x5_1.set (x13_1 : Int).toNat t156) := ⟨_, rfl⟩; (replace H : (impl_joinInts.l0 k1 a1 y157 l0 (l0.length : Int) (wrap64 (x13_1 + 1))) = some r := by first | (rw [hy157]; with_reducible exact H) | (have H2_ := (Option.bind_some _ _).symm.trans H; rw [hy157]; with_reducible exact H2_) | (have H2_ := (Option.bind_some _ _).symm.trans H; with_reducible exact H2_) | with_reducible exact H | (rw [hy157]; exact H) | exact H); have Ny157 := q_ hy157; clear hy157; have H' := q_ H; clear H; have p155 : 0 ≤ (x13_1 : Int) := od; have q155 : x13_1 < (l0.length : Int) := od; obtain ⟨ad155, e155, hx155_0⟩ := Kd.at_int HR0.out x13_1 p155 q155
     cases e155
     replace hx155_0 := cb_ HB.out hx155_0; replace p155 := eq_true p155; replace q155 := eq_true q155; go_wp2_with (first | (refine goesM (some 21) rfl rfl Tryd.func27 #[.int .i64 (rd l0 x13_1)] rfl ?_; (with_reducible refine (strconv_Itoa_27.calls (rd l0 x13_1) t156 _ A10.out).mono ?_); rintro e w' ⟨rfl, ⟨nd, rfl⟩⟩; refine ⟨_, rfl, ?_⟩; (try (rw [drewN_self wr]; generalize hq_ : World.drewN wr _ = wr; have n0_ : Aside0 (Kd.R Kd.string 9 wr w.heap.size (fun _ => True) v153 x5_1) := ⟨by rw [← hq_]; exact (by exact Kd.R_v HO_5.out)⟩; have n1_ : Aside0 (Below w.heap.size w wr) := ⟨by rw [← hq_]; exact (by exact bv HB.out)⟩; clear HO_5 HB hq_; have HO_5 := n0_; have HB := n1_; clear n0_ n1_)); have p12 : 0 ≤ (x13_1 : Int) := od; have q12 : (x13_1 : Int) < ((x5_1.length : Int) : Int) := od; obtain ⟨go12, co12, eo12, gb12, gl12, cl12, HG12⟩ := Kd.R_form HO_5.out (by omega); (first | cases eo12 | (injection eo12 with ea_ en_ ec_; (first | subst ea_ | (injection ea_ with ea_; subst ea_)); subst ec_; clear en_)); have GB12 := q_ gb12; have GG12 := q_ HG12; clear gb12 gl12 HG12; obtain ⟨hx12_0, hf12_0⟩ := Kd.R_celln (⟨#[]⟩ : ByteArray) HO_5.out (x13_1 : Int) p12 q12; replace p12 := eq_true p12; replace q12 := eq_true q12; obtain ⟨hy13_, hz13_⟩ := Kd.R_celln (⟨#[]⟩ : ByteArray) HO_5.out (x13_1 : Int) (od) (od); have HP13 := Kd.R_putg HO_5.out (x13_1 : Int) t156) | ((with_reducible refine gate_store (t := 9) (p := 22) rfl ?_); refine store_event (t := 9) (p := 22) (v := ?vo_w14) (w1 := (wr.setCell ⟨go12, (x13_1 : Int).toNat, none⟩ (.string t156))) ?hg ?ho ?hn ?hr ?_; (case ho => rfl); (case hg => rfl); (case hn => rfl); (case hr => first | (go_simp; done) | (go_simp; rfl)); intro w14 hw; have hg : wr.grownBy w14 (some go12) := (by rw [hw]; exact HP13.2); have hp_ : Kd.R Kd.string 9 w14 w.heap.size (fun _ => True) (.slice (some ⟨go12, 0, none⟩) x5_1.length co12) y157 := (by rw [hw, Ny157.out]; exact HP13.1); clear HP13; replace HO_5 := q_ (hp_); replace HB := q_ ((by rw [hw]; exact below_set (HB.out) GB12.out : Below w.heap.size w w14)); clear hg hw hp_)); go_roundg k1
     case measure => have := HK1.out; omega
     case rel => exact ⟨(y157), (wrap64 (x13_1 + 1)), eqv, H', ⟨by have := HK1.out; omega⟩, ⟨by exact Kd.R_v HO_5.out⟩, ⟨by exact bv HB.out⟩⟩
    ·rw [if_neg c7] at H; have c7b0 : decide (x13_1 < (l0.length : Int)) = false := decide_eq_false c7; clear c7; obtain ⟨t158, A15, H⟩ := bnd_ H; obtain rfl := Option.some.inj H; obtain ⟨Ao16, co16, eo16⟩ := Kd.R_slice HO_5.out; subst eo16; go_wp2_with (first | (refine goesM (some 26) rfl rfl Tryd.func28 #[.slice Ao16 x5_1.length co16, .string a1] rfl ?_; (with_reducible refine (strings_Join.calls _ _ x5_1 a1 t158 _ ?side1 ?side2 ?side3 A15.out).mono ?_); (case side3 => exact fun h_ => by obtain ⟨g_, c_, e_, _, hl_, _⟩ := Kd.R_form HO_5.out h_; injection e_ with e1_ _ _; exact ⟨g_, e1_, hl_⟩); (case side1 => exact Kd.C_v ((Kd.R_reads' HO_5.out).2.2)); (case side2 => exact (Kd.R_reads' HO_5.out).2.1); rintro e w17 ⟨rfl, hb⟩; refine ⟨_, rfl, ?_⟩; replace HO_5 := q_ (Kd.R_below (by exact Kd.R_v HO_5.out) hb); replace HB := q_ (below_step (by exact bv HB.out) hb); (try clear hb); (try clear hb2); (try clear hk); (try clear hi))); go_ret; exact fin_ (by exact bv HB.out)

/-! ### impl_MarkText: function 7 -/
def impl_MarkText.f (k : Nat) (a0 : Int) (l1 : List Int) : Option (ByteArray × Bool) := (impl_areMarks.f k a0 (([l1] : List (List Int)))).bind fun t162 => (if t162 = true then ((impl_joinInts.f k l1 (⟨#[32]⟩ : ByteArray)).bind fun t163 => (some (t163, true))) else (some ((⟨#[]⟩ : ByteArray), false)))
set_option maxHeartbeats 8000000 in
set_option maxRecDepth 100000 in
theorem impl_MarkText.calls (k : Nat) (a0 : Int) (P1_ : Nat → Prop) (A1 : Option Addr) (c1 : Nat) (l1 : List Int) (r1 : ByteArray) (r2 : Bool) (w : World) (hs1 : Kd.V (Kd.int .i64) 3 w w.heap.size (fun k_ => P1_ k_) (.slice A1 l1.length c1) l1) (h : impl_MarkText.f k a0 l1 = some (r1, r2)) :
    Calls Tryd.prog 7 #[.int .i64 a0, .slice A1 l1.length c1] w fun e w' => e = .returned (.tuple #[.string r1, .bool r2]) ∧ Below w.heap.size w w' := by
  have HO1 := q_ (show Kd.V (Kd.int .i64) 3 w w.heap.size (fun k_ => (P1_ k_ ∨ w.heap.size ≤ k_)) (.slice A1 l1.length c1) l1 from Kd.V_mono hs1 (fun k_ hk => .inl hk)); have HB := q_ (Below.refl w.heap.size w); have H : ((impl_areMarks.f k a0 (([l1] : List (List Int)))).bind fun t162 => (if t162 = true then ((impl_joinInts.f k l1 (⟨#[32]⟩ : ByteArray)).bind fun t163 => (some (t163, true))) else (some ((⟨#[]⟩ : ByteArray), false)))) = some (r1, r2) := h; clear h; obtain ⟨y159, hy159⟩ : ∃ y_ : List (List Int), y_ = (([l1] : List (List Int))) := ⟨_, rfl⟩; (replace H : ((impl_areMarks.f k a0 y159).bind fun t162 => (if t162 = true then ((impl_joinInts.f k l1 (⟨#[32]⟩ : ByteArray)).bind fun t163 => (some (t163, true))) else (some ((⟨#[]⟩ : ByteArray), false)))) = some (r1, r2) := by first | (rw [hy159]; with_reducible exact H) | (have H2_ := (Option.bind_some _ _).symm.trans H; rw [hy159]; with_reducible exact H2_) | (have H2_ := (Option.bind_some _ _).symm.trans H; with_reducible exact H2_) | with_reducible exact H | (rw [hy159]; exact H) | exact H); have Ny159 := q_ hy159; clear hy159; obtain ⟨t162, A3, H⟩ := bnd_ H; have HC4 := q_ H; clear H; go_enter Tryd.func7, Tryd.ntmps7
  go_upto_if 10 with (first | ((with_reducible refine gate_dst (N := 8) rfl ?_); refine Kd.N_lit (Kd.slice 3 (Kd.int .i64)) _ 22 ?hg (N' := 8) ?hd (xs := ([l1] : List (List Int))) (inner := [.slice A1 l1.length c1]) (ok := (fun k_ => (P1_ k_ ∨ w.heap.size ≤ k_))) (okp := (fun k_ => (P1_ k_ ∨ w.heap.size ≤ k_))) ?hr ?hp (fun _ hk => hk) ((show ∀ k_, w.heap.size ≤ k_ → (fun k_ => (P1_ k_ ∨ w.heap.size ≤ k_)) k_ from fun k_ hk => (.inr (Nat.le_trans (below_size (by exact bv HB.out)) hk))) _ (Nat.le_refl _)) (Below.refl _ _) (Nat.le_refl _) (by simp) ?_; (case hd => rfl); (case hg => rfl); (case hr => first | (go_simp; done) | (go_simp; rfl)); (case hp => exact (Reps.one (show Kd.FK (Kd.slice 3 (Kd.int .i64)) _ _ l1 [.slice A1 l1.length c1] from (Kd.FK_slice_mk (Kd.V_reads' (Kd.V_mono (ok' := (fun k_ => (P1_ k_ ∨ w.heap.size ≤ k_))) (HO1.out) (fun k_ hk => hk))).2.1 (Kd.V_F (Kd.V_mono (ok' := (fun k_ => (P1_ k_ ∨ w.heap.size ≤ k_))) (Kd.V_v (HO1.out)) (fun k_ hk => hk))))) (Reps.none _ _))); intro v160 w5 ho6 hb hg_ hnew_; clear hg_ hnew_; (first | rw [← Ny159.out] at ho6 | (simp only [Int.reduceToNat] at ho6; rw [← Ny159.out] at ho6)); have HO161 := q_ (Kd.N_lower ho6 (below_size (by exact bv HB.out))); replace HO1 := q_ (Kd.V_elder' (by exact Kd.V_v HO1.out) (Kd.N_base ho6) hb); replace HB := q_ (below_step (by exact bv HB.out) hb); clear hb ho6; obtain ⟨Ao7, co7, eo7⟩ := Kd.N_slice HO161.out; subst eo7) | (refine goesM (some 9) rfl rfl Tryd.func15 #[.int .i64 a0, .slice Ao7 y159.length co7] rfl ?_; (with_reducible refine (impl_areMarks.calls k a0 _ _ y159 t162 _ ?side1 ?side2 A3.out).mono ?_); (case side1 => exact Kd.C_v ((Kd.N_reads' HO161.out).2.2)); (case side2 => exact (Kd.N_reads' HO161.out).2.1); rintro e w8 ⟨rfl, hb⟩; refine ⟨_, rfl, ?_⟩; replace HO1 := q_ (Kd.V_below (by exact Kd.V_v HO1.out) hb); replace HO161 := q_ (Kd.N_below (by exact Kd.N_v HO161.out) hb); replace HB := q_ (below_step (by exact bv HB.out) hb); (try clear hb); (try clear hb2); (try clear hk); (try clear hi)))
  (try simp only [Act.put, List.setIfInBounds_toArray, List.set_cons_zero, List.set_cons_succ]); have H := HC4.out; clear HC4
  by_cases c9 : t162 = true
  ·subst c9; replace H := itt_ H; obtain ⟨t163, A10, H⟩ := bnd_ H; simp only [Option.some.injEq, Prod.mk.injEq] at H; obtain ⟨rfl, rfl⟩ := H; go_wp2_with (first | (refine goesM (some 12) rfl rfl Tryd.func16 #[.slice A1 l1.length c1, .string (⟨#[32]⟩ : ByteArray)] rfl ?_; (with_reducible refine (impl_joinInts.calls k _ _ l1 (⟨#[32]⟩ : ByteArray) t163 _ ?side1 ?side2 A10.out).mono ?_); (case side1 => exact Kd.C_v ((Kd.V_reads' HO1.out).2.2)); (case side2 => exact (Kd.V_reads' HO1.out).2.1); rintro e w11 ⟨rfl, hb⟩; refine ⟨_, rfl, ?_⟩; replace HO1 := q_ (Kd.V_below (by exact Kd.V_v HO1.out) hb); replace HO161 := q_ (Kd.N_below (by exact Kd.N_v HO161.out) hb); replace HB := q_ (below_step (by exact bv HB.out) hb); (try clear hb); (try clear hb2); (try clear hk); (try clear hi)))
   go_ret2
   exact fin_ (by exact bv HB.out)
  ·replace c9 := Bool.eq_false_iff.mpr c9; subst c9; replace H := iff_ H; simp only [Option.some.injEq, Prod.mk.injEq] at H; obtain ⟨rfl, rfl⟩ := H; go_wp2
   go_ret2
   exact fin_ (by exact bv HB.out)

/-! ### laws_FnExactMarkText: function 3 -/
def laws_FnExactMarkText.f (k : Nat) (a0 : Int) (l1 : List Int) : Option (Bool) := if (l1.length : Int) > 1048576 then (some true) else ((laws_toIntS.f k l1).bind fun t166 => ((spec_MarkText.f k a0 t166).bind fun bt169 => ((laws_toIntS.f k l1).bind fun t171 => ((impl_MarkText.f k a0 t171).bind fun bt174 => (if bt174.1.toList = bt169.1.toList then (if (bt174.2 != bt169.2) = true then (none) else ((laws_toIntS.f k l1).bind fun t176 => ((laws_eqIntS.f k t171 t176).bind fun t179 => (if t179 = true then (some true) else (none))))) else (none))))))
set_option maxHeartbeats 8000000 in
set_option maxRecDepth 100000 in
theorem laws_FnExactMarkText.calls (k : Nat) (a0 : Int) (A1 : Option Addr) (c1 : Nat) (l1 : List Int) (r : Bool) (w : World) (hr1 : Kd.C (Kd.int .i64) w A1 l1.length l1) (hc1 : l1.length ≤ c1) (h : laws_FnExactMarkText.f k a0 l1 = some r) :
    Calls Tryd.prog 3 #[.int .i64 a0, .slice A1 l1.length c1] w fun e w' => e = .returned (.bool r) ∧ Below w.heap.size w w' := by
  have HR1 := q_ hr1; have HC1 := q_ hc1; clear hr1 hc1; have HB := q_ (Below.refl w.heap.size w); have H : (if (l1.length : Int) > 1048576 then (some true) else ((laws_toIntS.f k l1).bind fun t166 => ((spec_MarkText.f k a0 t166).bind fun bt169 => ((laws_toIntS.f k l1).bind fun t171 => ((impl_MarkText.f k a0 t171).bind fun bt174 => (if bt174.1.toList = bt169.1.toList then (if (bt174.2 != bt169.2) = true then (none) else ((laws_toIntS.f k l1).bind fun t176 => ((laws_eqIntS.f k t171 t176).bind fun t179 => (if t179 = true then (some true) else (none))))) else (none))))))) = some r := h; clear h
  by_cases c3 : (l1.length : Int) > 1048576
  ·rw [if_pos c3] at H; have c3b0 : decide (1048576 < (l1.length : Int)) = true := decide_eq_true c3; have c3b1 : decide (1048576 < l1.length) = true := decide_eq_true (by omega); clear c3; obtain rfl := Option.some.inj H; go_enter Tryd.func3, Tryd.ntmps3; go_wp2; go_ret; exact fin_ (by exact bv HB.out)
  ·rw [if_neg c3] at H; have c3b0 : decide (1048576 < (l1.length : Int)) = false := decide_eq_false c3; have c3b1 : decide (1048576 < l1.length) = false := decide_eq_false (by omega); clear c3; obtain ⟨t166, A4, H⟩ := bnd_ H; replace H := Option.bind_eq_some_iff.mp H; obtain ⟨⟨t169, t170⟩, A50, H⟩ := H; replace H : ((laws_toIntS.f k l1).bind fun t171 => ((impl_MarkText.f k a0 t171).bind fun bt174 => (if bt174.1.toList = t169.toList then (if (bt174.2 != t170) = true then (none) else ((laws_toIntS.f k l1).bind fun t176 => ((laws_eqIntS.f k t171 t176).bind fun t179 => (if t179 = true then (some true) else (none))))) else (none)))) = some r := H; have A5 := q_ A50; clear A50; obtain ⟨t171, A6, H⟩ := bnd_ H; replace H := Option.bind_eq_some_iff.mp H; obtain ⟨⟨t174, t175⟩, A70, H⟩ := H; replace H : (if t174.toList = t169.toList then (if (t175 != t170) = true then (none) else ((laws_toIntS.f k l1).bind fun t176 => ((laws_eqIntS.f k t171 t176).bind fun t179 => (if t179 = true then (some true) else (none))))) else (none)) = some r := H; have A7 := q_ A70; clear A70
   obtain ⟨c8, H⟩ := ifp_ H; have c8b0 : (t174.toList == t169.toList) = true := beq_iff_eq.mpr c8; have c8b1 : (t174.toList != t169.toList) = false := bne_eq_false_iff_eq.mpr c8; clear c8
   obtain ⟨c9, H⟩ := ifn_ H; (have c9b0 : (t175 != t170) = false := by simpa using c9); (try (have c9b1 : decide (t175 = t170) = true := by simpa using c9)); (try (have c9b2 : (t175 == t170) = true := by simpa using c9)); clear c9; obtain ⟨t176, A10, H⟩ := bnd_ H; obtain ⟨t179, A11, H⟩ := bnd_ H
   by_cases c12 : t179 = true
   case neg => (replace c12 := Bool.eq_false_iff.mpr c12); subst c12; rw [if_neg (show ¬ (false = true) by decide)] at H; exact absurd H (by simp)
   subst c12; replace H := itt_ H; obtain rfl := Option.some.inj H; go_enter Tryd.func3, Tryd.ntmps3; go_wp2_with (first | (refine goesM (some 16) rfl rfl Tryd.func6 #[.slice A1 l1.length c1] rfl ?_; (with_reducible refine (laws_toIntS.calls k _ _ l1 t166 _ ?side1 ?side2 A4.out).mono ?_); (case side1 => exact Kd.C_v HR1.out); (case side2 => exact HC1.out); rintro e w13 ⟨v167, rfl, ho0, hb⟩; refine ⟨_, rfl, ?_⟩; have HO168 := q_ (Kd.R_lower (Kd.R_iv (lo := w.heap.size) ho0 (Nat.le_refl _)) (below_size (by exact bv HB.out))); have HZw13 := q_ ((hz_ hb : w.heap.size ≤ w13.heap.size)); replace HB := q_ (below_step (by exact bv HB.out) hb); (try clear hb); (try clear hb2); (try clear hk); (try clear hi); (try clear ho0); obtain ⟨Ao14, co14, eo14⟩ := Kd.R_slice HO168.out; subst eo14) | (refine goesM (some 17) rfl rfl Tryd.func5 #[.int .i64 a0, .slice Ao14 t166.length co14] rfl ?_; (with_reducible refine (spec_MarkText.calls k a0 _ _ t166 t169 t170 _ ?side1 ?side2 A5.out).mono ?_); (case side1 => exact Kd.C_v ((Kd.R_reads' HO168.out).2.2)); (case side2 => exact (Kd.R_reads' HO168.out).2.1); rintro e w15 ⟨rfl, hb⟩; refine ⟨_, rfl, ?_⟩; have HZw15 := q_ ((hz_ hb : w13.heap.size ≤ w15.heap.size)); replace HO168 := q_ (Kd.R_below (by exact Kd.R_v HO168.out) hb); replace HB := q_ (below_step (by exact bv HB.out) hb); (try clear hb); (try clear hb2); (try clear hk); (try clear hi); clear HO168) | (refine goesM (some 21) rfl rfl Tryd.func6 #[.slice A1 l1.length c1] rfl ?_; (with_reducible refine (laws_toIntS.calls k _ _ l1 t171 _ ?side1 ?side2 A6.out).mono ?_); (case side1 => exact Kd.C_v ((Kd.C_below HR1.out HB.out))); (case side2 => exact HC1.out); rintro e w16 ⟨v172, rfl, ho0, hb⟩; refine ⟨_, rfl, ?_⟩; have HO173 := q_ (Kd.R_lower (Kd.R_iv (lo := w15.heap.size) ho0 (Nat.le_refl _)) (below_size (by exact bv HB.out))); have HZw16 := q_ ((hz_ hb : w15.heap.size ≤ w16.heap.size)); replace HB := q_ (below_step (by exact bv HB.out) hb); (try clear hb); (try clear hb2); (try clear hk); (try clear hi); (try clear ho0); obtain ⟨Ao17, co17, eo17⟩ := Kd.R_slice HO173.out; subst eo17) | (refine goesM (some 25) rfl rfl Tryd.func7 #[.int .i64 a0, .slice Ao17 t171.length co17] rfl ?_; (with_reducible refine (impl_MarkText.calls k a0 (fun k_ => some k_ = (.slice Ao17 t171.length co17 : Value).ownBlock) _ _ t171 t174 t175 _ ?side1 A7.out).mono ?_); (case side1 => exact Kd.R_V (Kd.R_tight rfl (HO173.out))); rintro e w18 ⟨rfl, hb⟩; refine ⟨_, rfl, ?_⟩; have HZw18 := q_ ((hz_ hb : w16.heap.size ≤ w18.heap.size)); replace HO173 := q_ (Kd.R_below (by exact Kd.R_v HO173.out) hb); replace HB := q_ (below_step (by exact bv HB.out) hb); (try clear hb); (try clear hb2); (try clear hk); (try clear hi)) | (refine goesM (some 38) rfl rfl Tryd.func6 #[.slice A1 l1.length c1] rfl ?_; (with_reducible refine (laws_toIntS.calls k _ _ l1 t176 _ ?side1 ?side2 A10.out).mono ?_); (case side1 => exact Kd.C_v ((Kd.C_below HR1.out HB.out))); (case side2 => exact HC1.out); rintro e w19 ⟨v177, rfl, ho0, hb⟩; refine ⟨_, rfl, ?_⟩; have HO178 := q_ (Kd.R_lower (Kd.R_new' (Kd.R_iv (lo := w18.heap.size) ho0 (Nat.le_refl _)) (Kd.R_lt (by exact Kd.R_v HO173.out))) (below_size (by exact bv HB.out))); have HZw19 := q_ ((hz_ hb : w18.heap.size ≤ w19.heap.size)); replace HO173 := q_ (Kd.R_elder' (by exact Kd.R_v HO173.out) (Kd.R_base ho0) hb); replace HB := q_ (below_step (by exact bv HB.out) hb); (try clear hb); (try clear hb2); (try clear hk); (try clear hi); (try clear ho0); obtain ⟨Ao20, co20, eo20⟩ := Kd.R_slice HO178.out; subst eo20) | (refine goesM (some 39) rfl rfl Tryd.func8 #[.slice Ao17 t171.length co17, .slice Ao20 t176.length co20] rfl ?_; (with_reducible refine (laws_eqIntS.calls k _ _ t171 _ _ t176 true _ ?side1 ?side2 ?side3 ?side4 A11.out).mono ?_); (case side1 => exact Kd.C_v ((Kd.R_reads' HO173.out).2.2)); (case side2 => exact (Kd.R_reads' HO173.out).2.1); (case side3 => exact Kd.C_v ((Kd.R_reads' HO178.out).2.2)); (case side4 => exact (Kd.R_reads' HO178.out).2.1); rintro e w' ⟨rfl, ⟨nd, rfl⟩⟩; refine ⟨_, rfl, ?_⟩)); go_ret; exact fin_ (by exact bv HB.out)

/-- THE ONE PURE STATEMENT of laws_FnExactMarkText: yours. -/
def laws_FnExactMarkText.Pure : Prop := ∀ (a0 : Int) (l1 : List Int), (Lit.int .i64 a0).wf = true → l1.length ≤ maxLen → l1.length * 8 ≤ 140737488351232 → (∀ x ∈ l1, (Lit.int .i64 x).wf = true) → ∃ k, laws_FnExactMarkText.f k a0 l1 = some true
theorem laws_FnExactMarkText.walk (P : laws_FnExactMarkText.Pure) (a0 : Int) (a1 : Option Addr) (len1 cap1 : Nat) (z1 : List Int) (w : World) (w0 : (Lit.int .i64 a0).wf = true) (w1 : (a1 = none ∧ len1 = 0 ∧ cap1 = 0 ∧ z1 = []) ∨ ∃ x, a1 = some x ∧ len1 ≤ cap1 ∧ cap1 ≤ maxLen ∧ z1.length = cap1 ∧ (∀ i, i < z1.length → w.cell? (x.add i) = some (.int .i64 (z1.getD i 0))) ∧ ∀ n ∈ z1, (Lit.int .i64 n).wf = true) (y1 : len1 * 8 ≤ 140737488351232) :
   Calls Tryd.prog 3 #[.int .i64 a0, .slice a1 len1 cap1] w fun e w' => e = .returned (.bool true) ∧ Below w.heap.size w w' := by
  obtain ⟨l1, rfl, hr1, hm1, hw1, hc1⟩ := ReadsInt.ofRowC w1; obtain ⟨k, h⟩ := P a0 l1 w0 hm1 y1 hw1; refine (laws_FnExactMarkText.calls k a0 _ _ l1 true w (Kd.C_of_reads (d := (0 : Int)) (h1 := fun _ => rfl) hr1) hc1 h).mono ?_; rintro e w' ⟨rfl, hd⟩; exact ⟨rfl, hd⟩

end Go.Proofs.YtbkjgnfnjgebiaaDoor.F
