-- Written by a program of this session (fork.py, fprint.sh). Lean checks it.
import Derived.Test.YtiglhdibibbkjaaF0
import Derived.Test.YtiglhdibibbkjaaF1
import Derived.Test.YtiglhdibibbkjaaF2
namespace Go.Proofs.Ytiglhdibibbkjaa.F
open Go.RowKit Go.Proofs.YtiglhdibibbkjaaW.PrintWords Go.Proofs.YtiglhdibibbkjaaW.PrintLast Go.Proofs.YtiglhdibibbkjaaW.PrintMore
attribute [local go_sem] max2_int min2_int max_two min_two max_three min_three max_four min_four   -- for this text's walks alone
set_option linter.unusedVariables false
set_option linter.unusedSimpArgs false

/-! ### spec_BackBasis: function 23 -/
def spec_BackBasis.f (k : Nat) (a0_0 : Int) (l0_1 : List (S105)) (l1 : List Int) (a2 : Int) : Option ((List (List Int)) × Bool) := (spec_l6Asked.f k a0_0 l0_1 l1 a2).bind fun t216 => (if t216 = true then ((spec_l6Basis.f k a0_0 l0_1 l1 a2).bind fun bt217 => (some (bt217.1, bt217.2.2))) else (some (([] : List (List Int)), false)))
set_option maxHeartbeats 8000000 in
set_option maxRecDepth 100000 in
theorem spec_BackBasis.calls (k : Nat) (a0_0 : Int) (A0_1 : Option Addr) (c0_1 : Nat) (l0_1 : List (S105)) (A1 : Option Addr) (c1 : Nat) (l1 : List Int) (a2 : Int) (r1 : List (List Int)) (r2 : Bool) (w : World) (hr0_1 : Kd.C k105 w A0_1 l0_1.length l0_1) (hc0_1 : l0_1.length ≤ c0_1) (hr1 : Kd.C (Kd.int .i64) w A1 l1.length l1) (hc1 : l1.length ≤ c1) (h : spec_BackBasis.f k a0_0 l0_1 l1 a2 = some (r1, r2)) :
    Calls Try.prog 23 #[.agg #[.int .i64 a0_0, .slice A0_1 l0_1.length c0_1], .slice A1 l1.length c1, .int .i64 a2] w fun e w' => ∃ v0_ : Value, e = .returned (.tuple #[v0_, .bool r2]) ∧ Kd.V (Kd.slice 3 (Kd.int .i64)) 32 w' w.heap.size (fun k_ => (w.heap.size ≤ k_)) v0_ r1 ∧ Below w.heap.size w w' := by
  have hu38 := Try.underlying38
  have HR0_1 := q_ hr0_1; have HC0_1 := q_ hc0_1; clear hr0_1 hc0_1; have HR1 := q_ hr1; have HC1 := q_ hc1; clear hr1 hc1; have HB := q_ (Below.refl w.heap.size w); have H : ((spec_l6Asked.f k a0_0 l0_1 l1 a2).bind fun t216 => (if t216 = true then ((spec_l6Basis.f k a0_0 l0_1 l1 a2).bind fun bt217 => (some (bt217.1, bt217.2.2))) else (some (([] : List (List Int)), false)))) = some (r1, r2) := h; clear h; obtain ⟨t216, A4, H⟩ := bnd_ H; have HC5 := q_ H; clear H; go_enter Try.func23, Try.ntmps23
  go_upto_if 15 with (first | (refine boxE 3 #[.int .i64 a0_0, .slice A0_1 l0_1.length c0_1] 38 ?_; intro gb215 hg w6 hbox hb; have BK215 := q_ (hbox); have GW215 := q_ (gw_ hg HB.out); have GE215 := q_ (gw_ hg HB.out); replace HB := q_ (bs HB.out hb); clear hb hbox hg; obtain ⟨hcz7_0, hcz7_1, hfz7_0, hfz7_1⟩ := cz2 BK215.out) | (refine goesM (some 14) rfl rfl Try.func57 #[.agg #[.int .i64 a0_0, .slice A0_1 l0_1.length c0_1], .slice A1 l1.length c1, .int .i64 a2] rfl ?_; (with_reducible refine (spec_l6Asked.calls k a0_0 _ _ l0_1 _ _ l1 a2 t216 _ ?side1 ?side2 ?side3 ?side4 A4.out).mono ?_); (case side1 => exact Kd.C_v ((Kd.C_below HR0_1.out HB.out))); (case side2 => exact HC0_1.out); (case side3 => exact Kd.C_v ((Kd.C_below HR1.out HB.out))); (case side4 => exact HC1.out); rintro e w8 ⟨rfl, hb⟩; refine ⟨_, rfl, ?_⟩; replace BK215 := q_ (bb BK215.out hb); replace HB := q_ (below_step (by exact bv HB.out) hb); (try clear hb); (try clear hb2); (try clear hk); (try clear hi)))
  (try simp only [Act.put, List.setIfInBounds_toArray, List.set_cons_zero, List.set_cons_succ]); have H := HC5.out; clear HC5
  by_cases c9 : t216 = true
  ·subst c9; replace H := itt_ H; replace H := Option.bind_eq_some_iff.mp H; obtain ⟨⟨t217, t220, t221⟩, A100, H⟩ := H; replace H : (some (t217, t221)) = some (r1, r2) := H; have A10 := q_ A100; clear A100; simp only [Option.some.injEq, Prod.mk.injEq] at H; obtain ⟨rfl, rfl⟩ := H; obtain ⟨hcz11_0, hcz11_1, hfz11_0, hfz11_1⟩ := cz2 BK215.out; go_wp2_with (first | (refine goesM (some 20) rfl rfl Try.func58 #[.agg #[.int .i64 a0_0, .slice A0_1 l0_1.length c0_1], .slice A1 l1.length c1, .int .i64 a2] rfl ?_; (with_reducible refine (spec_l6Basis.calls k a0_0 _ _ l0_1 _ _ l1 a2 t217 t220 t221 _ ?side1 ?side2 ?side3 ?side4 A10.out).mono ?_); (case side1 => exact Kd.C_v ((Kd.C_below HR0_1.out HB.out))); (case side2 => exact HC0_1.out); (case side3 => exact Kd.C_v ((Kd.C_below HR1.out HB.out))); (case side4 => exact HC1.out); rintro e w12 ⟨v218, rfl, ho0, hb⟩; refine ⟨_, rfl, ?_⟩; have HO219 := q_ (Kd.V_lower (Kd.V_mono (ok' := fun k_ => (w.heap.size ≤ k_) ∧ k_ ≠ gb215) ho0 (fun k_ hk_ => ⟨(Nat.le_trans (below_size (by exact bv HB.out)) hk_), (Kd.freshB (g := gb215) (o := .cells #[.int .i64 a0_0, .slice A0_1 l0_1.length c0_1] 38 (0, 0)) (by exact blk_v BK215.out) k_ hk_)⟩)) (below_size (by exact bv HB.out))); replace BK215 := q_ (bb BK215.out hb); replace HB := q_ (below_step (by exact bv HB.out) hb); (try clear hb); (try clear hb2); (try clear hk); (try clear hi); (try clear ho0)))
   go_ret2
   exact ⟨_, by first | rfl | (simp [errW_none, errW_some] <;> rfl) | (simp [*, errW_none, errW_some] <;> rfl), by exact Kd.V_v (Kd.V_mono HO219.out (fun _ hk => hk.1)), by exact bv HB.out⟩
  ·replace c9 := Bool.eq_false_iff.mpr c9; subst c9; replace H := iff_ H; simp only [Option.some.injEq, Prod.mk.injEq] at H; obtain ⟨rfl, rfl⟩ := H; go_wp2
   go_ret2
   exact ⟨_, by first | rfl | (simp [errW_none, errW_some] <;> rfl) | (simp [*, errW_none, errW_some] <;> rfl), (by exact Kd.V_nil _ _ _ _ _), by exact bv HB.out⟩

end Go.Proofs.Ytiglhdibibbkjaa.F
