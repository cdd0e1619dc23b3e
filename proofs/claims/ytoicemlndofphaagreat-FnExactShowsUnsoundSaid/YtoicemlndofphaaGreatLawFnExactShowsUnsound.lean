-- Written by a program of this session (fork.py, fprint.sh). Lean checks it.
import Derived.Test.YtoicemlndofphaaGreatRows
import Derived.Test.YtoicemlndofphaaGreatF0
import Derived.Test.YtoicemlndofphaaGreatF9
import Derived.Test.YtoicemlndofphaaGreatPureFnExactShowsUnsound
import Derived.WalkKit
import Derived.ProofKit
import Derived.OpenShut
import Derived.ShutString
import Derived.ChangeOld
import Derived.Below
import Derived.SizedLaws
import Derived.WideShapes
namespace Go.Proofs.YtoicemlndofphaaGreat.fnExactShowsUnsound
open Go.ChangeShapes Go.WideShapes Go.ChangeAt Go.RowKit Go.Proofs.YtoicemlndofphaaGreatW.PrintWords
open Go.ChangeMaps (open_string shut_string)
set_option linter.unusedVariables false
theorem own : ownKnob Tryz.prog.godebug = none := by kernel_rfl
theorem laidOut : laidOutB Tryz.prog = true := by kernel_rfl
set_option maxRecDepth 100000 in
theorem lifted (os : Os) (started : os.Started) (H : Type) (enc : TypeId × Value → H) :
    ReturnsInHanded {} Tryz.checked os 4 .any (Rows.fnExactShowsUnsoundSpec.pre6 enc Tryz.prog Tryz.f4 Rows.fnExactShowsUnsoundRow.domain false) (Rows.fnExactShowsUnsoundSpec.post enc Tryz.prog Tryz.f4 false true false false) := by
  refine returnsInHanded_of_change_sized (C := Tryz.checked) own started (by kernel_rfl) Tryz.func4
    (ChangeSpec.witness6 (enc := enc) (C := Tryz.checked) false ⟨#[], #[.agg #[.int .i64 0, .slice none 0 0, .int .i64 0, .int .i64 0], .agg #[.int .i64 0, .int .i64 0, .slice none 0 0, .int .i64 0], .int .i64 0], []⟩ 8 (by kernel_rfl) (by kernel_rfl) (by kernel_rfl) (by kernel_rfl)) ?_
  intro W base args ds gs before hval0 hW hcnd hsz0 _
  have hval : ∀ (j : Nat) t v, Tryz.f4.params[j]? = some t → args[j]? = some v → Value.okWide Tryz.prog W .any base t v := hval0
  have hW' := hW
  obtain ⟨p, q, hA0, hV, rfl, hfz, hnd⟩ := hW
  have hA : DataW.TrodAll enc Tryz.prog W 0 (fun _ => true) true Tryz.f4.params.toList args.toList ds p := hA0
  rw [Tryz.params4] at hA hval
  obtain ⟨v0, vs0, d0, ds0, p0, q0, hargs, rfl, rfl, h0, r0⟩ := trodAll_cons hA
  obtain ⟨v1, vs1, d1, ds1, p1, q1, rfl, rfl, rfl, h1, r1⟩ := trodAll_cons r0
  obtain ⟨v2, vs2, d2, ds2, p2, q2, rfl, rfl, rfl, h2, r2⟩ := trodAll_cons r1
  obtain ⟨rfl, rfl, rfl⟩ := trodAll_nil r2
  obtain rfl : args = #[v0, v1, v2] := by cases args; simp_all
  obtain ⟨rfl, rfl⟩ := trodVars_none hV
  obtain ⟨cs0, rfl, hsz0⟩ := okWide_struct Tryz.underlying26 (hval 0 26 v0 rfl rfl)
  have k0 := h0
  have lt0 : ∀ x ∈ p0, x.block < W.heap.size := by obtain ⟨m, hm⟩ := k0; exact DataW.trod_lt m _ _ _ hm
  obtain ⟨x0, hK0, hG0⟩ : ∃ x, Go.Proofs.YtoicemlndofphaaGreat.F.k26.K W x cs0.toList ∧ ((((Lit.int .i64 x.f0.f0).wf = true ∧ (x.f0.f1.length ≤ maxLen ∧ ∀ e23_ ∈ x.f0.f1, ((e23_.f0.length ≤ maxLen ∧ ∀ e24_ ∈ e23_.f0, (Lit.int .i64 e24_).wf = true) ∧ (e23_.f1.length ≤ maxLen ∧ ∀ e25_ ∈ e23_.f1, (Lit.int .i64 e25_).wf = true) ∧ (e23_.f2.length ≤ maxLen ∧ ∀ e26_ ∈ e23_.f2, (Lit.int .i64 e26_).wf = true)))) ∧ (Lit.int .i64 x.f1).wf = true ∧ (Lit.int .i64 x.f2).wf = true)) := by
    obtain ⟨fuel, hf⟩ := h0
    exact Go.Proofs.YtoicemlndofphaaGreat.F.opens26 hf
  obtain ⟨A0_1, c0_1, hcs0, hl0_1, hC0_1⟩ := Go.Proofs.YtoicemlndofphaaGreat.F.k26_open hK0
  obtain rfl : cs0 = #[.int .i64 x0.f0.f0, .slice A0_1 x0.f0.f1.length c0_1, .int .i64 x0.f1, .int .i64 x0.f2] := Array.toList_inj.1 hcs0
  obtain ⟨cs1, rfl, hsz1⟩ := okWide_struct Tryz.underlying46 (hval 1 46 v1 rfl rfl)
  have k1 := h1
  have lt1 : ∀ x ∈ p1, x.block < W.heap.size := by obtain ⟨m, hm⟩ := k1; exact DataW.trod_lt m _ _ _ hm
  obtain ⟨x1, hK1, hG1⟩ : ∃ x, Go.Proofs.YtoicemlndofphaaGreat.F.k46.K W x cs1.toList ∧ (((Lit.int .i64 x.f0).wf = true ∧ (Lit.int .i64 x.f1).wf = true ∧ (x.f2.length ≤ maxLen ∧ ∀ e27_ ∈ x.f2, (Lit.int .i64 e27_).wf = true) ∧ (Lit.int .i64 x.f3).wf = true)) := by
    obtain ⟨fuel, hf⟩ := h1
    exact Go.Proofs.YtoicemlndofphaaGreat.F.opens46 hf
  obtain ⟨A1_2, c1_2, hcs1, hl1_2, hC1_2⟩ := Go.Proofs.YtoicemlndofphaaGreat.F.k46_open hK1
  obtain rfl : cs1 = #[.int .i64 x1.f0, .int .i64 x1.f1, .slice A1_2 x1.f2.length c1_2, .int .i64 x1.f3] := Array.toList_inj.1 hcs1
  obtain ⟨a2, rfl, rfl, rfl, w2⟩ := open_int Tryz.underlying3 (hval 2 3 v2 rfl rfl) h2
  clear hA0 hval0 hsz0
  refine (F.laws_FnExactShowsUnsound.walk Pure.FnExactShowsUnsound x0.f0.f0 A0_1 c0_1 x0.f0.f1 x0.f1 x0.f2 x1.f0 x1.f1 A1_2 c1_2 x1.f2 x1.f3 a2 W hC0_1 hl0_1 hC1_2 hl1_2 (by have h_ := hG0; simp only [and_assoc] at h_ ⊢; exact h_) hG1 w2).mono fun e W' ⟨he, bel⟩ => ?_
  subst he
  exact ⟨_, rfl, _, _, _, [], _, [], hW', trodAll_mk1 (shut_bool Tryz.underlying4 _), (trodAll_cons_mk (Below.trod laidOut (by kernel_rfl) (of_decide_eq_true (by kernel_rfl)) k0 bel lt0) (trodAll_cons_mk (Below.trod laidOut (by kernel_rfl) (of_decide_eq_true (by kernel_rfl)) k1 bel lt1) (trodAll_cons_mk (shut_int Tryz.underlying3 w2) trodAll_mk0))), rfl, bel.frame _, fun h => by cases h⟩
theorem over : Rows.fnExactShowsUnsoundRow.holds Tryz.pinned (OpenSpec.ofChange Rows.fnExactShowsUnsoundSpec) :=
  OpenClaim.holds_of_wide 4 Tryz.f4 rfl rfl rfl rfl rfl rfl rfl ⟨rfl, rfl, rfl, rfl, rfl⟩ rfl rfl rfl rfl rfl (by kernel_rfl) Tryz.func4 (by kernel_rfl)
    (of_decide_eq_true (by kernel_rfl)) (by unfold Func.isWrapper; first | (rw [if_pos (by decide +kernel)]; kernel_rfl) | (rw [if_neg (by decide +kernel)]; exact ⟨rfl, rfl⟩))
    (fun os started H enc _ => lifted os started H enc)
theorem proved : Rows.FnExactShowsUnsoundSaid := over
#print axioms proved
end Go.Proofs.YtoicemlndofphaaGreat.fnExactShowsUnsound
namespace Go.Proofs.YtoicemlndofphaaGreat
/-- The row, under a short name, for the claim. -/
theorem fnExactShowsUnsound_holds : Rows.FnExactShowsUnsoundSaid := fnExactShowsUnsound.proved
end Go.Proofs.YtoicemlndofphaaGreat
