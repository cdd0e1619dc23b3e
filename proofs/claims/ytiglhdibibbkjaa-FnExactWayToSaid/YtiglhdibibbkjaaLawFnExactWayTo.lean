-- Written by a program of this session (fork.py, fprint.sh). Lean checks it.
import Derived.Test.YtiglhdibibbkjaaRows
import Derived.Test.YtiglhdibibbkjaaF0
import Derived.Test.YtiglhdibibbkjaaF16
import Derived.Test.YtiglhdibibbkjaaPureFnExactWayTo
import Derived.WalkKit
import Derived.ProofKit
import Derived.OpenShut
import Derived.ShutString
import Derived.ChangeOld
import Derived.Below
import Derived.SizedLaws
import Derived.WideShapes
namespace Go.Proofs.Ytiglhdibibbkjaa.fnExactWayTo
open Go.ChangeShapes Go.WideShapes Go.ChangeAt Go.RowKit Go.Proofs.YtiglhdibibbkjaaW.PrintWords
open Go.ChangeMaps (open_string shut_string)
set_option linter.unusedVariables false
theorem own : ownKnob Try.prog.godebug = none := by kernel_rfl
theorem laidOut : laidOutB Try.prog = true := by kernel_rfl
set_option maxRecDepth 100000 in
theorem lifted (os : Os) (started : os.Started) (H : Type) (enc : TypeId × Value → H) :
    ReturnsInHanded {} Try.checked os 7 .any (Rows.fnExactWayToSpec.pre6 enc Try.prog Try.f7 Rows.fnExactWayToRow.domain false) (Rows.fnExactWayToSpec.post enc Try.prog Try.f7 false true false false) := by
  refine returnsInHanded_of_change_sized (C := Try.checked) own started (by kernel_rfl) Try.func7
    (ChangeSpec.witness6 (enc := enc) (C := Try.checked) false ⟨#[], #[.agg #[.int .i64 0, .slice none 0 0], .slice none 0 0, .int .i64 0, .slice none 0 0], []⟩ 8 (by kernel_rfl) (by kernel_rfl) (by kernel_rfl) (by kernel_rfl)) ?_
  intro W base args ds gs before hval0 hW hcnd hsz0 _
  have hval : ∀ (j : Nat) t v, Try.f7.params[j]? = some t → args[j]? = some v → Value.okWide Try.prog W .any base t v := hval0
  have hW' := hW
  obtain ⟨p, q, hA0, hV, rfl, hfz, hnd⟩ := hW
  have hA : DataW.TrodAll enc Try.prog W 0 (fun _ => true) true Try.f7.params.toList args.toList ds p := hA0
  rw [Try.params7] at hA hval
  obtain ⟨v0, vs0, d0, ds0, p0, q0, hargs, rfl, rfl, h0, r0⟩ := trodAll_cons hA
  obtain ⟨v1, vs1, d1, ds1, p1, q1, rfl, rfl, rfl, h1, r1⟩ := trodAll_cons r0
  obtain ⟨v2, vs2, d2, ds2, p2, q2, rfl, rfl, rfl, h2, r2⟩ := trodAll_cons r1
  obtain ⟨v3, vs3, d3, ds3, p3, q3, rfl, rfl, rfl, h3, r3⟩ := trodAll_cons r2
  obtain ⟨rfl, rfl, rfl⟩ := trodAll_nil r3
  obtain rfl : args = #[v0, v1, v2, v3] := by cases args; simp_all
  obtain ⟨rfl, rfl⟩ := trodVars_none hV
  obtain ⟨cs0, rfl, hsz0⟩ := okWide_struct Try.underlying31 (hval 0 31 v0 rfl rfl)
  have k0 := h0
  have lt0 : ∀ x ∈ p0, x.block < W.heap.size := by obtain ⟨m, hm⟩ := k0; exact DataW.trod_lt m _ _ _ hm
  obtain ⟨x0, hK0, hG0⟩ : ∃ x, Go.Proofs.Ytiglhdibibbkjaa.F.k31.K W x cs0.toList ∧ (((Lit.int .i64 x.f0).wf = true ∧ (x.f1.length ≤ maxLen ∧ ∀ e27_ ∈ x.f1, ((e27_.f0.length ≤ maxLen ∧ ∀ e28_ ∈ e27_.f0, (Lit.int .i64 e28_).wf = true) ∧ (e27_.f1.length ≤ maxLen ∧ ∀ e29_ ∈ e27_.f1, (Lit.int .i64 e29_).wf = true) ∧ (e27_.f2.length ≤ maxLen ∧ ∀ e30_ ∈ e27_.f2, (Lit.int .i64 e30_).wf = true))))) := by
    obtain ⟨fuel, hf⟩ := h0
    exact Go.Proofs.Ytiglhdibibbkjaa.F.opens31 hf
  obtain ⟨A0_1, c0_1, hcs0, hl0_1, hC0_1⟩ := Go.Proofs.Ytiglhdibibbkjaa.F.k31_open hK0
  obtain rfl : cs0 = #[.int .i64 x0.f0, .slice A0_1 x0.f1.length c0_1] := Array.toList_inj.1 hcs0
  obtain ⟨a1, len1, cap1, rfl⟩ := okWide_slice Try.underlying32 (hval 1 32 v1 rfl rfl)
  have k1 := h1
  have lt1 : ∀ x ∈ p1, x.block < W.heap.size := by obtain ⟨m, hm⟩ := k1; exact DataW.trod_lt m _ _ _ hm
  obtain ⟨x1, ⟨A1, c1, hcs1, hl1, hC1⟩, hG1⟩ : ∃ x, ((Kd.slice 3 (Kd.int .i64))).K W x [.slice a1 len1 cap1] ∧ (x.length ≤ maxLen ∧ ∀ e31_ ∈ x, (Lit.int .i64 e31_).wf = true) := by
    obtain ⟨fuel, hf⟩ := h1
    exact Go.Proofs.Ytiglhdibibbkjaa.F.opens32 hf
  obtain ⟨rfl, rfl, rfl⟩ : a1 = A1 ∧ len1 = x1.length ∧ cap1 = c1 := by simpa using hcs1
  obtain ⟨a2, rfl, rfl, rfl, w2⟩ := open_int Try.underlying3 (hval 2 3 v2 rfl rfl) h2
  obtain ⟨a3, len3, cap3, rfl⟩ := okWide_slice Try.underlying32 (hval 3 32 v3 rfl rfl)
  have k3 := h3
  have lt3 : ∀ x ∈ p3, x.block < W.heap.size := by obtain ⟨m, hm⟩ := k3; exact DataW.trod_lt m _ _ _ hm
  obtain ⟨x3, ⟨A3, c3, hcs3, hl3, hC3⟩, hG3⟩ : ∃ x, ((Kd.slice 3 (Kd.int .i64))).K W x [.slice a3 len3 cap3] ∧ (x.length ≤ maxLen ∧ ∀ e32_ ∈ x, (Lit.int .i64 e32_).wf = true) := by
    obtain ⟨fuel, hf⟩ := h3
    exact Go.Proofs.Ytiglhdibibbkjaa.F.opens32 hf
  obtain ⟨rfl, rfl, rfl⟩ : a3 = A3 ∧ len3 = x3.length ∧ cap3 = c3 := by simpa using hcs3
  clear hA0 hval0 hsz0
  refine (F.laws_FnExactWayTo.walk Pure.FnExactWayTo x0.f0 A0_1 c0_1 x0.f1 _ _ x1 a2 _ _ x3 W hC0_1 hl0_1 hC1 hl1 hC3 hl3 hG0 hG1 w2 hG3).mono fun e W' ⟨he, bel⟩ => ?_
  subst he
  exact ⟨_, rfl, _, _, _, [], _, [], hW', trodAll_mk1 (shut_bool Try.underlying4 _), (trodAll_cons_mk (Below.trod laidOut (by kernel_rfl) (of_decide_eq_true (by kernel_rfl)) k0 bel lt0) (trodAll_cons_mk (Below.trod laidOut (by kernel_rfl) (of_decide_eq_true (by kernel_rfl)) k1 bel lt1) (trodAll_cons_mk (shut_int Try.underlying3 w2) (trodAll_cons_mk (Below.trod laidOut (by kernel_rfl) (of_decide_eq_true (by kernel_rfl)) k3 bel lt3) trodAll_mk0)))), rfl, bel.frame _, fun h => by cases h⟩
theorem over : Rows.fnExactWayToRow.holds Try.pinned (OpenSpec.ofChange Rows.fnExactWayToSpec) :=
  OpenClaim.holds_of_wide 7 Try.f7 rfl rfl rfl rfl rfl rfl rfl ⟨rfl, rfl, rfl, rfl, rfl⟩ rfl rfl rfl rfl rfl (by kernel_rfl) Try.func7 (by kernel_rfl)
    (of_decide_eq_true (by kernel_rfl)) (by unfold Func.isWrapper; first | (rw [if_pos (by decide +kernel)]; kernel_rfl) | (rw [if_neg (by decide +kernel)]; exact ⟨rfl, rfl⟩))
    (fun os started H enc _ => lifted os started H enc)
theorem proved : Rows.FnExactWayToSaid := over
#print axioms proved
end Go.Proofs.Ytiglhdibibbkjaa.fnExactWayTo
namespace Go.Proofs.Ytiglhdibibbkjaa
/-- The row, under a short name, for the claim. -/
theorem fnExactWayTo_holds : Rows.FnExactWayToSaid := fnExactWayTo.proved
end Go.Proofs.Ytiglhdibibbkjaa
