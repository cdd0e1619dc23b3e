-- Written by a program of this session (fork.py, fprint.sh). Lean checks it.
import Derived.Test.YtffdacmdgfpnmaaRows
import Derived.Test.YtffdacmdgfpnmaaF0
import Derived.Test.YtffdacmdgfpnmaaF8
import Derived.Test.YtffdacmdgfpnmaaPureFnExactSmallInvariants
import Derived.WalkKit
import Derived.ProofKit
import Derived.OpenShut
import Derived.ShutString
import Derived.ChangeOld
import Derived.Below
import Derived.SizedLaws
import Derived.WideShapes
namespace Go.Proofs.Ytffdacmdgfpnmaa.fnExactSmallInvariants
open Go.ChangeShapes Go.WideShapes Go.ChangeAt Go.RowKit Go.Proofs.YtffdacmdgfpnmaaW.PrintWords
open Go.ChangeMaps (open_string shut_string)
set_option linter.unusedVariables false
theorem own : ownKnob Try.prog.godebug = none := by kernel_rfl
theorem laidOut : laidOutB Try.prog = true := by kernel_rfl
set_option maxRecDepth 100000 in
theorem lifted (os : Os) (started : os.Started) (H : Type) (enc : TypeId × Value → H) :
    ReturnsInHanded {} Try.checked os 14 .any (Rows.fnExactSmallInvariantsSpec.pre6 enc Try.prog Try.f14 Rows.fnExactSmallInvariantsRow.domain false) (Rows.fnExactSmallInvariantsSpec.post enc Try.prog Try.f14 false true false false) := by
  refine returnsInHanded_of_change_sized (C := Try.checked) own started (by kernel_rfl) Try.func14
    (ChangeSpec.witness6 (enc := enc) (C := Try.checked) false ⟨#[], #[.agg #[.int .i64 0, .slice none 0 0]], []⟩ 8 (by kernel_rfl) (by kernel_rfl) (by kernel_rfl) (by kernel_rfl)) ?_
  intro W base args ds gs before hval0 hW hcnd hsz0 _
  have hval : ∀ (j : Nat) t v, Try.f14.params[j]? = some t → args[j]? = some v → Value.okWide Try.prog W .any base t v := hval0
  have hW' := hW
  obtain ⟨p, q, hA0, hV, rfl, hfz, hnd⟩ := hW
  have hA : DataW.TrodAll enc Try.prog W 0 (fun _ => true) true Try.f14.params.toList args.toList ds p := hA0
  rw [Try.params14] at hA hval
  obtain ⟨v0, vs0, d0, ds0, p0, q0, hargs, rfl, rfl, h0, r0⟩ := trodAll_cons hA
  obtain ⟨rfl, rfl, rfl⟩ := trodAll_nil r0
  obtain rfl : args = #[v0] := by cases args; simp_all
  obtain ⟨rfl, rfl⟩ := trodVars_none hV
  obtain ⟨cs0, rfl, hsz0⟩ := okWide_struct Try.underlying24 (hval 0 24 v0 rfl rfl)
  have k0 := h0
  have lt0 : ∀ x ∈ p0, x.block < W.heap.size := by obtain ⟨m, hm⟩ := k0; exact DataW.trod_lt m _ _ _ hm
  obtain ⟨x0, hK0, hG0⟩ : ∃ x, Go.Proofs.Ytffdacmdgfpnmaa.F.k24.K W x cs0.toList ∧ (((Lit.int .i64 x.f0).wf = true ∧ (x.f1.length ≤ maxLen ∧ ∀ e35_ ∈ x.f1, ((e35_.f0.length ≤ maxLen ∧ ∀ e36_ ∈ e35_.f0, (Lit.int .i64 e36_).wf = true) ∧ (e35_.f1.length ≤ maxLen ∧ ∀ e37_ ∈ e35_.f1, (Lit.int .i64 e37_).wf = true) ∧ (e35_.f2.length ≤ maxLen ∧ ∀ e38_ ∈ e35_.f2, (Lit.int .i64 e38_).wf = true))))) := by
    obtain ⟨fuel, hf⟩ := h0
    exact Go.Proofs.Ytffdacmdgfpnmaa.F.opens24 hf
  obtain ⟨A0_1, c0_1, hcs0, hl0_1, hC0_1⟩ := Go.Proofs.Ytffdacmdgfpnmaa.F.k24_open hK0
  obtain rfl : cs0 = #[.int .i64 x0.f0, .slice A0_1 x0.f1.length c0_1] := Array.toList_inj.1 hcs0
  clear hA0 hval0 hsz0
  refine (F.laws_FnExactSmallInvariants.walk Pure.FnExactSmallInvariants x0.f0 A0_1 c0_1 x0.f1 W hC0_1 hl0_1 hG0).mono fun e W' ⟨he, bel⟩ => ?_
  subst he
  exact ⟨_, rfl, _, _, _, [], _, [], hW', trodAll_mk1 (shut_bool Try.underlying4 _), (trodAll_cons_mk (Below.trod laidOut (by kernel_rfl) (of_decide_eq_true (by kernel_rfl)) k0 bel lt0) trodAll_mk0), rfl, bel.frame _, fun h => by cases h⟩
theorem over : Rows.fnExactSmallInvariantsRow.holds Try.pinned (OpenSpec.ofChange Rows.fnExactSmallInvariantsSpec) :=
  OpenClaim.holds_of_wide 14 Try.f14 rfl rfl rfl rfl rfl rfl rfl ⟨rfl, rfl, rfl, rfl, rfl⟩ rfl rfl rfl rfl rfl (by kernel_rfl) Try.func14 (by kernel_rfl)
    (of_decide_eq_true (by kernel_rfl)) (by unfold Func.isWrapper; first | (rw [if_pos (by decide +kernel)]; kernel_rfl) | (rw [if_neg (by decide +kernel)]; exact ⟨rfl, rfl⟩))
    (fun os started H enc _ => lifted os started H enc)
theorem proved : Rows.FnExactSmallInvariantsSaid := over
#print axioms proved
end Go.Proofs.Ytffdacmdgfpnmaa.fnExactSmallInvariants
namespace Go.Proofs.Ytffdacmdgfpnmaa
/-- The row, under a short name, for the claim. -/
theorem fnExactSmallInvariants_holds : Rows.FnExactSmallInvariantsSaid := fnExactSmallInvariants.proved
end Go.Proofs.Ytffdacmdgfpnmaa
