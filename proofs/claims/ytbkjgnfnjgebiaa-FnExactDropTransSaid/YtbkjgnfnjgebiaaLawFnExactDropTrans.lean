-- Written by a program of this session (fork.py, fprint.sh). Lean checks it.
import Derived.Test.YtbkjgnfnjgebiaaRows
import Derived.Test.YtbkjgnfnjgebiaaF0
import Derived.Test.YtbkjgnfnjgebiaaF4
import Derived.Test.YtbkjgnfnjgebiaaPureFnExactDropTrans
import Derived.WalkKit
import Derived.ProofKit
import Derived.OpenShut
import Derived.ShutString
import Derived.ChangeOld
import Derived.Below
import Derived.SizedLaws
import Derived.WideShapes
namespace Go.Proofs.Ytbkjgnfnjgebiaa.fnExactDropTrans
open Go.ChangeShapes Go.WideShapes Go.ChangeAt Go.RowKit Go.Proofs.YtbkjgnfnjgebiaaW.PrintWords
open Go.ChangeMaps (open_string shut_string)
set_option linter.unusedVariables false
theorem own : ownKnob Try.prog.godebug = none := by kernel_rfl
theorem laidOut : laidOutB Try.prog = true := by kernel_rfl
set_option maxRecDepth 100000 in
theorem lifted (os : Os) (started : os.Started) (H : Type) (enc : TypeId × Value → H) :
    ReturnsInHanded {} Try.checked os 5 .any (Rows.fnExactDropTransSpec.pre6 enc Try.prog Try.f5 Rows.fnExactDropTransRow.domain false) (Rows.fnExactDropTransSpec.post enc Try.prog Try.f5 false true false false) := by
  refine returnsInHanded_of_change_sized (C := Try.checked) own started (by kernel_rfl) Try.func5
    (ChangeSpec.witness6 (enc := enc) (C := Try.checked) false ⟨#[], #[.agg #[.int .i64 0, .slice none 0 0, .int .i64 0, .int .i64 0]], []⟩ 8 (by kernel_rfl) (by kernel_rfl) (by kernel_rfl) (by kernel_rfl)) ?_
  intro W base args ds gs before hval0 hW hcnd hsz0 _
  have hval : ∀ (j : Nat) t v, Try.f5.params[j]? = some t → args[j]? = some v → Value.okWide Try.prog W .any base t v := hval0
  have hW' := hW
  obtain ⟨p, q, hA0, hV, rfl, hfz, hnd⟩ := hW
  have hA : DataW.TrodAll enc Try.prog W 0 (fun _ => true) true Try.f5.params.toList args.toList ds p := hA0
  rw [Try.params5] at hA hval
  obtain ⟨v0, vs0, d0, ds0, p0, q0, hargs, rfl, rfl, h0, r0⟩ := trodAll_cons hA
  obtain ⟨rfl, rfl, rfl⟩ := trodAll_nil r0
  obtain rfl : args = #[v0] := by cases args; simp_all
  obtain ⟨rfl, rfl⟩ := trodVars_none hV
  obtain ⟨cs0, rfl, hsz0⟩ := okWide_struct Try.underlying36 (hval 0 36 v0 rfl rfl)
  have k0 := h0
  have lt0 : ∀ x ∈ p0, x.block < W.heap.size := by obtain ⟨m, hm⟩ := k0; exact DataW.trod_lt m _ _ _ hm
  obtain ⟨x0, hK0, hG0⟩ : ∃ x, Go.Proofs.Ytbkjgnfnjgebiaa.F.k36.K W x cs0.toList ∧ ((((Lit.int .i64 x.f0.f0).wf = true ∧ (x.f0.f1.length ≤ maxLen ∧ ∀ e21_ ∈ x.f0.f1, ((e21_.f0.length ≤ maxLen ∧ ∀ e22_ ∈ e21_.f0, (Lit.int .i64 e22_).wf = true) ∧ (e21_.f1.length ≤ maxLen ∧ ∀ e23_ ∈ e21_.f1, (Lit.int .i64 e23_).wf = true) ∧ (e21_.f2.length ≤ maxLen ∧ ∀ e24_ ∈ e21_.f2, (Lit.int .i64 e24_).wf = true)))) ∧ (Lit.int .i64 x.f1).wf = true ∧ (Lit.int .i64 x.f2).wf = true)) := by
    obtain ⟨fuel, hf⟩ := h0
    exact Go.Proofs.Ytbkjgnfnjgebiaa.F.opens36 hf
  obtain ⟨A0_1, c0_1, hcs0, hl0_1, hC0_1⟩ := Go.Proofs.Ytbkjgnfnjgebiaa.F.k36_open hK0
  obtain rfl : cs0 = #[.int .i64 x0.f0.f0, .slice A0_1 x0.f0.f1.length c0_1, .int .i64 x0.f1, .int .i64 x0.f2] := Array.toList_inj.1 hcs0
  clear hA0 hval0 hsz0
  refine (F.laws_FnExactDropTrans.walk Pure.FnExactDropTrans x0.f0.f0 A0_1 c0_1 x0.f0.f1 x0.f1 x0.f2 W hC0_1 hl0_1 (by have h_ := hG0; simp only [and_assoc] at h_ ⊢; exact h_)).mono fun e W' ⟨he, bel⟩ => ?_
  subst he
  exact ⟨_, rfl, _, _, _, [], _, [], hW', trodAll_mk1 (shut_bool Try.underlying4 _), (trodAll_cons_mk (Below.trod laidOut (by kernel_rfl) (of_decide_eq_true (by kernel_rfl)) k0 bel lt0) trodAll_mk0), rfl, bel.frame _, fun h => by cases h⟩
theorem over : Rows.fnExactDropTransRow.holds Try.pinned (OpenSpec.ofChange Rows.fnExactDropTransSpec) :=
  OpenClaim.holds_of_wide 5 Try.f5 rfl rfl rfl rfl rfl rfl rfl ⟨rfl, rfl, rfl, rfl, rfl⟩ rfl rfl rfl rfl rfl (by kernel_rfl) Try.func5 (by kernel_rfl)
    (of_decide_eq_true (by kernel_rfl)) (by unfold Func.isWrapper; first | (rw [if_pos (by decide +kernel)]; kernel_rfl) | (rw [if_neg (by decide +kernel)]; exact ⟨rfl, rfl⟩))
    (fun os started H enc _ => lifted os started H enc)
theorem proved : Rows.FnExactDropTransSaid := over
#print axioms proved
end Go.Proofs.Ytbkjgnfnjgebiaa.fnExactDropTrans
namespace Go.Proofs.Ytbkjgnfnjgebiaa
/-- The row, under a short name, for the claim. -/
theorem fnExactDropTrans_holds : Rows.FnExactDropTransSaid := fnExactDropTrans.proved
end Go.Proofs.Ytbkjgnfnjgebiaa
