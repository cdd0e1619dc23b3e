-- Written by a program of this session (fork.py, fprint.sh). Lean checks it.
import Derived.Test.YtpaecplanjnaeaaRows
import Derived.Test.YtpaecplanjnaeaaF0
import Derived.Test.YtpaecplanjnaeaaF2
import Derived.Test.YtpaecplanjnaeaaPureFnExactDropMark
import Derived.WalkKit
import Derived.ProofKit
import Derived.OpenShut
import Derived.ShutString
import Derived.ChangeOld
import Derived.Below
import Derived.SizedLaws
import Derived.WideShapes
namespace Go.Proofs.Ytpaecplanjnaeaa.fnExactDropMark
open Go.ChangeShapes Go.WideShapes Go.ChangeAt Go.RowKit Go.Proofs.YtpaecplanjnaeaaW.PrintWords
open Go.ChangeMaps (open_string shut_string)
set_option linter.unusedVariables false
theorem own : ownKnob Try.prog.godebug = none := by kernel_rfl
theorem laidOut : laidOutB Try.prog = true := by kernel_rfl
set_option maxRecDepth 100000 in
theorem lifted (os : Os) (started : os.Started) (H : Type) (enc : TypeId × Value → H) :
    ReturnsInHanded {} Try.checked os 3 .any (Rows.fnExactDropMarkSpec.pre6 enc Try.prog Try.f3 Rows.fnExactDropMarkRow.domain false) (Rows.fnExactDropMarkSpec.post enc Try.prog Try.f3 false true false false) := by
  refine returnsInHanded_of_change_sized (C := Try.checked) own started (by kernel_rfl) Try.func3
    (ChangeSpec.witness6 (enc := enc) (C := Try.checked) false ⟨#[], #[.agg #[.slice none 0 0, .slice none 0 0, .slice none 0 0], .int .i64 0], []⟩ 8 (by kernel_rfl) (by kernel_rfl) (by kernel_rfl) (by kernel_rfl)) ?_
  intro W base args ds gs before hval0 hW hcnd hsz0 _
  have hval : ∀ (j : Nat) t v, Try.f3.params[j]? = some t → args[j]? = some v → Value.okWide Try.prog W .any base t v := hval0
  have hW' := hW
  obtain ⟨p, q, hA0, hV, rfl, hfz, hnd⟩ := hW
  have hA : DataW.TrodAll enc Try.prog W 0 (fun _ => true) true Try.f3.params.toList args.toList ds p := hA0
  rw [Try.params3] at hA hval
  obtain ⟨v0, vs0, d0, ds0, p0, q0, hargs, rfl, rfl, h0, r0⟩ := trodAll_cons hA
  obtain ⟨v1, vs1, d1, ds1, p1, q1, rfl, rfl, rfl, h1, r1⟩ := trodAll_cons r0
  obtain ⟨rfl, rfl, rfl⟩ := trodAll_nil r1
  obtain rfl : args = #[v0, v1] := by cases args; simp_all
  obtain ⟨rfl, rfl⟩ := trodVars_none hV
  obtain ⟨cs0, rfl, hsz0⟩ := okWide_struct Try.underlying25 (hval 0 25 v0 rfl rfl)
  have k0 := h0
  have lt0 : ∀ x ∈ p0, x.block < W.heap.size := by obtain ⟨m, hm⟩ := k0; exact DataW.trod_lt m _ _ _ hm
  obtain ⟨x0, hK0, hG0⟩ : ∃ x, Go.Proofs.Ytpaecplanjnaeaa.F.k25.K W x cs0.toList ∧ (((x.f0.length ≤ maxLen ∧ ∀ e12_ ∈ x.f0, (e12_.length ≤ maxLen ∧ ∀ e13_ ∈ e12_, (Lit.int .i64 e13_).wf = true)) ∧ (x.f1.length ≤ maxLen ∧ ∀ e14_ ∈ x.f1, (Lit.int .i64 e14_).wf = true) ∧ (x.f2.length ≤ maxLen ∧ ∀ e15_ ∈ x.f2, (Lit.int .i64 e15_).wf = true))) := by
    obtain ⟨fuel, hf⟩ := h0
    exact Go.Proofs.Ytpaecplanjnaeaa.F.opens25 hf
  obtain ⟨A0_0, c0_0, A0_1, c0_1, A0_2, c0_2, hcs0, hl0_0, hC0_0, hl0_1, hC0_1, hl0_2, hC0_2⟩ := Go.Proofs.Ytpaecplanjnaeaa.F.k25_open hK0
  obtain rfl : cs0 = #[.slice A0_0 x0.f0.length c0_0, .slice A0_1 x0.f1.length c0_1, .slice A0_2 x0.f2.length c0_2] := Array.toList_inj.1 hcs0
  obtain ⟨a1, rfl, rfl, rfl, w1⟩ := open_int Try.underlying3 (hval 1 3 v1 rfl rfl) h1
  clear hA0 hval0 hsz0
  refine (F.laws_FnExactDropMark.walk Pure.FnExactDropMark A0_0 c0_0 x0.f0 A0_1 c0_1 x0.f1 A0_2 c0_2 x0.f2 a1 W hC0_0 hl0_0 hC0_1 hl0_1 hC0_2 hl0_2 hG0 w1).mono fun e W' ⟨he, bel⟩ => ?_
  subst he
  exact ⟨_, rfl, _, _, _, [], _, [], hW', trodAll_mk1 (shut_bool Try.underlying4 _), (trodAll_cons_mk (Below.trod laidOut (by kernel_rfl) (of_decide_eq_true (by kernel_rfl)) k0 bel lt0) (trodAll_cons_mk (shut_int Try.underlying3 w1) trodAll_mk0)), rfl, bel.frame _, fun h => by cases h⟩
theorem over : Rows.fnExactDropMarkRow.holds Try.pinned (OpenSpec.ofChange Rows.fnExactDropMarkSpec) :=
  OpenClaim.holds_of_wide 3 Try.f3 rfl rfl rfl rfl rfl rfl rfl ⟨rfl, rfl, rfl, rfl, rfl⟩ rfl rfl rfl rfl rfl (by kernel_rfl) Try.func3 (by kernel_rfl)
    (of_decide_eq_true (by kernel_rfl)) (by unfold Func.isWrapper; first | (rw [if_pos (by decide +kernel)]; kernel_rfl) | (rw [if_neg (by decide +kernel)]; exact ⟨rfl, rfl⟩))
    (fun os started H enc _ => lifted os started H enc)
theorem proved : Rows.FnExactDropMarkSaid := over
#print axioms proved
end Go.Proofs.Ytpaecplanjnaeaa.fnExactDropMark
namespace Go.Proofs.Ytpaecplanjnaeaa
/-- The row, under a short name, for the claim. -/
theorem fnExactDropMark_holds : Rows.FnExactDropMarkSaid := fnExactDropMark.proved
end Go.Proofs.Ytpaecplanjnaeaa
