-- Written by a program of this session (fork.py, fprint.sh). Lean checks it.
import Derived.Test.YtffdacmdgfpnmaaRows
import Derived.Test.YtffdacmdgfpnmaaF0
import Derived.Test.YtffdacmdgfpnmaaF6
import Derived.Test.YtffdacmdgfpnmaaPureFnExactIsGuarded
import Derived.WalkKit
import Derived.ProofKit
import Derived.OpenShut
import Derived.ShutString
import Derived.ChangeOld
import Derived.Below
import Derived.SizedLaws
import Derived.WideShapes
namespace Go.Proofs.Ytffdacmdgfpnmaa.fnExactIsGuarded
open Go.ChangeShapes Go.WideShapes Go.ChangeAt Go.RowKit Go.Proofs.YtffdacmdgfpnmaaW.PrintWords
open Go.ChangeMaps (open_string shut_string)
set_option linter.unusedVariables false
theorem own : ownKnob Try.prog.godebug = none := by kernel_rfl
theorem laidOut : laidOutB Try.prog = true := by kernel_rfl
set_option maxRecDepth 100000 in
theorem lifted (os : Os) (started : os.Started) (H : Type) (enc : TypeId × Value → H) :
    ReturnsInHanded {} Try.checked os 13 .any (Rows.fnExactIsGuardedSpec.pre6 enc Try.prog Try.f13 Rows.fnExactIsGuardedRow.domain false) (Rows.fnExactIsGuardedSpec.post enc Try.prog Try.f13 false true false false) := by
  refine returnsInHanded_of_change_sized (C := Try.checked) own started (by kernel_rfl) Try.func13
    (ChangeSpec.witness6 (enc := enc) (C := Try.checked) false ⟨#[], #[.agg #[.int .i64 0, .slice none 0 0], .slice none 0 0], []⟩ 8 (by kernel_rfl) (by kernel_rfl) (by kernel_rfl) (by kernel_rfl)) ?_
  intro W base args ds gs before hval0 hW hcnd hsz0 _
  have hval : ∀ (j : Nat) t v, Try.f13.params[j]? = some t → args[j]? = some v → Value.okWide Try.prog W .any base t v := hval0
  have hW' := hW
  obtain ⟨p, q, hA0, hV, rfl, hfz, hnd⟩ := hW
  have hA : DataW.TrodAll enc Try.prog W 0 (fun _ => true) true Try.f13.params.toList args.toList ds p := hA0
  rw [Try.params13] at hA hval
  obtain ⟨v0, vs0, d0, ds0, p0, q0, hargs, rfl, rfl, h0, r0⟩ := trodAll_cons hA
  obtain ⟨v1, vs1, d1, ds1, p1, q1, rfl, rfl, rfl, h1, r1⟩ := trodAll_cons r0
  obtain ⟨rfl, rfl, rfl⟩ := trodAll_nil r1
  obtain rfl : args = #[v0, v1] := by cases args; simp_all
  obtain ⟨rfl, rfl⟩ := trodVars_none hV
  obtain ⟨cs0, rfl, hsz0⟩ := okWide_struct Try.underlying24 (hval 0 24 v0 rfl rfl)
  have k0 := h0
  have lt0 : ∀ x ∈ p0, x.block < W.heap.size := by obtain ⟨m, hm⟩ := k0; exact DataW.trod_lt m _ _ _ hm
  obtain ⟨x0, hK0, hG0⟩ : ∃ x, Go.Proofs.Ytffdacmdgfpnmaa.F.k24.K W x cs0.toList ∧ (((Lit.int .i64 x.f0).wf = true ∧ (x.f1.length ≤ maxLen ∧ ∀ e30_ ∈ x.f1, ((e30_.f0.length ≤ maxLen ∧ ∀ e31_ ∈ e30_.f0, (Lit.int .i64 e31_).wf = true) ∧ (e30_.f1.length ≤ maxLen ∧ ∀ e32_ ∈ e30_.f1, (Lit.int .i64 e32_).wf = true) ∧ (e30_.f2.length ≤ maxLen ∧ ∀ e33_ ∈ e30_.f2, (Lit.int .i64 e33_).wf = true))))) := by
    obtain ⟨fuel, hf⟩ := h0
    exact Go.Proofs.Ytffdacmdgfpnmaa.F.opens24 hf
  obtain ⟨A0_1, c0_1, hcs0, hl0_1, hC0_1⟩ := Go.Proofs.Ytffdacmdgfpnmaa.F.k24_open hK0
  obtain rfl : cs0 = #[.int .i64 x0.f0, .slice A0_1 x0.f1.length c0_1] := Array.toList_inj.1 hcs0
  obtain ⟨a1, len1, cap1, rfl⟩ := okWide_slice Try.underlying25 (hval 1 25 v1 rfl rfl)
  have k1 := h1
  have lt1 : ∀ x ∈ p1, x.block < W.heap.size := by obtain ⟨m, hm⟩ := k1; exact DataW.trod_lt m _ _ _ hm
  obtain ⟨x1, ⟨A1, c1, hcs1, hl1, hC1⟩, hG1⟩ : ∃ x, ((Kd.slice 3 (Kd.int .i64))).K W x [.slice a1 len1 cap1] ∧ (x.length ≤ maxLen ∧ ∀ e34_ ∈ x, (Lit.int .i64 e34_).wf = true) := by
    obtain ⟨fuel, hf⟩ := h1
    exact Go.Proofs.Ytffdacmdgfpnmaa.F.opens25 hf
  obtain ⟨rfl, rfl, rfl⟩ : a1 = A1 ∧ len1 = x1.length ∧ cap1 = c1 := by simpa using hcs1
  clear hA0 hval0 hsz0
  refine (F.laws_FnExactIsGuarded.walk Pure.FnExactIsGuarded x0.f0 A0_1 c0_1 x0.f1 _ _ x1 W hC0_1 hl0_1 hC1 hl1 hG0 hG1).mono fun e W' ⟨he, bel⟩ => ?_
  subst he
  exact ⟨_, rfl, _, _, _, [], _, [], hW', trodAll_mk1 (shut_bool Try.underlying4 _), (trodAll_cons_mk (Below.trod laidOut (by kernel_rfl) (of_decide_eq_true (by kernel_rfl)) k0 bel lt0) (trodAll_cons_mk (Below.trod laidOut (by kernel_rfl) (of_decide_eq_true (by kernel_rfl)) k1 bel lt1) trodAll_mk0)), rfl, bel.frame _, fun h => by cases h⟩
theorem over : Rows.fnExactIsGuardedRow.holds Try.pinned (OpenSpec.ofChange Rows.fnExactIsGuardedSpec) :=
  OpenClaim.holds_of_wide 13 Try.f13 rfl rfl rfl rfl rfl rfl rfl ⟨rfl, rfl, rfl, rfl, rfl⟩ rfl rfl rfl rfl rfl (by kernel_rfl) Try.func13 (by kernel_rfl)
    (of_decide_eq_true (by kernel_rfl)) (by unfold Func.isWrapper; first | (rw [if_pos (by decide +kernel)]; kernel_rfl) | (rw [if_neg (by decide +kernel)]; exact ⟨rfl, rfl⟩))
    (fun os started H enc _ => lifted os started H enc)
theorem proved : Rows.FnExactIsGuardedSaid := over
#print axioms proved
end Go.Proofs.Ytffdacmdgfpnmaa.fnExactIsGuarded
namespace Go.Proofs.Ytffdacmdgfpnmaa
/-- The row, under a short name, for the claim. -/
theorem fnExactIsGuarded_holds : Rows.FnExactIsGuardedSaid := fnExactIsGuarded.proved
end Go.Proofs.Ytffdacmdgfpnmaa
