-- Written by a program of this session (fork.py, fprint.sh). Lean checks it.
import Derived.Test.YtiglhdibibbkjaaProg
import Derived.Lib.SliceRun
import Derived.Test.YtiglhdibibbkjaaLeast
import Derived.Test.YtiglhdibibbkjaaT
import Derived.Test.YtiglhdibibbkjaaOpens
namespace Go.Proofs.Ytiglhdibibbkjaa.F
open Go.RowKit Go.Proofs.YtiglhdibibbkjaaW.PrintWords Go.Proofs.YtiglhdibibbkjaaW.PrintLast Go.Proofs.YtiglhdibibbkjaaW.PrintMore
attribute [local go_sem] max2_int min2_int max_two min_two max_three min_three max_four min_four   -- for this text's walks alone
set_option linter.unusedVariables false
set_option linter.unusedSimpArgs false



def errW : Option Int → Value
  | none => .nilIface
  | some c => .iface 0 (.int .i64 c)
theorem errW_none : errW none = .nilIface := rfl
theorem errW_some (c : Int) : errW (some c) = .iface 0 (.int .i64 c) := rfl

theorem info3 : (Try.prog.info? 3).map (fun i => (i.zero, i.size, i.bytes)) = some (some (.int .i64 0), 1, 8) := by kernel_rfl
theorem info32 : (Try.prog.info? 32).map (fun i => (i.zero, i.size, i.bytes)) = some (some (.slice none 0 0), 1, 24) := by kernel_rfl
-- the values' own types
def rd_L1 (xs : List (List Int)) (i : Int) : (List Int) := xs.getD i.toNat ([] : List Int)
theorem at_L1 {w : World} {A : Option Addr} {n : Nat} {xs : List (List Int)} (h : Kd.C (Kd.slice 3 (Kd.int .i64)) w A n xs) (i : Int) (h0 : 0 ≤ i) (h1 : i < n) : ∃ ad A0 c0, A = some ad ∧ w.cell? (ad.add i.toNat) = some (.slice A0 (rd_L1 xs i).length c0) ∧ (rd_L1 xs i).length ≤ c0 ∧ (Kd.int .i64).C w A0 (rd_L1 xs i).length (rd_L1 xs i) := by
  obtain ⟨ad, c, e, _, hK, hc0⟩ := Kd.C_get h ([] : List Int) i h0 h1
  have hc : ∀ j u, c[j]? = some u → w.cell? (ad.add (i.toNat * 1 + j)) = some u := hc0
  obtain ⟨A0, c0, rfl, l0, g0⟩ := hK
  exact ⟨ad, A0, c0, e, by have hq := hc 0 _ rfl; rwa [Nat.mul_one, Nat.add_zero] at hq, l0, g0⟩

def rd_L2 (xs : List (List (List Int))) (i : Int) : (List (List Int)) := xs.getD i.toNat ([] : List (List Int))
theorem at_L2 {w : World} {A : Option Addr} {n : Nat} {xs : List (List (List Int))} (h : Kd.C (Kd.slice 32 (Kd.slice 3 (Kd.int .i64))) w A n xs) (i : Int) (h0 : 0 ≤ i) (h1 : i < n) : ∃ ad A0 c0, A = some ad ∧ w.cell? (ad.add i.toNat) = some (.slice A0 (rd_L2 xs i).length c0) ∧ (rd_L2 xs i).length ≤ c0 ∧ (Kd.slice 3 (Kd.int .i64)).C w A0 (rd_L2 xs i).length (rd_L2 xs i) := by
  obtain ⟨ad, c, e, _, hK, hc0⟩ := Kd.C_get h ([] : List (List Int)) i h0 h1
  have hc : ∀ j u, c[j]? = some u → w.cell? (ad.add (i.toNat * 1 + j)) = some u := hc0
  obtain ⟨A0, c0, rfl, l0, g0⟩ := hK
  exact ⟨ad, A0, c0, e, by have hq := hc 0 _ rfl; rwa [Nat.mul_one, Nat.add_zero] at hq, l0, g0⟩

theorem opens32 : Go.Proofs.Ytiglhdibibbkjaa.Opens.Opens Try.prog 32 (Kd.slice 3 (Kd.int .i64)) (fun x => (x.length ≤ maxLen ∧ ∀ e3_ ∈ x, (Lit.int .i64 e3_).wf = true)) :=
  haveI : Inhabited Int := ⟨0⟩; Go.Proofs.Ytiglhdibibbkjaa.Opens.opens_slice Try.underlying32 (by kernel_rfl) (Go.Proofs.Ytiglhdibibbkjaa.Opens.opens_int Try.underlying3)
theorem opens22 : Go.Proofs.Ytiglhdibibbkjaa.Opens.Opens Try.prog 22 (Kd.slice 32 (Kd.slice 3 (Kd.int .i64))) (fun x => (x.length ≤ maxLen ∧ ∀ e4_ ∈ x, (e4_.length ≤ maxLen ∧ ∀ e5_ ∈ e4_, (Lit.int .i64 e5_).wf = true))) :=
  haveI : Inhabited (List Int) := ⟨[]⟩; Go.Proofs.Ytiglhdibibbkjaa.Opens.opens_slice Try.underlying22 (by kernel_rfl) opens32
end Go.Proofs.Ytiglhdibibbkjaa.F
