import Derived.Test.YtoicemlndofphaaGreatProg
import Derived.Lib.SliceRun
import Derived.Test.YtoicemlndofphaaGreatT
import Derived.Test.YtoicemlndofphaaGreatOpens
namespace Go.Proofs.YtoicemlndofphaaGreat.F
open Go.RowKit Go.Proofs.YtoicemlndofphaaGreatW.PrintWords Go.Proofs.YtoicemlndofphaaGreatW.PrintLast Go.Proofs.YtoicemlndofphaaGreatW.PrintMore
attribute [local go_sem] max2_int min2_int max_two min_two max_three min_three max_four min_four   -- for this text's walks alone
set_option linter.unusedVariables false
set_option linter.unusedSimpArgs false
def errW : Option Int → Value
  | none => .nilIface
  | some c => .iface 0 (.int .i64 c)
theorem errW_none : errW none = .nilIface := rfl
theorem errW_some (c : Int) : errW (some c) = .iface 0 (.int .i64 c) := rfl
theorem info3 : (Tryz.prog.info? 3).map (fun i => (i.zero, i.size, i.bytes)) = some (some (.int .i64 0), 1, 8) := by kernel_rfl
theorem info4 : (Tryz.prog.info? 4).map (fun i => (i.zero, i.size, i.bytes)) = some (some (.bool false), 1, 1) := by kernel_rfl
theorem info29 : (Tryz.prog.info? 29).map (fun i => (i.zero, i.size, i.bytes)) = some (some (.slice none 0 0), 1, 24) := by kernel_rfl
theorem info92 : (Tryz.prog.info? 92).map (fun i => (i.zero, i.size, i.bytes)) = some (some (.agg #[(.slice none 0 0), (.slice none 0 0), (.slice none 0 0)]), 3, 72) := by kernel_rfl
theorem info95 : (Tryz.prog.info? 95).map (fun i => (i.zero, i.size, i.bytes)) = some (some (.agg #[(.int .i64 0), (.int .i64 0), (.int .i64 0)]), 3, 24) := by kernel_rfl
def rd_L1 (xs : List (List Int)) (i : Int) : (List Int) := xs.getD i.toNat ([] : List Int)
theorem at_L1 {w : World} {A : Option Addr} {n : Nat} {xs : List (List Int)} (h : Kd.C (Kd.slice 3 (Kd.int .i64)) w A n xs) (i : Int) (h0 : 0 ≤ i) (h1 : i < n) : ∃ ad A0 c0, A = some ad ∧ w.cell? (ad.add i.toNat) = some (.slice A0 (rd_L1 xs i).length c0) ∧ (rd_L1 xs i).length ≤ c0 ∧ (Kd.int .i64).C w A0 (rd_L1 xs i).length (rd_L1 xs i) := by
  obtain ⟨ad, c, e, _, hK, hc0⟩ := Kd.C_get h ([] : List Int) i h0 h1
  have hc : ∀ j u, c[j]? = some u → w.cell? (ad.add (i.toNat * 1 + j)) = some u := hc0
  obtain ⟨A0, c0, rfl, l0, g0⟩ := hK
  exact ⟨ad, A0, c0, e, by have hq := hc 0 _ rfl; rwa [Nat.mul_one, Nat.add_zero] at hq, l0, g0⟩
/-! #### struct type 119 -/
structure S119 where
  f0 : (List Int)
  f1 : (List Int)
  f2 : (List Int)
def z119 : S119 := ⟨([] : List Int), ([] : List Int), ([] : List Int)⟩
def k119 : Kd S119 := Kd.iso (Kd.pair (Kd.slice 3 (Kd.int .i64)) (Kd.pair (Kd.slice 3 (Kd.int .i64)) (Kd.slice 3 (Kd.int .i64)))) (fun x : S119 => (x.f0, x.f1, x.f2))
theorem k119_open {w : World} {x : S119} {cs : List Value} (h : k119.K w x cs) : ∃ A0 c0 A1 c1 A2 c2, cs = [.slice A0 x.f0.length c0, .slice A1 x.f1.length c1, .slice A2 x.f2.length c2] ∧ x.f0.length ≤ c0 ∧ (Kd.int .i64).C w A0 x.f0.length x.f0 ∧ x.f1.length ≤ c1 ∧ (Kd.int .i64).C w A1 x.f1.length x.f1 ∧ x.f2.length ≤ c2 ∧ (Kd.int .i64).C w A2 x.f2.length x.f2 := by
  obtain ⟨_, _, rfl, ⟨A0, c0, rfl, l0, g0⟩, ⟨_, _, rfl, ⟨A1, c1, rfl, l1, g1⟩, ⟨A2, c2, rfl, l2, g2⟩⟩⟩ := h
  exact ⟨A0, c0, A1, c1, A2, c2, rfl, l0, g0, l1, g1, l2, g2⟩
def rd_T119 (xs : List S119) (i : Int) : S119 := xs.getD i.toNat z119
theorem at_T119 {w : World} {A : Option Addr} {n : Nat} {xs : List S119} (h : Kd.C k119 w A n xs) (i : Int) (h0 : 0 ≤ i) (h1 : i < n) : ∃ ad A0 c0 A1 c1 A2 c2, A = some ad ∧ w.cell? (ad.add (i.toNat * 3)) = some (.slice A0 (rd_T119 xs i).f0.length c0) ∧ w.cell? ⟨(ad.add (i.toNat * 3)).block, (ad.add (i.toNat * 3)).off + 1, none⟩ = some (.slice A1 (rd_T119 xs i).f1.length c1) ∧ w.cell? ⟨(ad.add (i.toNat * 3)).block, (ad.add (i.toNat * 3)).off + 2, none⟩ = some (.slice A2 (rd_T119 xs i).f2.length c2) ∧ (rd_T119 xs i).f0.length ≤ c0 ∧ (Kd.int .i64).C w A0 (rd_T119 xs i).f0.length (rd_T119 xs i).f0 ∧ (rd_T119 xs i).f1.length ≤ c1 ∧ (Kd.int .i64).C w A1 (rd_T119 xs i).f1.length (rd_T119 xs i).f1 ∧ (rd_T119 xs i).f2.length ≤ c2 ∧ (Kd.int .i64).C w A2 (rd_T119 xs i).f2.length (rd_T119 xs i).f2 := by
  obtain ⟨ad, c, e, _, hK, hc0⟩ := Kd.C_get h z119 i h0 h1
  have hc : ∀ j u, c[j]? = some u → w.cell? (ad.add (i.toNat * 3 + j)) = some u := hc0
  obtain ⟨A0, c0, A1, c1, A2, c2, rfl, l0, g0, l1, g1, l2, g2⟩ := k119_open hK
  exact ⟨ad, A0, c0, A1, c1, A2, c2, e, hc 0 _ rfl, by rw [← add_field _ _ 1 (by omega)]; exact hc 1 _ rfl, by rw [← add_field _ _ 2 (by omega)]; exact hc 2 _ rfl, l0, g0, l1, g1, l2, g2⟩
/-! #### struct type 92 -/
structure S92 where
  f0 : (List Int)
  f1 : (List Int)
  f2 : (List Int)
def z92 : S92 := ⟨([] : List Int), ([] : List Int), ([] : List Int)⟩
def k92 : Kd S92 := Kd.iso (Kd.pair (Kd.slice 3 (Kd.int .i64)) (Kd.pair (Kd.slice 3 (Kd.int .i64)) (Kd.slice 3 (Kd.int .i64)))) (fun x : S92 => (x.f0, x.f1, x.f2))
theorem k92_open {w : World} {x : S92} {cs : List Value} (h : k92.K w x cs) : ∃ A0 c0 A1 c1 A2 c2, cs = [.slice A0 x.f0.length c0, .slice A1 x.f1.length c1, .slice A2 x.f2.length c2] ∧ x.f0.length ≤ c0 ∧ (Kd.int .i64).C w A0 x.f0.length x.f0 ∧ x.f1.length ≤ c1 ∧ (Kd.int .i64).C w A1 x.f1.length x.f1 ∧ x.f2.length ≤ c2 ∧ (Kd.int .i64).C w A2 x.f2.length x.f2 := by
  obtain ⟨_, _, rfl, ⟨A0, c0, rfl, l0, g0⟩, ⟨_, _, rfl, ⟨A1, c1, rfl, l1, g1⟩, ⟨A2, c2, rfl, l2, g2⟩⟩⟩ := h
  exact ⟨A0, c0, A1, c1, A2, c2, rfl, l0, g0, l1, g1, l2, g2⟩
theorem k92_openM {w : World} {base : Nat} {ok : Nat → Prop} {x : S92} {cs : List Value} (h : k92.M w base ok x cs) : ∃ v0 v1 v2, cs = [v0, v1, v2] ∧ (Kd.int .i64).R 3 w base ok v0 x.f0 ∧ (Kd.int .i64).R 3 w base ok v1 x.f1 ∧ (Kd.int .i64).R 3 w base ok v2 x.f2 := by
  obtain ⟨_, _, rfl, ⟨v0, rfl, g0⟩, ⟨_, _, rfl, ⟨v1, rfl, g1⟩, ⟨v2, rfl, g2⟩⟩⟩ := h
  exact ⟨v0, v1, v2, rfl, g0, g1, g2⟩
theorem k92_mkM (w : World) (base : Nat) (ok : Nat → Prop) (x : S92) {v0 : Value} (g0 : (Kd.int .i64).R 3 w base ok v0 x.f0) {v1 : Value} (g1 : (Kd.int .i64).R 3 w base ok v1 x.f1) {v2 : Value} (g2 : (Kd.int .i64).R 3 w base ok v2 x.f2) : k92.M w base ok x [v0, v1, v2] := ⟨[v0], [v1, v2], rfl, ⟨v0, rfl, g0⟩, ⟨[v1], [v2], rfl, ⟨v1, rfl, g1⟩, ⟨v2, rfl, g2⟩⟩⟩
def rd_T92 (xs : List S92) (i : Int) : S92 := xs.getD i.toNat z92
theorem at_T92 {w : World} {A : Option Addr} {n : Nat} {xs : List S92} (h : Kd.C k92 w A n xs) (i : Int) (h0 : 0 ≤ i) (h1 : i < n) : ∃ ad A0 c0 A1 c1 A2 c2, A = some ad ∧ w.cell? (ad.add (i.toNat * 3)) = some (.slice A0 (rd_T92 xs i).f0.length c0) ∧ w.cell? ⟨(ad.add (i.toNat * 3)).block, (ad.add (i.toNat * 3)).off + 1, none⟩ = some (.slice A1 (rd_T92 xs i).f1.length c1) ∧ w.cell? ⟨(ad.add (i.toNat * 3)).block, (ad.add (i.toNat * 3)).off + 2, none⟩ = some (.slice A2 (rd_T92 xs i).f2.length c2) ∧ (rd_T92 xs i).f0.length ≤ c0 ∧ (Kd.int .i64).C w A0 (rd_T92 xs i).f0.length (rd_T92 xs i).f0 ∧ (rd_T92 xs i).f1.length ≤ c1 ∧ (Kd.int .i64).C w A1 (rd_T92 xs i).f1.length (rd_T92 xs i).f1 ∧ (rd_T92 xs i).f2.length ≤ c2 ∧ (Kd.int .i64).C w A2 (rd_T92 xs i).f2.length (rd_T92 xs i).f2 := by
  obtain ⟨ad, c, e, _, hK, hc0⟩ := Kd.C_get h z92 i h0 h1
  have hc : ∀ j u, c[j]? = some u → w.cell? (ad.add (i.toNat * 3 + j)) = some u := hc0
  obtain ⟨A0, c0, A1, c1, A2, c2, rfl, l0, g0, l1, g1, l2, g2⟩ := k92_open hK
  exact ⟨ad, A0, c0, A1, c1, A2, c2, e, hc 0 _ rfl, by rw [← add_field _ _ 1 (by omega)]; exact hc 1 _ rfl, by rw [← add_field _ _ 2 (by omega)]; exact hc 2 _ rfl, l0, g0, l1, g1, l2, g2⟩
/-! #### struct type 95 -/
structure S95 where
  f0 : Int
  f1 : Int
  f2 : Int
def z95 : S95 := ⟨(0 : Int), (0 : Int), (0 : Int)⟩
def k95 : Kd S95 := Kd.iso (Kd.pair (Kd.int .i64) (Kd.pair (Kd.int .i64) (Kd.int .i64))) (fun x : S95 => (x.f0, x.f1, x.f2))
theorem k95_open {w : World} {x : S95} {cs : List Value} (h : k95.K w x cs) : cs = [.int .i64 x.f0, .int .i64 x.f1, .int .i64 x.f2] := by
  obtain ⟨_, _, rfl, rfl, ⟨_, _, rfl, rfl, rfl⟩⟩ := h
  exact rfl
theorem k95_mkM (w : World) (base : Nat) (ok : Nat → Prop) (x : S95)  : k95.M w base ok x [.int .i64 x.f0, .int .i64 x.f1, .int .i64 x.f2] := ⟨[.int .i64 x.f0], [.int .i64 x.f1, .int .i64 x.f2], rfl, rfl, ⟨[.int .i64 x.f1], [.int .i64 x.f2], rfl, rfl, rfl⟩⟩
def rd_T95 (xs : List S95) (i : Int) : S95 := xs.getD i.toNat z95
theorem at_T95 {w : World} {A : Option Addr} {n : Nat} {xs : List S95} (h : Kd.C k95 w A n xs) (i : Int) (h0 : 0 ≤ i) (h1 : i < n) : ∃ ad , A = some ad ∧ w.cell? (ad.add (i.toNat * 3)) = some (.int .i64 (rd_T95 xs i).f0) ∧ w.cell? ⟨(ad.add (i.toNat * 3)).block, (ad.add (i.toNat * 3)).off + 1, none⟩ = some (.int .i64 (rd_T95 xs i).f1) ∧ w.cell? ⟨(ad.add (i.toNat * 3)).block, (ad.add (i.toNat * 3)).off + 2, none⟩ = some (.int .i64 (rd_T95 xs i).f2) := by
  obtain ⟨ad, c, e, _, hK, hc0⟩ := Kd.C_get h z95 i h0 h1
  have hc : ∀ j u, c[j]? = some u → w.cell? (ad.add (i.toNat * 3 + j)) = some u := hc0
  obtain rfl := k95_open hK
  exact ⟨ad, e, hc 0 _ rfl, by rw [← add_field _ _ 1 (by omega)]; exact hc 1 _ rfl, by rw [← add_field _ _ 2 (by omega)]; exact hc 2 _ rfl⟩
/-! #### struct type 24 -/
structure S24 where
  f0 : Int
  f1 : (List S119)
def k24 : Kd S24 := Kd.iso (Kd.pair (Kd.int .i64) (Kd.slice 119 k119)) (fun x : S24 => (x.f0, x.f1))
theorem k24_open {w : World} {x : S24} {cs : List Value} (h : k24.K w x cs) : ∃ A1 c1, cs = [.int .i64 x.f0, .slice A1 x.f1.length c1] ∧ x.f1.length ≤ c1 ∧ k119.C w A1 x.f1.length x.f1 := by
  obtain ⟨_, _, rfl, rfl, ⟨A1, c1, rfl, l1, g1⟩⟩ := h
  exact ⟨A1, c1, rfl, l1, g1⟩
/-! #### struct type 26 -/
structure S26 where
  f0 : S24
  f1 : Int
  f2 : Int
def k26 : Kd S26 := Kd.iso (Kd.pair k24 (Kd.pair (Kd.int .i64) (Kd.int .i64))) (fun x : S26 => (x.f0, x.f1, x.f2))
theorem k26_open {w : World} {x : S26} {cs : List Value} (h : k26.K w x cs) : ∃ A1 c1, cs = [.int .i64 x.f0.f0, .slice A1 x.f0.f1.length c1, .int .i64 x.f1, .int .i64 x.f2] ∧ x.f0.f1.length ≤ c1 ∧ k119.C w A1 x.f0.f1.length x.f0.f1 := by
  obtain ⟨_, _, rfl, s0, ⟨_, _, rfl, rfl, rfl⟩⟩ := h
  obtain ⟨A1, c1, rfl, l1, g1⟩ := k24_open s0
  exact ⟨A1, c1, rfl, l1, g1⟩
/-! #### struct type 46 -/
structure S46 where
  f0 : Int
  f1 : Int
  f2 : (List Int)
  f3 : Int
def k46 : Kd S46 := Kd.iso (Kd.pair (Kd.int .i64) (Kd.pair (Kd.int .i64) (Kd.pair (Kd.slice 3 (Kd.int .i64)) (Kd.int .i64)))) (fun x : S46 => (x.f0, x.f1, x.f2, x.f3))
theorem k46_open {w : World} {x : S46} {cs : List Value} (h : k46.K w x cs) : ∃ A2 c2, cs = [.int .i64 x.f0, .int .i64 x.f1, .slice A2 x.f2.length c2, .int .i64 x.f3] ∧ x.f2.length ≤ c2 ∧ (Kd.int .i64).C w A2 x.f2.length x.f2 := by
  obtain ⟨_, _, rfl, rfl, ⟨_, _, rfl, rfl, ⟨_, _, rfl, ⟨A2, c2, rfl, l2, g2⟩, rfl⟩⟩⟩ := h
  exact ⟨A2, c2, rfl, l2, g2⟩
theorem opens29 : Go.Proofs.YtoicemlndofphaaGreat.Opens.Opens Tryz.prog 29 (Kd.slice 3 (Kd.int .i64)) (fun x => (x.length ≤ maxLen ∧ ∀ e6_ ∈ x, (Lit.int .i64 e6_).wf = true)) :=
  haveI : Inhabited Int := ⟨0⟩; Go.Proofs.YtoicemlndofphaaGreat.Opens.opens_slice Tryz.underlying29 (by kernel_rfl) (Go.Proofs.YtoicemlndofphaaGreat.Opens.opens_int Tryz.underlying3)
theorem opens119 : Go.Proofs.YtoicemlndofphaaGreat.Opens.Opens Tryz.prog 119 k119 (fun x => ((x.f0.length ≤ maxLen ∧ ∀ e7_ ∈ x.f0, (Lit.int .i64 e7_).wf = true) ∧ (x.f1.length ≤ maxLen ∧ ∀ e8_ ∈ x.f1, (Lit.int .i64 e8_).wf = true) ∧ (x.f2.length ≤ maxLen ∧ ∀ e9_ ∈ x.f2, (Lit.int .i64 e9_).wf = true))) :=
  Go.Proofs.YtoicemlndofphaaGreat.Opens.opens_struct (f := fun x : S119 => (x.f0, x.f1, x.f2)) (g := fun p => ⟨p.1, p.2.1, p.2.2⟩) (fun _ => rfl) Tryz.underlying119 (by kernel_rfl) (Go.Proofs.YtoicemlndofphaaGreat.Opens.opens_cons rfl (by kernel_rfl) opens29 (Go.Proofs.YtoicemlndofphaaGreat.Opens.opens_cons rfl (by kernel_rfl) opens29 (Go.Proofs.YtoicemlndofphaaGreat.Opens.opens_one rfl (by kernel_rfl) opens29)))
theorem opens22 : Go.Proofs.YtoicemlndofphaaGreat.Opens.Opens Tryz.prog 22 (Kd.slice 119 k119) (fun x => (x.length ≤ maxLen ∧ ∀ e10_ ∈ x, ((e10_.f0.length ≤ maxLen ∧ ∀ e11_ ∈ e10_.f0, (Lit.int .i64 e11_).wf = true) ∧ (e10_.f1.length ≤ maxLen ∧ ∀ e12_ ∈ e10_.f1, (Lit.int .i64 e12_).wf = true) ∧ (e10_.f2.length ≤ maxLen ∧ ∀ e13_ ∈ e10_.f2, (Lit.int .i64 e13_).wf = true)))) :=
  haveI : Inhabited S119 := ⟨z119⟩; Go.Proofs.YtoicemlndofphaaGreat.Opens.opens_slice Tryz.underlying22 (by kernel_rfl) opens119
theorem opens24 : Go.Proofs.YtoicemlndofphaaGreat.Opens.Opens Tryz.prog 24 k24 (fun x => ((Lit.int .i64 x.f0).wf = true ∧ (x.f1.length ≤ maxLen ∧ ∀ e14_ ∈ x.f1, ((e14_.f0.length ≤ maxLen ∧ ∀ e15_ ∈ e14_.f0, (Lit.int .i64 e15_).wf = true) ∧ (e14_.f1.length ≤ maxLen ∧ ∀ e16_ ∈ e14_.f1, (Lit.int .i64 e16_).wf = true) ∧ (e14_.f2.length ≤ maxLen ∧ ∀ e17_ ∈ e14_.f2, (Lit.int .i64 e17_).wf = true))))) :=
  Go.Proofs.YtoicemlndofphaaGreat.Opens.opens_struct (f := fun x : S24 => (x.f0, x.f1)) (g := fun p => ⟨p.1, p.2⟩) (fun _ => rfl) Tryz.underlying24 (by kernel_rfl) (Go.Proofs.YtoicemlndofphaaGreat.Opens.opens_cons rfl (by kernel_rfl) (Go.Proofs.YtoicemlndofphaaGreat.Opens.opens_int Tryz.underlying3) (Go.Proofs.YtoicemlndofphaaGreat.Opens.opens_one rfl (by kernel_rfl) opens22))
theorem opens26 : Go.Proofs.YtoicemlndofphaaGreat.Opens.Opens Tryz.prog 26 k26 (fun x => (((Lit.int .i64 x.f0.f0).wf = true ∧ (x.f0.f1.length ≤ maxLen ∧ ∀ e18_ ∈ x.f0.f1, ((e18_.f0.length ≤ maxLen ∧ ∀ e19_ ∈ e18_.f0, (Lit.int .i64 e19_).wf = true) ∧ (e18_.f1.length ≤ maxLen ∧ ∀ e20_ ∈ e18_.f1, (Lit.int .i64 e20_).wf = true) ∧ (e18_.f2.length ≤ maxLen ∧ ∀ e21_ ∈ e18_.f2, (Lit.int .i64 e21_).wf = true)))) ∧ (Lit.int .i64 x.f1).wf = true ∧ (Lit.int .i64 x.f2).wf = true)) :=
  Go.Proofs.YtoicemlndofphaaGreat.Opens.opens_struct (f := fun x : S26 => (x.f0, x.f1, x.f2)) (g := fun p => ⟨p.1, p.2.1, p.2.2⟩) (fun _ => rfl) Tryz.underlying26 (by kernel_rfl) (Go.Proofs.YtoicemlndofphaaGreat.Opens.opens_cons rfl (by kernel_rfl) opens24 (Go.Proofs.YtoicemlndofphaaGreat.Opens.opens_cons rfl (by kernel_rfl) (Go.Proofs.YtoicemlndofphaaGreat.Opens.opens_int Tryz.underlying3) (Go.Proofs.YtoicemlndofphaaGreat.Opens.opens_one rfl (by kernel_rfl) (Go.Proofs.YtoicemlndofphaaGreat.Opens.opens_int Tryz.underlying3))))
theorem opens46 : Go.Proofs.YtoicemlndofphaaGreat.Opens.Opens Tryz.prog 46 k46 (fun x => ((Lit.int .i64 x.f0).wf = true ∧ (Lit.int .i64 x.f1).wf = true ∧ (x.f2.length ≤ maxLen ∧ ∀ e22_ ∈ x.f2, (Lit.int .i64 e22_).wf = true) ∧ (Lit.int .i64 x.f3).wf = true)) :=
  Go.Proofs.YtoicemlndofphaaGreat.Opens.opens_struct (f := fun x : S46 => (x.f0, x.f1, x.f2, x.f3)) (g := fun p => ⟨p.1, p.2.1, p.2.2.1, p.2.2.2⟩) (fun _ => rfl) Tryz.underlying46 (by kernel_rfl) (Go.Proofs.YtoicemlndofphaaGreat.Opens.opens_cons rfl (by kernel_rfl) (Go.Proofs.YtoicemlndofphaaGreat.Opens.opens_int Tryz.underlying3) (Go.Proofs.YtoicemlndofphaaGreat.Opens.opens_cons rfl (by kernel_rfl) (Go.Proofs.YtoicemlndofphaaGreat.Opens.opens_int Tryz.underlying3) (Go.Proofs.YtoicemlndofphaaGreat.Opens.opens_cons rfl (by kernel_rfl) opens29 (Go.Proofs.YtoicemlndofphaaGreat.Opens.opens_one rfl (by kernel_rfl) (Go.Proofs.YtoicemlndofphaaGreat.Opens.opens_int Tryz.underlying3)))))
end Go.Proofs.YtoicemlndofphaaGreat.F
