/- How what comes in as data (slices, structs, whole numbers, nested) reads in the printed texts' words. -/
import Derived.Test.YtffdacmdgfpnmaaT
import Derived.WideShapes
import Derived.ChangeArms
import Derived.DataReads
import Derived.Deep.Slices
namespace Go.Proofs.Ytffdacmdgfpnmaa.Opens
open Go.RowKit Go.Proofs.YtffdacmdgfpnmaaW.PrintWords
set_option linter.unusedVariables false
set_option linter.unusedSimpArgs false
/-- Whatever of type t can be read as data is a value of the kind d, of which G holds. -/
def Opens (P : Program) (t : TypeId) {α : Type} (d : Kd α) (G : α → Prop) : Prop :=
  ∀ {H : Type} {enc : TypeId × Value → H} {w : World} {base : Nat} {spare : Nat → Bool} {held : Bool} {fuel : Nat} {cs : List Value} {y : DataW H × List MemPlace},
    DataW.trod enc P w base spare held fuel t cs = some y → ∃ x, d.K w x cs ∧ G x
theorem opens_int {P : Program} {t : TypeId} {k : IntKind} (ht : P.underlying t = some (.int k)) : Opens P t (Kd.int k) (fun x => (Lit.int k x).wf = true) := by
  intro H enc w base spare held fuel cs y h
  obtain ⟨n, rfl, _, hw⟩ := DataW.trod_int ht h
  exact ⟨n, rfl, hw⟩
theorem opens_slice {P : Program} {t e : TypeId} {α : Type} [Inhabited α] {d : Kd α} {G : α → Prop} (ht : P.underlying t = some (.slice e)) (hc : P.cellsOf e = d.sz) (hd : Opens P e d G) :
    Opens P t (Kd.slice e d) (fun xs => xs.length ≤ maxLen ∧ ∀ x ∈ xs, G x) := by
  intro H enc w base spare held fuel cs y h
  rcases Go.Deep.open_slice ht h with ⟨rfl, _⟩ | ⟨a, len, cap, m, n, D, Pl, rfl, hb, hl, hm, hmm, _, hel⟩
  · exact ⟨[], ⟨none, 0, rfl, by simp, Kd.C_nil _ _⟩, by simp, by simp⟩
  · have hlm : len ≤ m := by rw [hmm]; split <;> omega
    have hx : ∀ i, i < len → ∃ p : α × List Value, p.2.length = d.sz ∧ d.K w p.1 p.2 ∧ G p.1 ∧ ∀ j u, p.2[j]? = some u → w.cell? (a.add (i * d.sz + j)) = some u := by
      intro i hi
      obtain ⟨cs', hcs, htr⟩ := hel i (by omega)
      obtain ⟨x, hK, hG⟩ := hd htr
      refine ⟨(x, cs'), d.K_len hK, hK, hG, fun j u hu => ?_⟩
      obtain ⟨_, hlen, hcell⟩ := World.cells?_some hcs
      have hj : j < cs'.length := (List.getElem?_eq_some_iff.1 hu).1
      have h2 := hcell j (by omega)
      rw [hc] at h2
      rw [← Go.Deep.add_add]
      exact h2.trans hu
    obtain ⟨f, hf⟩ := Go.Deep.choose_lt (α := α × List Value) (p := fun i p => p.2.length = d.sz ∧ d.K w p.1 p.2 ∧ G p.1 ∧ ∀ j u, p.2[j]? = some u → w.cell? (a.add (i * d.sz + j)) = some u) hx
    have hll : ((List.range len).map fun i => (f i).1).length = len := by simp
    refine ⟨(List.range len).map fun i => (f i).1, ⟨some a, cap, by rw [hll], by rw [hll]; exact hl, ?_⟩, by rw [hll]; omega, ?_⟩
    · rw [hll]
      refine ⟨hll, by unfold maxLen at hm; omega, fun _ => ⟨a, rfl, fun j p hp => ?_⟩⟩
      have hj : j < len := by have := (List.getElem?_eq_some_iff.1 hp).1; omega
      have hpe : (f j).1 = p := by simpa [hj] using hp
      subst hpe
      obtain ⟨h1, h2, _, h4⟩ := hf j hj
      exact ⟨(f j).2, h1, h2, h4⟩
    · intro x hx
      simp only [List.mem_map, List.mem_range] at hx
      obtain ⟨i, hi, rfl⟩ := hx
      exact (hf i hi).2.2.1
/-- The fields from a place on. -/
def OpensF (P : Program) (off : Nat) (fs : List Field) {α : Type} (d : Kd α) (G : α → Prop) : Prop :=
  ∀ {H : Type} {enc : TypeId × Value → H} {w : World} {base : Nat} {spare : Nat → Bool} {held : Bool} {n : Nat} {cs : List Value} {ys : List (DataW H × List MemPlace)},
    (∀ (i : Nat) (f : Field), fs[i]? = some f → DataW.trod enc P w base spare held n f.type ((cs.drop f.offset).take (P.cellsOf f.type)) = ys[i]?) → ys.length = fs.length → cs.length = off + d.sz → ∃ x, d.K w x (cs.drop off) ∧ G x
theorem opens_one {P : Program} {off : Nat} {f : Field} {α : Type} {d : Kd α} {G : α → Prop} (ho : f.offset = off) (hc : P.cellsOf f.type = d.sz) (hd : Opens P f.type d G) : OpensF P off [f] d G := by
  intro H enc w base spare held n cs ys h hl hcs
  obtain ⟨y, rfl⟩ : ∃ y, ys = [y] := by
    rcases ys with _ | ⟨y, _ | ⟨z, l⟩⟩
    · simp at hl
    · exact ⟨y, rfl⟩
    · simp at hl
  have h0 := h 0 f rfl
  rw [ho, hc, List.take_of_length_le (by rw [List.length_drop]; omega)] at h0
  exact hd h0
theorem opens_cons {P : Program} {off : Nat} {f : Field} {fs : List Field} {α β : Type} {d : Kd α} {d' : Kd β} {G : α → Prop} {G' : β → Prop} (ho : f.offset = off) (hc : P.cellsOf f.type = d.sz) (hd : Opens P f.type d G) (hr : OpensF P (off + d.sz) fs d' G') :
    OpensF P off (f :: fs) (Kd.pair d d') (fun x => G x.1 ∧ G' x.2) := by
  intro H enc w base spare held n cs ys h hl hcs
  obtain ⟨y, ys, rfl⟩ : ∃ y ys', ys = y :: ys' := by
    rcases ys with _ | ⟨y, l⟩
    · simp at hl
    · exact ⟨y, l, rfl⟩
  have hcs' : cs.length = off + (d.sz + d'.sz) := hcs
  have h0 := h 0 f rfl
  rw [ho, hc] at h0
  obtain ⟨x, hK, hG⟩ := hd h0
  obtain ⟨x', hK', hG'⟩ := hr (w := w) (cs := cs) (ys := ys) (fun i g hg => by simpa using h (i + 1) g (by simpa using hg)) (by simpa using hl) (by omega)
  refine ⟨(x, x'), ⟨(cs.drop off).take d.sz, cs.drop (off + d.sz), ?_, hK, hK'⟩, hG, hG'⟩
  rw [← List.drop_drop, List.take_append_drop]
theorem opens_struct {P : Program} {t : TypeId} {fs : Array Field} {α β : Type} {d : Kd α} {G : α → Prop} {f : β → α} {g : α → β} (hfg : ∀ x, f (g x) = x) (ht : P.underlying t = some (.struct fs)) (hc : P.cellsOf t = d.sz) (hd : OpensF P 0 fs.toList d G) :
    Opens P t (Kd.iso d f) (fun x => G (f x)) := by
  intro H enc w base spare held fuel cs y h
  obtain ⟨xs, n, _, _, hl, hlen, hf⟩ := DataW.trod_struct ht h
  obtain ⟨x, hK, hG⟩ := hd (w := w) (cs := cs) (ys := xs) (fun i q hq => hf i q (by simpa using hq)) (by simpa using hlen) (by omega)
  refine ⟨g x, ?_, by show G (f (g x)); rw [hfg]; exact hG⟩
  show d.K w (f (g x)) cs
  rw [hfg]
  exact hK
end Go.Proofs.Ytffdacmdgfpnmaa.Opens
