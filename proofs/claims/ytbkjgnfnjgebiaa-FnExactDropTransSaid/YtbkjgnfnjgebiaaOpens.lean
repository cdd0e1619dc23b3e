/- How what comes in as data (slices, structs, whole numbers, nested) reads in the printed texts' words. -/
import Derived.Test.YtbkjgnfnjgebiaaT
import Derived.WideShapes
import Derived.ChangeArms
import Derived.DataReads
import Derived.Deep.Slices
namespace Go.Proofs.Ytbkjgnfnjgebiaa.Opens
open Go.RowKit Go.Proofs.YtbkjgnfnjgebiaaW.PrintWords
set_option linter.unusedVariables false
set_option linter.unusedSimpArgs false
/-- Whatever of type t can be read as data is a value of the kind d, of which G holds. -/
def Opens (P : Program) (t : TypeId) {α : Type} (d : Kd α) (G : α → Prop) : Prop :=
  ∀ {H : Type} {enc : TypeId × Value → H} {w : World} {base : Nat} {spare : Nat → Bool} {held : Bool} {fuel : Nat} {cs : List Value} {y : DataW H × List MemPlace},
    DataW.trod enc P w base spare held fuel t cs = some y → ∃ x, d.K w x cs ∧ G x
theorem opens_int {P : Program} {t : TypeId} {k : IntKind} (ht : P.underlying t = some (.int k)) : Opens P t (Kd.int k) (fun x => (Lit.int k x).wf = true) := by
  intro H enc w base spare held fuel cs y h
  obtain ⟨n, rfl, _, hw⟩ := DataW.trod_int ht h
  exact ⟨n, rfl, hw⟩
theorem opens_slice {P : Program} {t e : TypeId} {α : Type} [Inhabited α] {d : Kd α} {G : α → Prop} (ht : P.underlying t = some (.slice e)) (hc : P.cellsOf e = d.sz) (hd : Opens P e d G) :
    Opens P t (Kd.slice e d) (fun xs => xs.length ≤ maxLen ∧ ∀ x ∈ xs, G x) := by
  intro H enc w base spare held fuel cs y h
  rcases Go.Deep.open_slice ht h with ⟨rfl, _⟩ | ⟨a, len, cap, m, n, D, Pl, rfl, hb, hl, hm, hmm, _, hel⟩
  · exact ⟨[], ⟨none, 0, rfl, by simp, Kd.C_nil _ _⟩, by simp, by simp⟩
  · have hlm : len ≤ m := by rw [hmm]; split <;> omega
    have hx : ∀ i, i < len → ∃ p : α × List Value, p.2.length = d.sz ∧ d.K w p.1 p.2 ∧ G p.1 ∧ ∀ j u, p.2[j]? = some u → w.cell? (a.add (i * d.sz + j)) = some u := by
      intro i hi
      obtain ⟨cs', hcs, htr⟩ := hel i (by omega)
      obtain ⟨x, hK, hG⟩ := hd htr
      refine ⟨(x, cs'), d.K_len hK, hK, hG, fun j u hu => ?_⟩
      obtain ⟨_, hlen, hcell⟩ := World.cells?_some hcs
      have hj : j < cs'.length := (List.getElem?_eq_some_iff.1 hu).1
      have h2 := hcell j (by omega)
      rw [hc] at h2
      rw [← Go.Deep.add_add]
      exact h2.trans hu
    obtain ⟨f, hf⟩ := Go.Deep.choose_lt (α := α × List Value) (p := fun i p => p.2.length = d.sz ∧ d.K w p.1 p.2 ∧ G p.1 ∧ ∀ j u, p.2[j]? = some u → w.cell? (a.add (i * d.sz + j)) = some u) hx
    have hll : ((List.range len).map fun i => (f i).1).length = len := by simp
    refine ⟨(List.range len).map fun i => (f i).1, ⟨some a, cap, by rw [hll], by rw [hll]; exact hl, ?_⟩, by rw [hll]; omega, ?_⟩
    · rw [hll]
      refine ⟨hll, by unfold maxLen at hm; omega, fun _ => ⟨a, rfl, fun j p hp => ?_⟩⟩
      have hj : j < len := by have := (List.getElem?_eq_some_iff.1 hp).1; omega
      have hpe : (f j).1 = p := by simpa [hj] using hp
      subst hpe
      obtain ⟨h1, h2, _, h4⟩ := hf j hj
      exact ⟨(f j).2, h1, h2, h4⟩
    · intro x hx
      simp only [List.mem_map, List.mem_range] at hx
      obtain ⟨i, hi, rfl⟩ := hx
      exact (hf i hi).2.2.1
/-- The fields from a place on. -/
def OpensF (P : Program) (off : Nat) (fs : List Field) {α : Type} (d : Kd α) (G : α → Prop) : Prop :=
  ∀ {H : Type} {enc : TypeId × Value → H} {w : World} {base : Nat} {spare : Nat → Bool} {held : Bool} {n : Nat} {cs : List Value} {ys : List (DataW H × List MemPlace)},
    (∀ (i : Nat) (f : Field), fs[i]? = some f → DataW.trod enc P w base spare held n f.type ((cs.drop f.offset).take (P.cellsOf f.type)) = ys[i]?) → ys.length = fs.length → cs.length = off + d.sz → ∃ x, d.K w x (cs.drop off) ∧ G x
theorem opens_one {P : Program} {off : Nat} {f : Field} {α : Type} {d : Kd α} {G : α → Prop} (ho : f.offset = off) (hc : P.cellsOf f.type = d.sz) (hd : Opens P f.type d G) : OpensF P off [f] d G := by
  intro H enc w base spare held n cs ys h hl hcs
  obtain ⟨y, rfl⟩ : ∃ y, ys = [y] := by
    rcases ys with _ | ⟨y, _ | ⟨z, l⟩⟩
    · simp at hl
    · exact ⟨y, rfl⟩
    · simp at hl
  have h0 := h 0 f rfl
  rw [ho, hc, List.take_of_length_le (by rw [List.length_drop]; omega)] at h0
  exact hd h0
theorem opens_cons {P : Program} {off : Nat} {f : Field} {fs : List Field} {α β : Type} {d : Kd α} {d' : Kd β} {G : α → Prop} {G' : β → Prop} (ho : f.offset = off) (hc : P.cellsOf f.type = d.sz) (hd : Opens P f.type d G) (hr : OpensF P (off + d.sz) fs d' G') :
    OpensF P off (f :: fs) (Kd.pair d d') (fun x => G x.1 ∧ G' x.2) := by
  intro H enc w base spare held n cs ys h hl hcs
  obtain ⟨y, ys, rfl⟩ : ∃ y ys', ys = y :: ys' := by
    rcases ys with _ | ⟨y, l⟩
    · simp at hl
    · exact ⟨y, l, rfl⟩
  have hcs' : cs.length = off + (d.sz + d'.sz) := hcs
  have h0 := h 0 f rfl
  rw [ho, hc] at h0
  obtain ⟨x, hK, hG⟩ := hd h0
  obtain ⟨x', hK', hG'⟩ := hr (w := w) (cs := cs) (ys := ys) (fun i g hg => by simpa using h (i + 1) g (by simpa using hg)) (by simpa using hl) (by omega)
  refine ⟨(x, x'), ⟨(cs.drop off).take d.sz, cs.drop (off + d.sz), ?_, hK, hK'⟩, hG, hG'⟩
  rw [← List.drop_drop, List.take_append_drop]
theorem opens_struct {P : Program} {t : TypeId} {fs : Array Field} {α β : Type} {d : Kd α} {G : α → Prop} {f : β → α} {g : α → β} (hfg : ∀ x, f (g x) = x) (ht : P.underlying t = some (.struct fs)) (hc : P.cellsOf t = d.sz) (hd : OpensF P 0 fs.toList d G) :
    Opens P t (Kd.iso d f) (fun x => G (f x)) := by
  intro H enc w base spare held fuel cs y h
  obtain ⟨xs, n, _, _, hl, hlen, hf⟩ := DataW.trod_struct ht h
  obtain ⟨x, hK, hG⟩ := hd (w := w) (cs := cs) (ys := xs) (fun i q hq => hf i q (by simpa using hq)) (by simpa using hlen) (by omega)
  refine ⟨g x, ?_, by show G (f (g x)); rw [hfg]; exact hG⟩
  show d.K w (f (g x)) cs
  rw [hfg]
  exact hK
end Go.Proofs.Ytbkjgnfnjgebiaa.Opens
namespace Go.Proofs.YtbkjgnfnjgebiaaW.PrintWords
open Go.RowKit
/-- W is w behind plain steps: new blocks, drawn orders. -/
class Steps (w W : World) : Prop where
  below : Below w.heap.size w W
instance (w : World) : Steps w w := ⟨Below.refl _ _⟩
instance (w W : World) [h : Steps w W] (o : Obj) : Steps w (W.alloc o) := ⟨below_alloc h.below o⟩
instance (w W : World) [h : Steps w W] (n : Nat) : Steps w (W.drewN n) := ⟨pw_below_drewN h.below n⟩
instance (w W : World) [h : Steps w W] : Steps w W.drew := ⟨below_drew h.below⟩
instance (priority := low) (w W : World) [h : Steps w W] (m : Nat) : Steps (w.drewN m) W := ⟨⟨h.below.os, h.below.tape, h.below.output, h.below.size, h.below.block⟩⟩
instance (priority := low) (w W : World) [h : Steps w W] : Steps w.drew W := ⟨⟨h.below.os, h.below.tape, h.below.output, h.below.size, h.below.block⟩⟩
section
variable {P : Program} {ops : Array Oper} {Q : Exit → Act → World → Prop}
theorem goesN {oi : Oper} {N : Option Tmp} {a : Act} {w : World} {K : Act → World → Prop} {f : FuncId} {fn : Func} {as : Array Operand} {ts : Array TypeId} (hf : P.funcs[f]? = some fn) (args : Array Value)
    (hw : Region.wanted oi (yielded ops a.tmps) = true) (hN : oi.dst = N) (hop : oi.op = .call { callee := .value (.func f), args := as, argTypes := ts })
    (h : Calls P f args w fun e w' => ∃ v, e = .returned v ∧ K (a.put N v) w') (hname : (fn.name == "runtime.NumGoroutine") = false := by kernel_rfl) (hb : fn.body.isSome = true := by rfl)
    (hargs : as.map a.eval = args := by (try simp only [List.map_toArray, List.map_cons, List.map_nil]); first | done | rfl | (simp only [List.length_drop, List.length_take]; rfl)) :
    if Region.wanted oi (yielded ops a.tmps) = true then Oper.wp P oi a w K Q else K (a.put N undef) w := PrintLast.goes_ hf hname hb args hw hN hop hargs h
theorem goesM {rest : List Oper} {oi : Oper} {a : Act} {w : World} (N : Option Tmp) (hd : oi.dst = N) (hg : oi.guard = none) {f : FuncId} {fn : Func} {as : Array Operand} {ts : Array TypeId} (hf : P.funcs[f]? = some fn) (args : Array Value)
    (hop : oi.op = .call { callee := .value (.func f), args := as, argTypes := ts }) (h : Calls P f args w fun e w' => ∃ v, e = .returned v ∧ wpList P ops Q rest (a.put N v) w')
    (hname : (fn.name == "runtime.NumGoroutine") = false := by kernel_rfl) (hb : fn.body.isSome = true := by rfl)
    (hargs : as.map a.eval = args := by (try simp only [List.map_toArray, List.map_cons, List.map_nil]); first | done | rfl | (simp only [List.length_drop, List.length_take]; rfl)) :
    wpList P ops Q (oi :: rest) a w := PrintLast.goesL_ N hd hg hf hname hb args hop hargs h
end
theorem q_ {p : Prop} (h : p) : Aside0 p := ⟨h⟩
theorem fin_ {a b : Prop} (h : b) (ha : a := by first | rfl | (simp [errW_none, errW_some] <;> rfl) | (simp [*, errW_none, errW_some] <;> rfl)) : a ∧ b := ⟨ha, h⟩
theorem cb_ {w W : World} {a : Addr} {v : Value} (h : Below w.heap.size w W) (hx : w.cell? a = some v) : W.cell? a = some v := (h.cell (World.block_lt_of_cell? w _ hx)).trans hx
theorem od {p : Prop} [d : Decidable p] (h : decide p = true := by first | (with_reducible assumption) | assumption) : p := of_decide_eq_true h
section
variable {P : Program} {ops : Array Oper} {Q : Exit → Act → World → Prop} {md : Region.Mode} {S : World → Prop} {ds : List Nat}
theorem pureA {i : Nat} {N : Option Tmp} {oi : Oper} {v : Value} {fuel : Nat} {l : Array Bool} {a : Act} {w : World} (l' : Array Bool) (hi : ops[i]? = some oi) (hN : oi.dst = N) (hc : PrintLast.anyB md ops l l' i = true)
    {a' : Act} (h : PrintLast.wpAnyLast P md ops Q S ds fuel l' a' w) (hQ : ∀ c a w, Q (.panic c) (a.put oi.dst v) w → Q (.panic c) a w := by exact fun _ _ _ h => h)
    (hy : Yields P ops oi v a := by exact Or.inl ⟨by rfl, by intro w'; go_simp; (with_reducible rfl)⟩)
    (ha : a.put N v = a' := by simp only [Act.put, List.setIfInBounds_toArray, List.set_cons_zero, List.set_cons_succ, i64_w, i32_w]; rfl) : PrintLast.wpAnyLast P md ops Q S ds (fuel + 1) l a w := PrintLast.pure_ l' hi hN hc hQ hy ha h
theorem takeA {i : Nat} {N : Option Tmp} {oi : Oper} {v : Value} {fuel : Nat} {l : Array Bool} {a : Act} {w : World} (l' : Array Bool) (hi : ops[i]? = some oi) (hN : oi.dst = N) (hc : PrintLast.takeB md ops ds l l' i = true)
    (hy : YieldsIf P ops S oi v a) (hS : S w) {a' : Act} (h : PrintLast.wpAnyLast P md ops Q S ds fuel l' a' w) (hQ : ∀ c a w, Q (.panic c) (a.put oi.dst v) w → Q (.panic c) a w := by exact fun _ _ _ h => h)
    (ha : a.put N v = a' := by simp only [Act.put, List.setIfInBounds_toArray, List.set_cons_zero, List.set_cons_succ, i64_w, i32_w]; rfl) : PrintLast.wpAnyLast P md ops Q S ds (fuel + 1) l a w := PrintLast.take_ l' hi hN hc hQ hy hS ha h
theorem nrm_ {fuel : Nat} {l : Array Bool} {a a' : Act} {w : World} (h : PrintLast.wpAnyLast P md ops Q S ds fuel l a' w) (ha : a = a' := by first | (simp only [putAll, Act.put, List.setIfInBounds_toArray, List.set_cons_zero, List.set_cons_succ]; done) | (simp only [putAll, Act.put, List.setIfInBounds_toArray, List.set_cons_zero, List.set_cons_succ]; rfl)) : PrintLast.wpAnyLast P md ops Q S ds fuel l a w := PrintLast.norm_ ha h
end
theorem bb {w W w2 : World} {g : Nat} {o : Obj} [s : Steps w W] (h : w.heap[g]? = some o) (hb : Below W.heap.size W w2) : w2.heap[g]? = some o := blk_below (blk_below h s.below) hb
theorem bs {w0 w W w2 : World} [s : Steps w W] (h : Below w0.heap.size w0 w) (hb : Below W.heap.size W w2) : Below w0.heap.size w0 w2 := below_step (below_step h s.below) hb
theorem gw_ {w0 w W : World} {g : Nat} [s : Steps w W] (hg : g = W.heap.size) (h : Below w0.heap.size w0 w) : w0.heap.size ≤ g := by rw [hg]; exact below_size (below_step h s.below)
theorem nb_ {w W : World} {g f : Nat} {o : Obj} [s : Steps w W] (hg : g = W.heap.size) (h : w.heap[f]? = some o) : f ≠ g := by rw [hg]; exact Nat.ne_of_lt (blk_lt (blk_below h s.below))
theorem bn_ {w W : World} {g f : Nat} {o : Obj} [s : Steps w W] (hg : g = W.heap.size) (h : w.heap[f]? = some o) : g ≠ f := Ne.symm (nb_ hg h)
theorem hz_ {w W w2 : World} [s : Steps w W] (hb : Below W.heap.size W w2) : w.heap.size ≤ w2.heap.size := Nat.le_trans (below_size s.below) (below_size hb)
theorem cz1 {w : World} {g : Nat} {t : TypeId} {x0 : Value} (h : w.heap[g]? = some (.cells #[x0] t (0, 0))) : w.cell? ⟨g, 0, none⟩ = some x0 ∧ w.frozen? ⟨g, 0, none⟩ = false := ⟨(blk_cell h 0).trans rfl, blk_frozen h 0⟩
theorem cz2 {w : World} {g : Nat} {t : TypeId} {x0 x1 : Value} (h : w.heap[g]? = some (.cells #[x0, x1] t (0, 0))) : w.cell? ⟨g, 0, none⟩ = some x0 ∧ w.cell? ⟨g, 1, none⟩ = some x1 ∧ w.frozen? ⟨g, 0, none⟩ = false ∧ w.frozen? ⟨g, 1, none⟩ = false := ⟨(blk_cell h 0).trans rfl, (blk_cell h 1).trans rfl, blk_frozen h 0, blk_frozen h 1⟩
theorem cz3 {w : World} {g : Nat} {t : TypeId} {x0 x1 x2 : Value} (h : w.heap[g]? = some (.cells #[x0, x1, x2] t (0, 0))) : w.cell? ⟨g, 0, none⟩ = some x0 ∧ w.cell? ⟨g, 1, none⟩ = some x1 ∧ w.cell? ⟨g, 2, none⟩ = some x2 ∧ w.frozen? ⟨g, 0, none⟩ = false ∧ w.frozen? ⟨g, 1, none⟩ = false ∧ w.frozen? ⟨g, 2, none⟩ = false := ⟨(blk_cell h 0).trans rfl, (blk_cell h 1).trans rfl, (blk_cell h 2).trans rfl, blk_frozen h 0, blk_frozen h 1, blk_frozen h 2⟩
theorem cz4 {w : World} {g : Nat} {t : TypeId} {x0 x1 x2 x3 : Value} (h : w.heap[g]? = some (.cells #[x0, x1, x2, x3] t (0, 0))) : w.cell? ⟨g, 0, none⟩ = some x0 ∧ w.cell? ⟨g, 1, none⟩ = some x1 ∧ w.cell? ⟨g, 2, none⟩ = some x2 ∧ w.cell? ⟨g, 3, none⟩ = some x3 ∧ w.frozen? ⟨g, 0, none⟩ = false ∧ w.frozen? ⟨g, 1, none⟩ = false ∧ w.frozen? ⟨g, 2, none⟩ = false ∧ w.frozen? ⟨g, 3, none⟩ = false := ⟨(blk_cell h 0).trans rfl, (blk_cell h 1).trans rfl, (blk_cell h 2).trans rfl, (blk_cell h 3).trans rfl, blk_frozen h 0, blk_frozen h 1, blk_frozen h 2, blk_frozen h 3⟩
theorem cz5 {w : World} {g : Nat} {t : TypeId} {x0 x1 x2 x3 x4 : Value} (h : w.heap[g]? = some (.cells #[x0, x1, x2, x3, x4] t (0, 0))) : w.cell? ⟨g, 0, none⟩ = some x0 ∧ w.cell? ⟨g, 1, none⟩ = some x1 ∧ w.cell? ⟨g, 2, none⟩ = some x2 ∧ w.cell? ⟨g, 3, none⟩ = some x3 ∧ w.cell? ⟨g, 4, none⟩ = some x4 ∧ w.frozen? ⟨g, 0, none⟩ = false ∧ w.frozen? ⟨g, 1, none⟩ = false ∧ w.frozen? ⟨g, 2, none⟩ = false ∧ w.frozen? ⟨g, 3, none⟩ = false ∧ w.frozen? ⟨g, 4, none⟩ = false := ⟨(blk_cell h 0).trans rfl, (blk_cell h 1).trans rfl, (blk_cell h 2).trans rfl, (blk_cell h 3).trans rfl, (blk_cell h 4).trans rfl, blk_frozen h 0, blk_frozen h 1, blk_frozen h 2, blk_frozen h 3, blk_frozen h 4⟩
theorem cz6 {w : World} {g : Nat} {t : TypeId} {x0 x1 x2 x3 x4 x5 : Value} (h : w.heap[g]? = some (.cells #[x0, x1, x2, x3, x4, x5] t (0, 0))) : w.cell? ⟨g, 0, none⟩ = some x0 ∧ w.cell? ⟨g, 1, none⟩ = some x1 ∧ w.cell? ⟨g, 2, none⟩ = some x2 ∧ w.cell? ⟨g, 3, none⟩ = some x3 ∧ w.cell? ⟨g, 4, none⟩ = some x4 ∧ w.cell? ⟨g, 5, none⟩ = some x5 ∧ w.frozen? ⟨g, 0, none⟩ = false ∧ w.frozen? ⟨g, 1, none⟩ = false ∧ w.frozen? ⟨g, 2, none⟩ = false ∧ w.frozen? ⟨g, 3, none⟩ = false ∧ w.frozen? ⟨g, 4, none⟩ = false ∧ w.frozen? ⟨g, 5, none⟩ = false := ⟨(blk_cell h 0).trans rfl, (blk_cell h 1).trans rfl, (blk_cell h 2).trans rfl, (blk_cell h 3).trans rfl, (blk_cell h 4).trans rfl, (blk_cell h 5).trans rfl, blk_frozen h 0, blk_frozen h 1, blk_frozen h 2, blk_frozen h 3, blk_frozen h 4, blk_frozen h 5⟩
theorem bv {w0 w W : World} [s : Steps w W] (h : Below w0.heap.size w0 w) : Below w0.heap.size w0 W := below_step h s.below
theorem kv {w0 w W : World} {S : Nat → Prop} [s : Steps w W] (h : Kept w0 w S) : Kept w0 W S := h.below s.below
theorem blk_v {w W : World} {g : Nat} {o : Obj} [s : Steps w W] (h : w.heap[g]? = some o) : W.heap[g]? = some o := blk_below h s.below
theorem frozen_at {w w' : World} {m : Nat} {a : Addr} {b : Bool} (hq : w.drewN m = w') (h : w.frozen? a = b) : w'.frozen? a = b := by subst hq; exact h
theorem ifp_ {c : Prop} [Decidable c] {α : Type} {a : Option α} {r : α} (h : (if c then a else none) = some r) : c ∧ a = some r := by
  by_cases hc : c
  · rw [if_pos hc] at h; exact ⟨hc, h⟩
  · rw [if_neg hc] at h; cases h
theorem ifn_ {c : Prop} [Decidable c] {α : Type} {a : Option α} {r : α} (h : (if c then none else a) = some r) : ¬ c ∧ a = some r := by
  by_cases hc : c
  · rw [if_pos hc] at h; cases h
  · rw [if_neg hc] at h; exact ⟨hc, h⟩
theorem itt_ {α : Type} {a b : Option α} {r : α} (h : (if true = true then a else b) = some r) : a = some r := h
theorem iff_ {α : Type} {a b : Option α} {r : α} (h : (if false = true then a else b) = some r) : b = some r := by rw [if_neg (by decide)] at h; exact h
theorem bnd_ {α β : Type} {x : Option α} {f : α → Option β} {r : β} (h : x.bind f = some r) : ∃ a, Aside0 (x = some a) ∧ f a = some r := by
  obtain ⟨a, h1, h2⟩ := Option.bind_eq_some_iff.1 h
  exact ⟨a, ⟨h1⟩, h2⟩
theorem bs_ {α β : Type} {t : α} {f : α → Option β} {r : β} (h : (some t).bind f = some r) : f t = some r := h
theorem ifd_ {c : Prop} [Decidable c] {α : Type} {a : Option α} {r : α} (h : (if c then a else none) = some r) : decide c = true ∧ a = some r := ⟨decide_eq_true (ifp_ h).1, (ifp_ h).2⟩
theorem ifnd_ {c : Prop} [Decidable c] {α : Type} {a : Option α} {r : α} (h : (if c then none else a) = some r) : decide c = false ∧ a = some r := ⟨decide_eq_false (ifn_ h).1, (ifn_ h).2⟩
theorem ifw_ {c : Prop} [Decidable c] {α : Type} {a b : Option α} {r : α} (h : (if c then a else b) = some r) : (c ∧ a = some r) ∨ (¬ c ∧ b = some r) := by
  by_cases hc : c
  · rw [if_pos hc] at h; exact .inl ⟨hc, h⟩
  · rw [if_neg hc] at h; exact .inr ⟨hc, h⟩
theorem ifc_ {c : Prop} [Decidable c] {α : Type} {a b : Option α} {r : α} (h : (if c then a else b) = some r) : (decide c = true ∧ a = some r) ∨ (decide c = false ∧ b = some r) :=
  (ifw_ h).imp (fun x => ⟨decide_eq_true x.1, x.2⟩) (fun x => ⟨decide_eq_false x.1, x.2⟩)
theorem bt_ : ∀ b : Bool, b = true ∨ b = false := by decide
theorem s1_ {α : Type} {i : Nat} {a : α} {l : List α} : l.toArray.setIfInBounds i a = (l.set i a).toArray := List.setIfInBounds_toArray ..
theorem s2_ {α : Type} {b a : α} {l : List α} : (a :: l).set 0 b = b :: l := rfl
theorem s3_ {α : Type} {i : Nat} {b a : α} {l : List α} : (a :: l).set (i + 1) b = a :: l.set i b := rfl
theorem si_ {α : Type} {a b : α} (h : some a = some b) : a = b := Option.some.inj h
theorem er_ {α : Type} {a b : α} (h : a = b := by first | rfl | (simp [errW_none, errW_some] <;> rfl) | (simp [*, errW_none, errW_some] <;> rfl)) : a = b := h
theorem dr_ {p : Prop} {w w' : World} (h : p := by first | rfl | (simp; done) | (simp [*]; done)) (h2 : Drawn0 w w' := by repeat (first | exact Drawn0.refl _ | apply Drawn0.step)) : p ∧ Drawn0 w w' := ⟨h, h2⟩
theorem aI {p : Prop} {i n : Int} (f : 0 ≤ i → i < n → p) (h0 : 0 ≤ i := by exact od) (h1 : i < n := by exact od) : (0 ≤ i) = True ∧ (i < n) = True ∧ p := ⟨eq_true h0, eq_true h1, f h0 h1⟩
theorem cB {α : Type} {d : Kd α} {w0 w W : World} {A : Option Addr} {n : Nat} {xs : List α} [s : Steps w W] (h : Aside0 (Kd.C d w0 A n xs)) (hb : Aside0 (Below w0.heap.size w0 w)) : Kd.C d W A n xs := Kd.C_below (Kd.C_below h.out hb.out) s.below
theorem rB {α : Type} {d : Kd α} {t : Nat} {w W w2 : World} {n : Nat} {ok : Nat → Prop} {v : Value} {xs : List α} [s : Steps w W] (h : Aside0 (Kd.R d t w n ok v xs)) (hb : Below W.heap.size W w2) : Aside0 (Kd.R d t w2 n ok v xs) := ⟨Kd.R_below (Kd.R_below h.out s.below) hb⟩
theorem bB {w W w2 : World} {g : Nat} {o : Obj} [s : Steps w W] (h : Aside0 (w.heap[g]? = some o)) (hb : Below W.heap.size W w2) : Aside0 (w2.heap[g]? = some o) := ⟨bb h.out hb⟩
theorem bS {w0 w W w2 : World} [s : Steps w W] (h : Aside0 (Below w0.heap.size w0 w)) (hb : Below W.heap.size W w2) : Aside0 (Below w0.heap.size w0 w2) := ⟨bs h.out hb⟩
theorem eqv {α : Type} {a b : α} (h : a = b := by first | rfl | (simp; done) | (simp [*]; done)) : a = b := h
section
variable {P : Program} {ops : Array Oper} {rest : List Oper} {o : Oper} {a : Act} {Q : Exit → Act → World → Prop}
theorem boxE {W : World} (N : Tmp) (cs : Array Value) (t : TypeId) (h : ∀ g, g = W.heap.size → ∀ w1, w1.heap[g]? = some (.cells cs t (0, 0)) → Below W.heap.size W w1 → wpList P ops Q rest (a.put o.dst (.pointer (some ⟨g, 0, none⟩))) w1)
    (hd : o.dst = some N := by rfl) (hg : o.guard = none := by rfl) (hr : (execOp a.eval o).run P W = .ok (.value (.pointer (some ⟨W.heap.size, 0, none⟩))) (W.alloc (.cells cs t (0, 0))) := by first | (go_simp; done) | (go_simp; rfl)) : wpList P ops Q (o :: rest) a W := box_event hg hd hr h
end
/-- What can be read however the rows of S are written lies in none of them: its own cells are the same at any two such worlds. -/
theorem foot_same {w W W2 : World} {S : Nat → Prop} {α : Type} {d : Kd α} {ad : Addr} {n : Nat} {xs : List α} (h : ∀ W_, Kept w W_ S → d.C W_ (some ad) n xs) (hn : 0 < n) (hd : 0 < d.sz) (h1 : Kept w W S) (h2 : Kept w W2 S) {p : Addr} (hp : p.block = ad.block) : W.cell? p = W2.cell? p := by
  have get : ∀ W_, Kept w W_ S → ∃ u, W_.cell? (ad.add 0) = some u := by
    intro W_ hk
    obtain ⟨hl, _, hr⟩ := h W_ hk
    obtain ⟨a, ha, hc⟩ := hr hn
    injection ha with ha
    subst ha
    obtain ⟨c, hs, _, hu⟩ := hc 0 _ (List.getElem?_eq_getElem (by omega))
    have h0 := hu 0 _ (List.getElem?_eq_getElem (by omega))
    rw [Nat.zero_mul] at h0
    exact ⟨_, h0⟩
  have hadd : (ad.add 0).block = ad.block := by rw [add_block]
  have hlt : ad.block < w.heap.size := by
    obtain ⟨u, hu⟩ := get w (Kept.refl w S)
    have := World.block_lt_of_cell? w _ hu
    rwa [hadd] at this
  have hS : ¬ S ad.block := by
    intro hs
    have hk : Kept w { w with heap := w.heap.setIfInBounds ad.block (.cells #[] 0 (0, 0)) } S := by
      refine ⟨by simp, fun i _ hi => ?_⟩
      have hne : ad.block ≠ i := fun e => hi (e ▸ hs)
      simp [Array.getElem?_setIfInBounds, hne]
    obtain ⟨u, hu⟩ := get _ hk
    unfold World.cell? at hu
    rw [hadd] at hu
    simp [Array.getElem?_setIfInBounds, hlt] at hu
  unfold World.cell?
  rw [hp, h1.2 _ hlt hS, h2.2 _ hlt hS]
namespace Kd
section
variable {α : Type} {d : Kd α} {e base n : Nat} {w W : World} {ok : Nat → Prop} {v : Value} {xs : List α} {A : Option Addr}
theorem R_v [s : Steps w W] (h : d.R e w base ok v xs) : d.R e W base ok v xs := R_below h s.below
theorem S_v [s : Steps w W] (h : S d e w base ok v xs) : S d e W base ok v xs := S_below h s.below
theorem S_either {w1 : World} {v' : Value} {xs' : List α} {n c : Nat} (h : S d e w1 base ok (.slice A n c) xs) (he : (v' = .slice A n c ∧ xs' = xs) ∨ (v' = .slice none 0 0 ∧ xs' = [])) : S d e w1 base ok v' xs' := by
  rcases he with ⟨rfl, rfl⟩ | ⟨rfl, rfl⟩
  · exact h
  · exact S_nil _ _ _ _ _
theorem N_v [s : Steps w W] (h : N d e w base ok v xs) : N d e W base ok v xs := N_below h s.below
theorem V_v [s : Steps w W] (h : V d e w base ok v xs) : V d e W base ok v xs := V_below h s.below
theorem Q_v [s : Steps w W] (h : d.Q e w base ok v xs) : d.Q e W base ok v xs := Q_below h s.below
theorem C_v [s : Steps w W] (h : d.C w A n xs) : d.C W A n xs := C_below h s.below
end
/-- A row is told by the time at which it was made. -/
theorem S_iv {α : Type} {d : Kd α} {e base lo : Nat} {w1 : World} {ok : Nat → Prop} {v : Value} {xs : List α} (h : S d e w1 base ok v xs) (hb : lo ≤ base) : S d e w1 base (fun k => ok k ∧ (lo ≤ k ∧ k < w1.heap.size)) v xs := S_mono (S_bound h) (fun k hk => ⟨hk.1, Nat.le_trans hb hk.2.1, hk.2.2.1⟩)
theorem R_iv {α : Type} {d : Kd α} {e base lo : Nat} {w1 : World} {ok : Nat → Prop} {v : Value} {xs : List α} (h : d.R e w1 base ok v xs) (hb : lo ≤ base) : d.R e w1 base (fun k => ok k ∧ (lo ≤ k ∧ k < w1.heap.size)) v xs := R_mono (R_bound h) (fun k hk => ⟨hk.1, Nat.le_trans hb hk.2.1, hk.2.2.1⟩)
section
variable {P : Program} {ops : Array Oper} {rest : List Oper} {o : Oper} {a : Act} {Q : Exit → Act → World → Prop} {α : Type}
/-- A literal of one element whose blocks are okp: as an append to nil. -/
theorem S_lit1 (d : Kd α) {w0 W : World} (base e : Nat) (hgd : o.guard = none) {N : Tmp} (hd : o.dst = some N) (p : α) (cs : List Value) (ok okp : Nat → Prop)
    (hrun : (execOp a.eval o).run P W = .ok (.value (.slice (some ⟨W.heap.size, 0, none⟩) 1 1)) (W.alloc (.cells cs.toArray e)))
    (hp : d.M W base okp p cs) (hokp : ∀ k, okp k → ok k ∧ some k ≠ (Value.slice none 0 0).ownBlock) (hfresh : ∀ k, W.heap.size ≤ k → ok k) (HB : Below base w0 W) (hbase : base ≤ W.heap.size)
    (h : ∀ v1 w1, S d e w1 base ok v1 [p] → Below base w0 w1 → W.grownBy w1 (Value.slice none 0 0).ownBlock → (v1.ownBlock = (Value.slice none 0 0).ownBlock ∨ ∃ b, v1.ownBlock = some b ∧ W.heap.size ≤ b) → wpList P ops Q rest (a.put o.dst v1) w1) : wpList P ops Q (o :: rest) a W := by
  refine R_lit (tag (fun _ => 0) d) base e hgd hd (xs := [(p, 0)]) (inner := cs) (ok := ok) (okp := okp) hrun ⟨?_, ?_⟩ (fun k hk => (hokp k hk).1) (hfresh _ (Nat.le_refl _)) HB hbase (by simp) (fun v1 w1 hr hb hg hat => h v1 w1 ⟨fun _ => 0, hr⟩ hb hg (.inr hat))
  · show cs.length = 1 * d.sz
    rw [d.K_len (d.K_of_M hp), Nat.one_mul]
  · intro j q hj
    rcases j with _ | j
    · have hq : (p, 0) = q := by simpa using hj
      subst hq
      show d.M W base (fun k => okp k ∧ (0 : Nat) = 0) p ((cs.drop (0 * d.sz)).take d.sz)
      rw [Nat.zero_mul, List.drop_zero, List.take_of_length_le (Nat.le_of_eq (d.K_len (d.K_of_M hp)))]
      exact d.M_mono (fun k hk => ⟨hk, rfl⟩) hp
    · simp at hj
end
/-- No two of these values have one block of their own. -/
def own2 (c : List Value) : Prop := c.Pairwise fun u v => ∀ k, u.ownBlock = some k → v.ownBlock ≠ some k
theorem own2_3 {a b c : Value} (h1 : ∀ k, a.ownBlock = some k → b.ownBlock ≠ some k) (h2 : ∀ k, a.ownBlock = some k → c.ownBlock ≠ some k) (h3 : ∀ k, b.ownBlock = some k → c.ownBlock ≠ some k) : own2 [a, b, c] :=
  List.pairwise_cons.2 ⟨fun x hx => by rcases List.mem_cons.1 hx with e | hx; exact e ▸ h1; rw [List.mem_singleton.1 hx]; exact h2, List.pairwise_cons.2 ⟨fun x hx => by rw [List.mem_singleton.1 hx]; exact h3, List.pairwise_singleton _ _⟩⟩
theorem own2_at {a b c : Value} (h : own2 [a, b, c]) : (∀ k, a.ownBlock = some k → b.ownBlock ≠ some k) ∧ (∀ k, a.ownBlock = some k → c.ownBlock ≠ some k) ∧ (∀ k, b.ownBlock = some k → c.ownBlock ≠ some k) := by
  have h1 := List.pairwise_cons.1 h
  have h2 := List.pairwise_cons.1 h1.2
  exact ⟨h1.1 b (by simp), h1.1 c (by simp), h2.1 c (by simp)⟩
/-- A kind whose parts' own blocks are apart. -/
def sep {α : Type} (d : Kd α) : Kd α where
  sz := d.sz
  E := d.E
  K := d.K
  M := fun w base ok x cs => d.M w base ok x cs ∧ own2 cs
  K_len := d.K_len
  K_one := d.K_one
  K_below := d.K_below
  K_of_M := fun h => d.K_of_M h.1
  M_mono := fun hok h => ⟨d.M_mono hok h.1, h.2⟩
  M_bound := fun h => ⟨d.M_bound h.1, h.2⟩
  M_move := fun hm h => ⟨d.M_move hm h.1, h.2⟩
  M_lower := fun hb h => ⟨d.M_lower hb h.1, h.2⟩
end Kd
end Go.Proofs.YtbkjgnfnjgebiaaW.PrintWords
