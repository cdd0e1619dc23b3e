import Derived.Test.YtffdacmdgfpnmaaF0
import Derived.Test.YtffdacmdgfpnmaaF3
import Derived.Test.YtffdacmdgfpnmaaMask
import Derived.Test.YtffdacmdgfpnmaaGood
namespace Go.Proofs.Ytffdacmdgfpnmaa.Lib
open Go.RowKit Go.Proofs.Ytffdacmdgfpnmaa.F Go.Proofs.YtffdacmdgfpnmaaW.PrintWords Go.Proofs.YtffdacmdgfpnmaaW.PrintLast Go.Proofs.YtffdacmdgfpnmaaW.PrintMore
def sideA (s : Bool) (t : Tr) : List Int := if s then t.f1 else t.f0
def sideB (s : Bool) (t : Tr) : List Int := if s then t.f0 else t.f1
def hits (l : List Int) (x : Nat) : Prop := ∃ i : Nat, (i : Int) ∈ l ∧ x.testBit i = true
def bad (s : Bool) (x : Nat) (t : Tr) : Prop := hits (sideA s t) x ∧ ¬ hits (sideB s t) x
def okSet (s : Bool) (ts : List Tr) (x : Nat) : Prop := ∀ t ∈ ts, ¬ bad s x t
def inPlaces (t : Tr) : Prop := (∀ q ∈ t.f0, 0 ≤ q ∧ q < 16) ∧ (∀ q ∈ t.f1, 0 ≤ q ∧ q < 16)
theorem not_hits {l : List Int} {x : Nat} (hl : ∀ q ∈ l, 0 ≤ q ∧ q < 16) : mask l &&& x = 0 ↔ ¬ hits l x := by
  rw [and_zero l x (fun q hq => (hl q hq).1)]
  constructor
  · rintro h ⟨i, hi, hx⟩; rw [h i hi] at hx; cases hx
  · intro h i hi
    cases hx : x.testBit i with
    | false => rfl
    | true => exact absurd ⟨i, hi, hx⟩ h
theorem good_inPlaces {p : Int} {ts : List Tr} (hg : goodNet p ts = true) : ∀ t ∈ ts, inPlaces t := by
  have hf := goodNet_facts hg
  intro t ht
  have h := hf.2.2.2 t ht
  exact ⟨fun q hq => by have := rising_le h.2.1 q hq; omega, fun q hq => by have := rising_le h.2.2.1 q hq; omega⟩
def isBig (s : Bool) (ts : List Tr) (x y : Nat) : Prop := sub y x ∧ okSet s ts y ∧ ∀ z, sub z x → okSet s ts z → sub z y
theorem bigTrap_ex (s : Bool) (p : Int) (ts : List Tr) (h : SmallN ts) (hp : ∀ t ∈ ts, inPlaces t) : ∀ x : Nat, x < 65536 → ∃ y : Nat, Evt (fun k => impl_bigTrap.l0 k (x : Int) s true p ts) (y : Int) ∧ y ≤ x ∧ isBig s ts x y := by
  intro x
  induction x using Nat.strongRecOn with
  | ind x0 IH =>
  intro hx0
  have hl := h.1
  have key : ∀ i, i ≤ ts.length → ∀ st : Nat × Bool, st.1 ≤ x0 → (st.2 = true → st.1 < x0) → (st.2 = false → ∀ j (hj : j < i) (hj2 : j < ts.length), ¬ bad s st.1 ts[j]) →
      ∃ y : Nat, Evt (fun k => impl_bigTrap.l1 k (st.1 : Int) s st.2 ts (ts.length : Int) i p ts) (y : Int) ∧ y ≤ st.1 ∧ isBig s ts st.1 y := by
    refine down (P := fun i (st : Nat × Bool) => st.1 ≤ x0 → (st.2 = true → st.1 < x0) → (st.2 = false → ∀ j (hj : j < i) (hj2 : j < ts.length), ¬ bad s st.1 ts[j]) →
      ∃ y : Nat, Evt (fun k => impl_bigTrap.l1 k (st.1 : Int) s st.2 ts (ts.length : Int) i p ts) (y : Int) ∧ y ≤ st.1 ∧ isBig s ts st.1 y) ?_ ?_
    · rintro ⟨x, c⟩ hx hc hn
      cases c with
      | true =>
        obtain ⟨y, hy, h2⟩ := IH x (hc rfl) (by have := hc rfl; show x < 65536; have : x < x0 := this; omega)
        refine ⟨y, Evt.step ?_, h2⟩
        simp only [impl_bigTrap.l1]
        exact Evt.neg (natNotLt _) hy
      | false =>
        refine ⟨x, Evt.step ?_, Nat.le_refl _, fun i hi => hi, ?_, fun z hz _ => hz⟩
        · simp only [impl_bigTrap.l1]
          refine Evt.neg (natNotLt _) (Evt.step ?_)
          simp only [impl_bigTrap.l0]
          exact Evt.neg (by decide) (Evt.ok _)
        · intro t ht
          obtain ⟨j, hj, rfl⟩ := List.getElem_of_mem ht
          exact hn rfl j hj hj
    · rintro i hi ih ⟨x, c⟩ hx hc hn
      have hxb : x < 65536 := by have : x ≤ x0 := hx; omega
      have hsm : SmallT ts[i] := h.2 _ (List.getElem_mem hi)
      have hq := hp ts[i] (List.getElem_mem hi)
      have er : rd_T63 ts (i : Int) = ts[i] := rdG ts _ i hi
      have m0 := mask_lt _ hq.1
      have m1 := mask_lt _ hq.2
      have ha : ∀ q ∈ sideA s ts[i], 0 ≤ q ∧ q < 16 := by cases s <;> simp only [sideA] <;> first | exact hq.1 | exact hq.2
      have hbb : ∀ q ∈ sideB s ts[i], 0 ≤ q ∧ q < 16 := by cases s <;> simp only [sideB] <;> first | exact hq.1 | exact hq.2
      -- one step, told for both sides
      have stepGo : ∀ r, (¬ bad s x ts[i]) → Evt (fun k => impl_bigTrap.l1 k (x : Int) s c ts (ts.length : Int) ((i + 1 : Nat) : Int) p ts) r → Evt (fun k => impl_bigTrap.l1 k (x : Int) s c ts (ts.length : Int) (i : Int) p ts) r := by
        intro r hb hr
        refine Evt.step ?_
        simp only [impl_bigTrap.l1, er]
        rw [wrapN i _ hi (by omega)]
        refine Evt.pos (natLt _ _ hi) (Evt.pos (by omega) (Evt.pos (natLt _ _ hi) (Evt.bind (maskOf_ev _ hsm.s0 hq.1) (Evt.bind (maskOf_ev _ hsm.s1 hq.2) ?_))))
        rw [and_n _ x (by omega) (by omega), and_n _ x (by omega) (by omega)]
        cases s with
        | true =>
          refine Evt.pos rfl ?_
          by_cases e1 : mask ts[i].f1 &&& x = 0
          · exact Evt.pos (by omega) hr
          · refine Evt.neg (by omega) ?_
            by_cases e0 : mask ts[i].f0 &&& x = 0
            · exact absurd ⟨Classical.not_not.1 (fun hh => e1 ((not_hits hq.2).2 hh)), (not_hits hq.1).1 e0⟩ hb
            · exact Evt.neg (by omega) hr
        | false =>
          refine Evt.neg (by decide) ?_
          by_cases e0 : mask ts[i].f0 &&& x = 0
          · exact Evt.pos (by omega) hr
          · refine Evt.neg (by omega) ?_
            by_cases e1 : mask ts[i].f1 &&& x = 0
            · exact absurd ⟨Classical.not_not.1 (fun hh => e0 ((not_hits hq.1).2 hh)), (not_hits hq.2).1 e1⟩ hb
            · exact Evt.neg (by omega) hr
      have stepOut : ∀ r, bad s x ts[i] → Evt (fun k => impl_bigTrap.l1 k ((without x (mask (sideA s ts[i])) : Nat) : Int) s true ts (ts.length : Int) ((i + 1 : Nat) : Int) p ts) r → Evt (fun k => impl_bigTrap.l1 k (x : Int) s c ts (ts.length : Int) (i : Int) p ts) r := by
        intro r hb hr
        refine Evt.step ?_
        simp only [impl_bigTrap.l1, er]
        rw [wrapN i _ hi (by omega)]
        refine Evt.pos (natLt _ _ hi) (Evt.pos (by omega) (Evt.pos (natLt _ _ hi) (Evt.bind (maskOf_ev _ hsm.s0 hq.1) (Evt.bind (maskOf_ev _ hsm.s1 hq.2) ?_))))
        rw [and_n _ x (by omega) (by omega), and_n _ x (by omega) (by omega), andNot_n x _ (by omega) (by omega), andNot_n x _ (by omega) (by omega)]
        cases s with
        | true =>
          have e1 : ¬ mask ts[i].f1 &&& x = 0 := fun e => (not_hits hq.2).1 e hb.1
          have e0 : mask ts[i].f0 &&& x = 0 := (not_hits hq.1).2 hb.2
          exact Evt.pos rfl (Evt.neg (by omega) (Evt.pos (by omega) hr))
        | false =>
          have e0 : ¬ mask ts[i].f0 &&& x = 0 := fun e => (not_hits hq.1).1 e hb.1
          have e1 : mask ts[i].f1 &&& x = 0 := (not_hits hq.2).2 hb.2
          exact Evt.neg (by decide) (Evt.neg (by omega) (Evt.pos (by omega) hr))
      by_cases hb : bad s x ts[i]
      · have mA := mask_lt _ ha
        have hw := without_add x (mask (sideA s ts[i])) (by omega) (by omega)
        have hne : ¬ x &&& mask (sideA s ts[i]) = 0 := fun e => (not_hits ha).1 (by rw [Nat.and_comm]; exact e) hb.1
        have hlt : without x (mask (sideA s ts[i])) < x := by omega
        have hx' : x ≤ x0 := hx
        obtain ⟨y, hy, h2, h3⟩ := ih (without x (mask (sideA s ts[i])), true) (show without x (mask (sideA s ts[i])) ≤ x0 by omega) (fun _ => show without x (mask (sideA s ts[i])) < x0 by omega) (fun e => by cases e)
        have hsub : sub (without x (mask (sideA s ts[i]))) x := by
          intro j hj
          rw [without_bit x _ j (by omega) (by omega), Bool.and_eq_true] at hj
          exact hj.1
        refine ⟨y, stepOut _ hb hy, Nat.le_trans h2 (Nat.le_of_lt hlt), fun j hj => hsub j (h3.1 j hj), h3.2.1, fun z hz hok => h3.2.2 z ?_ hok⟩
        intro j hj
        rw [show ((without x (mask (sideA s ts[i])), true) : Nat × Bool).1 = without x (mask (sideA s ts[i])) from rfl, without_bit x _ j (by omega) (by omega), hz j hj, Bool.true_and, mask_bit _ (fun q hq => (ha q hq).1)]
        by_cases hm : (j : Int) ∈ sideA s ts[i]
        · exfalso
          refine hok ts[i] (List.getElem_mem hi) ⟨⟨j, hm, hj⟩, fun ⟨m, hm1, hm2⟩ => hb.2 ⟨m, hm1, hz m hm2⟩⟩
        · simp [hm]
      · obtain ⟨y, hy, h2⟩ := ih (x, c) hx hc (fun e j hj hj2 => by
          by_cases ej : j = i
          · subst ej; exact hb
          · exact hn e j (by omega) hj2)
        exact ⟨y, stepGo _ hb hy, h2⟩
  obtain ⟨y, hy, h2⟩ := key 0 (Nat.zero_le _) (x0, false) (Nat.le_refl _) (fun e => by cases e) (fun _ j hj => by omega)
  refine ⟨y, Evt.step ?_, h2⟩
  simp only [impl_bigTrap.l0]
  exact Evt.pos (by trivial) hy
theorem big_self {s : Bool} {ts : List Tr} {x y : Nat} (h : isBig s ts x y) : y = x ↔ okSet s ts x := by
  constructor
  · intro e; rw [← e]; exact h.2.1
  · intro hok; exact sub_antisymm h.1 (h.2.2 x (fun _ hi => hi) hok)
end Go.Proofs.Ytffdacmdgfpnmaa.Lib
