import Derived.Test.YtbkjgnfnjgebiaaF0
import Derived.Test.YtbkjgnfnjgebiaaF1
import Derived.Test.YtbkjgnfnjgebiaaNetLib
namespace Go.Proofs.Ytbkjgnfnjgebiaa.Lib
open Go.RowKit Go.Proofs.Ytbkjgnfnjgebiaa.F Go.Proofs.YtbkjgnfnjgebiaaW.PrintWords Go.Proofs.YtbkjgnfnjgebiaaW.PrintLast Go.Proofs.YtbkjgnfnjgebiaaW.PrintMore
abbrev LT := S92
abbrev Tr := S63
def toT (t : LT) : Tr := ⟨t.f0, t.f1, t.f2⟩
def SmallT (t : Tr) : Prop := t.f0.length ≤ 1048576 ∧ t.f1.length ≤ 1048576 ∧ t.f2.length ≤ 1048576
def SmallN (l : List Tr) : Prop := l.length ≤ 1048576 ∧ ∀ t ∈ l, SmallT t
theorem SmallT.s0 {t : Tr} (h : SmallT t) : Short t.f0 := by have := h.1; show _ ≤ _; omega
theorem SmallT.s1 {t : Tr} (h : SmallT t) : Short t.f1 := by have := h.2.1; show _ ≤ _; omega
theorem SmallT.s2 {t : Tr} (h : SmallT t) : Short t.f2 := by have := h.2.2; show _ ≤ _; omega
theorem SmallN.short {l : List Tr} (h : SmallN l) : Short l := by have := h.1; show _ ≤ _; omega
theorem szIntS_ex (l : List Int) (b : Int) (h0 : 0 ≤ b) (hb : b ≤ 1048576) (hl : l.length ≤ maxLen) : ∃ r, laws_szIntS.f l b = some r ∧ (0 ≤ r → r ≤ b ∧ l.length ≤ 1048576) := by
  have hm : maxLen = 9223372036854775807 := rfl
  have e : wrap64 (b - (l.length : Int)) = b - (l.length : Int) := wrap_id _ (by omega) (by omega)
  unfold laws_szIntS.f
  by_cases h : wrap64 (b - (l.length : Int)) < 0
  · exact ⟨-1, if_pos h, fun h => by omega⟩
  · exact ⟨_, if_neg h, fun h' => by omega⟩
theorem szTrans_ex (t : LT) (b : Int) (h0 : 0 ≤ b) (hb : b ≤ 1048576) (hl0 : t.f0.length ≤ maxLen) (hl1 : t.f1.length ≤ maxLen) (hl2 : t.f2.length ≤ maxLen) : ∃ r, laws_szTrans.f t.f0 t.f1 t.f2 b = some r ∧ (0 ≤ r → r ≤ b ∧ SmallT (toT t)) := by
  unfold laws_szTrans.f
  obtain ⟨r0, e0, h0'⟩ := szIntS_ex t.f0 b h0 hb hl0
  simp only [e0, Option.bind_some]
  by_cases c0 : r0 < 0
  · exact ⟨-1, if_pos c0, fun h => by omega⟩
  rw [if_neg c0]
  have g0 := h0' (by omega)
  obtain ⟨r1, e1, h1'⟩ := szIntS_ex t.f1 r0 (by omega) (by omega) hl1
  simp only [e1, Option.bind_some]
  by_cases c1 : r1 < 0
  · exact ⟨-1, if_pos c1, fun h => by omega⟩
  rw [if_neg c1]
  have g1 := h1' (by omega)
  obtain ⟨r2, e2, h2'⟩ := szIntS_ex t.f2 r1 (by omega) (by omega) hl2
  simp only [e2, Option.bind_some]
  by_cases c2 : r2 < 0
  · exact ⟨-1, if_pos c2, fun h => by omega⟩
  rw [if_neg c2]
  have g2 := h2' (by omega)
  exact ⟨r2, rfl, fun _ => ⟨by omega, g0.2, g1.2, g2.2⟩⟩
theorem szTransS_ex (l : List LT) (b : Int) (h0 : 0 ≤ b) (hb : b ≤ 1048576) (hl : l.length ≤ maxLen) (ht : ∀ t ∈ l, t.f0.length ≤ maxLen ∧ t.f1.length ≤ maxLen ∧ t.f2.length ≤ maxLen) : ∃ r, Evt (fun k => laws_szTransS.f k l b) r ∧ (0 ≤ r → r ≤ b ∧ SmallN (l.map toT)) := by
  have hm : maxLen = 9223372036854775807 := rfl
  have e : wrap64 (b - (l.length : Int)) = b - (l.length : Int) := wrap_id _ (by omega) (by omega)
  unfold laws_szTransS.f
  by_cases h : wrap64 (b - (l.length : Int)) < 0
  · exact ⟨-1, Evt.pos h (Evt.ok _), fun h => by omega⟩
  have key : ∀ i, i ≤ l.length → ∀ b : Int, 0 ≤ b → b ≤ 1048576 → ∃ r, Evt (fun k => laws_szTransS.l0 k l b i) r ∧ (0 ≤ r → r ≤ b ∧ ∀ t ∈ l.drop i, SmallT (toT t)) := by
    refine down (P := fun i b => 0 ≤ b → b ≤ 1048576 → ∃ r, Evt (fun k => laws_szTransS.l0 k l b i) r ∧ (0 ≤ r → r ≤ b ∧ ∀ t ∈ l.drop i, SmallT (toT t))) ?_ ?_
    · intro b hb0 hb1
      refine ⟨b, Evt.step ?_, fun _ => ⟨Int.le_refl _, by simp⟩⟩
      simp only [laws_szTransS.l0]
      exact Evt.neg (natNotLt _) (Evt.ok _)
    · intro i hi ih b hb0 hb1
      have hx := ht l[i] (List.getElem_mem hi)
      obtain ⟨r, e, hr⟩ := szTrans_ex l[i] b hb0 hb1 hx.1 hx.2.1 hx.2.2
      have er : rd_T92 l (i : Int) = l[i] := rdG l _ i hi
      by_cases c : r < 0
      · refine ⟨-1, Evt.step ?_, fun h => by omega⟩
        simp only [laws_szTransS.l0, er]
        exact Evt.pos (natLt _ _ hi) (Evt.pos (by omega) (Evt.bind0 e (Evt.pos c (Evt.ok _))))
      · have g := hr (by omega)
        obtain ⟨r', hr', g'⟩ := ih r (by omega) (by omega)
        refine ⟨r', Evt.step ?_, fun h => ⟨by have := (g' h).1; omega, ?_⟩⟩
        · simp only [laws_szTransS.l0, er]
          refine Evt.pos (natLt _ _ hi) (Evt.pos (by omega) (Evt.bind0 e (Evt.neg c ?_)))
          rw [wrapN i _ hi (by omega)]
          exact hr'
        · rw [dropN l i hi]
          intro t ht'
          rcases List.mem_cons.1 ht' with rfl | h'
          · exact g.2
          · exact (g' h).2 t h'
  obtain ⟨r, hr, g⟩ := key 0 (Nat.zero_le _) (wrap64 (b - (l.length : Int))) (by omega) (by omega)
  refine ⟨r, Evt.neg h hr, fun h' => ⟨by have := (g h').1; omega, by rw [List.length_map]; omega, ?_⟩⟩
  intro t ht'
  obtain ⟨u, hu, rfl⟩ := List.mem_map.1 ht'
  exact (g h').2 u (by simpa using hu)
theorem szNet_ex (p : Int) (l : List LT) (b : Int) (h0 : 0 ≤ b) (hb : b ≤ 1048576) (hl : l.length ≤ maxLen) (ht : ∀ t ∈ l, t.f0.length ≤ maxLen ∧ t.f1.length ≤ maxLen ∧ t.f2.length ≤ maxLen) : ∃ r, Evt (fun k => laws_szNet.f k p l b) r ∧ (0 ≤ r → r ≤ b ∧ SmallN (l.map toT)) := by
  obtain ⟨r, hr, g⟩ := szTransS_ex l b h0 hb hl ht
  unfold laws_szNet.f
  by_cases c : r < 0
  · exact ⟨-1, Evt.bind hr (Evt.pos c (Evt.ok _)), fun h => by omega⟩
  · exact ⟨r, Evt.bind hr (Evt.neg c (Evt.ok _)), g⟩
theorem toTransS_ev (l : List LT) (h : SmallN (l.map toT)) : Evt (fun k => laws_toTransS.f k l) (l.map toT) := by
  have hl : l.length ≤ 1048576 := by have := h.1; rwa [List.length_map] at this
  unfold laws_toTransS.f
  refine Evt.pos (by omega) (Evt.pos (by rw [Int.toNat_natCast]; omega) ?_)
  rw [Int.toNat_natCast]
  refine loop_copy (fun k s (i : Nat) => laws_toTransS.l0 k l s (i : Int)) l toT z63 ?_ ?_
  · intro s
    simp only [laws_toTransS.l0]
    exact Evt.neg (natNotLt _) (Evt.ok _)
  · intro i hi s hs r hr
    have hsm : SmallT (toT l[i]) := h.2 _ (List.mem_map.2 ⟨l[i], List.getElem_mem hi, rfl⟩)
    have er : rd_T92 l (i : Int) = l[i] := rdG l _ i hi
    simp only [laws_toTransS.l0, laws_toTrans.f, er]
    refine Evt.pos (natLt _ _ hi) (Evt.pos (by omega) ?_)
    refine Evt.bind (a := (l[i].f0, l[i].f1, l[i].f2)) (Evt.bind (toIntS_ev l[i].f0 hsm.s0) (Evt.bind (toIntS_ev l[i].f1 hsm.s1) (Evt.bind (toIntS_ev l[i].f2 hsm.s2) (Evt.ok _)))) ?_
    refine Evt.pos (by omega) ?_
    rw [wrapN i _ hi (by omega), Int.toNat_natCast]
    exact hr
theorem toNet_ev (p : Int) (l : List LT) (h : SmallN (l.map toT)) : Evt (fun k => laws_toNet.f k p l) (p, l.map toT) := by
  unfold laws_toNet.f
  exact Evt.bind (toTransS_ev l h) (Evt.ok _)
theorem eqTransS_same (l : List Tr) (h : SmallN l) : Evt (fun k => laws_eqTransS.f k l l) true := by
  have hl := h.1
  unfold laws_eqTransS.f
  refine Evt.pos rfl ?_
  refine loop_to (fun k i => laws_eqTransS.l0 k l l (i : Int)) l.length ?_ true ?_
  · intro i hi r hr
    have hsm : SmallT l[i] := h.2 _ (List.getElem_mem hi)
    have er : rd_T63 l (i : Int) = l[i] := rdG l _ i hi
    simp only [laws_eqTransS.l0, laws_eqTrans.f, er]
    refine Evt.pos (natLt _ _ hi) (Evt.pos (by omega) (Evt.pos (natLt _ _ hi) ?_))
    refine Evt.bind (a := true) (Evt.bind (eqIntS_same _ hsm.s0) (Evt.pos rfl (Evt.bind (eqIntS_same _ hsm.s1) (Evt.pos rfl (Evt.bind (eqIntS_same _ hsm.s2) (Evt.pos rfl (Evt.ok _))))))) (Evt.pos rfl ?_)
    rw [wrapN i _ hi (by omega)]
    exact hr
  · refine Evt.step ?_
    simp only [laws_eqTransS.l0]
    exact Evt.neg (natNotLt _) (Evt.ok _)
theorem eqNet_same (p : Int) (l : List Tr) (h : SmallN l) : Evt (fun k => laws_eqNet.f k p l p l) true := by
  unfold laws_eqNet.f
  exact Evt.pos rfl (Evt.bind (eqTransS_same l h) (Evt.pos rfl (Evt.ok _)))
end Go.Proofs.Ytbkjgnfnjgebiaa.Lib
