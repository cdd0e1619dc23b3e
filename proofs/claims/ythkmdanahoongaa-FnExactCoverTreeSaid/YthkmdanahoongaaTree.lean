import Derived.Test.YthkmdanahoongaaF0
import Derived.Test.YthkmdanahoongaaF1
import Derived.Test.YthkmdanahoongaaF2
import Derived.Test.YthkmdanahoongaaF3
import Derived.Test.YthkmdanahoongaaEnab
import Derived.Test.YthkmdanahoongaaGetD
import Derived.Test.YthkmdanahoongaaOver
import Derived.Test.YthkmdanahoongaaSame
import Derived.Test.YthkmdanahoongaaResets
import Derived.Test.YthkmdanahoongaaMarked
namespace Go.Proofs.Ythkmdanahoongaa.Lib
open Go.RowKit Go.Proofs.Ythkmdanahoongaa.F Go.Proofs.YthkmdanahoongaaW.PrintWords Go.Proofs.YthkmdanahoongaaW.PrintLast Go.Proofs.YthkmdanahoongaaW.PrintMore
abbrev Nd := S93
theorem loop_set {ρ : Type} (L : Nat → List Int → Nat → Option ρ) (n : Nat) (m : List Int) (hn : m.length = n) (f : Nat → Int) (c : Nat → Prop) [DecidablePred c] (hf : ∀ q, q < n → ¬ c q → f q = m.getD q 0) (r : ρ)
    (hset : ∀ i s, i < n → s.length = n → s.getD i 0 = m.getD i 0 → c i → ∀ r, Evt (fun k => L k (s.set i (f i)) (i + 1)) r → Evt (fun k => L (k + 1) s i) r)
    (hkeep : ∀ i s, i < n → s.length = n → s.getD i 0 = m.getD i 0 → ¬ c i → ∀ r, Evt (fun k => L k s (i + 1)) r → Evt (fun k => L (k + 1) s i) r)
    (hend : Evt (fun k => L (k + 1) ((List.range n).map f) n) r) : Evt (fun k => L k m 0) r := by
  have key : ∀ i, i ≤ n → ∀ s : List Int, (s.length = n ∧ ∀ q, q < n → s.getD q 0 = if q < i then f q else m.getD q 0) → Evt (fun k => L k s i) r := by
    refine down (P := fun i (s : List Int) => (s.length = n ∧ ∀ q, q < n → s.getD q 0 = if q < i then f q else m.getD q 0) → Evt (fun k => L k s i) r) ?_ ?_
    · rintro s ⟨h1, h2⟩
      have e : s = (List.range n).map f := by
        refine ext_getD (by simp [h1]) fun q hq => ?_
        rw [h2 q (by omega), if_pos (by omega), getD_map_range n f q (by omega)]
      rw [e]
      exact Evt.step hend
    · rintro i hi ih s ⟨h1, h2⟩
      have hsi : s.getD i 0 = m.getD i 0 := by rw [h2 i hi, if_neg (by omega)]
      refine Evt.step ?_
      by_cases hc : c i
      · refine hset i s hi h1 hsi hc r (ih _ ⟨by simp [h1], fun q hq => ?_⟩)
        rw [getD_set s i q (f i) (by omega)]
        by_cases e : q = i
        · subst e; rw [if_pos rfl, if_pos (by omega)]
        · rw [if_neg e, h2 q hq]
          by_cases h : q < i
          · rw [if_pos h, if_pos (by omega)]
          · rw [if_neg h, if_neg (by omega)]
      · refine hkeep i s hi h1 hsi hc r (ih _ ⟨h1, fun q hq => ?_⟩)
        by_cases e : q = i
        · subst e; rw [if_pos (by omega), hf q hi hc, hsi]
        · rw [h2 q hq]
          by_cases h : q < i
          · rw [if_pos h, if_pos (by omega)]
          · rw [if_neg h, if_neg (by omega)]
  exact key 0 (Nat.zero_le _) m ⟨hn, fun q hq => by rw [if_neg (by omega)]⟩
/-! Widening. -/
def wideX (a b : Int) : Int := if a > b then 99 else a
def wid (m was : List Int) : List Int := if over was.length m was = true then (List.range m.length).map (fun q => wideX (m.getD q 0) (was.getD q 0)) else m
theorem wid_length (m was : List Int) : (wid m was).length = m.length := by unfold wid; split <;> simp
theorem l5Widen_ev (m was : List Int) (hl : m.length = was.length) (hs : m.length ≤ 1000) : Evt (fun k => spec_l5Widen.f k m was) (wid m was) := by
  unfold spec_l5Widen.f wid
  refine Evt.bind (l1Covers_ev m was (by show was.length ≤ _; omega) (by omega)) ?_
  cases ho : over was.length m was with
  | false => exact Evt.neg (by decide) (Evt.ok _)
  | true =>
    refine Evt.pos rfl ?_
    rw [if_pos rfl]
    refine loop_set (fun k s (i : Nat) => spec_l5Widen.l0 k s was (m.length : Int) (i : Int)) m.length m rfl (fun q => wideX (m.getD q 0) (was.getD q 0)) (fun q => m.getD q 0 > was.getD q 0) (fun q _ hc => if_neg hc) _ ?_ ?_ ?_
    · intro i s hi h1 h2 hc r hr
      have hf : wideX (m.getD i 0) (was.getD i 0) = 99 := if_pos hc
      simp only [hf] at hr
      simp only [spec_l5Widen.l0, rdD, Int.toNat_natCast]
      rw [wrapN i _ hi (by omega), h2]
      exact Evt.pos (natLt _ _ hi) (Evt.pos (by omega) (Evt.pos (by omega) (Evt.pos (by omega) (Evt.pos hc hr))))
    · intro i s hi h1 h2 hc r hr
      simp only [spec_l5Widen.l0, rdD, Int.toNat_natCast]
      rw [wrapN i _ hi (by omega), h2]
      exact Evt.pos (natLt _ _ hi) (Evt.pos (by omega) (Evt.pos (by omega) (Evt.pos (by omega) (Evt.neg hc hr))))
    · simp only [spec_l5Widen.l0]
      exact Evt.neg (natNotLt _) (Evt.ok _)
/-! Firing: the reference leaves 'many' alone, the program puts it back. -/
def FireRel (m : List Int) (c : Nat) (s u : List Int) : Prop := s.length = m.length ∧ u.length = m.length ∧ ∀ q, q < m.length → (m.getD q 0 = 99 → s.getD q 0 = 99) ∧ (m.getD q 0 ≠ 99 → s.getD q 0 = u.getD q 0 ∧ m.getD q 0 - c ≤ u.getD q 0 ∧ u.getD q 0 ≤ m.getD q 0 + c)
def InB (lo hi : Int) (m : List Int) : Prop := ∀ q, q < m.length → m.getD q 0 = 99 ∨ (lo ≤ m.getD q 0 ∧ m.getD q 0 ≤ hi)
theorem fire_two (m : List Int) (hm : InB (-20000) 50 m) (ps : List Int) (hps : ∀ q ∈ ps, 0 ≤ q ∧ q < (m.length : Int)) (c0 : Nat) (hc0 : c0 + ps.length ≤ 40) (g : Int → Int) (hg : ∀ x, -30000 ≤ x → x ≤ 100 → x - 1 ≤ g x ∧ g x ≤ x + 1)
    (Ls Li : Nat → List Int → Nat → Option (List Int))
    (hs1 : ∀ i (h : i < ps.length) s, s.length = m.length → s.getD ps[i].toNat 0 = 99 → ∀ r, Evt (fun k => Ls k s (i + 1)) r → Evt (fun k => Ls (k + 1) s i) r)
    (hs2 : ∀ i (h : i < ps.length) s, s.length = m.length → s.getD ps[i].toNat 0 ≠ 99 → ∀ r, Evt (fun k => Ls k (s.set ps[i].toNat (g (s.getD ps[i].toNat 0))) (i + 1)) r → Evt (fun k => Ls (k + 1) s i) r)
    (hi1 : ∀ i (h : i < ps.length) s, s.length = m.length → ∀ r, Evt (fun k => Li k (s.set ps[i].toNat (g (s.getD ps[i].toNat 0))) (i + 1)) r → Evt (fun k => Li (k + 1) s i) r) (s u : List Int) (h : FireRel m c0 s u) :
    ∃ s' u', FireRel m (c0 + ps.length) s' u' ∧ (∀ r, Evt (fun k => Ls k s' ps.length) r → Evt (fun k => Ls k s 0) r) ∧ (∀ r, Evt (fun k => Li k u' ps.length) r → Evt (fun k => Li k u 0) r) := by
  have key : ∀ i, i ≤ ps.length → ∀ su : List Int × List Int, FireRel m (c0 + i) su.1 su.2 → ∃ s' u', FireRel m (c0 + ps.length) s' u' ∧ (∀ r, Evt (fun k => Ls k s' ps.length) r → Evt (fun k => Ls k su.1 i) r) ∧ (∀ r, Evt (fun k => Li k u' ps.length) r → Evt (fun k => Li k su.2 i) r) := by
    refine down (P := fun i (su : List Int × List Int) => FireRel m (c0 + i) su.1 su.2 → ∃ s' u', FireRel m (c0 + ps.length) s' u' ∧ (∀ r, Evt (fun k => Ls k s' ps.length) r → Evt (fun k => Ls k su.1 i) r) ∧ (∀ r, Evt (fun k => Li k u' ps.length) r → Evt (fun k => Li k su.2 i) r)) ?_ ?_
    · rintro ⟨s, u⟩ h
      exact ⟨s, u, h, fun r hr => hr, fun r hr => hr⟩
    · rintro i hi ih ⟨s, u⟩ ⟨h1, h2, h3⟩
      have hq := hps ps[i] (List.getElem_mem hi)
      have h1' : s.length = m.length := h1
      have h2' : u.length = m.length := h2
      have hqn : ps[i].toNat < m.length := by omega
      by_cases hm9 : m.getD ps[i].toNat 0 = 99
      · have hs9 := (h3 _ hqn).1 hm9
        have hnew : FireRel m (c0 + (i + 1)) s (u.set ps[i].toNat (g (u.getD ps[i].toNat 0))) := by
          refine ⟨h1, by simp [h2'], fun q hq' => ?_⟩
          obtain ⟨a1, a2⟩ := h3 q hq'
          refine ⟨a1, fun hne => ?_⟩
          obtain ⟨b1, b2, b3⟩ := a2 hne
          have hne' : q ≠ ps[i].toNat := by rintro rfl; exact hne hm9
          show s.getD q 0 = (u.set _ _).getD q 0 ∧ _ ≤ (u.set _ _).getD q 0 ∧ (u.set _ _).getD q 0 ≤ _
          rw [getD_set u _ q _ (by omega), if_neg hne']
          have b1' : s.getD q 0 = u.getD q 0 := b1
          have b2' : m.getD q 0 - ((c0 + i : Nat) : Int) ≤ u.getD q 0 := b2
          have b3' : u.getD q 0 ≤ m.getD q 0 + ((c0 + i : Nat) : Int) := b3
          exact ⟨b1', by omega, by omega⟩
        obtain ⟨s', u', k1, k2, k3⟩ := ih (s, u.set ps[i].toNat (g (u.getD ps[i].toNat 0))) hnew
        exact ⟨s', u', k1, fun r hr => Evt.step (hs1 i hi s h1 hs9 r (k2 r hr)), fun r hr => Evt.step (hi1 i hi u h2 r (k3 r hr))⟩
      · obtain ⟨b1, b2, b3⟩ := (h3 _ hqn).2 hm9
        have b1' : s.getD ps[i].toNat 0 = u.getD ps[i].toNat 0 := b1
        have b2' : m.getD ps[i].toNat 0 - ((c0 + i : Nat) : Int) ≤ u.getD ps[i].toNat 0 := b2
        have b3' : u.getD ps[i].toNat 0 ≤ m.getD ps[i].toNat 0 + ((c0 + i : Nat) : Int) := b3
        have hb := (hm _ hqn).resolve_left hm9
        have hs9 : s.getD ps[i].toNat 0 ≠ 99 := by omega
        have hgb := hg (u.getD ps[i].toNat 0) (by omega) (by omega)
        have hnew : FireRel m (c0 + (i + 1)) (s.set ps[i].toNat (g (s.getD ps[i].toNat 0))) (u.set ps[i].toNat (g (u.getD ps[i].toNat 0))) := by
          refine ⟨by simp [h1'], by simp [h2'], fun q hq' => ?_⟩
          obtain ⟨a1, a2⟩ := h3 q hq'
          show (m.getD q 0 = 99 → (s.set _ _).getD q 0 = 99) ∧ (m.getD q 0 ≠ 99 → (s.set _ _).getD q 0 = (u.set _ _).getD q 0 ∧ _ ≤ (u.set _ _).getD q 0 ∧ (u.set _ _).getD q 0 ≤ _)
          rw [getD_set u _ q _ (by omega), getD_set s _ q _ (by omega)]
          by_cases e : q = ps[i].toNat
          · subst e
            refine ⟨fun h9 => absurd h9 hm9, fun _ => ?_⟩
            rw [if_pos rfl, if_pos rfl, b1']
            exact ⟨rfl, by omega, by omega⟩
          · rw [if_neg e, if_neg e]
            refine ⟨a1, fun hne => ?_⟩
            obtain ⟨d1, d2, d3⟩ := a2 hne
            have d2' : m.getD q 0 - ((c0 + i : Nat) : Int) ≤ u.getD q 0 := d2
            have d3' : u.getD q 0 ≤ m.getD q 0 + ((c0 + i : Nat) : Int) := d3
            exact ⟨d1, by omega, by omega⟩
        obtain ⟨s', u', k1, k2, k3⟩ := ih (s.set ps[i].toNat (g (s.getD ps[i].toNat 0)), u.set ps[i].toNat (g (u.getD ps[i].toNat 0))) hnew
        exact ⟨s', u', k1, fun r hr => Evt.step (hs2 i hi s h1 hs9 r (k2 r hr)), fun r hr => Evt.step (hi1 i hi u h2 r (k3 r hr))⟩
  exact key 0 (Nat.zero_le _) (s, u) h
theorem fire_rel (t : Tr) (m : List Int) (hp : inNet m.length t) (h0 : t.f0.length ≤ 16) (h1 : t.f1.length ≤ 16) (h2 : t.f2 = []) (hm : InB (-20000) 50 m) (hl : m.length ≤ 1000) : ∃ s u, FireRel m 32 s u ∧ Evt (fun k => spec_l5Fire.f k t.f0 t.f1 t.f2 m) s ∧ Evt (fun k => impl_fired.f k t.f0 t.f1 t.f2 m) u := by
  obtain ⟨s1, u1, r1, a1, b1⟩ := fire_two m hm t.f0 hp.1 0 (by omega) (fun x => wrap64 (x - 1)) (fun x _ _ => by unfold wrap64; omega)
    (fun k s i => spec_l5Fire.l0 k s t.f0 (t.f0.length : Int) (i : Int) t.f0 t.f1 t.f2) (fun k s i => impl_fired.l0 k s t.f0 (t.f0.length : Int) (i : Int) t.f0 t.f1 t.f2)
    (fun i hi s hs h9 r hr => by
      have hb := hp.1 t.f0[i] (List.getElem_mem hi)
      have e9 : rd s t.f0[i] = 99 := h9
      simp only [spec_l5Fire.l0]
      rw [wrapN i _ hi (by omega), rdN t.f0 i hi]
      exact Evt.pos (natLt _ _ hi) (Evt.pos (by omega) (Evt.pos (natLt _ _ hi) (Evt.pos hb.1 (Evt.pos (by omega) (Evt.pos e9 hr))))))
    (fun i hi s hs h9 r hr => by
      have hb := hp.1 t.f0[i] (List.getElem_mem hi)
      have e9 : rd s t.f0[i] ≠ 99 := h9
      simp only [spec_l5Fire.l0]
      rw [wrapN i _ hi (by omega), rdN t.f0 i hi]
      exact Evt.pos (natLt _ _ hi) (Evt.pos (by omega) (Evt.pos (natLt _ _ hi) (Evt.pos hb.1 (Evt.pos (by omega) (Evt.neg e9 hr))))))
    (fun i hi s hs r hr => by
      have hb := hp.1 t.f0[i] (List.getElem_mem hi)
      simp only [impl_fired.l0]
      rw [wrapN i _ hi (by omega), rdN t.f0 i hi]
      exact Evt.pos (natLt _ _ hi) (Evt.pos (by omega) (Evt.pos (natLt _ _ hi) (Evt.pos hb.1 (Evt.pos (by omega) hr)))))
    m m ⟨rfl, rfl, fun q hq => ⟨fun h => h, fun _ => ⟨rfl, by omega, by omega⟩⟩⟩
  obtain ⟨s2, u2, r2, a2, b2⟩ := fire_two m hm t.f1 hp.2.1 (0 + t.f0.length) (by omega) (fun x => wrap64 (x + 1)) (fun x _ _ => by unfold wrap64; omega)
    (fun k s i => spec_l5Fire.l1 k s t.f1 (t.f1.length : Int) (i : Int)) (fun k s i => impl_fired.l2 k s t.f1 (t.f1.length : Int) (i : Int))
    (fun i hi s hs h9 r hr => by
      have hb := hp.2.1 t.f1[i] (List.getElem_mem hi)
      have e9 : rd s t.f1[i] = 99 := h9
      simp only [spec_l5Fire.l1]
      rw [wrapN i _ hi (by omega), rdN t.f1 i hi]
      exact Evt.pos (natLt _ _ hi) (Evt.pos (by omega) (Evt.pos (natLt _ _ hi) (Evt.pos hb.1 (Evt.pos (by omega) (Evt.pos e9 hr))))))
    (fun i hi s hs h9 r hr => by
      have hb := hp.2.1 t.f1[i] (List.getElem_mem hi)
      have e9 : rd s t.f1[i] ≠ 99 := h9
      simp only [spec_l5Fire.l1]
      rw [wrapN i _ hi (by omega), rdN t.f1 i hi]
      exact Evt.pos (natLt _ _ hi) (Evt.pos (by omega) (Evt.pos (natLt _ _ hi) (Evt.pos hb.1 (Evt.pos (by omega) (Evt.neg e9 hr))))))
    (fun i hi s hs r hr => by
      have hb := hp.2.1 t.f1[i] (List.getElem_mem hi)
      simp only [impl_fired.l2]
      rw [wrapN i _ hi (by omega), rdN t.f1 i hi]
      exact Evt.pos (natLt _ _ hi) (Evt.pos (by omega) (Evt.pos (natLt _ _ hi) (Evt.pos hb.1 (Evt.pos (by omega) hr)))))
    s1 u1 r1
  have own : ∀ z : List Int, z.length ≤ 1000 → spec_l1Own.f z = some z ∧ slices_Clone_int_int.f z = some z := by
    intro z hz
    constructor
    · simp only [spec_l1Own.f, Option.bind_some, List.nil_append, List.length_nil, Nat.zero_add]
      exact if_pos (by omega)
    · simp only [slices_Clone_int_int.f, Option.bind_some, List.nil_append, List.length_nil, Nat.zero_add]
      exact if_pos (by omega)
  obtain ⟨q1, q2, q3⟩ := r2
  refine ⟨s2, u2, ⟨q1, q2, fun q hq => ⟨(q3 q hq).1, fun hne => ?_⟩⟩, ?_, ?_⟩
  · obtain ⟨d1, d2, d3⟩ := (q3 q hq).2 hne
    exact ⟨d1, by omega, by omega⟩
  · unfold spec_l5Fire.f
    refine Evt.bind0 (own m hl).1 (a1 _ (Evt.step ?_))
    simp only [spec_l5Fire.l0]
    refine Evt.neg (natNotLt _) (a2 _ (Evt.step ?_))
    simp only [spec_l5Fire.l1]
    exact Evt.neg (natNotLt _) (Evt.ok _)
  · unfold impl_fired.f
    refine Evt.bind0 (own m hl).2 (b1 _ (Evt.step ?_))
    simp only [impl_fired.l0]
    refine Evt.neg (natNotLt _) (Evt.step ?_)
    rw [h2]
    simp only [impl_fired.l1]
    refine Evt.neg (by simp) (b2 _ (Evt.step ?_))
    simp only [impl_fired.l2]
    exact Evt.neg (natNotLt _) (Evt.ok _)
/-! What the program makes of what is fired: 'many' is put back, then the nodes above. -/
theorem ext_back (l : List Nd) (a : Int) (m s u : List Int) (c : Nat) (h : FireRel m c s u) (hl : m.length ≤ 1000) (r : List Int) (hr : Evt (fun k => impl_extended.l1 k l a s) r) : Evt (fun k => impl_extended.l0 k l a u m (m.length : Int) 0) r := by
  obtain ⟨h1, h2, h3⟩ := h
  refine loop_set (fun k s (i : Nat) => impl_extended.l0 k l a s m (m.length : Int) (i : Int)) m.length u h2 (fun q => s.getD q 0) (fun q => m.getD q 0 = 99) (fun q hq hne => ((h3 q hq).2 hne).1) r ?_ ?_ ?_
  · intro i v hi e1 e2 hc r hr
    rw [(h3 i hi).1 hc] at hr
    have e9 : rd m (i : Int) = 99 := by rw [rdD]; exact hc
    simp only [impl_extended.l0, Int.toNat_natCast]
    rw [wrapN i _ hi (by omega)]
    exact Evt.pos (natLt _ _ hi) (Evt.pos (by omega) (Evt.pos (natLt _ _ hi) (Evt.pos e9 (Evt.pos (by omega) hr))))
  · intro i v hi e1 e2 hc r hr
    have e9 : rd m (i : Int) ≠ 99 := by rw [rdD]; exact hc
    simp only [impl_extended.l0, Int.toNat_natCast]
    rw [wrapN i _ hi (by omega)]
    exact Evt.pos (natLt _ _ hi) (Evt.pos (by omega) (Evt.pos (natLt _ _ hi) (Evt.neg e9 hr)))
  · simp only [impl_extended.l0]
    rw [← h1, map_range_get s 0]
    exact Evt.neg (natNotLt _) hr
theorem ext_wid (l : List Nd) (a : Nat) (ha : a < l.length) (m : List Int) (hl : m.length = l[a].f0.length) (hs : m.length ≤ 1000) (r : List Int) (hr : Evt (fun k => impl_extended.l1 k l l[a].f1 (wid m l[a].f0)) r) : Evt (fun k => impl_extended.l1 k l (a : Int) m) r := by
  have er : rd_T93 l (a : Int) = l[a] := rdG l _ a ha
  refine Evt.step ?_
  simp only [impl_extended.l1, er]
  refine Evt.pos (by omega) (Evt.pos (by omega) (Evt.pos (natLt _ _ ha) (Evt.bind (covers_ev m l[a].f0 (by show m.length ≤ _; omega) (by omega)) ?_)))
  unfold wid at hr
  rw [← hl] at hr ⊢
  cases ho : over m.length m l[a].f0 with
  | false =>
    rw [ho, if_neg (by decide)] at hr
    exact Evt.neg (by decide) hr
  | true =>
    rw [ho, if_pos rfl] at hr
    refine Evt.pos rfl ?_
    refine loop_set (fun k s (i : Nat) => impl_extended.l2 k l (a : Int) s l[a].f0 (m.length : Int) (i : Int)) m.length m rfl (fun q => wideX (m.getD q 0) (l[a].f0.getD q 0)) (fun q => m.getD q 0 > l[a].f0.getD q 0) (fun q _ hc => if_neg hc) _ ?_ ?_ ?_
    · intro i s hi h1 h2 hc r hr
      have hf : wideX (m.getD i 0) (l[a].f0.getD i 0) = 99 := if_pos hc
      simp only [hf] at hr
      simp only [impl_extended.l2, rdD, Int.toNat_natCast]
      rw [wrapN i _ hi (by omega), h2]
      exact Evt.pos (natLt _ _ hi) (Evt.pos (by omega) (Evt.pos (by omega) (Evt.pos (by omega) (Evt.pos hc hr))))
    · intro i s hi h1 h2 hc r hr
      simp only [impl_extended.l2, rdD, Int.toNat_natCast]
      rw [wrapN i _ hi (by omega), h2]
      exact Evt.pos (natLt _ _ hi) (Evt.pos (by omega) (Evt.pos (by omega) (Evt.pos (by omega) (Evt.neg hc hr))))
    · simp only [impl_extended.l2, er]
      exact Evt.neg (natNotLt _) (Evt.pos (by omega) (Evt.pos (natLt _ _ ha) hr))
def wideB (x : Int) : Bool := decide (x ≤ 50) || decide (x = 99)
theorem l5Wide_ev (m : List Int) (hm : Short m) : Evt (fun k => spec_l5Wide.f k m) (m.all wideB) := by
  have hm' : m.length ≤ 17592186044415 := hm
  unfold spec_l5Wide.f
  refine loop_allL (fun k i => spec_l5Wide.l0 k m (m.length : Int) (i : Int)) m wideB ?_ ?_ ?_
  · simp only [spec_l5Wide.l0]
    exact Evt.neg (natNotLt _) (Evt.ok _)
  · intro i hi hp r hr
    simp only [spec_l5Wide.l0]
    rw [rdN m i hi, wrapN i _ hi (by omega)]
    refine Evt.pos (natLt _ _ hi) (Evt.pos (by omega) (Evt.pos (natLt _ _ hi) ?_))
    simp only [wideB, Bool.or_eq_true, decide_eq_true_eq] at hp
    by_cases h : m[i] > 50
    · exact Evt.pos h (Evt.pos (by omega) hr)
    · exact Evt.neg h hr
  · intro i hi hp
    simp only [spec_l5Wide.l0]
    rw [rdN m i hi, wrapN i _ hi (by omega)]
    simp only [wideB, Bool.or_eq_false_iff, decide_eq_false_iff_not] at hp
    exact Evt.pos (natLt _ _ hi) (Evt.pos (by omega) (Evt.pos (natLt _ _ hi) (Evt.pos (by omega) (Evt.neg hp.2 (Evt.ok _)))))
theorem wide2_ev (m : List Int) (hm : Short m) : Evt (fun k => slices_ContainsFunc_int_int_at_impl_coverTree_2.f k m) (!m.all wideB) := by
  refine Evt.cast (containsFunc_gen (fun k (x : Int) => impl_coverTree_2.f x) (fun x => !wideB x) (rd m) (fun k i => slices_IndexFunc_int_int_at_impl_coverTree_2.l0 k m (m.length : Int) i) _ m ?_ ?_ ?_ ?_ hm) ?_
  · intro k; rfl
  · intro k i; simp only [slices_IndexFunc_int_int_at_impl_coverTree_2.l0]
  · intro x hx
    unfold impl_coverTree_2.f
    by_cases h : x > 50
    · refine Evt.pos h ((Evt.ok _).cast ?_)
      simp only [wideB]
      rw [decide_eq_false (by omega : ¬ x ≤ 50), Bool.false_or]
      by_cases e : x = 99 <;> simp [e]
    · refine Evt.neg h ((Evt.ok _).cast ?_)
      simp only [wideB]
      rw [decide_eq_true (by omega : x ≤ 50)]; rfl
  · intro i hi; exact rdN m i hi
  · rw [List.not_all_eq_any_not]
/-! Old nodes. -/
def oldB (l : List Nd) (k : Nat) (x : List Int) : Bool := (l.take k).any fun c => decide (c.f0 = x)
theorem l5Old_ev (l : List Nd) (k : Nat) (hk : k < l.length) (hl : l.length ≤ 1000) (hs : ∀ c ∈ l, Short c.f0) : Evt (fun z => spec_l5Old.f z l (k : Int)) (oldB l k l[k].f0) := by
  have hlk : (l.take k).length = k := by rw [List.length_take]; omega
  have ek : rd_T93 l (k : Int) = l[k] := rdG l _ k hk
  unfold spec_l5Old.f oldB
  refine loop_anyL (fun z i => spec_l5Old.l0 z l (k : Int) (i : Int)) (l.take k) (fun c => decide (c.f0 = l[k].f0)) ?_ ?_ ?_
  · simp only [spec_l5Old.l0, hlk]
    exact Evt.neg (natNotLt _) (Evt.ok _)
  · intro i hi hp r hr
    have hik : i < k := by omega
    have er : rd_T93 l (i : Int) = l[i] := rdG l _ i (by omega)
    rw [List.getElem_take] at hp
    simp only [spec_l5Old.l0, er, ek]
    rw [wrapN i k hik (by omega)]
    exact Evt.pos (natLt _ _ hik) (Evt.pos (by omega) (Evt.pos (by omega) (Evt.pos (by omega) (Evt.pos (by omega) (Evt.bind ((l1Same_ev _ _ (hs _ (List.getElem_mem (by omega)))).cast hp) (Evt.neg (by decide) hr))))))
  · intro i hi hp
    have hik : i < k := by omega
    have er : rd_T93 l (i : Int) = l[i] := rdG l _ i (by omega)
    rw [List.getElem_take] at hp
    simp only [spec_l5Old.l0, er, ek]
    exact Evt.pos (natLt _ _ hik) (Evt.pos (by omega) (Evt.pos (by omega) (Evt.pos (by omega) (Evt.pos (by omega) (Evt.bind ((l1Same_ev _ _ (hs _ (List.getElem_mem (by omega)))).cast hp) (Evt.pos rfl (Evt.ok _)))))))
theorem old2_ev (l : List Nd) (k : Nat) (hk : k < l.length) (hl : l.length ≤ 1000) (hs : ∀ c ∈ l, Short c.f0) : Evt (fun z => slices_ContainsFunc_impl_CoverNode_impl_CoverNode_at_impl_coverTree_1.f z (l.take k) l (k : Int)) (oldB l k l[k].f0) := by
  have ek : rd_T93 l (k : Int) = l[k] := rdG l _ k hk
  have hlk : (l.take k).length = k := by rw [List.length_take]; omega
  unfold oldB
  refine containsFunc_gen (fun z (c : Nd) => impl_coverTree_1.f z c.f0 c.f1 c.f2 c.f3 l (k : Int)) (fun c => decide (c.f0 = l[k].f0)) (rd_T93 (l.take k)) (fun z i => slices_IndexFunc_impl_CoverNode_impl_CoverNode_at_impl_coverTree_1.l0 z (l.take k) ((l.take k).length : Int) i l (k : Int)) _ (l.take k) ?_ ?_ ?_ ?_ (by show _ ≤ _; omega)
  · intro z; rfl
  · intro z i; simp only [slices_IndexFunc_impl_CoverNode_impl_CoverNode_at_impl_coverTree_1.l0]
  · intro c hc
    unfold impl_coverTree_1.f
    simp only [ek]
    exact Evt.pos (by omega) (Evt.pos (by omega) (Evt.bind (sEqual_ev c.f0 l[k].f0 (hs c (List.mem_of_mem_take hc))) (Evt.ok _)))
  · intro i hi; exact rdG (l.take k) _ i hi
end Go.Proofs.Ythkmdanahoongaa.Lib
