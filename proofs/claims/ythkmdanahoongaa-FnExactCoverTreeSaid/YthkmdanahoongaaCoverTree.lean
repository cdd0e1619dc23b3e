import Derived.Test.YthkmdanahoongaaF0
import Derived.Test.YthkmdanahoongaaF1
import Derived.Test.YthkmdanahoongaaF2
import Derived.Test.YthkmdanahoongaaF3
import Derived.Test.YthkmdanahoongaaTree
namespace Go.Proofs.Ythkmdanahoongaa.Lib
open Go.RowKit Go.Proofs.Ythkmdanahoongaa.F Go.Proofs.YthkmdanahoongaaW.PrintWords Go.Proofs.YthkmdanahoongaaW.PrintLast Go.Proofs.YthkmdanahoongaaW.PrintMore
theorem wid_inB {lo hi : Int} (m was : List Int) (h : InB lo hi m) : InB lo hi (wid m was) := by
  intro q hq
  rw [wid_length] at hq
  unfold wid
  split
  · rw [getD_map_range _ _ q hq]
    unfold wideX
    split
    · exact Or.inl rfl
    · exact h q hq
  · exact h q hq
def NodeOk (n : Nat) (j : Nat) (c : Nd) : Prop := c.f0.length = n ∧ InB (-(40 * (j : Int))) 50 c.f0 ∧ -1 ≤ c.f1 ∧ c.f1 < (j : Int)
structure TreeOk (n : Nat) (b : Int) (l : List Nd) (k : Nat) : Prop where
  one : 1 ≤ l.length
  most : (l.length : Int) ≤ b
  node : ∀ j (h : j < l.length), NodeOk n j l[j]
  fresh : ∀ j (h : j < l.length), k ≤ j → l[j].f3 = false
def TreeEnd (n : Nat) (b : Int) (r : List Nd × Bool) : Prop := (r.2 = true → (r.1.length : Int) ≤ b ∧ ∀ c ∈ r.1, c.f0.length = n) ∧ (r.2 = false → r.1 = [])
theorem tree_short {n : Nat} {b : Int} {l : List Nd} {k : Nat} (h : TreeOk n b l k) (hn : n ≤ 1000) : ∀ c ∈ l, Short c.f0 := by
  intro c hc
  obtain ⟨j, hj, rfl⟩ := List.getElem_of_mem hc
  have := (h.node j hj).1
  show l[j].f0.length ≤ _
  omega
theorem chain_ex (p : Int) (ts : List Tr) (b : Int) (n : Nat) (hn : n ≤ 1000) (l : List Nd) (hl : l.length ≤ 1000) (hok : ∀ j (h : j < l.length), NodeOk n j l[j]) (lo hi : Int) (k0 q : Int) (E : List Int) (N j0 : Int) :
    ∀ d : Nat, ∀ a : Int, a + 1 = (d : Int) → a < (l.length : Int) → ∀ m : List Int, m.length = n → InB lo hi m → ∃ m' : List Int, m'.length = n ∧ InB lo hi m' ∧ Evt (fun k => impl_extended.l1 k l a m) m' ∧
      (∀ r, (m'.all wideB = false → r = ([], false)) → (m'.all wideB = true → (l.length : Int) = b → r = ([], false)) → (m'.all wideB = true → (l.length : Int) ≠ b → Evt (fun k => spec_CoverTree.l1 k b (l ++ [(⟨m', k0, q, false⟩ : Nd)]) k0 E N (wrap64 (j0 + 1)) p ts) r) → Evt (fun k => spec_CoverTree.l2 k b l k0 q m a E N j0 p ts) r) := by
  intro d
  induction d using Nat.strongRecOn with
  | ind d ih =>
    intro a ha hal m hm hb
    by_cases h0 : a < 0
    · refine ⟨m, hm, hb, Evt.step ?_, fun r r1 r2 r3 => Evt.step ?_⟩
      · simp only [impl_extended.l1]
        exact Evt.neg (by omega) (Evt.ok _)
      · simp only [spec_CoverTree.l2]
        refine Evt.neg (by omega) (Evt.bind (l5Wide_ev m (by show m.length ≤ _; omega)) ?_)
        cases hw : m.all wideB with
        | false => rw [r1 hw]; exact Evt.neg (by decide) (Evt.ok _)
        | true =>
          refine Evt.pos rfl ?_
          by_cases hbl : (l.length : Int) = b
          · rw [r2 hw hbl]; exact Evt.pos hbl (Evt.ok _)
          · exact Evt.neg hbl (Evt.pos (by omega) (r3 hw hbl))
    · obtain ⟨j, rfl⟩ : ∃ j : Nat, a = (j : Int) := ⟨a.toNat, by omega⟩
      have hj : j < l.length := by omega
      obtain ⟨g1, g2, g3, g4⟩ := hok j hj
      have er : rd_T93 l (j : Int) = l[j] := rdG l _ j hj
      have hw1 : (wid m l[j].f0).length = n := by rw [wid_length, hm]
      obtain ⟨m', e1, e2, e3, e4⟩ := ih (l[j].f1 + 1).toNat (by omega) l[j].f1 (by omega) (by omega) (wid m l[j].f0) hw1 (wid_inB _ _ hb)
      refine ⟨m', e1, e2, ext_wid l j hj m (by omega) (by omega) m' e3, fun r r1 r2 r3 => Evt.step ?_⟩
      simp only [spec_CoverTree.l2, er]
      exact Evt.pos (by omega) (Evt.pos (by omega) (Evt.pos (natLt _ _ hj) (Evt.bind (l5Widen_ev m l[j].f0 (by omega) (by omega)) (e4 r r1 r2 r3))))
theorem plainT {p : Int} {ts : List Tr} (hg : goodNet p ts = true) (hr : ts.any resetT = false) (t : Tr) (ht : t ∈ ts) : t.f0.length ≤ 16 ∧ t.f1.length ≤ 16 ∧ t.f2 = [] := by
  have hf := goodNet_facts hg
  obtain ⟨_, h0, h1, _⟩ := hf.2.2.2 t ht
  obtain ⟨n, hn⟩ : ∃ n : Nat, p = (n : Int) := ⟨p.toNat, by omega⟩
  subst hn
  have l0 := rising_len h0
  have l1 := rising_len h1
  refine ⟨by omega, by omega, ?_⟩
  have h := List.any_eq_false.1 hr t ht
  simp only [resetT, decide_eq_true_eq] at h
  exact List.eq_nil_of_length_eq_zero (by omega)
theorem tree_new {n : Nat} {b : Int} {l : List Nd} {k : Nat} (g : TreeOk n b l (k + 1)) (m' : List Int) (q : Int) (hk : k < l.length) (hm : m'.length = n) (hb : InB (-(40 * (k : Int)) - 40) 90 m') (hw : m'.all wideB = true) (hlt : (l.length : Int) < b) : TreeOk n b (l ++ [(⟨m', (k : Int), q, false⟩ : Nd)]) (k + 1) := by
  have el : (l ++ [(⟨m', (k : Int), q, false⟩ : Nd)]).length = l.length + 1 := by rw [List.length_append, List.length_singleton]
  refine ⟨by omega, by omega, fun j hj => ?_, fun j hj hkj => ?_⟩
  · by_cases h : j < l.length
    · rw [List.getElem_append_left h]; exact g.node j h
    · have e : j = l.length := by omega
      subst e
      rw [List.getElem_append_right (Nat.le_refl _)]
      simp only [Nat.sub_self, List.getElem_singleton]
      refine ⟨hm, fun z hz => ?_, by show -1 ≤ (k : Int); omega, by show (k : Int) < _; omega⟩
      have hx := List.all_eq_true.1 hw m'[z] (List.getElem_mem hz)
      have hbz := hb z hz
      have hz' : z < m'.length := hz
      show m'.getD z 0 = 99 ∨ (_ ≤ m'.getD z 0 ∧ m'.getD z 0 ≤ 50)
      rw [getDN m' 0 z hz'] at hbz ⊢
      simp only [wideB, Bool.or_eq_true, decide_eq_true_eq] at hx
      rcases hx with hx | hx
      · rcases hbz with h9 | h9
        · exact Or.inl h9
        · exact Or.inr ⟨by omega, hx⟩
      · exact Or.inl hx
  · by_cases h : j < l.length
    · rw [List.getElem_append_left h]; exact g.fresh j h hkj
    · have e : j = l.length := by omega
      subst e
      rw [List.getElem_append_right (Nat.le_refl _)]
      simp
theorem tree_row (p : Int) (ts : List Tr) (b : Int) (n : Nat) (hp : p = (n : Int)) (hs : SmallN ts) (hg : goodNet p ts = true) (hr : ts.any resetT = false) (hb : 1 ≤ b ∧ b ≤ 300) (k : Nat) (hk : k < 301) (x : List Int) (E : List Int) (hEl : E.length ≤ ts.length) (hE : ∀ (j : Nat) (h : j < E.length), ∃ q : Nat, rd E (j : Int) = (q : Int) ∧ q < ts.length)
    (ih : ∀ l : List Nd, TreeOk n b l (k + 1) → k + 1 ≤ l.length → ∃ r : List Nd × Bool, Evt (fun z => spec_CoverTree.l0 z b l ((k + 1 : Nat) : Int) p ts) r ∧ Evt (fun z => impl_coverTree.l0 z b p ts l ((k + 1 : Nat) : Int)) r ∧ TreeEnd n b r) :
    ∀ j, j ≤ E.length → ∀ l : List Nd, TreeOk n b l (k + 1) → (∃ h : k < l.length, l[k].f0 = x) →
      ∃ r : List Nd × Bool, Evt (fun z => spec_CoverTree.l1 z b l (k : Int) E (E.length : Int) (j : Int) p ts) r ∧ Evt (fun z => impl_coverTree.l1 z b E (E.length : Int) (j : Int) p ts l (k : Int)) r ∧ TreeEnd n b r := by
  have hf := goodNet_facts hg
  have hl := hs.1
  have ew : wrap64 ((k : Int) + 1) = ((k + 1 : Nat) : Int) := wrapN k 301 hk (by omega)
  refine down (P := fun j (l : List Nd) => TreeOk n b l (k + 1) → (∃ h : k < l.length, l[k].f0 = x) →
      ∃ r : List Nd × Bool, Evt (fun z => spec_CoverTree.l1 z b l (k : Int) E (E.length : Int) (j : Int) p ts) r ∧ Evt (fun z => impl_coverTree.l1 z b E (E.length : Int) (j : Int) p ts l (k : Int)) r ∧ TreeEnd n b r) ?_ ?_
  · rintro l g1 ⟨g3, g4⟩
    obtain ⟨r, e1, e2, e3⟩ := ih l g1 (by omega)
    refine ⟨r, Evt.step ?_, Evt.step ?_, e3⟩
    · simp only [spec_CoverTree.l1]
      rw [ew]; exact Evt.neg (natNotLt _) e1
    · simp only [impl_coverTree.l1]
      rw [ew]; exact Evt.neg (natNotLt _) e2
  · rintro j hj ihj l g1 ⟨g3, g4⟩
    obtain ⟨q, eq0, hqn⟩ := hE j hj
    have er : rd_T102 ts (q : Int) = ts[q] := rdG ts _ q hqn
    have ek : rd_T93 l (k : Int) = l[k] := rdG l _ k g3
    obtain ⟨n1, n2, n3, n4⟩ := g1.node k g3
    rw [g4] at n1 n2
    have hlb := g1.most
    have hin := good_inNet hg x.length (by omega) ts[q] (List.getElem_mem hqn)
    obtain ⟨t0, t1, t2⟩ := plainT hg hr ts[q] (List.getElem_mem hqn)
    have hxb : InB (-20000) 50 x := fun z hz => (n2 z hz).imp id (fun h => ⟨by omega, h.2⟩)
    obtain ⟨s, u, f1, f2, f3⟩ := fire_rel ts[q] x hin t0 t1 t2 hxb (by omega)
    have hsn : s.length = n := by rw [f1.1, n1]
    have hsb : InB (-(40 * (k : Int)) - 40) 90 s := by
      intro z hz
      have hz' : z < x.length := by omega
      obtain ⟨a1, a2⟩ := f1.2.2 z hz'
      rcases n2 z hz' with h9 | h9
      · exact Or.inl (a1 h9)
      · by_cases e9 : x.getD z 0 = 99
        · exact Or.inl (a1 e9)
        · obtain ⟨b1, b2, b3⟩ := a2 e9
          exact Or.inr ⟨by omega, by omega⟩
    obtain ⟨m', c1, c2, c3, c4⟩ := chain_ex p ts b n (by omega) l (by omega) g1.node (-(40 * (k : Int)) - 40) 90 (k : Int) (q : Int) E (E.length : Int) (j : Int) (k + 1) (k : Int) (by omega) (by omega) s hsn hsb
    have hext : Evt (fun z => impl_extended.f z l (k : Int) u) m' := by
      unfold impl_extended.f
      simp only [ek, g4]
      exact Evt.pos (by omega) (Evt.pos (by omega) (ext_back l (k : Int) x s u 32 f1 (by omega) m' c3))
    have hwd : Evt (fun z => slices_ContainsFunc_int_int_at_impl_coverTree_2.f z m') (!m'.all wideB) := wide2_ev m' (by show m'.length ≤ _; omega)
    have hspec : ∀ r, Evt (fun z => spec_CoverTree.l2 z b l (k : Int) (q : Int) s (k : Int) E (E.length : Int) (j : Int) p ts) r → Evt (fun z => spec_CoverTree.l1 (z + 1) b l (k : Int) E (E.length : Int) (j : Int) p ts) r := by
      intro r hr
      simp only [spec_CoverTree.l1, eq0, er, ek, g4]
      exact Evt.pos (natLt _ _ hj) (Evt.pos (by omega) (Evt.pos (natLt _ _ hj) (Evt.pos (by omega) (Evt.pos (by omega) (Evt.pos (by omega) (Evt.pos (by omega) (Evt.bind f2 hr)))))))
    have himpl : ∀ r, ((l.length : Int) = b → r = ([], false)) → ((l.length : Int) ≠ b → m'.all wideB = false → r = ([], false)) → ((l.length : Int) ≠ b → m'.all wideB = true → Evt (fun z => impl_coverTree.l1 z b E (E.length : Int) (wrap64 ((j : Int) + 1)) p ts (l ++ [(⟨m', (k : Int), (q : Int), false⟩ : Nd)]) (k : Int)) r) → Evt (fun z => impl_coverTree.l1 (z + 1) b E (E.length : Int) (j : Int) p ts l (k : Int)) r := by
      intro r r1 r2 r3
      simp only [impl_coverTree.l1, eq0, er, ek, g4]
      refine Evt.pos (natLt _ _ hj) (Evt.pos (by omega) (Evt.pos (natLt _ _ hj) (Evt.pos (by omega) (Evt.pos (by omega) (Evt.pos (by omega) (Evt.pos (by omega) (Evt.bind f3 (Evt.bind hext ?_))))))))
      by_cases hbl : (l.length : Int) = b
      · rw [r1 hbl]; exact Evt.pos hbl (Evt.ok _)
      · refine Evt.neg hbl (Evt.bind hwd ?_)
        cases hw : m'.all wideB with
        | false => rw [r2 hbl hw]; exact Evt.pos rfl (Evt.ok _)
        | true => exact Evt.neg (by decide) (Evt.pos (by omega) (r3 hbl hw))
    by_cases hbl : (l.length : Int) = b
    · exact ⟨([], false), Evt.step (hspec _ (c4 _ (fun _ => rfl) (fun _ _ => rfl) (fun _ h => absurd hbl h))), Evt.step (himpl _ (fun _ => rfl) (fun h => absurd hbl h) (fun h => absurd hbl h)), fun h => (by cases h), fun _ => rfl⟩
    · cases hw : m'.all wideB with
      | false => exact ⟨([], false), Evt.step (hspec _ (c4 _ (fun _ => rfl) (fun h => by rw [hw] at h; cases h) (fun h => by rw [hw] at h; cases h))), Evt.step (himpl _ (fun h => absurd h hbl) (fun _ _ => rfl) (fun _ h => by rw [hw] at h; cases h)), fun h => (by cases h), fun _ => rfl⟩
      | true =>
        obtain ⟨r, e1, e2, e3⟩ := ihj (l ++ [(⟨m', (k : Int), (q : Int), false⟩ : Nd)]) (tree_new g1 m' (q : Int) g3 c1 c2 hw (by omega)) ⟨by rw [List.length_append]; omega, by rw [List.getElem_append_left g3]; exact g4⟩
        rw [← wrapN j E.length hj (by omega)] at e1 e2
        exact ⟨r, Evt.step (hspec _ (c4 _ (fun h => by rw [hw] at h; cases h) (fun _ h => absurd h hbl) (fun _ _ => e1))), Evt.step (himpl _ (fun h => absurd h hbl) (fun _ h => by rw [hw] at h; cases h) (fun _ _ => e2)), e3⟩
theorem tree_loop (p : Int) (ts : List Tr) (b : Int) (n : Nat) (hp : p = (n : Int)) (hs : SmallN ts) (hg : goodNet p ts = true) (hr : ts.any resetT = false) (hb : 1 ≤ b ∧ b ≤ 300) :
    ∀ k, k ≤ 301 → ∀ l : List Nd, TreeOk n b l k → k ≤ l.length → ∃ r : List Nd × Bool, Evt (fun z => spec_CoverTree.l0 z b l (k : Int) p ts) r ∧ Evt (fun z => impl_coverTree.l0 z b p ts l (k : Int)) r ∧ TreeEnd n b r := by
  have hf := goodNet_facts hg
  have hl := hs.1
  have done : ∀ k (l : List Nd), TreeOk n b l k → k ≤ l.length → ¬ k < l.length → ∃ r : List Nd × Bool, Evt (fun z => spec_CoverTree.l0 z b l (k : Int) p ts) r ∧ Evt (fun z => impl_coverTree.l0 z b p ts l (k : Int)) r ∧ TreeEnd n b r := by
    intro k l h1 hk hn
    refine ⟨(l, true), Evt.step ?_, Evt.step ?_, fun _ => ⟨h1.most, fun c hc => ?_⟩, fun h => (by cases h)⟩
    · simp only [spec_CoverTree.l0]; exact Evt.neg (by omega) (Evt.ok _)
    · simp only [impl_coverTree.l0]; exact Evt.neg (by omega) (Evt.ok _)
    · obtain ⟨j, hj, rfl⟩ := List.getElem_of_mem hc
      exact (h1.node j hj).1
  refine down (P := fun k (l : List Nd) => TreeOk n b l k → k ≤ l.length → ∃ r : List Nd × Bool, Evt (fun z => spec_CoverTree.l0 z b l (k : Int) p ts) r ∧ Evt (fun z => impl_coverTree.l0 z b p ts l (k : Int)) r ∧ TreeEnd n b r) ?_ ?_
  · intro l h1 hk
    exact done 301 l h1 hk (by have := h1.most; omega)
  · intro k hk ih l h1 hkl
    by_cases hlt : k < l.length
    · have hlb := h1.most
      have ew : wrap64 ((k : Int) + 1) = ((k + 1 : Nat) : Int) := wrapN k 301 hk (by omega)
      have ek : rd_T93 l (k : Int) = l[k] := rdG l _ k hlt
      have hsh := tree_short h1 (by omega)
      have hfr := h1.fresh k hlt (Nat.le_refl _)
      have o1 := l5Old_ev l k hlt (by omega) hsh
      have o2 := old2_ev l k hlt (by omega) hsh
      have hn1 := (h1.node k hlt).1
      cases ho : oldB l k l[k].f0 with
      | true =>
        have hset : ∀ j (h : j < l.length), (l.set k (⟨l[k].f0, l[k].f1, l[k].f2, true⟩ : Nd))[j]'(by rw [List.length_set]; exact h) = if k = j then (⟨l[k].f0, l[k].f1, l[k].f2, true⟩ : Nd) else l[j] := fun j h => List.getElem_set ..
        have g : TreeOk n b (l.set k (⟨l[k].f0, l[k].f1, l[k].f2, true⟩ : Nd)) (k + 1) := by
          refine ⟨by rw [List.length_set]; exact h1.one, by rw [List.length_set]; exact h1.most, fun j h => ?_, fun j h hkj => ?_⟩
          · rw [List.length_set] at h
            rw [hset j h]
            by_cases e : k = j
            · subst e; rw [if_pos rfl]; exact h1.node k hlt
            · rw [if_neg e]; exact h1.node j h
          · rw [List.length_set] at h
            rw [hset j h, if_neg (by omega)]
            exact h1.fresh j h (by omega)
        obtain ⟨r, e1, e2, e3⟩ := ih _ g (by rw [List.length_set]; omega)
        have ek2 : rd_T93 (l.set k (⟨l[k].f0, l[k].f1, l[k].f2, true⟩ : Nd)) (k : Int) = (⟨l[k].f0, l[k].f1, l[k].f2, true⟩ : Nd) := (rdG _ _ k (by rw [List.length_set]; exact hlt)).trans (by rw [hset k hlt, if_pos rfl])
        refine ⟨r, Evt.step ?_, Evt.step ?_, e3⟩
        · simp only [spec_CoverTree.l0, ek, Int.toNat_natCast]
          rw [ew]
          refine Evt.pos (by omega) (Evt.bind (o1.cast ho) (Evt.pos (by omega) ?_))
          simp only [Option.bind_some, ek2]
          exact Evt.pos (by first | rfl | trivial) e1
        · simp only [impl_coverTree.l0, ek, Int.toNat_natCast]
          rw [ew]
          exact Evt.pos (by omega) (Evt.pos (by omega) (Evt.pos (by omega) (Evt.bind (o2.cast ho) (Evt.pos rfl e2))))
      | false =>
        have eself : l.set k (⟨l[k].f0, l[k].f1, l[k].f2, false⟩ : Nd) = l := by
          have e : (⟨l[k].f0, l[k].f1, l[k].f2, false⟩ : Nd) = l[k] := by rw [← hfr]
          rw [e, List.set_getElem_self]
        have hin := good_inNet hg l[k].f0.length (by omega)
        have g : TreeOk n b l (k + 1) := ⟨h1.one, h1.most, h1.node, fun j h hkj => h1.fresh j h (by omega)⟩
        obtain ⟨r, e1, e2, e3⟩ := tree_row p ts b n hp hs hg hr hb k hk l[k].f0 (enabledL ts l[k].f0) (enabledL_length ts _) (fun j hj => by
          obtain ⟨q, hq, hqn⟩ : ∃ q : Nat, (enabledL ts l[k].f0)[j] = (q : Int) ∧ q < ts.length := by
            have hmem : (enabledL ts l[k].f0)[j] ∈ enabledL ts l[k].f0 := List.getElem_mem hj
            simp only [enabledL, picks, List.mem_map, List.mem_filter, List.mem_range'_1] at hmem
            obtain ⟨i, ⟨h1, h2⟩, h3⟩ := hmem
            exact ⟨i, h3.symm, by omega⟩
          exact ⟨q, by rw [rdN _ j hj, hq], hqn⟩) ih 0 (Nat.zero_le _) l g ⟨hlt, rfl⟩
        refine ⟨r, Evt.step ?_, Evt.step ?_, e3⟩
        · simp only [spec_CoverTree.l0, ek, Int.toNat_natCast]
          refine Evt.pos (by omega) (Evt.bind (o1.cast ho) (Evt.pos (by omega) ?_))
          simp only [Option.bind_some, eself, ek]
          exact Evt.neg (by rw [hfr]; decide) (Evt.bind (l2Enabled_ev p ts l[k].f0 hs hin) e1)
        · simp only [impl_coverTree.l0, ek, Int.toNat_natCast]
          exact Evt.pos (by omega) (Evt.pos (by omega) (Evt.pos (by omega) (Evt.bind (o2.cast ho) (Evt.neg (by decide) (Evt.bind (enabled_ev p ts l[k].f0 hs hin) e2)))))
    · exact done k l h1 hkl hlt
theorem tree_ex (p : Int) (ts : List Tr) (m : List Int) (b : Int) (hs : SmallN ts) (hm : Short m) : ∃ r : List Nd × Bool, Evt (fun k => spec_CoverTree.f k p ts m b) r ∧ Evt (fun k => impl_coverTree.f k p ts m b) r ∧ TreeEnd p.toNat b r ∧ (r.2 = true → 1 ≤ p ∧ p ≤ 16 ∧ b ≤ 300) := by
  have no1 : ∀ c : Bool, c = true → Evt (fun k => spec_CoverTree.j0 k m b c p ts) ([], false) := by
    intro c hc
    refine Evt.step ?_
    simp only [spec_CoverTree.j0]
    exact Evt.pos hc (Evt.ok _)
  have no2 : ∀ c : Bool, c = true → Evt (fun k => impl_coverTree.j0 k m b c p ts) ([], false) := by
    intro c hc
    refine Evt.step ?_
    simp only [impl_coverTree.j0]
    exact Evt.pos hc (Evt.ok _)
  have hend : TreeEnd p.toNat b ([], false) := ⟨fun h => (by cases h), fun _ => rfl⟩
  unfold spec_CoverTree.f impl_coverTree.f
  simp only [l1In_eq, within_eq, Option.bind_some]
  cases hg : marked p ts m with
  | false => exact ⟨([], false), Evt.bind ((l2Marked_ev p ts m hs hm).cast hg) (Evt.neg (by decide) (no1 true rfl)), Evt.bind ((isMarked_ev p ts m hs hm).cast hg) (Evt.neg (by decide) (no2 true rfl)), hend, fun h => (by cases h)⟩
  | true =>
    have hf := marked_facts hg
    have hgf := goodNet_facts hf.1
    have hmb := goodMark_bounds hf.2
    cases hr : ts.any resetT with
    | true => exact ⟨([], false), Evt.bind ((l2Marked_ev p ts m hs hm).cast hg) (Evt.pos rfl (Evt.bind ((l2Resets_ev p ts hs).cast hr) (Evt.pos rfl (no1 true rfl)))), Evt.bind ((isMarked_ev p ts m hs hm).cast hg) (Evt.pos rfl (Evt.bind ((hasResets_ev p ts hs).cast hr) (Evt.pos rfl (no2 true rfl)))), hend, fun h => (by cases h)⟩
    | false =>
      cases hw : within b 1 300 with
      | false => exact ⟨([], false), Evt.bind ((l2Marked_ev p ts m hs hm).cast hg) (Evt.pos rfl (Evt.bind ((l2Resets_ev p ts hs).cast hr) (Evt.neg (by decide) (no1 _ rfl)))), Evt.bind ((isMarked_ev p ts m hs hm).cast hg) (Evt.pos rfl (Evt.bind ((hasResets_ev p ts hs).cast hr) (Evt.neg (by decide) (no2 _ rfl)))), hend, fun h => (by cases h)⟩
      | true =>
        have hb := within_bounds hw
        have hone : TreeOk p.toNat b [(⟨m, -1, -1, false⟩ : Nd)] 0 := by
          refine ⟨Nat.le_refl _, by show ((1 : Nat) : Int) ≤ b; omega, fun j hj => ?_, fun j hj _ => ?_⟩
          · have e : j = 0 := by simp at hj; omega
            subst e
            refine ⟨by show m.length = _; omega, fun z hz => Or.inr ?_, by show (-1 : Int) ≤ -1; omega, by show (-1 : Int) < _; omega⟩
            have hz' : z < m.length := hz
            have := hmb.2.2.2 m[z] (List.getElem_mem hz')
            show _ ≤ m.getD z 0 ∧ m.getD z 0 ≤ 50
            rw [getDN m 0 z hz']
            omega
          · have e : j = 0 := by simp at hj; omega
            subst e; rfl
        obtain ⟨r, e1, e2, e3⟩ := tree_loop p ts b p.toNat (by omega) hs hf.1 hr hb 0 (Nat.zero_le _) _ hone (Nat.zero_le _)
        refine ⟨r, Evt.bind ((l2Marked_ev p ts m hs hm).cast hg) (Evt.pos rfl (Evt.bind ((l2Resets_ev p ts hs).cast hr) (Evt.neg (by decide) (Evt.step ?_)))), Evt.bind ((isMarked_ev p ts m hs hm).cast hg) (Evt.pos rfl (Evt.bind ((hasResets_ev p ts hs).cast hr) (Evt.neg (by decide) (Evt.step ?_)))), e3, fun _ => ⟨hgf.1, hgf.2.1, hb.2⟩⟩
        · simp only [spec_CoverTree.j0]
          refine Evt.neg (by decide) (Evt.bind0 (a := m) ?_ e1)
          simp only [spec_l1Own.f, Option.bind_some, List.nil_append, List.length_nil, Nat.zero_add]
          exact if_pos (by omega)
        · simp only [impl_coverTree.j0]
          refine Evt.neg (by decide) (Evt.bind0 (a := m) ?_ e2)
          simp only [slices_Clone_int_int.f, Option.bind_some, List.nil_append, List.length_nil, Nat.zero_add]
          exact if_pos (by omega)
end Go.Proofs.Ythkmdanahoongaa.Lib
