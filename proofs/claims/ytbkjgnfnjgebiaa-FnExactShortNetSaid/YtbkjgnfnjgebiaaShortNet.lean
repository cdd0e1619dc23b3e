import Derived.Test.YtbkjgnfnjgebiaaF0
import Derived.Test.YtbkjgnfnjgebiaaF2
import Derived.Test.YtbkjgnfnjgebiaaF3
import Derived.Test.YtbkjgnfnjgebiaaGoodFlow
namespace Go.Proofs.Ytbkjgnfnjgebiaa.Lib
open Go.RowKit Go.Proofs.Ytbkjgnfnjgebiaa.F Go.Proofs.YtbkjgnfnjgebiaaW.PrintWords Go.Proofs.YtbkjgnfnjgebiaaW.PrintLast Go.Proofs.YtbkjgnfnjgebiaaW.PrintMore
theorem l1Own_same (l : List Int) (h : Short l) : spec_l1Own.f l = some l := by
  have h' : l.length ≤ 17592186044415 := h
  simp only [spec_l1Own.f, Option.bind_some, List.nil_append, List.length_nil, Nat.zero_add]
  exact if_pos (by omega)
theorem clone_same (l : List Int) (h : Short l) : slices_Clone_int_int.f l = some l := by
  have h' : l.length ≤ 17592186044415 := h
  simp only [slices_Clone_int_int.f, Option.bind_some, List.nil_append, List.length_nil, Nat.zero_add]
  exact if_pos (by omega)
theorem takeT (ts : List Tr) (i : Nat) (h : i < ts.length) : ts.take i ++ [⟨ts[i].f0, ts[i].f1, ts[i].f2⟩] = ts.take (i + 1) := by
  rw [List.take_succ_eq_append_getElem h]
theorem l3Own_ev (p : Int) (ts : List Tr) (hs : SmallN ts) : Evt (fun k => spec_l3Own.f k p ts) (p, ts) := by
  have hl := hs.1
  have key : ∀ i, i ≤ ts.length → ∀ s : List Tr, s = ts.take i → Evt (fun k => spec_l3Own.l0 k ts (ts.length : Int) (i : Int) p s) (p, ts) := by
    refine down (P := fun i (s : List Tr) => s = ts.take i → Evt (fun k => spec_l3Own.l0 k ts (ts.length : Int) (i : Int) p s) (p, ts)) ?_ ?_
    · intro s hs'
      refine Evt.step ?_
      simp only [spec_l3Own.l0]
      exact Evt.neg (natNotLt _) ((Evt.ok _).cast (by rw [hs', List.take_length]))
    · intro i hi ih s hs'
      have hsm : SmallT ts[i] := hs.2 _ (List.getElem_mem hi)
      have er : rd_T63 ts (i : Int) = ts[i] := rdG ts _ i hi
      have hsl : s.length ≤ ts.length := by rw [hs', List.length_take]; omega
      refine Evt.step ?_
      simp only [spec_l3Own.l0, er, l1Own_same _ hsm.s0, l1Own_same _ hsm.s1, l1Own_same _ hsm.s2, Option.bind_some]
      rw [wrapN i _ hi (by omega)]
      exact Evt.pos (natLt _ _ hi) (Evt.pos (by omega) (Evt.pos (natLt _ _ hi) (Evt.pos (by omega) (ih _ (by rw [hs']; exact takeT ts i hi)))))
  exact key 0 (Nat.zero_le _) [] (by simp)
theorem cloneNet_ev (p : Int) (ts : List Tr) (hs : SmallN ts) : Evt (fun k => impl_cloneNet.f k p ts) (p, ts) := by
  have hl := hs.1
  have key : ∀ i, i ≤ ts.length → ∀ s : List Tr, s = ts.take i → Evt (fun k => impl_cloneNet.l0 k ts (ts.length : Int) (i : Int) p s) (p, ts) := by
    refine down (P := fun i (s : List Tr) => s = ts.take i → Evt (fun k => impl_cloneNet.l0 k ts (ts.length : Int) (i : Int) p s) (p, ts)) ?_ ?_
    · intro s hs'
      refine Evt.step ?_
      simp only [impl_cloneNet.l0]
      exact Evt.neg (natNotLt _) ((Evt.ok _).cast (by rw [hs', List.take_length]))
    · intro i hi ih s hs'
      have hsm : SmallT ts[i] := hs.2 _ (List.getElem_mem hi)
      have er : rd_T63 ts (i : Int) = ts[i] := rdG ts _ i hi
      have hsl : s.length ≤ ts.length := by rw [hs', List.length_take]; omega
      refine Evt.step ?_
      simp only [impl_cloneNet.l0, er, clone_same _ hsm.s0, clone_same _ hsm.s1, clone_same _ hsm.s2, Option.bind_some]
      rw [wrapN i _ hi (by omega)]
      exact Evt.pos (natLt _ _ hi) (Evt.pos (by omega) (Evt.pos (natLt _ _ hi) (Evt.pos (by omega) (ih _ (by rw [hs']; exact takeT ts i hi)))))
  exact key 0 (Nat.zero_le _) [] (by simp)
theorem good_small {p : Int} {ts : List Tr} (hg : goodNet p ts = true) : SmallN ts := by
  obtain ⟨h1, h2, h3, h4⟩ := goodNet_facts hg
  refine ⟨by omega, fun t ht => ?_⟩
  obtain ⟨_, a, b, c⟩ := h4 t ht
  have e : p - 1 = ((p.toNat : Nat) : Int) - 1 := by omega
  rw [e] at a b c
  have := rising_len a; have := rising_len b; have := rising_len c
  exact ⟨by omega, by omega, by omega⟩
theorem checkedNet_ev (p : Int) (ts : List Tr) (hs : SmallN ts) : Evt (fun k => impl_checkedNet.f k p ts) (if goodNet p ts = true then (p, ts, true) else (0, [], false)) := by
  unfold impl_checkedNet.f
  cases hg : goodNet p ts with
  | true => exact Evt.bind ((goodNet_ev p ts hs).cast hg) (Evt.pos rfl (Evt.ok _))
  | false => exact Evt.bind ((goodNet_ev p ts hs).cast hg) (Evt.neg (by decide) (Evt.ok _))
theorem core_ShortNet (p : Int) (ts : List Tr) (u v : Int) (hs : SmallN ts) : ∃ r : Int × List Tr × Bool, Evt (fun k => spec_ShortNet.f k p ts u v) r ∧ Evt (fun k => impl_ShortNet.f k p ts u v) r ∧ SmallN r.2.1 := by
  obtain ⟨b, e1, e2, h⟩ := goodFlow_ex p ts u v hs
  have none_ : SmallN ([] : List Tr) := ⟨by simp, fun t ht => by cases ht⟩
  cases b with
  | false =>
    refine ⟨(0, [], false), ?_, ?_, none_⟩
    · unfold spec_ShortNet.f; exact Evt.bind e1 (Evt.neg (by decide) (Evt.ok _))
    · unfold impl_ShortNet.f; exact Evt.bind e2 (Evt.neg (by decide) (Evt.ok _))
  | true =>
    have hg := goodNet_facts (h rfl).1
    have hl := hs.1
    have hs' : SmallN (ts ++ [(⟨[v], [u], []⟩ : Tr)]) := by
      refine ⟨by rw [List.length_append, List.length_singleton]; omega, fun t ht => ?_⟩
      rcases List.mem_append.1 ht with h1 | h1
      · exact hs.2 t h1
      · rw [List.mem_singleton] at h1; subst h1; exact ⟨by simp, by simp, by simp⟩
    refine ⟨if goodNet p (ts ++ [(⟨[v], [u], []⟩ : Tr)]) = true then (p, ts ++ [(⟨[v], [u], []⟩ : Tr)], true) else (0, [], false), ?_, ?_, ?_⟩
    · unfold spec_ShortNet.f
      refine Evt.bind e1 (Evt.pos rfl (Evt.bind (l3Own_ev p ts hs) (Evt.pos (by show ts.length < _; omega) ?_)))
      simp only [Option.bind_some]
      cases hq : goodNet p (ts ++ [(⟨[v], [u], []⟩ : Tr)]) with
      | true => exact Evt.bind ((specGoodNet_ev p _ hs').cast hq) (Evt.pos rfl (Evt.ok _))
      | false => exact Evt.bind ((specGoodNet_ev p _ hs').cast hq) (Evt.neg (by decide) (Evt.ok _))
    · unfold impl_ShortNet.f
      refine Evt.bind e2 (Evt.pos rfl (Evt.bind (a := (p, ts ++ [(⟨[v], [u], []⟩ : Tr)])) ?_ (Evt.bind (checkedNet_ev p _ hs') (Evt.ok _))))
      unfold impl_shortNet.f
      exact Evt.bind (cloneNet_ev p ts hs) (Evt.pos (by show ts.length < _; omega) (Evt.ok _))
    · cases goodNet p (ts ++ [(⟨[v], [u], []⟩ : Tr)]) with
      | true => exact hs'
      | false => exact none_
end Go.Proofs.Ytbkjgnfnjgebiaa.Lib
