import Derived.Test.YtbkjgnfnjgebiaaF0
import Derived.Test.YtbkjgnfnjgebiaaF1
import Derived.Test.YtbkjgnfnjgebiaaF2
import Derived.Test.YtbkjgnfnjgebiaaF3
import Derived.Test.YtbkjgnfnjgebiaaF4
import Derived.Test.YtbkjgnfnjgebiaaGoodFlow
import Derived.Test.YtbkjgnfnjgebiaaResets
import Derived.Test.YtbkjgnfnjgebiaaLeave
namespace Go.Proofs.Ytbkjgnfnjgebiaa.Lib
open Go.RowKit Go.Proofs.Ytbkjgnfnjgebiaa.F Go.Proofs.YtbkjgnfnjgebiaaW.PrintWords Go.Proofs.YtbkjgnfnjgebiaaW.PrintLast Go.Proofs.YtbkjgnfnjgebiaaW.PrintMore
def sameT (t x : Tr) : Bool := decide (x.f0 = t.f0) && decide (x.f1 = t.f1)
theorem withoutTrans_ev (p : Int) (ts : List Tr) (u v : Int) (hs : SmallN ts) (i : Nat) (hi : i < ts.length) : Evt (fun k => impl_withoutTrans.f k p ts u v (i : Int)) (p, skip ts i, u, v) := by
  have hl := hs.1
  unfold impl_withoutTrans.f
  refine Evt.bind (cloneNet_ev p ts hs) (Evt.bind0 (a := skip ts i) ?_ (Evt.ok _))
  unfold slices_Delete_impl_Trans_impl_Trans.f
  rw [wrapN i _ hi (by omega), if_pos (by omega), if_pos (by omega), if_pos (by show ((i + 1 : Nat) : Int) ≤ (ts.length : Int); omega), Int.toNat_natCast, Int.toNat_natCast]
  rfl
theorem dropOne_ev (t x : Tr) (ht : SmallT t) (hx : SmallT x) : Evt (fun k => impl_dropTrans_1.f k x.f0 x.f1 x.f2 t.f0 t.f1 t.f2) (sameT t x) := by
  unfold impl_dropTrans_1.f sameT
  by_cases c : x.f0 = t.f0
  · refine Evt.bind ((sEqual_ev t.f0 x.f0 ht.s0).cast (decide_eq_true c.symm)) (Evt.pos rfl ?_)
    rw [decide_eq_true c, Bool.true_and]
    exact Evt.bind (sEqual_ev t.f1 x.f1 ht.s1) ((Evt.ok _).cast (decide_eq_decide.2 eq_comm))
  · refine Evt.bind ((sEqual_ev t.f0 x.f0 ht.s0).cast (decide_eq_false (fun e => c e.symm))) (Evt.neg (by decide) ?_)
    rw [decide_eq_false c, Bool.false_and]
    exact Evt.ok _
theorem dropFind_ev (t : Tr) (ht : SmallT t) (l : List Tr) (hl : SmallN l) : Evt (fun k => slices_ContainsFunc_impl_Trans_impl_Trans_at_impl_dropTrans_1.f k l t.f0 t.f1 t.f2) (l.any (sameT t)) := by
  have := hl.1
  refine containsFunc_gen (fun k (x : Tr) => impl_dropTrans_1.f k x.f0 x.f1 x.f2 t.f0 t.f1 t.f2) (sameT t) (rd_T63 l) (fun k i => slices_IndexFunc_impl_Trans_impl_Trans_at_impl_dropTrans_1.l0 k l (l.length : Int) i t.f0 t.f1 t.f2) _ l ?_ ?_ ?_ ?_ hl.short
  · intro k; rfl
  · intro k i; simp only [slices_IndexFunc_impl_Trans_impl_Trans_at_impl_dropTrans_1.l0]
  · intro x hx; exact dropOne_ev t x ht (hl.2 x hx)
  · intro i hi; exact rdG l _ i hi
theorem core_DropTrans (p : Int) (ts : List Tr) (u v : Int) (hs : SmallN ts) : ∃ r : Int × List Tr × Int × Int × Bool, Evt (fun k => spec_DropTrans.f k p ts u v) r ∧ Evt (fun k => impl_DropTrans.f k p ts u v) r ∧ SmallN r.2.1 := by
  obtain ⟨b, h1, h2, h3⟩ := goodFlow_ex p ts u v hs
  have none_ : SmallN ([] : List Tr) := ⟨by simp, fun t ht => by cases ht⟩
  unfold spec_DropTrans.f impl_DropTrans.f spec_l10Asked.f impl_isReducible.f
  cases b with
  | false => exact ⟨(0, [], 0, 0, false), Evt.bind (Evt.bind h1 (Evt.neg (by decide) (Evt.ok false))) (Evt.neg (by decide) (Evt.ok _)), Evt.bind (Evt.bind h2 (Evt.neg (by decide) (Evt.ok false))) (Evt.neg (by decide) (Evt.ok _)), none_⟩
  | true =>
    have e1 := l2Resets_ev p ts hs
    have e2 := hasResets_ev p ts hs
    cases hr : ts.any resetT with
    | true => exact ⟨(0, [], 0, 0, false), Evt.bind (Evt.bind h1 (Evt.pos rfl (Evt.bind (e1.cast hr) (Evt.ok false)))) (Evt.neg (by decide) (Evt.ok _)), Evt.bind (Evt.bind h2 (Evt.pos rfl (Evt.bind (e2.cast hr) (Evt.ok false)))) (Evt.neg (by decide) (Evt.ok _)), none_⟩
    | false =>
      have g1 := Evt.bind (g := fun k t => if t = true then ((spec_l2Resets.f k p ts).bind fun t453 => (some (!t453))) else (some false)) h1 (Evt.pos rfl (Evt.bind (e1.cast hr) (Evt.ok true)))
      have g2 := Evt.bind (g := fun k t => if t = true then ((impl_hasResets.f k p ts).bind fun t464 => (some (!t464))) else (some false)) h2 (Evt.pos rfl (Evt.bind (e2.cast hr) (Evt.ok true)))
      suffices hh : ∃ r : Int × List Tr × Int × Int × Bool, Evt (fun k => spec_l10DropTrans.f k p ts u v) r ∧ Evt (fun k => impl_dropTrans.f k p ts u v) r ∧ SmallN r.2.1 by
        obtain ⟨r, a, b, c⟩ := hh
        exact ⟨r, Evt.bind g1 (Evt.pos rfl (Evt.bind a (Evt.ok _))), Evt.bind g2 (Evt.pos rfl (Evt.bind b (Evt.ok _))), c⟩
      obtain ⟨hg, hu, hv⟩ := h3 rfl
      have hf := goodNet_facts hg
      obtain ⟨n, rfl⟩ : ∃ n : Nat, p = (n : Int) := ⟨p.toNat, by omega⟩
      have hin := good_inNet hg n rfl
      have h0 : ∀ t ∈ ts, t.f2 = [] := by
        intro t ht
        have := List.any_eq_false.1 hr t ht
        rw [resetT, decide_eq_true_eq] at this
        exact List.length_eq_zero_iff.1 (by omega)
      have hl := hs.1
      have key : ∀ i, i ≤ ts.length → ∀ s : Unit, ∃ r : Int × List Tr × Int × Int × Bool, Evt (fun k => spec_l10DropTrans.l0 k ts (ts.length : Int) (i : Int) (n : Int) ts u v) r ∧ Evt (fun k => impl_dropTrans.l0 k ts (ts.length : Int) (i : Int) (n : Int) ts u v) r ∧ SmallN r.2.1 := by
        refine down (P := fun i (s : Unit) => ∃ r : Int × List Tr × Int × Int × Bool, Evt (fun k => spec_l10DropTrans.l0 k ts (ts.length : Int) (i : Int) (n : Int) ts u v) r ∧ Evt (fun k => impl_dropTrans.l0 k ts (ts.length : Int) (i : Int) (n : Int) ts u v) r ∧ SmallN r.2.1) ?_ ?_
        · intro s
          refine ⟨(0, [], 0, 0, false), Evt.step ?_, Evt.step ?_, none_⟩
          · simp only [spec_l10DropTrans.l0]; exact Evt.neg (natNotLt _) (Evt.ok _)
          · simp only [impl_dropTrans.l0]; exact Evt.neg (natNotLt _) (Evt.ok _)
        · intro i hi ih s
          have hm := List.getElem_mem hi
          have hsm : SmallT ts[i] := hs.2 _ hm
          have er : rd_T63 ts (i : Int) = ts[i] := rdG ts _ i hi
          have htk : SmallN (ts.take i) := ⟨by rw [List.length_take]; omega, fun t ht => hs.2 t (List.mem_of_mem_take ht)⟩
          have eF := dropFind_ev ts[i] hsm (ts.take i) htk
          have eL := leave_ev (p := n) (by omega) ts u v hu hv hs hin h0 i
          have eW := withoutTrans_ev (n : Int) ts u v hs i hi
          obtain ⟨r, a, b, c⟩ := ih ()
          -- the spec's inner loop
          have inner : ∀ j, j ≤ (ts.take i).length → ∀ s : Unit, Evt (fun k => spec_l10DropTrans.l1 k (i : Int) ts (ts.length : Int) (i : Int) (ts.take i) ((ts.take i).length : Int) (j : Int) (n : Int) ts u v ts[i].f0 ts[i].f1 ts[i].f2) (if ((ts.take i).drop j).any (sameT ts[i]) = true then ((n : Int), skip ts i, u, v, true) else r) := by
            refine down (P := fun j (s : Unit) => Evt (fun k => spec_l10DropTrans.l1 k (i : Int) ts (ts.length : Int) (i : Int) (ts.take i) ((ts.take i).length : Int) (j : Int) (n : Int) ts u v ts[i].f0 ts[i].f1 ts[i].f2) (if ((ts.take i).drop j).any (sameT ts[i]) = true then ((n : Int), skip ts i, u, v, true) else r)) ?_ ?_
            · intro s
              refine Evt.step ?_
              simp only [spec_l10DropTrans.l1]
              rw [List.drop_length, wrapN i _ hi (by omega)]
              exact Evt.neg (natNotLt _) (a.cast (by simp))
            · intro j hj ih2 s
              have hmj := List.getElem_mem hj
              have hsj : SmallT (ts.take i)[j] := htk.2 _ hmj
              have ej : rd_T63 (ts.take i) (j : Int) = (ts.take i)[j] := rdG _ _ j hj
              have hlt := htk.1
              have eN := ih2 ()
              refine Evt.step ?_
              simp only [spec_l10DropTrans.l1, ej]
              rw [wrapN j _ hj (by omega)]
              refine Evt.pos (natLt _ _ hj) (Evt.pos (by omega) (Evt.pos (natLt _ _ hj) ?_))
              rw [dropN _ j hj, List.any_cons]
              by_cases c0 : (ts.take i)[j].f0 = ts[i].f0
              · refine Evt.bind ((l1Same_ev _ _ hsj.s0).cast (decide_eq_true c0)) (Evt.pos rfl ?_)
                by_cases c1 : (ts.take i)[j].f1 = ts[i].f1
                · refine Evt.bind ((l1Same_ev _ _ hsj.s1).cast (decide_eq_true c1)) (Evt.pos rfl (Evt.bind eL ((Evt.ok _).cast ?_)))
                  rw [sameT, decide_eq_true c0, decide_eq_true c1]
                  rfl
                · refine Evt.bind ((l1Same_ev _ _ hsj.s1).cast (decide_eq_false c1)) (Evt.neg (by decide) (eN.cast ?_))
                  rw [sameT, decide_eq_true c0, decide_eq_false c1]
                  rfl
              · refine Evt.bind ((l1Same_ev _ _ hsj.s0).cast (decide_eq_false c0)) (Evt.neg (by decide) (eN.cast ?_))
                rw [sameT, decide_eq_false c0]
                rfl
          refine ⟨if (ts.take i).any (sameT ts[i]) = true then ((n : Int), skip ts i, u, v, true) else r, Evt.step ?_, Evt.step ?_, ?_⟩
          · simp only [spec_l10DropTrans.l0, er, Option.bind_some, Int.toNat_natCast]
            exact Evt.pos (natLt _ _ hi) (Evt.pos (by omega) (Evt.pos (natLt _ _ hi) (Evt.pos (by omega) (inner 0 (Nat.zero_le _) ()))))
          · simp only [impl_dropTrans.l0, er, Option.bind_some, Int.toNat_natCast]
            rw [wrapN i _ hi (by omega)]
            refine Evt.pos (natLt _ _ hi) (Evt.pos (by omega) (Evt.pos (natLt _ _ hi) (Evt.pos (by omega) (Evt.bind eF ?_))))
            cases hq : (ts.take i).any (sameT ts[i]) with
            | true => exact Evt.pos rfl (Evt.bind eW (Evt.ok _))
            | false => exact Evt.neg (by decide) b
          · cases hq : (ts.take i).any (sameT ts[i]) with
            | true =>
              show SmallN (skip ts i)
              refine ⟨by rw [skip, List.length_append, List.length_take, List.length_drop]; omega, fun t ht => hs.2 t ?_⟩
              rcases List.mem_append.1 ht with q | q
              · exact List.mem_of_mem_take q
              · exact List.mem_of_mem_drop q
            | false => exact c
      exact key 0 (Nat.zero_le _) ()
end Go.Proofs.Ytbkjgnfnjgebiaa.Lib
