import Derived.Test.YtbkjgnfnjgebiaaF0
import Derived.Test.YtbkjgnfnjgebiaaF2
import Derived.Test.YtbkjgnfnjgebiaaClone1
import Derived.Test.YtbkjgnfnjgebiaaGoodIn
import Derived.Test.YtbkjgnfnjgebiaaSame
namespace Go.Proofs.Ytbkjgnfnjgebiaa.Lib
open Go.RowKit Go.Proofs.Ytbkjgnfnjgebiaa.F Go.Proofs.YtbkjgnfnjgebiaaW.PrintWords Go.Proofs.YtbkjgnfnjgebiaaW.PrintLast Go.Proofs.YtbkjgnfnjgebiaaW.PrintMore
def pl (p m : Nat) : List Int := (List.range m).map (fun i : Nat => (i : Int)) ++ List.replicate (p - m) 0
theorem pl_len {p m : Nat} (h : m ≤ p) : (pl p m).length = p := by simp [pl]; omega
theorem pl_zero (p : Nat) : pl p 0 = List.replicate p 0 := by simp [pl]
theorem pl_set {p m : Nat} (h : m < p) (x : Int) : ((pl p m).set m x).set m (m : Int) = pl p (m + 1) := by
  rw [List.set_set]
  apply List.ext_getElem?
  intro j
  have l1 := pl_len (Nat.le_of_lt h)
  rw [List.getElem?_set]
  unfold pl
  simp only [List.getElem?_append, List.length_map, List.length_range, List.getElem?_map, List.getElem?_replicate, List.getElem?_range, List.length_append, List.length_replicate]
  by_cases c : m = j
  · subst c
    rw [if_pos rfl, if_pos (by omega), if_pos (by omega), List.getElem?_range (by omega)]
    rfl
  · rw [if_neg c]
    by_cases c2 : j < m
    · rw [if_pos c2, if_pos (by omega), List.getElem?_range c2, List.getElem?_range (by omega)]
    · by_cases c3 : j < p
      · rw [if_neg c2, if_pos (by omega), if_neg (by omega), if_pos (by omega)]
      · rw [if_neg c2, if_neg (by omega), if_neg (by omega), if_neg (by omega)]
theorem pl_rd {p : Nat} {q : Int} (h : 0 ≤ q ∧ q < (p : Int)) : rd (pl p p) q = q := by
  obtain ⟨n, rfl⟩ : ∃ n : Nat, q = (n : Int) := ⟨q.toNat, by omega⟩
  have hl := pl_len (Nat.le_refl p)
  rw [rdN _ n (by omega)]
  simp only [pl, Nat.sub_self, List.replicate_zero, List.append_nil, List.getElem_map, List.getElem_range]
section
variable {r : Int × List Tr × Int × Int} {p : Nat} {i : Int} {ts : List Tr} {u v : Int}
theorem leave_l3 {x48 : List Tr} {x49 x50 q : Int} {acc : List Tr} (c0 f : List Int) (hf : Short f) (hin : ∀ x ∈ f, 0 ≤ x ∧ x < (p : Int)) (ha : acc.length ≤ 1048576)
    (h : Evt (fun k => spec_l10Leave.l1 k (-1) i (pl p p) x48 x49 (wrap64 (x50 + 1)) q ts u v (p : Int) (acc ++ [(⟨c0, f, []⟩ : Tr)]) 0 0) r) :
    Evt (fun k => spec_l10Leave.l3 k (-1) i (pl p p) x48 x49 x50 f (f.length : Int) 0 q ts u v (p : Int) acc 0 0 c0 []) r := by
  have hf' : f.length ≤ 17592186044415 := hf
  have hl := pl_len (Nat.le_refl p)
  have key : ∀ j, j ≤ f.length → ∀ s : List Int, s = f.take j → Evt (fun k => spec_l10Leave.l3 k (-1) i (pl p p) x48 x49 x50 f (f.length : Int) (j : Int) q ts u v (p : Int) acc 0 0 c0 s) r := by
    refine down (P := fun j (s : List Int) => s = f.take j → Evt (fun k => spec_l10Leave.l3 k (-1) i (pl p p) x48 x49 x50 f (f.length : Int) (j : Int) q ts u v (p : Int) acc 0 0 c0 s) r) ?_ ?_
    · intro s hs
      refine Evt.step ?_
      simp only [spec_l10Leave.l3]
      rw [hs, List.take_length]
      exact Evt.neg (natNotLt _) (Evt.pos (by omega) h)
    · intro j hj ih s hs
      have hx := hin f[j] (List.getElem_mem hj)
      have hsl : s.length ≤ f.length := by rw [hs, List.length_take]; omega
      refine Evt.step ?_
      simp only [spec_l10Leave.l3, rdN f j hj, pl_rd hx]
      rw [wrapN j _ hj (by omega)]
      refine Evt.pos (natLt _ _ hj) (Evt.pos (by omega) (Evt.pos (natLt _ _ hj) (Evt.neg (by omega) (Evt.pos hx.1 (Evt.pos (by rw [hl]; exact hx.2) (Evt.pos (by omega) (ih _ ?_)))))))
      rw [hs, takeN f j hj]
  exact key 0 (Nat.zero_le _) [] (by simp)
theorem leave_l2 {x48 : List Tr} {x49 x50 q : Int} {acc : List Tr} (f c1 c2 : List Int) (hf : Short f) (hin : ∀ x ∈ f, 0 ≤ x ∧ x < (p : Int)) (hg : Short c1) (hig : ∀ x ∈ c1, 0 ≤ x ∧ x < (p : Int)) (ha : acc.length ≤ 1048576) (c0 : List Int)
    (h : Evt (fun k => spec_l10Leave.l1 k (-1) i (pl p p) x48 x49 (wrap64 (x50 + 1)) q ts u v (p : Int) (acc ++ [(⟨f, c1, []⟩ : Tr)]) 0 0) r) :
    Evt (fun k => spec_l10Leave.l2 k (-1) i (pl p p) x48 x49 x50 f (f.length : Int) 0 q ts u v (p : Int) acc 0 0 c0 c1 c2 []) r := by
  have hf' : f.length ≤ 17592186044415 := hf
  have hl := pl_len (Nat.le_refl p)
  have key : ∀ j, j ≤ f.length → ∀ s : List Int, s = f.take j → Evt (fun k => spec_l10Leave.l2 k (-1) i (pl p p) x48 x49 x50 f (f.length : Int) (j : Int) q ts u v (p : Int) acc 0 0 c0 c1 c2 s) r := by
    refine down (P := fun j (s : List Int) => s = f.take j → Evt (fun k => spec_l10Leave.l2 k (-1) i (pl p p) x48 x49 x50 f (f.length : Int) (j : Int) q ts u v (p : Int) acc 0 0 c0 c1 c2 s) r) ?_ ?_
    · intro s hs
      refine Evt.step ?_
      simp only [spec_l10Leave.l2]
      rw [hs, List.take_length]
      exact Evt.neg (natNotLt _) (leave_l3 f c1 hg hig ha h)
    · intro j hj ih s hs
      have hx := hin f[j] (List.getElem_mem hj)
      have hsl : s.length ≤ f.length := by rw [hs, List.length_take]; omega
      refine Evt.step ?_
      simp only [spec_l10Leave.l2, rdN f j hj, pl_rd hx]
      rw [wrapN j _ hj (by omega)]
      refine Evt.pos (natLt _ _ hj) (Evt.pos (by omega) (Evt.pos (natLt _ _ hj) (Evt.neg (by omega) (Evt.pos hx.1 (Evt.pos (by rw [hl]; exact hx.2) (Evt.pos (by omega) (ih _ ?_)))))))
      rw [hs, takeN f j hj]
  exact key 0 (Nat.zero_le _) [] (by simp)
theorem leave_l0 (hp : p ≤ 16) (h : Evt (fun k => spec_l10Leave.l1 k (-1) i (pl p p) ts (ts.length : Int) 0 (p : Int) ts u v (p : Int) [] 0 0) r) :
    Evt (fun k => spec_l10Leave.l0 k (-1) i (pl p 0) (p : Int) 0 (p : Int) ts u v 0 0 0) r := by
  have key : ∀ m, m ≤ p → ∀ s : Unit, Evt (fun k => spec_l10Leave.l0 k (-1) i (pl p m) (p : Int) (m : Int) (p : Int) ts u v (m : Int) 0 0) r := by
    refine down (P := fun m (s : Unit) => Evt (fun k => spec_l10Leave.l0 k (-1) i (pl p m) (p : Int) (m : Int) (p : Int) ts u v (m : Int) 0 0) r) ?_ ?_
    · intro s
      refine Evt.step ?_
      simp only [spec_l10Leave.l0]
      exact Evt.neg (natNotLt _) h
    · intro m hm ih s
      have hl := pl_len (Nat.le_of_lt hm)
      refine Evt.step ?_
      simp only [spec_l10Leave.l0, Option.bind_some, Int.toNat_natCast, pl_set hm]
      rw [wrapN m _ hm (by omega)]
      exact Evt.pos (natLt _ _ hm) (Evt.pos (by omega) (Evt.pos (by rw [hl]; exact natLt _ _ hm) (Evt.neg (by omega) (ih ()))))
  exact key 0 (Nat.zero_le _) ()
end
def skip {α : Type} (l : List α) (i : Nat) : List α := l.take i ++ l.drop (i + 1)
theorem skip_take {α : Type} (l : List α) (i j : Nat) (h : j < l.length) : skip (l.take (j + 1)) i = if j = i then skip (l.take j) i else skip (l.take j) i ++ [l[j]] := by
  unfold skip
  by_cases c : j = i
  · subst c
    rw [if_pos rfl, List.take_take, Nat.min_eq_left (by omega), List.take_take, Nat.min_self, List.drop_of_length_le (by rw [List.length_take]; omega), List.drop_of_length_le (by rw [List.length_take]; omega)]
  · rw [if_neg c]
    rcases Nat.lt_or_ge j i with c2 | c2
    · rw [List.take_take, Nat.min_eq_right (by omega), List.take_take, Nat.min_eq_right (by omega), List.drop_of_length_le (by rw [List.length_take]; omega), List.drop_of_length_le (by rw [List.length_take]; omega), List.append_nil, List.append_nil, takeN l j h]
    · rw [List.take_take, Nat.min_eq_left (by omega), List.take_take, Nat.min_eq_left (by omega), List.append_assoc]
      congr 1
      rw [takeN l j h, List.drop_append_of_le_length (by rw [List.length_take]; omega)]
theorem leave_ev {p : Nat} (hp : p ≤ 16) (ts : List Tr) (u v : Int) (hu : 0 ≤ u ∧ u < (p : Int)) (hv : 0 ≤ v ∧ v < (p : Int)) (hs : SmallN ts) (hin : ∀ t ∈ ts, inNet p t) (h2 : ∀ t ∈ ts, t.f2 = []) (i : Nat) :
    Evt (fun k => spec_l10Leave.f k (p : Int) ts u v (-1) (i : Int)) ((p : Int), skip ts i, u, v) := by
  have hl := hs.1
  have hpl := pl_len (Nat.le_refl p)
  unfold spec_l10Leave.f
  refine Evt.pos (by omega) (Evt.pos (by rw [Int.toNat_natCast]; omega) ?_)
  simp only [Option.bind_some, Int.toNat_natCast, List.length_replicate]
  rw [← pl_zero]
  refine leave_l0 hp ?_
  have key : ∀ j, j ≤ ts.length → ∀ s : List Tr, s = skip (ts.take j) i → Evt (fun k => spec_l10Leave.l1 k (-1) (i : Int) (pl p p) ts (ts.length : Int) (j : Int) (p : Int) ts u v (p : Int) s 0 0) ((p : Int), skip ts i, u, v) := by
    refine down (P := fun j (s : List Tr) => s = skip (ts.take j) i → Evt (fun k => spec_l10Leave.l1 k (-1) (i : Int) (pl p p) ts (ts.length : Int) (j : Int) (p : Int) ts u v (p : Int) s 0 0) ((p : Int), skip ts i, u, v)) ?_ ?_
    · intro s e
      refine Evt.step ?_
      simp only [spec_l10Leave.l1, pl_rd hu, pl_rd hv]
      rw [e, List.take_length]
      exact Evt.neg (natNotLt _) (Evt.pos hu.1 (Evt.pos (by rw [hpl]; exact hu.2) (Evt.pos hv.1 (Evt.pos (by rw [hpl]; exact hv.2) (Evt.ok _)))))
    · intro j hj ih s e
      have hm := List.getElem_mem hj
      have hsm : SmallT ts[j] := hs.2 _ hm
      have er : rd_T63 ts (j : Int) = ts[j] := rdG ts _ j hj
      have hsl : s.length ≤ ts.length := by rw [e, skip, List.length_append, List.length_take, List.length_take, List.length_drop, List.length_take]; omega
      have hi := hin _ hm
      have ht := skip_take ts i j hj
      refine Evt.step ?_
      simp only [spec_l10Leave.l1, er]
      refine Evt.pos (natLt _ _ hj) (Evt.pos (by omega) (Evt.pos (natLt _ _ hj) ?_))
      by_cases c : j = i
      · rw [if_pos c] at ht
        refine Evt.pos (by omega) ?_
        rw [wrapN j _ hj (by omega)]
        exact ih _ (e.trans ht.symm)
      · rw [if_neg c] at ht
        refine Evt.neg (by omega) (leave_l2 _ _ _ hsm.s0 hi.1 hsm.s1 hi.2.1 (by omega) _ ?_)
        rw [wrapN j _ hj (by omega)]
        refine ih _ ?_
        rw [ht, e]
        congr 2
        have := h2 _ hm
        rw [← this]
  exact key 0 (Nat.zero_le _) [] (by simp [skip])
end Go.Proofs.Ytbkjgnfnjgebiaa.Lib
