import Derived.Test.YtiglhdibibbkjaaF0
import Derived.Test.YtiglhdibibbkjaaF4
import Derived.Test.YtiglhdibibbkjaaF5
import Derived.Test.YtiglhdibibbkjaaF6
import Derived.Test.YtiglhdibibbkjaaF7
import Derived.Test.YtiglhdibibbkjaaF8
import Derived.Test.YtiglhdibibbkjaaBasis
namespace Go.Proofs.Ytiglhdibibbkjaa.Lib
open Go.RowKit Go.Proofs.Ytiglhdibibbkjaa.F Go.Proofs.YtiglhdibibbkjaaW.PrintWords Go.Proofs.YtiglhdibibbkjaaW.PrintLast Go.Proofs.YtiglhdibibbkjaaW.PrintMore
theorem core_BackBasis (p : Int) (ts : List Tr) (x1 : List Int) (x2 : Int) (hs : SmallN ts) (h1 : Short x1) : ∃ x : List (List Int) × Bool, Evt (fun k => spec_BackBasis.f k p ts x1 x2) x ∧ Evt (fun k => impl_BackBasis.f k p ts x1 x2) x ∧ x.1.length ≤ 60 ∧ (∀ m ∈ x.1, m.length ≤ 16) ∧ (x.2 = true → ∀ m ∈ x.1, (m.length : Int) = p) := by
  obtain ⟨a, e1, e2, e3⟩ := basis_ex p ts x1 x2 hs h1
  unfold spec_BackBasis.f impl_BackBasis.f
  cases a with
  | false => exact ⟨([], false), Evt.bind e1 (Evt.neg (by decide) (Evt.ok _)), Evt.bind (e2 rfl) (Evt.ok _), by simp, by simp, by simp⟩
  | true =>
    obtain ⟨p1, p2, ⟨L, n, b⟩, s1, s2, s3, s4⟩ := e3 rfl
    exact ⟨(L, b), Evt.bind e1 (Evt.pos rfl (Evt.bind s1 (Evt.ok _))), Evt.bind s2 (Evt.ok _), s3, fun m hm => by have := (s4 m hm).1; omega, fun _ m hm => by have := (s4 m hm).1; omega⟩
theorem core_BackRounds (p : Int) (ts : List Tr) (x1 : List Int) (x2 : Int) (hs : SmallN ts) (h1 : Short x1) : ∃ x : Int × Bool, Evt (fun k => spec_BackRounds.f k p ts x1 x2) x ∧ Evt (fun k => impl_BackRounds.f k p ts x1 x2) x := by
  obtain ⟨a, e1, e2, e3⟩ := basis_ex p ts x1 x2 hs h1
  unfold spec_BackRounds.f impl_BackRounds.f
  cases a with
  | false => exact ⟨(0, false), Evt.bind e1 (Evt.neg (by decide) (Evt.ok _)), Evt.bind (e2 rfl) (Evt.ok _)⟩
  | true =>
    obtain ⟨p1, p2, ⟨L, n, b⟩, s1, s2, s3, s4⟩ := e3 rfl
    exact ⟨(n, b), Evt.bind e1 (Evt.pos rfl (Evt.bind s1 (Evt.ok _))), Evt.bind s2 (Evt.ok _)⟩
theorem core_CoversBack (p : Int) (ts : List Tr) (x1 x2 : List Int) (x3 : Int) (hs : SmallN ts) (h1 : Short x1) (h2 : Short x2) : ∃ x : Bool × Bool, Evt (fun k => spec_CoversBack.f k p ts x1 x2 x3) x ∧ Evt (fun k => impl_CoversBack.f k p ts x1 x2 x3) x := by
  obtain ⟨⟨L, b⟩, e1, e2, e3, e4, e5⟩ := core_BackBasis p ts x2 x3 hs h2
  have h1' : x1.length ≤ 17592186044415 := h1
  have no : ∀ M, Evt (fun k => spec_CoversBack.j0 k x1 M true) (false, false) := fun M => Evt.step (by
    simp only [spec_CoversBack.j0]
    exact Evt.pos trivial (Evt.ok _))
  unfold spec_CoversBack.f impl_CoversBack.f
  unfold impl_BackBasis.f at e2
  -- the program's basis, seen through BackBasis
  have e2' : ∃ n : Int, Evt (fun k => impl_backBasis.f k p ts x2 x3) (L, n, b) := by
    obtain ⟨a, f1, f2, f3⟩ := basis_ex p ts x2 x3 hs h2
    have one : ∀ r : BR, Evt (fun k => impl_backBasis.f k p ts x2 x3) r → ∃ n : Int, Evt (fun k => impl_backBasis.f k p ts x2 x3) (L, n, b) := fun r hr => by
      obtain ⟨K1, q1⟩ := Evt.bind (g := fun _ t => some (t.1, t.2.2)) hr (Evt.ok _)
      obtain ⟨K2, q2⟩ := e2
      have e := (q1 (max K1 K2) (by omega)).symm.trans (q2 (max K1 K2) (by omega))
      simp only [Option.some.injEq, Prod.mk.injEq] at e
      exact ⟨r.2.1, hr.cast (by rw [← e.1, ← e.2])⟩
    cases a with
    | false => exact one _ (f2 rfl)
    | true => obtain ⟨_, _, r, _, s2, _⟩ := f3 rfl; exact one r s2
  obtain ⟨n, e2'⟩ := e2'
  cases b with
  | false => exact ⟨(false, false), Evt.bind e1 (Evt.neg (by simp) (no _)), Evt.bind e2' (Evt.neg (by simp) (Evt.ok _))⟩
  | true =>
    cases g : goodMark p x1 with
    | false => exact ⟨(false, false), Evt.bind e1 (Evt.pos rfl (Evt.bind ((specGoodMark_ev p x1 h1).cast g) (no _))), Evt.bind e2' (Evt.pos rfl (Evt.bind ((goodMark_ev p x1 h1).cast g) (Evt.neg (by decide) (Evt.ok _))))⟩
    | true =>
      have hb := goodMark_bounds g
      have hlen : ∀ m ∈ L, m.length = x1.length := fun m hm => by have := e5 rfl m hm; omega
      have hsh : ∀ m ∈ L, Short m := fun m hm => by have := hlen m hm; show m.length ≤ _; omega
      have hL : Short L := by have : L.length ≤ 60 := e3; show L.length ≤ _; omega
      refine ⟨(L.any fun x => over x1.length x1 x, true), Evt.bind e1 (Evt.pos rfl (Evt.bind ((specGoodMark_ev p x1 h1).cast g) (Evt.step ?_))), Evt.bind e2' (Evt.pos rfl (Evt.bind ((goodMark_ev p x1 h1).cast g) (Evt.pos rfl (Evt.bind ?_ (Evt.ok _)))))⟩
      · simp only [spec_CoversBack.j0]
        refine Evt.neg (by decide) ?_
        have key : ∀ i, i ≤ L.length → ∀ _ : Unit, Evt (fun k => spec_CoversBack.l0 k x1 L (L.length : Int) (i : Int)) ((L.drop i).any fun x => over x1.length x1 x, true) := by
          refine down (P := fun i _ => Evt (fun k => spec_CoversBack.l0 k x1 L (L.length : Int) (i : Int)) ((L.drop i).any fun x => over x1.length x1 x, true)) ?_ ?_
          · intro _
            refine Evt.step ?_
            simp only [spec_CoversBack.l0]
            exact Evt.neg (natNotLt _) ((Evt.ok _).cast (by rw [List.drop_length]; rfl))
          · intro i hi ih _
            refine Evt.step ?_
            simp only [spec_CoversBack.l0, rdLL L i hi]
            rw [wrapN i _ hi (by have : L.length ≤ 60 := e3; omega), dropN L i hi, List.any_cons]
            have hm := List.getElem_mem hi
            refine Evt.pos (natLt _ _ hi) (Evt.pos (by omega) (Evt.pos (natLt _ _ hi) (Evt.bind ((l1Covers_ev x1 L[i] (hsh _ hm) (by rw [hlen _ hm]; exact Nat.le_refl _)).cast (by rw [hlen _ hm])) ?_)))
            cases c : over x1.length x1 L[i] with
            | true => exact Evt.pos rfl (Evt.ok _)
            | false => exact Evt.neg (by decide) (ih ())
        exact key 0 (Nat.zero_le _) ()
      · refine containsFunc_gen (fun k x => impl_CoversBack_1.f k x x1) (fun x => over x1.length x1 x) (fun i => rd_L1 L i) (fun k i => slices_IndexFunc_int_int_at_impl_CoversBack_1.l0 k L (L.length : Int) i x1) _ L (fun k => rfl) (fun k i => rfl) (fun x hx => ?_) (fun i h => rdLL L i h) hL
        unfold impl_CoversBack_1.f
        exact Evt.bind (covers_ev x1 x h1 (by rw [hlen x hx]; exact Nat.le_refl _)) (Evt.ok _)
end Go.Proofs.Ytiglhdibibbkjaa.Lib
