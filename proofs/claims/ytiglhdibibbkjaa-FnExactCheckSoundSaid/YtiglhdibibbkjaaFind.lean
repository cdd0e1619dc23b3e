import Derived.Test.YtiglhdibibbkjaaF0
import Derived.Test.YtiglhdibibbkjaaF2
import Derived.Test.YtiglhdibibbkjaaF8
import Derived.Test.YtiglhdibibbkjaaSame
namespace Go.Proofs.Ytiglhdibibbkjaa.Lib
open Go.RowKit Go.Proofs.Ytiglhdibibbkjaa.F Go.Proofs.YtiglhdibibbkjaaW.PrintWords Go.Proofs.YtiglhdibibbkjaaW.PrintLast Go.Proofs.YtiglhdibibbkjaaW.PrintMore
theorem rdL (l:List (List Int)) (i:Nat) (h:i<l.length):rd_L1 l (i:Int)=l[i]:=rdG l _ i h
def IsAt (M:List (List Int)) (m:List Int) (r:Int):Prop:=decide (r ≥ 0)=M.any (fun x=>decide (x=m))∧(∀ i:Nat,r=(i:Int) → ∃ h:i<M.length,decide (M[i]=m)=true ∧ ∀ j (hj:j<i),decide ((M[j]'(by omega))=m)=false)∧(r<0→r=-1)
theorem isAt_unique {M:List (List Int)} {m:List Int} {r s:Int} (h:IsAt M m r) (h' : IsAt M m s):r=s:=by
  have e:decide (r ≥ 0)=decide (s ≥ 0):=h.1.trans h'.1.symm
  by_cases hr:r ≥ 0
  · have hs:s ≥ 0:=by rw [decide_eq_true hr] at e;exact of_decide_eq_true e.symm
    obtain ⟨i,rfl⟩:∃ i:Nat,r=(i:Int):=⟨r.toNat,by omega⟩
    obtain ⟨j,rfl⟩:∃ j:Nat,s=(j:Int):=⟨s.toNat,by omega⟩
    obtain ⟨h1,h2,h3⟩:=h.2.1 i rfl
    obtain ⟨k1,k2,k3⟩:=h'.2.1 j rfl
    rcases Nat.lt_trichotomy i j with hij|rfl|hij
    · have:=k3 i hij;rw [h2] at this;cases this
    · rfl
    · have:=h3 j hij;rw [k2] at this;cases this
  · have hs:¬ s ≥ 0:=by rw [decide_eq_false hr] at e;exact of_decide_eq_false e.symm
    rw [h.2.2 (by omega),h'.2.2 (by omega)]
theorem l4Find_ex (M:List (List Int)) (m:List Int) (hM:Short M) (hS:∀ x ∈ M,Short x):∃ r:Int,Evt (fun k=>spec_l4Find.f k M m) r∧IsAt M m r:=by
  unfold spec_l4Find.f
  refine indexFunc_gen (fun k x=>spec_l1Same.f k x m) (fun x=>decide (x=m)) (rd_L1 M) (fun k i=>spec_l4Find.l0 k m M (M.length:Int) i) M ?_ (fun x hx=>l1Same_ev x m (hS x hx)) (fun i hi=>rdL M i hi) hM
  intro k i;simp only [spec_l4Find.l0]
theorem find_ex {α:Type} (M:List (List Int)) (A:α) (f:Nat→Option Int) (m:List Int) (hM:Short M) (hS:∀ x ∈ M,Short x) (hf:∀ k,f k=(slices_IndexFunc_int_int_at_impl_Space_find_1.f k M m).bind fun t=>(some t)):∃ r:Int,Evt f r∧IsAt M m r:=by
  obtain ⟨r,h1,h2⟩:=indexFunc_gen (fun k x=>impl_Space_find_1.f k x m) (fun x=>decide (x=m)) (rd_L1 M) (fun k i=>slices_IndexFunc_int_int_at_impl_Space_find_1.l0 k M (M.length:Int) i m) M (fun k i=>by simp only [slices_IndexFunc_int_int_at_impl_Space_find_1.l0]) (fun x hx=>by unfold impl_Space_find_1.f;exact Evt.bind (sEqual_ev x m (hS x hx)) (Evt.ok _)) (fun i hi=>rdL M i hi) hM
  exact ⟨r,(Evt.bind (g:=fun _ t=>some t) h1 (Evt.ok r)).fn hf,h2⟩
end Go.Proofs.Ytiglhdibibbkjaa.Lib
