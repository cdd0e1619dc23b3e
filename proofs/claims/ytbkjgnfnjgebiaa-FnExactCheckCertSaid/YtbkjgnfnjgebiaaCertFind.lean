import Derived.Test.YtbkjgnfnjgebiaaF0
import Derived.Test.YtbkjgnfnjgebiaaF2
import Derived.Test.YtbkjgnfnjgebiaaF5
import Derived.Test.YtbkjgnfnjgebiaaSame
import Derived.Test.YtbkjgnfnjgebiaaEnab
import Derived.Test.YtbkjgnfnjgebiaaFire
namespace Go.Proofs.Ytbkjgnfnjgebiaa.Lib
open Go.RowKit Go.Proofs.Ytbkjgnfnjgebiaa.F Go.Proofs.YtbkjgnfnjgebiaaW.PrintWords Go.Proofs.YtbkjgnfnjgebiaaW.PrintLast Go.Proofs.YtbkjgnfnjgebiaaW.PrintMore
abbrev ArcT:=S85
theorem rdL (l:List (List Int)) (i:Nat) (h:i<l.length):rd_L1 l (i:Int)=l[i]:=rdG l _ i h
def IsAt (M:List (List Int)) (m:List Int) (r:Int):Prop:=(r=-1∧m ∉ M) ∨ ∃ (i:Nat) (h:i<M.length),r=(i:Int)∧M[i]=m
theorem isAt_of {M:List (List Int)} {m:List Int} {r:Int} (h1:decide (r ≥ 0)=M.any (fun x=>decide (x=m))) (h2:∀ i:Nat,r=(i:Int) → ∃ h:i<M.length,decide (M[i]=m)=true ∧ ∀ j (hj:j<i),decide ((M[j]'(by omega))=m)=false) (h3:r<0→r=-1):IsAt M m r:=by
  by_cases h:r ≥ 0
  · obtain ⟨i,rfl⟩:∃ i:Nat,r=(i:Int):=⟨r.toNat,by omega⟩
    obtain ⟨a,b,_⟩:=h2 i rfl
    exact .inr ⟨i,a,rfl,of_decide_eq_true b⟩
  · refine .inl ⟨h3 (by omega),fun hm=>?_⟩
    rw [decide_eq_false h,List.any_eq_true.2 ⟨m,hm,decide_eq_true rfl⟩] at h1
    cases h1
def Dist (M:List (List Int)):Prop:=∀ (i j:Nat) (hi:i<M.length) (hj:j<M.length),M[i]=M[j]→i=j
theorem isAt_same {M:List (List Int)} (hd:Dist M) {m:List Int} {r s:Int} (h:IsAt M m r) (h' : IsAt M m s):r=s:=by
  rcases h with ⟨rfl,h⟩|⟨i,hi,rfl,h⟩
  · rcases h' with ⟨rfl,h'⟩|⟨j,hj,rfl,h'⟩
    · rfl
    · exact absurd (h' ▸ List.getElem_mem hj) h
  · rcases h' with ⟨rfl,h'⟩|⟨j,hj,rfl,h'⟩
    · exact absurd (h ▸ List.getElem_mem hi) h'
    · rw [hd i j hi hj (h.trans h'.symm)]
theorem isAt_iff {M:List (List Int)} (hd:Dist M) {m:List Int} {r:Int} (h:IsAt M m r) (i:Nat) (hi:i<M.length):M[i]=m ↔ (i:Int)=r:=by
  rcases h with ⟨rfl,h⟩|⟨j,hj,rfl,h⟩
  · constructor
    · intro e;exact absurd (e ▸ List.getElem_mem hi) h
    · intro e;omega
  · constructor
    · intro e;rw [hd i j hi hj (e.trans h.symm)]
    · intro e
      obtain rfl:i=j:=by omega
      exact h
theorem isAt_lt {M:List (List Int)} {m:List Int} {r:Int} (h:IsAt M m r):r<(M.length:Int):=by
  rcases h with ⟨rfl,_⟩|⟨i,hi,rfl,_⟩ <;> omega
theorem l4Find_ex (M:List (List Int)) (m:List Int) (hM:Short M) (hS:∀ x ∈ M,Short x):∃ r:Int,Evt (fun k=>spec_l4Find.f k M m) r∧IsAt M m r:=by
  unfold spec_l4Find.f
  obtain ⟨r,a,b,c,d⟩:=indexFunc_gen (fun k x=>spec_l1Same.f k x m) (fun x=>decide (x=m)) (rd_L1 M) (fun k i=>spec_l4Find.l0 k m M (M.length:Int) i) M (fun k i=>by simp only [spec_l4Find.l0]) (fun x hx=>l1Same_ev x m (hS x hx)) (fun i hi=>rdL M i hi) hM
  exact ⟨r,a,isAt_of b c d⟩
theorem certFind_ex (M:List (List Int)) (S R:List Int) (m:List Int) (hM:Short M) (hS:∀ x ∈ M,Short x):∃ r:Int,Evt (fun k=>impl_Cert_find.f k M S R m) r∧IsAt M m r:=by
  obtain ⟨r,a,b,c,d⟩:=indexFunc_gen (fun k x=>impl_Cert_find_1.f k x m) (fun x=>decide (x=m)) (rd_L1 M) (fun k i=>slices_IndexFunc_int_int_at_impl_Cert_find_1.l0 k M (M.length:Int) i m) M (fun k i=>by simp only [slices_IndexFunc_int_int_at_impl_Cert_find_1.l0]) (fun x hx=>by unfold impl_Cert_find_1.f;exact Evt.bind (sEqual_ev x m (hS x hx)) (Evt.ok _)) (fun i hi=>rdL M i hi) hM
  refine ⟨r,?_,isAt_of b c d⟩
  unfold impl_Cert_find.f slices_IndexFunc_int_int_at_impl_Cert_find_1.f
  exact Evt.bind a (Evt.ok _)
theorem find_both (M:List (List Int)) (S R:List Int) (m:List Int) (hd:Dist M) (hM:Short M) (hS:∀ x ∈ M,Short x):∃ r:Int,Evt (fun k=>spec_l4Find.f k M m) r∧Evt (fun k=>impl_Cert_find.f k M S R m) r∧IsAt M m r:=by
  obtain ⟨r,a,b⟩:=l4Find_ex M m hM hS
  obtain ⟨s,c,d⟩:=certFind_ex M S R m hM hS
  have e:=isAt_same hd b d
  subst e
  exact ⟨r,a,c,b⟩
theorem enabledL_in (ts:List Tr) (x:List Int) (j:Nat) (hj:j<(enabledL ts x).length):∃ q:Nat,rd (enabledL ts x) (j:Int)=(q:Int)∧q<ts.length:=by
  have h:(enabledL ts x)[j] ∈ enabledL ts x:=List.getElem_mem hj
  simp only [enabledL,picks,List.mem_map,List.mem_filter,List.mem_range'_1] at h
  obtain ⟨q,⟨h1,_⟩,h2⟩:=h
  exact ⟨q,by rw [rdN _ j hj];exact h2.symm,by omega⟩
end Go.Proofs.Ytbkjgnfnjgebiaa.Lib
