import Derived.Test.YtiglhdibibbkjaaExplore
import Derived.Test.YtiglhdibibbkjaaBfs
namespace Go.Proofs.Ytiglhdibibbkjaa.Lib
open Go.RowKit Go.Proofs.Ytiglhdibibbkjaa.F Go.Proofs.YtiglhdibibbkjaaW.PrintWords Go.Proofs.YtiglhdibibbkjaaW.PrintLast Go.Proofs.YtiglhdibibbkjaaW.PrintMore
def fstA (A:List ArcT) (u:Int):Option ArcT:=A.find? fun a=>decide (a.f2=u)
def par (A:List ArcT) (u:Int):Int:=if u≤0 then 0 else match fstA A u with|some a=>a.f0|none=>0
def lab (A:List ArcT) (u:Int):Int:=match fstA A u with|some a=>a.f1|none=>0
def anc (A:List ArcT) (t:Int):Nat→Int
  | 0=>t
  | j+1=>par A (anc A t j)
def backE (A:List ArcT):List (Int × Int):=A.map fun a=>(a.f2,a.f0)
section
variable {n:Nat} {A:List ArcT}
theorem fst_spec (h:TreeOk n A) {u:Int} (h1:1≤u) (h2:u<(n:Int)):∃ (P:List ArcT) (a:ArcT) (S:List ArcT),A=P ++ a :: S∧a.f2=u∧a.f0<u∧(∀ b ∈ P,b.f2<u)∧fstA A u=some a∧par A u=a.f0∧lab A u=a.f1:=by
  obtain ⟨P,a,S,e,e1,e2,e3⟩:=h.first u h1 h2
  have hf:fstA A u=some a:=by
    unfold fstA
    refine List.find?_eq_some_iff_append.2 ⟨decide_eq_true e1,P,S,e,fun b hb=>?_⟩
    have:=e3 b hb
    rw [decide_eq_false (by omega)];rfl
  refine ⟨P,a,S,e,e1,e2,e3,hf,?_,?_⟩
  · unfold par;rw [if_neg (by omega),hf]
  · unfold lab;rw [hf]
theorem par_le (h:TreeOk n A) {u:Int} (h1:1≤u) (h2:u<(n:Int)) {b:ArcT} (hb:b ∈ A) (hu:u≤b.f2):par A u≤b.f0:=by
  obtain ⟨P,a,S,e,e1,e2,e3,e4,e5,e6⟩:=fst_spec h h1 h2
  rw [e5]
  have hs:=h.sorted
  rw [e] at hb hs
  have hs2:=(List.pairwise_append.1 hs).2.1
  rcases List.mem_append.1 hb with hb|hb
  · have:=e3 b hb;omega
  · rcases List.mem_cons.1 hb with e7|hb
    · rw [e7];exact Int.le_refl _
    · exact (List.pairwise_cons.1 hs2).1 b hb
theorem par_nd (h:TreeOk n A) (hA:∀ a ∈ A,nd n a.f0∧nd n a.f2) {u:Int} (hu:nd n u):nd n (par A u)∧(0<u→par A u<u)∧(u=0→par A u=0):=by
  by_cases c:u≤0
  · have e:par A u=0:=by unfold par;rw [if_pos c]
    rw [e]
    exact ⟨⟨Int.le_refl _,by have:=hu.1;have:=hu.2;omega⟩,fun h=>by omega,fun _=>rfl⟩
  · obtain ⟨P,a,S,e,e1,e2,e3,e4,e5,e6⟩:=fst_spec h (u:=u) (by omega) hu.2
    rw [e5]
    exact ⟨(hA a (by rw [e];simp)).1,fun _=>e2,fun h=>by omega⟩
theorem anc_nd (h:TreeOk n A) (hA:∀ a ∈ A,nd n a.f0∧nd n a.f2) {t:Int} (ht:nd n t):∀ j,nd n (anc A t j)
  | 0=>ht
  | j+1=>(par_nd h hA (anc_nd h hA ht j)).1
variable {t:Int} {far:List Int}
theorem back_mem {e:Int × Int} (he:e ∈ backE A):∃ a ∈ A,e=(a.f2,a.f0):=by
  obtain ⟨a,h1,h2⟩:=List.mem_map.1 he
  exact ⟨a,h1,h2.symm⟩
theorem anc_le (h:TreeOk n A) (hA:∀ a ∈ A,nd n a.f0∧nd n a.f2) (ht:nd n t) (hF:BfsOk n t far (backE A)):∀ (j:Nat) x,nd n x→rd far x=(j:Int)→anc A t j≤x:=by
  intro j
  induction j with
  | zero=>intro x hx hr;rw [(hF.zero x hx).1 hr];exact Int.le_refl _
  | succ j ih =>
    intro x hx hr
    obtain ⟨e,he,e1,e2⟩:=hF.back x hx (j:Int) (by omega) (by omega)
    obtain ⟨a,ha,rfl⟩:=back_mem he
    have e1' : a.f0=x:=e1
    have e2' : rd far a.f2=(j:Int):=e2
    have hle:=ih a.f2 (hA a ha).2 e2'
    show par A (anc A t j)≤x
    by_cases c:anc A t j≤0
    · have:par A (anc A t j)=0:=by unfold par;rw [if_pos c]
      rw [this];exact hx.1
    · rw [← e1']
      exact par_le h (by omega) (anc_nd h hA ht j).2 ha hle
theorem anc_up (h:TreeOk n A) (hA:∀ a ∈ A,nd n a.f0∧nd n a.f2) (ht:nd n t) (hF:BfsOk n t far (backE A)) (j:Nat) (h0:0≤rd far (anc A t j)):∀ i:Nat,0≤rd far (anc A t (j+i))∧rd far (anc A t (j+i))≤rd far (anc A t j)+i:=by
  intro i
  induction i with
  | zero=>exact ⟨h0,by rw [Nat.add_zero];omega⟩
  | succ i ih =>
    show 0≤rd far (par A (anc A t (j+i)))∧rd far (par A (anc A t (j+i)))≤rd far (anc A t j)+((i+1:Nat):Int)
    have hn:=anc_nd h hA ht (j+i)
    by_cases c:anc A t (j+i)≤0
    · have e0:anc A t (j+i)=0:=by have:=hn.1;omega
      rw [(par_nd h hA hn).2.2 e0]
      rw [e0] at ih
      exact ⟨ih.1,by omega⟩
    · obtain ⟨P,a,S,e,e1,e2,e3,e4,e5,e6⟩:=fst_spec h (u:=anc A t (j+i)) (by omega) hn.2
      have ha:a ∈ A:=by rw [e];simp
      have hf:=hF.fwd (a.f2,a.f0) (List.mem_map.2 ⟨a,ha,rfl⟩) (by show 0≤rd far a.f2;rw [e1];exact ih.1)
      have hf1:0≤rd far a.f0:=hf.1
      have hf2:rd far a.f0≤rd far a.f2+1:=hf.2
      rw [e1] at hf2
      rw [e5]
      exact ⟨hf1,by omega⟩
theorem way_facts (h:TreeOk n A) (hA:∀ a ∈ A,nd n a.f0∧nd n a.f2) (ht:nd n t) (hF:BfsOk n t far (backE A)):∃ L:Nat,L≤n∧anc A t L=0∧(∀ j,j≤L→rd far (anc A t j)=(j:Int)) ∧ ∀ j,j<L→0<anc A t j:=by
  have hz:rd far (anc A t 0)=0:=(hF.zero t ht).2 rfl
  have hdown:∀ j:Nat,anc A t j≤0∨anc A t j+(j:Int)≤t:=by
    intro j
    induction j with
    | zero=>exact .inr (by show t+((0:Nat):Int)≤t;omega)
    | succ j ih =>
      have hn:=anc_nd h hA ht j
      have hp:=par_nd h hA hn
      by_cases c:anc A t j≤0
      · exact .inl (by show par A (anc A t j)≤0;rw [hp.2.2 (by have:=hn.1;omega)];omega)
      · refine .inr ?_
        have:=hp.2.1 (by omega)
        show par A (anc A t j)+((j+1:Nat):Int)≤t
        rcases ih with ih|ih <;> omega
  have h00:anc A t t.toNat=0:=by
    have hn:=anc_nd h hA ht t.toNat
    have:=ht.1
    rcases hdown t.toNat with h1|h1
    · have:=hn.1;omega
    · have:=hn.1;omega
  have h0far:0≤rd far 0:=by
    have:=anc_up h hA ht hF 0 (by rw [hz];omega) t.toNat
    rw [Nat.zero_add,h00] at this
    exact this.1
  have n0:nd n 0:=by have:=ht.1;have:=ht.2;exact ⟨Int.le_refl _,by omega⟩
  obtain ⟨L,hL⟩:∃ L:Nat,rd far 0=(L:Int):=⟨(rd far 0).toNat,by omega⟩
  have hLn:=hF.high 0 n0
  have ancL:anc A t L=0:=by
    have h1:=anc_le h hA ht hF L 0 n0 hL
    have h2:=(anc_nd h hA ht L).1
    omega
  have eq:∀ j,j≤L→rd far (anc A t j)=(j:Int):=by
    intro j hj
    have hu:=anc_up h hA ht hF 0 (by rw [hz];omega) j
    rw [Nat.zero_add,hz] at hu
    have hv:=anc_up h hA ht hF j hu.1 (L - j)
    rw [show j+(L - j)=L by omega,ancL,hL] at hv
    omega
  refine ⟨L,by omega,ancL,eq,fun j hj=>?_⟩
  have hn:=(anc_nd h hA ht j).1
  have:=eq j (by omega)
  by_cases c:anc A t j=0
  · rw [c,hL] at this;omega
  · omega
end
def wayL (A:List ArcT) (t:Int) (L:Nat):List Int:=((List.range L).map fun j=>lab A (anc A t j)).reverse
end Go.Proofs.Ytiglhdibibbkjaa.Lib
