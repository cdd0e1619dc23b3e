import Derived.Test.YtiglhdibibbkjaaF0
import Derived.Test.YtiglhdibibbkjaaF4
import Derived.Test.YtiglhdibibbkjaaF8
import Derived.Test.YtiglhdibibbkjaaF9
import Derived.Test.YtiglhdibibbkjaaExplore
namespace Go.Proofs.Ytiglhdibibbkjaa.Lib
open Go.RowKit Go.Proofs.Ytiglhdibibbkjaa.F Go.Proofs.YtiglhdibibbkjaaW.PrintWords Go.Proofs.YtiglhdibibbkjaaW.PrintLast Go.Proofs.YtiglhdibibbkjaaW.PrintMore
inductive Lead (A:List ArcT) (K:List Int):Int→Prop
  | base (x:Int) (h:x ∈ K):Lead A K x
  | step (a:ArcT) (h:a ∈ A) (g:Lead A K a.f2):Lead A K a.f0
theorem flag_mono (F:List Bool) (i:Nat) (y:Int) (h:rdOf false F y=true):rdOf false (F.set i true) y=true:=by
  unfold rdOf at *
  rw [List.getD_eq_getElem?_getD] at *
  rw [List.getElem?_set]
  split
  · split
    · rfl
    · rename_i e1 e2;rw [List.getElem?_eq_none (by omega)] at h;cases h
  · exact h
theorem flag_new (F:List Bool) (x:Int) (h0:0≤x) (h1:x<(F.length:Int)):rdOf false (F.set x.toNat true) x=true:=by
  unfold rdOf
  rw [List.getD_eq_getElem?_getD,List.getElem?_set,if_pos rfl,if_pos (by omega)];rfl
theorem flag_old (F:List Bool) (x y:Int) (h0:0≤x) (hy:0≤y) (h:rdOf false (F.set x.toNat true) y=true):y=x∨rdOf false F y=true:=by
  by_cases e:y=x
  · exact Or.inl e
  · refine Or.inr ?_
    unfold rdOf at *
    rw [List.getD_eq_getElem?_getD] at *
    rwa [List.getElem?_set,if_neg (by omega)] at h
theorem flag_count (F:List Bool) (x:Int) (h0:0≤x) (h1:x<(F.length:Int)) (h:¬ rdOf false F x=true):(F.set x.toNat true).count false+1=F.count false:=by
  have hi:x.toNat<F.length:=by omega
  have e:F[x.toNat]=false:=by
    unfold rdOf at h
    rw [getDN F false _ hi] at h
    simpa using h
  have hp:0<F.count false:=List.count_pos_iff.2 (e ▸ List.getElem_mem hi)
  rw [List.count_set hi,e]
  simp
  omega
structure Fl (n:Nat) (A:List ArcT) (K:List Int) (F:List Bool):Prop where
  len:F.length=n
  sound:∀ x:Int,0≤x→rdOf false F x=true→Lead A K x
theorem Fl.zero (n:Nat) (A:List ArcT) (K:List Int):Fl n A K (List.replicate n false):=by
  refine ⟨by simp,fun x _ h=>?_⟩
  unfold rdOf at h
  rw [List.getD_eq_getElem?_getD,List.getElem?_replicate] at h
  split at h <;> cases h
theorem Fl.set {n:Nat} {A:List ArcT} {K:List Int} {F:List Bool} (h:Fl n A K F) (x:Int) (h0:0≤x) (hx:Lead A K x):Fl n A K (F.set x.toNat true):=by
  refine ⟨by rw [List.length_set];exact h.len,fun y hy g=>?_⟩
  rcases flag_old F x y h0 hy g with rfl|g
  · exact hx
  · exact h.sound y hy g
def Base (K:List Int) (F:List Bool):Prop:=∀ k ∈ K,rdOf false F k=true
theorem Base.set {K:List Int} {F:List Bool} (h:Base K F) (i:Nat):Base K (F.set i true):=fun k hk=>flag_mono F i k (h k hk)
structure Done (n:Nat) (A:List ArcT) (K:List Int) (F:List Bool):Prop where
  fl:Fl n A K F
  base:Base K F
  closed:∀ a ∈ A,rdOf false F a.f2=true→rdOf false F a.f0=true
theorem Done.iff {n:Nat} {A:List ArcT} {K:List Int} {F:List Bool} (h:Done n A K F) (x:Int) (hx:0≤x):rdOf false F x=true ↔ Lead A K x:=by
  refine ⟨h.fl.sound x hx,fun g=>?_⟩
  clear hx
  induction g with
  | base x hk=>exact h.base x hk
  | step a ha _ ih=>exact h.closed a ha ih
theorem Done.unique {n:Nat} {A:List ArcT} {K:List Int} {F G:List Bool} (h:Done n A K F) (g:Done n A K G):F=G:=by
  refine List.ext_getElem (by rw [h.fl.len,g.fl.len]) fun i h1 h2=>?_
  have e:=(h.iff (i:Int) (by omega)).trans (g.iff (i:Int) (by omega)).symm
  unfold rdOf at e
  rw [Int.toNat_natCast,getDN F false i h1,getDN G false i h2] at e
  exact Bool.eq_iff_iff.2 e
structure Bound (n:Nat) (A:List ArcT) (K:List Int):Prop where
  arcs:∀ a ∈ A,(0≤a.f0∧a.f0<(n:Int))∧(0≤a.f2∧a.f2<(n:Int))
  marks:∀ k ∈ K,0≤k∧k<(n:Int)
  shortA:A.length≤1000000
  shortK:K.length≤1000000
  shortN:n≤1000000
section
variable {n:Nat} {A:List ArcT} {K:List Int} (hb:Bound n A K)
include hb
/-! The reference's rounds. -/
theorem l4To_rounds (M:List (List Int)):∀ c,∀ F:List Bool,F.count false=c→Fl n A K F→Base K F → ∃ R,Evt (fun k=>spec_l4To.l1 k F true M A) R∧Done n A K R:=by
  intro c
  induction c using Nat.strongRecOn with
  | ind c ih =>
  intro F hc hF hk
  have hs:=hb.shortA
  have key:∀ i,i≤A.length → ∀ s:List Bool × Bool,(Fl n A K s.1∧Base K s.1)→(s.1.count false≤c∧(s.2=true→s.1.count false<c))→(s.2=false → ∀ j (h:j<i) (hj:j<A.length),rdOf false s.1 A[j].f2=true→rdOf false s.1 A[j].f0=true) →
      ∃ R,Evt (fun k=>spec_l4To.l2 k s.1 s.2 A (A.length:Int) (i:Int) M A) R∧Done n A K R:=by
    refine down (P:=fun i (s:List Bool × Bool)=>(Fl n A K s.1∧Base K s.1)→(s.1.count false≤c∧(s.2=true→s.1.count false<c))→(s.2=false → ∀ j (h:j<i) (hj:j<A.length),rdOf false s.1 A[j].f2=true→rdOf false s.1 A[j].f0=true) →
      ∃ R,Evt (fun k=>spec_l4To.l2 k s.1 s.2 A (A.length:Int) (i:Int) M A) R∧Done n A K R) ?_ ?_
    · rintro ⟨G,b⟩ ⟨h1,h2⟩ ⟨h3,h4⟩ h5
      cases b with
      | true =>
        obtain ⟨R,e1,e2⟩:=ih _ (h4 rfl) G rfl h1 h2
        refine ⟨R,Evt.step ?_,e2⟩
        simp only [spec_l4To.l2]
        exact Evt.neg (natNotLt _) e1
      | false =>
        refine ⟨G,Evt.step ?_,h1,h2,fun a ha=>?_⟩
        · simp only [spec_l4To.l2]
          refine Evt.neg (natNotLt _) (Evt.step ?_)
          simp only [spec_l4To.l1]
          exact Evt.neg (by decide) (Evt.ok _)
        · obtain ⟨j,hj,rfl⟩:=List.getElem_of_mem ha
          exact h5 rfl j hj hj
    · rintro i hi ihi ⟨G,b⟩ ⟨h1,h2⟩ ⟨h3,h4⟩ h5
      have h1' : Fl n A K G:=h1
      have h3' : G.count false≤c:=h3
      obtain ⟨⟨a1,a2⟩,a3,a4⟩:=hb.arcs A[i] (List.getElem_mem hi)
      have eg:rd_T115 A (i:Int)=A[i]:=rdG A _ i hi
      have el:=h1'.len
      have go:∀ H b',(Fl n A K H∧Base K H)→(H.count false≤c∧(b' = true→H.count false<c))→(b' = false → ∀ j (h:j<i+1) (hj:j<A.length),rdOf false H A[j].f2=true→rdOf false H A[j].f0=true) → ∃ R,Evt (fun k=>spec_l4To.l2 k H b' A (A.length:Int) (wrap64 ((i:Int)+1)) M A) R∧Done n A K R:=by
        intro H b' q1 q2 q3
        rw [wrapN i _ hi (by omega)]
        exact ihi (H,b') q1 q2 q3
      by_cases c2:rdOf false G A[i].f2=true
      · by_cases c0:rdOf false G A[i].f0=true
        · obtain ⟨R,e1,e2⟩:=go G b ⟨h1,h2⟩ ⟨h3,h4⟩ (fun hbf j hj hj' q=>by
            by_cases e:j=i
            · subst e;exact c0
            · exact h5 hbf j (by omega) hj' q)
          refine ⟨R,Evt.step ?_,e2⟩
          simp only [spec_l4To.l2,eg]
          exact Evt.pos (natLt _ _ hi) (Evt.pos (by omega) (Evt.pos (natLt _ _ hi) (Evt.pos a3 (Evt.pos (by omega) (Evt.pos c2 (Evt.pos a1 (Evt.pos (by omega) (Evt.pos c0 e1))))))))
        · have hc':=flag_count G A[i].f0 a1 (by omega) c0
          obtain ⟨R,e1,e2⟩:=go (G.set (A[i].f0).toNat true) true ⟨h1'.set _ a1 (Lead.step A[i] (List.getElem_mem hi) (h1'.sound _ a3 c2)),Base.set h2 _⟩ ⟨by omega,fun _=>by omega⟩ (fun h=>by cases h)
          refine ⟨R,Evt.step ?_,e2⟩
          simp only [spec_l4To.l2,eg]
          exact Evt.pos (natLt _ _ hi) (Evt.pos (by omega) (Evt.pos (natLt _ _ hi) (Evt.pos a3 (Evt.pos (by omega) (Evt.pos c2 (Evt.pos a1 (Evt.pos (by omega) (Evt.neg c0 e1))))))))
      · obtain ⟨R,e1,e2⟩:=go G b ⟨h1,h2⟩ ⟨h3,h4⟩ (fun hbf j hj hj' q=>by
          by_cases e:j=i
          · subst e;exact absurd q c2
          · exact h5 hbf j (by omega) hj' q)
        refine ⟨R,Evt.step ?_,e2⟩
        simp only [spec_l4To.l2,eg]
        exact Evt.pos (natLt _ _ hi) (Evt.pos (by omega) (Evt.pos (natLt _ _ hi) (Evt.pos a3 (Evt.pos (by omega) (Evt.neg c2 e1)))))
  obtain ⟨R,e1,e2⟩:=key 0 (Nat.zero_le _) (F,false) ⟨hF,hk⟩ ⟨by show F.count false≤c;omega,fun h=>by cases h⟩ (fun _ j hj=>by omega)
  refine ⟨R,Evt.step ?_,e2⟩
  simp only [spec_l4To.l1]
  exact Evt.pos trivial e1
theorem l4To_ex (M:List (List Int)) (hM:M.length=n):∃ R,Evt (fun k=>spec_l4To.f k M A K) R∧Done n A K R:=by
  have hs:=hb.shortK
  have hn:=hb.shortN
  have key:∀ i,i≤K.length → ∀ F:List Bool,Fl n A K F→(∀ j (h:j<i) (hj:j<K.length),rdOf false F K[j]=true) → ∃ R,Evt (fun k=>spec_l4To.l0 k F K (K.length:Int) (i:Int) M A) R∧Done n A K R:=by
    refine down (P:=fun i (F:List Bool)=>Fl n A K F→(∀ j (h:j<i) (hj:j<K.length),rdOf false F K[j]=true) → ∃ R,Evt (fun k=>spec_l4To.l0 k F K (K.length:Int) (i:Int) M A) R∧Done n A K R) ?_ ?_
    · intro F hF hk
      obtain ⟨R,e1,e2⟩:=l4To_rounds hb M _ F rfl hF (fun x hx=>by
        obtain ⟨j,hj,rfl⟩:=List.getElem_of_mem hx
        exact hk j hj hj)
      refine ⟨R,Evt.step ?_,e2⟩
      simp only [spec_l4To.l0]
      exact Evt.neg (natNotLt _) e1
    · intro i hi ih F hF hk
      obtain ⟨a1,a2⟩:=hb.marks K[i] (List.getElem_mem hi)
      have el:=hF.len
      obtain ⟨R,e1,e2⟩:=ih (F.set (K[i]).toNat true) (hF.set _ a1 (Lead.base _ (List.getElem_mem hi))) (fun j hj hj'=>by
        by_cases e:j=i
        · subst e;exact flag_new F _ a1 (by omega)
        · exact flag_mono F _ _ (hk j (by omega) hj'))
      refine ⟨R,Evt.step ?_,e2⟩
      simp only [spec_l4To.l0]
      rw [rdN K i hi,wrapN i _ hi (by omega)]
      exact Evt.pos (natLt _ _ hi) (Evt.pos (by omega) (Evt.pos (natLt _ _ hi) (Evt.pos a1 (Evt.pos (by omega) e1))))
  obtain ⟨R,e1,e2⟩:=key 0 (Nat.zero_le _) (List.replicate n false) (Fl.zero n A K) (fun j hj=>by omega)
  refine ⟨R,?_,e2⟩
  unfold spec_l4To.f
  subst hM
  refine Evt.pos (by omega) (Evt.pos (by rw [Int.toNat_natCast];omega) ?_)
  rw [Int.toNat_natCast]
  exact e1
/-! The program's queue. -/
structure Rows (n:Nat) (A:List ArcT) (i:Nat) (B:List (List Int)):Prop where
  len:B.length=n
  has:∀ j (h:j<i) (hj:j<A.length),A[j].f0 ∈ rd_L1 B A[j].f2
  from_:∀ x:Int,0≤x → ∀ y ∈ rd_L1 B x,∃ a ∈ A,a.f2=x∧a.f0=y
  short:∀ x:Int,(rd_L1 B x).length≤i
omit hb in
theorem rows_zero:Rows n A 0 (List.replicate n []):=by
  have e:∀ x:Int,rd_L1 (List.replicate n []) x=[]:=by
    intro x
    unfold rd_L1
    rw [List.getD_eq_getElem?_getD,List.getElem?_replicate]
    split <;> rfl
  refine ⟨by simp,fun j hj=>by omega,fun x _ y hy=>?_,fun x=>?_⟩
  · rw [e] at hy;cases hy
  · rw [e];exact Nat.le_refl _
omit hb in
theorem row_set (B:List (List Int)) (x y:Int) (r:List Int) (h0:0≤x) (h1:x<(B.length:Int)) (hy:0≤y):rd_L1 (B.set x.toNat r) y=if y=x then r else rd_L1 B y:=by
  unfold rd_L1
  rw [List.getD_eq_getElem?_getD,List.getD_eq_getElem?_getD,List.getElem?_set]
  by_cases e:y=x
  · subst e;rw [if_pos rfl,if_pos rfl,if_pos (by omega)];rfl
  · rw [if_neg (by omega),if_neg e]
theorem rows_step {i:Nat} {B:List (List Int)} (hi:i<A.length) (h:Rows n A i B):Rows n A (i+1) (B.set (A[i].f2).toNat (rd_L1 B A[i].f2 ++ [A[i].f0])):=by
  obtain ⟨⟨a1,a2⟩,a3,a4⟩:=hb.arcs A[i] (List.getElem_mem hi)
  have el:=h.len
  have e:∀ y:Int,0≤y→rd_L1 (B.set (A[i].f2).toNat (rd_L1 B A[i].f2 ++ [A[i].f0])) y=if y=A[i].f2 then rd_L1 B A[i].f2 ++ [A[i].f0] else rd_L1 B y:=fun y hy=>row_set B _ y _ a3 (by omega) hy
  refine ⟨by rw [List.length_set];exact el,fun j hj hj'=>?_,fun x hx y hy=>?_,fun x=>?_⟩
  · have:=(hb.arcs A[j] (List.getElem_mem hj')).2.1
    rw [e _ this]
    by_cases ej:j=i
    · subst ej;rw [if_pos rfl];simp
    · have q:=h.has j (by omega) hj'
      split
      · rename_i e2;rw [e2] at q;exact List.mem_append_left _ q
      · exact q
  · rw [e x hx] at hy
    split at hy
    · rename_i e2
      rcases List.mem_append.1 hy with hy|hy
      · exact h.from_ x hx y (by rw [e2];exact hy)
      · exact ⟨A[i],List.getElem_mem hi,e2.symm,(List.mem_singleton.1 hy).symm⟩
    · exact h.from_ x hx y hy
  · by_cases hx:0≤x
    · rw [e x hx]
      split
      · have:=h.short A[i].f2;rw [List.length_append,List.length_singleton];omega
      · have:=h.short x;omega
    · have e0:rd_L1 (B.set (A[i].f2).toNat (rd_L1 B A[i].f2 ++ [A[i].f0])) x=rd_L1 (B.set (A[i].f2).toNat (rd_L1 B A[i].f2 ++ [A[i].f0])) 0:=by
        unfold rd_L1;rw [show x.toNat=(0:Int).toNat by omega]
      rw [e0,e 0 (by omega)]
      split
      · have:=h.short A[i].f2;rw [List.length_append,List.length_singleton];omega
      · have:=h.short 0;omega
structure Que (n:Nat) (A:List ArcT) (K:List Int) (B:List (List Int)) (F:List Bool) (Q:List Int) (i:Nat):Prop where
  fl:Fl n A K F
  base:Base K F
  has:∀ x ∈ Q,(0≤x∧x<(n:Int))∧rdOf false F x=true
  all:∀ x:Int,0≤x→rdOf false F x=true→x ∈ Q
  done:∀ j:Nat,j<i → ∀ y ∈ rd_L1 B (Q.getD j 0),rdOf false F y=true
  few:Q.length+F.count false≤2000000
omit hb in
theorem que_add {B:List (List Int)} {F:List Bool} {Q:List Int} {i:Nat} (h:Que n A K B F Q i) (hi:i≤Q.length) (y:Int) (h0:0≤y) (h1:y<(n:Int)) (hy:Lead A K y) (hn:¬ rdOf false F y=true):Que n A K B (F.set y.toNat true) (Q ++ [y]) i:=by
  have el:=h.fl.len
  have hc:=flag_count F y h0 (by omega) hn
  have hf:=h.few
  refine ⟨h.fl.set y h0 hy,h.base.set _,fun x hx=>?_,fun x hx g=>?_,fun j hj z hz=>?_,by rw [List.length_append,List.length_singleton];omega⟩
  · rcases List.mem_append.1 hx with hx|hx
    · exact ⟨(h.has x hx).1,flag_mono F _ _ (h.has x hx).2⟩
    · rw [List.mem_singleton.1 hx];exact ⟨⟨h0,h1⟩,flag_new F y h0 (by omega)⟩
  · rcases flag_old F y x h0 hx g with rfl|g
    · simp
    · exact List.mem_append_left _ (h.all x hx g)
  · have e:(Q ++ [y]).getD j 0=Q.getD j 0:=by
      rw [List.getD_eq_getElem?_getD,List.getD_eq_getElem?_getD,List.getElem?_append_left (by omega)]
    rw [e] at hz
    exact flag_mono F _ _ (h.done j hj z hz)
theorem queue_ex (B:List (List Int)) (hB:Rows n A A.length B):∀ d (F:List Bool) (Q:List Int) (i:Nat),F.count false+Q.length=i+d→i≤Q.length→Que n A K B F Q i → ∃ R,Evt (fun k=>impl_Space_leadingTo.l2 k F B Q (i:Int)) R∧Done n A K R:=by
  have hsA:=hb.shortA
  have hend:∀ (F:List Bool) (Q:List Int),Que n A K B F Q Q.length → ∃ R,Evt (fun k=>impl_Space_leadingTo.l2 k F B Q (Q.length:Int)) R∧Done n A K R:=by
    intro F Q h
    refine ⟨F,Evt.step ?_,h.fl,h.base,fun a ha g=>?_⟩
    · simp only [impl_Space_leadingTo.l2]
      exact Evt.neg (natNotLt _) (Evt.ok _)
    · obtain ⟨q,hq,ea⟩:=List.getElem_of_mem (h.all a.f2 (hb.arcs a ha).2.1 g)
      obtain ⟨j,hj,rfl⟩:=List.getElem_of_mem ha
      refine h.done q hq _ ?_
      rw [getDN Q 0 q hq,ea]
      exact hB.has j hj hj
  intro d
  induction d with
  | zero =>
    intro F Q i hd hi h
    obtain rfl:i=Q.length:=by omega
    exact hend F Q h
  | succ d ih =>
    intro F Q i hd hi h
    by_cases hlt:i<Q.length
    · have hq:=(h.has Q[i] (List.getElem_mem hlt)).1
      have hql:=h.fl.sound _ hq.1 (h.has Q[i] (List.getElem_mem hlt)).2
      have hr:=hB.short Q[i]
      have elB:=hB.len
      have hrs:(rd_L1 B Q[i]).length≤4611686018427387904:=by omega
      have key:∀ j,j≤(rd_L1 B Q[i]).length → ∀ s:List Bool × List Int,(s.1.count false+s.2.length=i+d+1∧i<s.2.length)→(s.2.getD i 0=Q[i]∧Que n A K B s.1 s.2 i)→(∀ z (h:z<j) (hz:z<(rd_L1 B Q[i]).length),rdOf false s.1 (rd_L1 B Q[i])[z]=true) →
          ∃ R,Evt (fun k=>impl_Space_leadingTo.l3 k s.1 B s.2 (i:Int) (rd_L1 B Q[i]) ((rd_L1 B Q[i]).length:Int) (j:Int)) R∧Done n A K R:=by
        refine down (P:=fun j (s:List Bool × List Int)=>(s.1.count false+s.2.length=i+d+1∧i<s.2.length)→(s.2.getD i 0=Q[i]∧Que n A K B s.1 s.2 i)→(∀ z (h:z<j) (hz:z<(rd_L1 B Q[i]).length),rdOf false s.1 (rd_L1 B Q[i])[z]=true) →
          ∃ R,Evt (fun k=>impl_Space_leadingTo.l3 k s.1 B s.2 (i:Int) (rd_L1 B Q[i]) ((rd_L1 B Q[i]).length:Int) (j:Int)) R∧Done n A K R) ?_ ?_
        · rintro ⟨G,P⟩ ⟨q1,q2⟩ ⟨q3,q4⟩ q5
          have q1' : G.count false+P.length=i+d+1:=q1
          have q2' : i<P.length:=q2
          have q4' : Que n A K B G P i:=q4
          obtain ⟨R,e1,e2⟩:=ih G P (i+1) (by omega) (by omega) ⟨q4'.fl,q4'.base,q4'.has,q4'.all,fun j hj y hy=>by
            by_cases e:j=i
            · subst e
              have q3' : P.getD j 0=Q[j]:=q3
              rw [q3'] at hy
              obtain ⟨z,hz,rfl⟩:=List.getElem_of_mem hy
              exact q5 z hz hz
            · exact q4'.done j (by omega) y hy,q4'.few⟩
          refine ⟨R,Evt.step ?_,e2⟩
          simp only [impl_Space_leadingTo.l3]
          rw [wrapN i _ q2' (by have:=q4'.few;omega)]
          exact Evt.neg (natNotLt _) e1
        · rintro j hj ihj ⟨G,P⟩ ⟨q1,q2⟩ ⟨q3,q4⟩ q5
          have q1' : G.count false+P.length=i+d+1:=q1
          have q2' : i<P.length:=q2
          have q4' : Que n A K B G P i:=q4
          have hpf:=q4'.few
          obtain ⟨a,ha,ea,ey⟩:=hB.from_ Q[i] hq.1 _ (List.getElem_mem hj)
          obtain ⟨⟨a1,a2⟩,a3,a4⟩:=hb.arcs a ha
          have hy:Lead A K (rd_L1 B Q[i])[j]:=ey ▸ Lead.step a ha (ea ▸ hql)
          have y0:0≤(rd_L1 B Q[i])[j]:=ey ▸ a1
          have y1:(rd_L1 B Q[i])[j]<(n:Int):=ey ▸ a2
          have el:=q4'.fl.len
          have er:rd (rd_L1 B Q[i]) (j:Int)=(rd_L1 B Q[i])[j]:=rdN _ j hj
          have ew:=wrapN j (rd_L1 B Q[i]).length hj hrs
          have j0:(0:Int)≤(j:Int):=Int.natCast_nonneg j
          have yl:(rd_L1 B Q[i])[j]<(G.length:Int):=by rw [el];exact y1
          have zlt:∀ {z:Nat},z<j+1 → ¬ z=j→z<j:=fun hz e=>Nat.lt_of_le_of_ne (Nat.le_of_lt_succ hz) e
          have pl:P.length<17592186044416:=Nat.lt_of_le_of_lt (Nat.le_trans (Nat.le_add_right _ _) hpf) (by decide)
          by_cases c:rdOf false G (rd_L1 B Q[i])[j]=true
          · obtain ⟨R,e1,e2⟩:=ihj (G,P) ⟨q1,q2⟩ ⟨q3,q4⟩ (fun z hz hz'=>by
              by_cases e:z=j
              · subst e;exact c
              · exact q5 z (zlt hz e) hz')
            refine ⟨R,Evt.step ?_,e2⟩
            simp only [impl_Space_leadingTo.l3,er,ew]
            exact Evt.pos (natLt _ _ hj) (Evt.pos j0 (Evt.pos (natLt _ _ hj) (Evt.pos y0 (Evt.pos yl (Evt.pos c e1)))))
          · have hc:=flag_count G _ y0 (by omega) c
            have eP:(P ++ [(rd_L1 B Q[i])[j]]).getD i 0=P.getD i 0:=by
              rw [List.getD_eq_getElem?_getD,List.getD_eq_getElem?_getD,List.getElem?_append_left q2']
            obtain ⟨R,e1,e2⟩:=ihj (G.set ((rd_L1 B Q[i])[j]).toNat true,P ++ [(rd_L1 B Q[i])[j]]) ⟨by show (G.set _ true).count false+(P ++ [_]).length=_;rw [List.length_append,List.length_singleton];omega,by show i<(P ++ [_]).length;rw [List.length_append,List.length_singleton];omega⟩ ⟨eP.trans q3,que_add q4' (Nat.le_of_lt q2') _ y0 y1 hy c⟩ (fun z hz hz'=>by
              by_cases e:z=j
              · subst e;exact flag_new G _ y0 yl
              · exact flag_mono G _ _ (q5 z (zlt hz e) hz'))
            refine ⟨R,Evt.step ?_,e2⟩
            simp only [impl_Space_leadingTo.l3,er,ew]
            exact Evt.pos (natLt _ _ hj) (Evt.pos j0 (Evt.pos (natLt _ _ hj) (Evt.pos y0 (Evt.pos yl (Evt.neg c (Evt.pos pl e1))))))
      obtain ⟨R,e1,e2⟩:=key 0 (Nat.zero_le _) (F,Q) ⟨by show F.count false+Q.length=_;omega,hlt⟩ ⟨getDN Q 0 i hlt,h⟩ (fun z hz=>by omega)
      refine ⟨R,Evt.step ?_,e2⟩
      simp only [impl_Space_leadingTo.l2,rdN Q i hlt]
      exact Evt.pos (natLt _ _ hlt) (Evt.pos (by omega) (Evt.pos hq.1 (Evt.pos (by omega) e1)))
    · obtain rfl:i=Q.length:=by omega
      exact hend F Q h
theorem leadingTo_ex (M:List (List Int)) (hM:M.length=n):∃ R,Evt (fun k=>impl_Space_leadingTo.f k M A K) R∧Done n A K R:=by
  have hs:=hb.shortK
  have hn:=hb.shortN
  have hsA:=hb.shortA
  have marks:∀ B,Rows n A A.length B → ∃ R,Evt (fun k=>impl_Space_leadingTo.l1 k (List.replicate n false) B K K (K.length:Int) ((0:Nat):Int)) R∧Done n A K R:=by
    intro B hB
    have key:∀ i,i≤K.length → ∀ F:List Bool,Fl n A K F→(∀ x:Int,0≤x→rdOf false F x=true→x ∈ K)→(∀ j (h:j<i) (hj:j<K.length),rdOf false F K[j]=true) → ∃ R,Evt (fun k=>impl_Space_leadingTo.l1 k F B K K (K.length:Int) (i:Int)) R∧Done n A K R:=by
      refine down (P:=fun i (F:List Bool)=>Fl n A K F→(∀ x:Int,0≤x→rdOf false F x=true→x ∈ K)→(∀ j (h:j<i) (hj:j<K.length),rdOf false F K[j]=true) → ∃ R,Evt (fun k=>impl_Space_leadingTo.l1 k F B K K (K.length:Int) (i:Int)) R∧Done n A K R) ?_ ?_
      · intro F hF ho hk
        have el:=hF.len
        have hc:F.count false≤n:=el ▸ List.count_le_length
        have hbase:Base K F:=fun x hx=>by
          obtain ⟨j,hj,rfl⟩:=List.getElem_of_mem hx
          exact hk j hj hj
        obtain ⟨R,e1,e2⟩:=queue_ex hb B hB (F.count false+K.length) F K 0 (by omega) (Nat.zero_le _) ⟨hF,hbase,fun x hx=>⟨hb.marks x hx,hbase x hx⟩,ho,fun j hj=>by omega,by omega⟩
        refine ⟨R,Evt.step ?_,e2⟩
        simp only [impl_Space_leadingTo.l1]
        exact Evt.neg (natNotLt _) e1
      · intro i hi ih F hF ho hk
        obtain ⟨a1,a2⟩:=hb.marks K[i] (List.getElem_mem hi)
        have el:=hF.len
        obtain ⟨R,e1,e2⟩:=ih (F.set (K[i]).toNat true) (hF.set _ a1 (Lead.base _ (List.getElem_mem hi))) (fun x hx g=>by
          rcases flag_old F _ x a1 hx g with rfl|g
          · exact List.getElem_mem hi
          · exact ho x hx g) (fun j hj hj'=>by
          by_cases e:j=i
          · subst e;exact flag_new F _ a1 (by omega)
          · exact flag_mono F _ _ (hk j (by omega) hj'))
        refine ⟨R,Evt.step ?_,e2⟩
        simp only [impl_Space_leadingTo.l1]
        rw [rdN K i hi,wrapN i _ hi (by omega)]
        exact Evt.pos (natLt _ _ hi) (Evt.pos (by omega) (Evt.pos (natLt _ _ hi) (Evt.pos a1 (Evt.pos (by omega) e1))))
    refine key 0 (Nat.zero_le _) (List.replicate n false) (Fl.zero n A K) (fun x hx g=>?_) (fun j hj=>by omega)
    unfold rdOf at g
    rw [List.getD_eq_getElem?_getD,List.getElem?_replicate] at g
    split at g <;> cases g
  have key:∀ i,i≤A.length → ∀ B:List (List Int),Rows n A i B → ∃ R,Evt (fun k=>impl_Space_leadingTo.l0 k K (List.replicate n false) B A (A.length:Int) (i:Int)) R∧Done n A K R:=by
    refine down (P:=fun i (B:List (List Int))=>Rows n A i B → ∃ R,Evt (fun k=>impl_Space_leadingTo.l0 k K (List.replicate n false) B A (A.length:Int) (i:Int)) R∧Done n A K R) ?_ ?_
    · intro B hB
      obtain ⟨R,e1,e2⟩:=marks B hB
      refine ⟨R,Evt.step ?_,e2⟩
      simp only [impl_Space_leadingTo.l0]
      refine Evt.neg (natNotLt _) (Evt.bind0 (a:=K) ?_ e1)
      simp only [slices_Clone_int_int.f,Option.bind_some,List.nil_append,List.length_nil,Nat.zero_add]
      exact if_pos (by omega)
    · intro i hi ih B hB
      obtain ⟨⟨a1,a2⟩,a3,a4⟩:=hb.arcs A[i] (List.getElem_mem hi)
      have el:=hB.len
      have hsh:=hB.short A[i].f2
      have eg:rd_T115 A (i:Int)=A[i]:=rdG A _ i hi
      obtain ⟨R,e1,e2⟩:=ih _ (rows_step hb hi hB)
      refine ⟨R,Evt.step ?_,e2⟩
      simp only [impl_Space_leadingTo.l0,eg]
      rw [wrapN i _ hi (by omega)]
      exact Evt.pos (natLt _ _ hi) (Evt.pos (by omega) (Evt.pos (natLt _ _ hi) (Evt.pos a3 (Evt.pos (by omega) (Evt.pos (by omega) e1)))))
  obtain ⟨R,e1,e2⟩:=key 0 (Nat.zero_le _) (List.replicate n []) rows_zero
  refine ⟨R,?_,e2⟩
  unfold impl_Space_leadingTo.f
  subst hM
  refine Evt.pos (by omega) (Evt.pos (by rw [Int.toNat_natCast];omega) (Evt.pos (by rw [Int.toNat_natCast];omega) ?_))
  rw [Int.toNat_natCast]
  exact e1
end
theorem lead_ex {M:List (List Int)} {A:List ArcT} {K:List Int} (hb:Bound M.length A K):∃ R,Evt (fun k=>spec_l4To.f k M A K) R∧Evt (fun k=>impl_Space_leadingTo.f k M A K) R∧Done M.length A K R:=by
  obtain ⟨R,e1,e2⟩:=l4To_ex hb M rfl
  obtain ⟨R',e3,e4⟩:=leadingTo_ex hb M rfl
  have:=e2.unique e4
  subst this
  exact ⟨R,e1,e3,e2⟩
end Go.Proofs.Ytiglhdibibbkjaa.Lib
