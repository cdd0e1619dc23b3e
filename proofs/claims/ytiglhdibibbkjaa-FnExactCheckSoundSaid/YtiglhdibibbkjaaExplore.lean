import Derived.Test.YtiglhdibibbkjaaF0
import Derived.Test.YtiglhdibibbkjaaF2
import Derived.Test.YtiglhdibibbkjaaF3
import Derived.Test.YtiglhdibibbkjaaF5
import Derived.Test.YtiglhdibibbkjaaF8
import Derived.Test.YtiglhdibibbkjaaF9
import Derived.Test.YtiglhdibibbkjaaFind
import Derived.Test.YtiglhdibibbkjaaEnab
import Derived.Test.YtiglhdibibbkjaaFire
namespace Go.Proofs.Ytiglhdibibbkjaa.Lib
open Go.RowKit Go.Proofs.Ytiglhdibibbkjaa.F Go.Proofs.YtiglhdibibbkjaaW.PrintWords Go.Proofs.YtiglhdibibbkjaaW.PrintLast Go.Proofs.YtiglhdibibbkjaaW.PrintMore
abbrev ArcT:=S115
theorem mem_picks0 (T:Nat→Bool) (d:Nat) (x:Int):x ∈ picks T 0 d ↔ ∃ i:Nat,x=(i:Int)∧i<d∧T i=true:=by
  simp only [picks,List.mem_map,List.mem_filter,List.mem_range'_1]
  constructor
  · rintro ⟨i,⟨h1,h2⟩,rfl⟩;exact ⟨i,rfl,by omega,h2⟩
  · rintro ⟨i,rfl,h1,h2⟩;exact ⟨i,⟨by omega,h2⟩,rfl⟩
structure TreeOk (n:Nat) (A:List ArcT):Prop where
  sorted:A.Pairwise fun a b=>a.f0≤b.f0
  first:∀ u:Int,1≤u→u<(n:Int) → ∃ (P:List ArcT) (a:ArcT) (S:List ArcT),A=P ++ a :: S∧a.f2=u∧a.f0<u ∧ ∀ b ∈ P,b.f2<u
theorem TreeOk.more {n n' : Nat} {A:List ArcT} {x:ArcT} (h:TreeOk n A) (h0:∀ a ∈ A,a.f0≤x.f0) (hn:∀ u:Int,(n:Int)≤u→u<(n' : Int)→x.f2=u∧x.f0<u ∧ ∀ b ∈ A,b.f2<u):TreeOk n' (A ++ [x]):=by
  refine ⟨List.pairwise_append.2 ⟨h.sorted,List.pairwise_singleton _ _,fun a ha b hb=>?_⟩,fun u h1 h2=>?_⟩
  · rw [List.mem_singleton.1 hb];exact h0 a ha
  · by_cases c:u<(n:Int)
    · obtain ⟨P,a,S,e,r⟩:=h.first u h1 c
      exact ⟨P,a,S ++ [x],by rw [e];simp,r⟩
    · obtain ⟨e1,e2,e3⟩:=hn u (by omega) h2
      exact ⟨A,x,[],rfl,e1,e2,e3⟩
structure SpaceOk (p:Int) (ts:List Tr) (b:Int) (M:List (List Int)) (A:List ArcT):Prop where
  one:1≤M.length
  most:(M.length:Int)≤b
  good:∀ m ∈ M,goodMark p m=true
  arcs:∀ a ∈ A,(0≤a.f0∧a.f0<(M.length:Int))∧(0≤a.f1∧a.f1<(ts.length:Int))∧(0≤a.f2∧a.f2<(M.length:Int))
  tree:TreeOk M.length A
  uniq:M.Pairwise (· ≠ ·)
def EndOk (p:Int) (ts:List Tr) (b:Int) (r:List (List Int) × List ArcT × Int):Prop:=(r.2.2=1→SpaceOk p ts b r.1 r.2.1∧r.2.1.length≤9600)∧(r.2.2≠1→r.1=[]∧r.2.1=[])
/-! One transition that can fire, each side told once: where it goes on, and where it leaves. -/
section
variable (p:Int) (ts:List Tr) (b:Int) (k j q at1 n:Int) (E:List Int) (M:List (List Int)) (A:List ArcT) (m:List Int)
theorem specE_step (hj:j<n) (j0:0≤j) (jl:j<(E.length:Int)) (eq0:rd E j=q) (q0:0≤q) (q1:q<(ts.length:Int)) (k0:0≤k) (k1:k<(M.length:Int)) (t:Tr) (er:rd_T105 ts q=t) (x:List Int) (eM:rd_L1 M k=x) (c:Bool)
    (hm:Evt (fun z=>spec_l2Fire.f z t.f0 t.f1 t.f2 x) m) (hc:Evt (fun z=>spec_GoodMark.f z p m) c) (hf:Evt (fun z=>spec_l4Find.f z M m) at1) (r:List (List Int) × List ArcT × Int)
    (h3:c=false→r=([],[],3)) (hn:c=true→at1<0→Evt (fun z=>spec_l4Explore.j2 z b k q m at1 E n j ((M.length:Int) == b) p ts M A) r) (hp:c=true → ¬ at1<0→Evt (fun z=>spec_l4Explore.j2 z b k q m at1 E n j false p ts M A) r) :
    Evt (fun z=>spec_l4Explore.l1 (z+1) b k E n j p ts M A) r:=by
  subst er eM
  simp only [spec_l4Explore.l1,eq0]
  refine Evt.pos hj (Evt.pos j0 (Evt.pos jl (Evt.pos q0 (Evt.pos q1 (Evt.pos k0 (Evt.pos k1 (Evt.bind hm (Evt.bind hc ?_))))))))
  cases c with
  | false=>rw [h3 rfl];exact Evt.neg (by decide) (Evt.ok _)
  | true =>
    refine Evt.pos rfl (Evt.bind hf ?_)
    by_cases h:at1<0
    · exact Evt.pos h (hn rfl h)
    · exact Evt.neg h (hp rfl h)
theorem implE_step (hj:j<n) (j0:0≤j) (jl:j<(E.length:Int)) (eq0:rd E j=q) (q0:0≤q) (q1:q<(ts.length:Int)) (k0:0≤k) (k1:k<(M.length:Int)) (t:Tr) (er:rd_T105 ts q=t) (x:List Int) (eM:rd_L1 M k=x) (c:Bool)
    (hm:Evt (fun z=>impl_fired.f z t.f0 t.f1 t.f2 x) m) (hc:Evt (fun z=>impl_allWithin.f z m 0 50) c) (hf:Evt (fun z=>impl_Space_find.f z M A m) at1) (hA:A.length<5864062014805) (hM:M.length<5864062014805) (r:List (List Int) × List ArcT × Int)
    (h3:c=false→r=([],[],3)) (h2:c=true→at1<0→(M.length:Int) ≥ b→r=([],[],2))
    (hn:c=true→at1<0 → ¬ (M.length:Int) ≥ b→Evt (fun z=>impl_explore.l1 z b k E n (wrap64 (j+1)) p ts (M ++ [m]) (A ++ [(⟨k,q,(M.length:Int)⟩:ArcT)])) r)
    (hp:c=true → ¬ at1<0→Evt (fun z=>impl_explore.l1 z b k E n (wrap64 (j+1)) p ts M (A ++ [(⟨k,q,at1⟩:ArcT)])) r) :
    Evt (fun z=>impl_explore.l1 (z+1) b k E n j p ts M A) r:=by
  subst er eM
  simp only [impl_explore.l1,eq0]
  refine Evt.pos hj (Evt.pos j0 (Evt.pos jl (Evt.pos q0 (Evt.pos q1 (Evt.pos k0 (Evt.pos k1 (Evt.bind hm (Evt.bind hc ?_))))))))
  cases c with
  | false=>rw [h3 rfl];exact Evt.neg (by decide) (Evt.ok _)
  | true =>
    refine Evt.pos rfl (Evt.bind hf ?_)
    by_cases h:at1<0
    · refine Evt.pos h ?_
      by_cases hb:(M.length:Int) ≥ b
      · rw [h2 rfl h hb];exact Evt.pos hb (Evt.ok _)
      · exact Evt.neg hb (Evt.pos hM (Evt.pos hA (hn rfl h hb)))
    · exact Evt.neg h (Evt.pos hA (hp rfl h))
theorem specE_full (h:at1<0) (hb:(M.length:Int)=b):Evt (fun z=>spec_l4Explore.j2 z b k q m at1 E n j ((M.length:Int) == b) p ts M A) (([]:List (List Int)),([]:List ArcT),(2:Int)):=by
  refine Evt.step ?_
  simp only [spec_l4Explore.j2]
  exact Evt.pos (by simpa using hb) (Evt.ok _)
theorem specE_new (h:at1<0) (hb:¬ (M.length:Int)=b) (hA:A.length<5864062014805) (hM:M.length<5864062014805) (r:List (List Int) × List ArcT × Int)
    (hr:Evt (fun z=>spec_l4Explore.l1 z b k E n (wrap64 (j+1)) p ts (M ++ [m]) (A ++ [(⟨k,q,(M.length:Int)⟩:ArcT)])) r):Evt (fun z=>spec_l4Explore.j2 z b k q m at1 E n j ((M.length:Int) == b) p ts M A) r:=by
  refine Evt.step ?_
  simp only [spec_l4Explore.j2]
  exact Evt.neg (by simpa using hb) (Evt.pos h (Evt.pos hM (Evt.pos hA hr)))
theorem specE_old (h:¬ at1<0) (hA:A.length<5864062014805) (r:List (List Int) × List ArcT × Int)
    (hr:Evt (fun z=>spec_l4Explore.l1 z b k E n (wrap64 (j+1)) p ts M (A ++ [(⟨k,q,at1⟩:ArcT)])) r):Evt (fun z=>spec_l4Explore.j2 z b k q m at1 E n j false p ts M A) r:=by
  refine Evt.step ?_
  simp only [spec_l4Explore.j2]
  exact Evt.neg (by decide) (Evt.neg h (Evt.pos hA hr))
end
theorem space_new {p:Int} {ts:List Tr} {b k q:Int} {M:List (List Int)} {A:List ArcT} {m:List Int} (g:SpaceOk p ts b M A) (hm:goodMark p m=true) (hb:(M.length:Int)<b) (hk:0≤k∧k<(M.length:Int)) (hq:0≤q∧q<(ts.length:Int)) (ht:∀ a ∈ A,a.f0≤k) (hu:m ∉ M):SpaceOk p ts b (M ++ [m]) (A ++ [(⟨k,q,(M.length:Int)⟩:ArcT)]):=by
  have el:((M ++ [m]).length:Int)=(M.length:Int)+1:=by rw [List.length_append,List.length_singleton];omega
  refine ⟨by have:=g.one;omega,by omega,fun x hx=>?_,fun a ha=>?_,g.tree.more ht fun u h1 h2=>⟨by show (M.length:Int)=u;omega,by show k<u;omega,fun b hb=>by have:=(g.arcs b hb).2.2.2;omega⟩,List.pairwise_append.2 ⟨g.uniq,List.pairwise_singleton _ _,fun x hx y hy=>by rw [List.mem_singleton.1 hy];exact fun e=>hu (e ▸ hx)⟩⟩
  · rcases List.mem_append.1 hx with hx|hx
    · exact g.good x hx
    · rw [List.mem_singleton.1 hx];exact hm
  · rw [el]
    rcases List.mem_append.1 ha with ha|ha
    · obtain ⟨⟨a1,a2⟩,a3,a4,a5⟩:=g.arcs a ha
      exact ⟨⟨a1,by omega⟩,a3,a4,by omega⟩
    · rw [List.mem_singleton.1 ha]
      exact ⟨⟨hk.1,by show k<_;omega⟩,hq,by show (0:Int)≤(M.length:Int);omega,by show (M.length:Int)<_;omega⟩
theorem space_old {p:Int} {ts:List Tr} {b k q at1:Int} {M:List (List Int)} {A:List ArcT} (g:SpaceOk p ts b M A) (hk:0≤k∧k<(M.length:Int)) (hq:0≤q∧q<(ts.length:Int)) (ha:0≤at1∧at1<(M.length:Int)) (ht:∀ a ∈ A,a.f0≤k):SpaceOk p ts b M (A ++ [(⟨k,q,at1⟩:ArcT)]):=by
  refine ⟨g.one,g.most,g.good,fun a h=>?_,g.tree.more ht fun u h1 h2=>by omega,g.uniq⟩
  rcases List.mem_append.1 h with h|h
  · exact g.arcs a h
  · rw [List.mem_singleton.1 h];exact ⟨hk,hq,ha⟩
theorem isAt_lt {M:List (List Int)} {m:List Int} {r:Int} (h:IsAt M m r) (h0:¬ r<0):r<(M.length:Int):=by
  obtain ⟨i,rfl⟩:∃ i:Nat,r=(i:Int):=⟨r.toNat,by omega⟩
  obtain ⟨hi,_⟩:=h.2.1 i rfl
  omega
theorem isAt_not {M:List (List Int)} {m:List Int} {r:Int} (h:IsAt M m r) (h0:r<0):m ∉ M:=fun hm=>by
  have e:=h.1
  rw [decide_eq_false (by omega),List.any_eq_true.2 ⟨m,hm,decide_eq_true rfl⟩] at e
  cases e
theorem enabledL_at (ts:List Tr) (x:List Int) (j:Nat) (hj:j<(enabledL ts x).length):∃ q:Nat,rd (enabledL ts x) (j:Int)=(q:Int)∧q<ts.length:=by
  obtain ⟨q,hq,hqn,_⟩:=(mem_picks0 _ _ _).1 (List.getElem_mem hj:(enabledL ts x)[j] ∈ enabledL ts x)
  exact ⟨q,by rw [rdN _ j hj,hq],hqn⟩
theorem explore_row (p:Int) (ts:List Tr) (b:Int) (hs:SmallN ts) (hg:goodNet p ts=true) (hb:1≤b∧b≤400) (k:Nat) (hk401:k<401) (x:List Int) (hx:goodMark p x=true) (E:List Int) (hEl:E.length≤ts.length) (hE:∀ (j:Nat) (h:j<E.length),∃ q:Nat,rd E (j:Int)=(q:Int)∧q<ts.length)
    (ih:∀ st:List (List Int) × List ArcT,SpaceOk p ts b st.1 st.2→st.2.length≤24*(k+1)→k+1≤st.1.length→(∀ a ∈ st.2,a.f0≤((k+1:Nat):Int)) → ∃ r:List (List Int) × List ArcT × Int,Evt (fun z=>spec_l4Explore.l0 z b ((k+1:Nat):Int) p ts st.1 st.2) r∧Evt (fun z=>impl_explore.l0 z b ((k+1:Nat):Int) p ts st.1 st.2) r∧EndOk p ts b r) :
    ∀ j,j≤E.length → ∀ st:List (List Int) × List ArcT,SpaceOk p ts b st.1 st.2→st.2.length≤24*k+j→(∃ h:k<st.1.length,st.1[k]=x)→(∀ a ∈ st.2,a.f0≤(k:Int)) →
      ∃ r:List (List Int) × List ArcT × Int,Evt (fun z=>spec_l4Explore.l1 z b (k:Int) E (E.length:Int) (j:Int) p ts st.1 st.2) r∧Evt (fun z=>impl_explore.l1 z b (k:Int) E (E.length:Int) (j:Int) p ts st.1 st.2) r∧EndOk p ts b r:=by
  have hmb:=goodMark_bounds hx
  have hin:=good_inNet hg x.length (by omega)
  have hf:=goodNet_facts hg
  have hxs:Short x:=by show x.length≤_;omega
  refine down (P:=fun j (st:List (List Int) × List ArcT)=>SpaceOk p ts b st.1 st.2→st.2.length≤24*k+j→(∃ h:k<st.1.length,st.1[k]=x)→(∀ a ∈ st.2,a.f0≤(k:Int)) →
      ∃ r:List (List Int) × List ArcT × Int,Evt (fun z=>spec_l4Explore.l1 z b (k:Int) E (E.length:Int) (j:Int) p ts st.1 st.2) r∧Evt (fun z=>impl_explore.l1 z b (k:Int) E (E.length:Int) (j:Int) p ts st.1 st.2) r∧EndOk p ts b r) ?_ ?_
  · rintro ⟨M,A⟩ g1 g2 ⟨g3,g4⟩ g5
    have g2' : A.length≤24*k+E.length:=g2
    have g3' : k<M.length:=g3
    obtain ⟨r,e1,e2,e3⟩:=ih (M,A) g1 (by show A.length≤24*(k+1);omega) (by show k+1≤M.length;omega) (fun a ha=>by have:a.f0≤(k:Int):=g5 a ha;omega)
    have ew:wrap64 ((k:Int)+1)=((k+1:Nat):Int):=wrapN k 401 hk401 (by omega)
    refine ⟨r,Evt.step ?_,Evt.step ?_,e3⟩
    · simp only [spec_l4Explore.l1]
      rw [ew];exact Evt.neg (natNotLt _) e1
    · simp only [impl_explore.l1]
      rw [ew];exact Evt.neg (natNotLt _) e2
  · rintro j hj ihj ⟨M,A⟩ g1 g2 ⟨g3,g4⟩ g5
    have g5' : ∀ a ∈ A,a.f0≤(k:Int):=g5
    have g6:∀ (y:ArcT),y.f0=(k:Int) → ∀ a ∈ A ++ [y],a.f0≤(k:Int):=fun y hy a ha=>by
      rcases List.mem_append.1 ha with ha|ha
      · exact g5' a ha
      · rw [List.mem_singleton.1 ha,hy];exact Int.le_refl _
    have g3' : k<M.length:=g3
    have g4' : M[k]=x:=g4
    have g2' : A.length≤24*k+j:=g2
    have gm:(M.length:Int)≤b:=g1.most
    obtain ⟨q,eq0,hqn⟩:=hE j hj
    have er:rd_T105 ts (q:Int)=ts[q]:=rdG ts _ q hqn
    have eM:rd_L1 M (k:Int)=x:=by rw [rdL M k g3',g4']
    have hsm:SmallT ts[q]:=hs.2 _ (List.getElem_mem hqn)
    obtain ⟨m,hm1,hm2⟩:=l2Fire_ex ts[q] x hsm (hin _ (List.getElem_mem hqn)) hxs
    have hms:Short m:=by show m.length≤_;omega
    have hgm:=goodMark_same hx hm2
    have hMs:Short M:=by show M.length≤_;omega
    have hMl:∀ y ∈ M,Short y:=fun y hy=>by have:=goodMark_bounds (g1.good y hy);show y.length≤_;omega
    have hj2:E.length≤4611686018427387904:=by omega
    obtain ⟨at1,f1,f2⟩:=l4Find_ex M m hMs hMl
    obtain ⟨at2,f3,f4⟩:=find_ex M A (fun z=>impl_Space_find.f z M A m) m hMs hMl (fun z=>by simp only [impl_Space_find.f])
    have eat:=isAt_unique f2 f4
    subst eat
    have hm1' : Evt (fun z=>impl_fired.f z ts[q].f0 ts[q].f1 ts[q].f2 x) m:=hm1.fn (fun z=>fired_f z _ _ _ _)
    have hc2:Evt (fun z=>impl_allWithin.f z m 0 50) (allIn m 0 50):=allWithin_ev m 0 50 hms
    have hc1:Evt (fun z=>spec_GoodMark.f z p m) (allIn m 0 50):=(specGoodMark_ev p m hms).cast hgm
    have hAl:A.length<5864062014805:=by omega
    have hMl2:M.length<5864062014805:=by omega
    have a0:(j:Int)<(E.length:Int):=by omega
    have a1:(0:Int)≤(j:Int):=by omega
    have a3:(0:Int)≤(q:Int):=by omega
    have a4:(q:Int)<(ts.length:Int):=by omega
    have a5:(0:Int)≤(k:Int):=by omega
    have a6:(k:Int)<(M.length:Int):=by omega
    cases hok:allIn m 0 50 with
    | false =>
      refine ⟨([],[],3),Evt.step ?_,Evt.step ?_,fun h=>(by cases h),fun _=>⟨rfl,rfl⟩⟩
      · exact specE_step p ts b k j q at1 _ _ M A m a0 a1 a0 eq0 a3 a4 a5 a6 _ er _ eM false hm1 (hc1.cast hok) f1 _ (fun _=>rfl) (fun h=>by cases h) (fun h=>by cases h)
      · exact implE_step p ts b k j q at1 _ _ M A m a0 a1 a0 eq0 a3 a4 a5 a6 _ er _ eM false hm1' (hc2.cast hok) f3 hAl hMl2 _ (fun _=>rfl) (fun h=>by cases h) (fun h=>by cases h) (fun h=>by cases h)
    | true =>
      have hgood:=hgm.trans hok
      by_cases hneg:at1<0
      · by_cases hfull:(M.length:Int)=b
        · refine ⟨([],[],2),Evt.step ?_,Evt.step ?_,fun h=>(by cases h),fun _=>⟨rfl,rfl⟩⟩
          · exact specE_step p ts b k j q at1 _ _ M A m a0 a1 a0 eq0 a3 a4 a5 a6 _ er _ eM true hm1 (hc1.cast hok) f1 _ (fun h=>by cases h) (fun _ _=>specE_full p ts b k j q at1 _ _ M A m hneg hfull) (fun _ h=>absurd hneg h)
          · exact implE_step p ts b k j q at1 _ _ M A m a0 a1 a0 eq0 a3 a4 a5 a6 _ er _ eM true hm1' (hc2.cast hok) f3 hAl hMl2 _ (fun h=>by cases h) (fun _ _ _=>rfl) (fun _ _ h=>absurd (Int.le_of_eq hfull.symm) h) (fun _ h=>absurd hneg h)
        · have hlt:(M.length:Int)<b:=by omega
          obtain ⟨r,e1,e2,e3⟩:=ihj (M ++ [m],A ++ [(⟨(k:Int),(q:Int),(M.length:Int)⟩:ArcT)]) (space_new g1 hgood hlt ⟨a5,a6⟩ ⟨a3,a4⟩ g5' (isAt_not f2 hneg))
            (by show (A ++ [_]).length≤_;rw [List.length_append,List.length_singleton];omega) ⟨by show k<(M ++ [m]).length;rw [List.length_append];omega,by show (M ++ [m])[k]'_=_;rw [List.getElem_append_left g3'];exact g4'⟩ (g6 _ rfl)
          rw [← wrapN j _ hj hj2] at e1 e2
          refine ⟨r,Evt.step ?_,Evt.step ?_,e3⟩
          · exact specE_step p ts b k j q at1 _ _ M A m a0 a1 a0 eq0 a3 a4 a5 a6 _ er _ eM true hm1 (hc1.cast hok) f1 _ (fun h=>by cases h) (fun _ _=>specE_new p ts b k j q at1 _ _ M A m hneg hfull hAl hMl2 r e1) (fun _ h=>absurd hneg h)
          · exact implE_step p ts b k j q at1 _ _ M A m a0 a1 a0 eq0 a3 a4 a5 a6 _ er _ eM true hm1' (hc2.cast hok) f3 hAl hMl2 _ (fun h=>by cases h) (fun _ _ h=>absurd hlt (Int.not_lt.2 h)) (fun _ _ _=>e2) (fun _ h=>absurd hneg h)
      · have hat:=isAt_lt f2 hneg
        obtain ⟨r,e1,e2,e3⟩:=ihj (M,A ++ [(⟨(k:Int),(q:Int),at1⟩:ArcT)]) (space_old g1 ⟨a5,a6⟩ ⟨a3,a4⟩ ⟨by omega,hat⟩ g5')
          (by show (A ++ [_]).length≤_;rw [List.length_append,List.length_singleton];omega) ⟨g3,g4⟩ (g6 _ rfl)
        rw [← wrapN j _ hj hj2] at e1 e2
        refine ⟨r,Evt.step ?_,Evt.step ?_,e3⟩
        · exact specE_step p ts b k j q at1 _ _ M A m a0 a1 a0 eq0 a3 a4 a5 a6 _ er _ eM true hm1 (hc1.cast hok) f1 _ (fun h=>by cases h) (fun _ h=>absurd h hneg) (fun _ _=>specE_old p ts b k j q at1 _ _ M A m hneg hAl r e1)
        · exact implE_step p ts b k j q at1 _ _ M A m a0 a1 a0 eq0 a3 a4 a5 a6 _ er _ eM true hm1' (hc2.cast hok) f3 hAl hMl2 _ (fun h=>by cases h) (fun _ h=>absurd h hneg) (fun _ h=>absurd h hneg) (fun _ _=>e2)
theorem explore_loop (p:Int) (ts:List Tr) (b:Int) (hs:SmallN ts) (hg:goodNet p ts=true) (hb:1≤b∧b≤400):∀ k,k≤401 → ∀ st:List (List Int) × List ArcT,SpaceOk p ts b st.1 st.2→st.2.length≤24*k→k≤st.1.length→(∀ a ∈ st.2,a.f0≤(k:Int)) →
    ∃ r:List (List Int) × List ArcT × Int,Evt (fun z=>spec_l4Explore.l0 z b (k:Int) p ts st.1 st.2) r∧Evt (fun z=>impl_explore.l0 z b (k:Int) p ts st.1 st.2) r∧EndOk p ts b r:=by
  have hf:=goodNet_facts hg
  have hl:=hs.1
  have done:∀ k (st:List (List Int) × List ArcT),SpaceOk p ts b st.1 st.2→st.2.length≤24*k→k≤st.1.length → ¬ k<st.1.length → ∃ r:List (List Int) × List ArcT × Int,Evt (fun z=>spec_l4Explore.l0 z b (k:Int) p ts st.1 st.2) r∧Evt (fun z=>impl_explore.l0 z b (k:Int) p ts st.1 st.2) r∧EndOk p ts b r:=by
    intro k st h1 h2 hk hn
    have hm:=h1.most
    refine ⟨(st.1,st.2,1),Evt.step ?_,Evt.step ?_,fun _=>⟨h1,by show st.2.length≤9600;omega⟩,fun h=>absurd rfl h⟩
    · simp only [spec_l4Explore.l0];exact Evt.neg (by omega) (Evt.ok _)
    · simp only [impl_explore.l0];exact Evt.neg (by omega) (Evt.ok _)
  refine down (P:=fun k (st:List (List Int) × List ArcT)=>SpaceOk p ts b st.1 st.2→st.2.length≤24*k→k≤st.1.length→(∀ a ∈ st.2,a.f0≤(k:Int)) →
    ∃ r:List (List Int) × List ArcT × Int,Evt (fun z=>spec_l4Explore.l0 z b (k:Int) p ts st.1 st.2) r∧Evt (fun z=>impl_explore.l0 z b (k:Int) p ts st.1 st.2) r∧EndOk p ts b r) ?_ ?_
  · intro st h1 h2 hk _
    exact done 401 st h1 h2 hk (by have:=h1.most;omega)
  · rintro k hk401 ih ⟨M0,A0⟩ h1 h2 hk h5
    by_cases hlt:k<M0.length
    · have hmk:=h1.good M0[k] (List.getElem_mem hlt)
      have hmb:=goodMark_bounds hmk
      have hin:=good_inNet hg M0[k].length (by omega)
      have hEl:=enabledL_length ts M0[k]
      have hM0:=h1.most
      obtain ⟨r,e1,e2,e3⟩:=explore_row p ts b hs hg hb k hk401 M0[k] hmk (enabledL ts M0[k]) hEl (fun j hj=>enabledL_at ts M0[k] j hj) ih 0 (Nat.zero_le _) (M0,A0) h1 (by simpa using h2) ⟨hlt,rfl⟩ h5
      have eM:rd_L1 M0 (k:Int)=M0[k]:=rdL M0 k hlt
      refine ⟨r,Evt.step ?_,Evt.step ?_,e3⟩
      · simp only [spec_l4Explore.l0,eM]
        exact Evt.pos (by omega) (Evt.pos (by omega) (Evt.bind (l2Enabled_ev p ts M0[k] hs hin) e1))
      · simp only [impl_explore.l0,eM]
        exact Evt.pos (by omega) (Evt.pos (by omega) (Evt.bind (enabled_ev p ts M0[k] hs hin) e2))
    · exact done k (M0,A0) h1 h2 hk hlt
theorem explore_ex (p:Int) (ts:List Tr) (m:List Int) (b:Int) (hs:SmallN ts) (hg:goodNet p ts=true) (hm:goodMark p m=true) (hb:1≤b∧b≤400) :
    ∃ r:List (List Int) × List ArcT × Int,Evt (fun z=>spec_l4Explore.f z p ts m b) r∧Evt (fun z=>impl_explore.f z p ts m b) r∧EndOk p ts b r:=by
  have hmb:=goodMark_bounds hm
  obtain ⟨r,e1,e2,e3⟩:=explore_loop p ts b hs hg hb 0 (Nat.zero_le _) ([m],[]) ⟨by show 1≤1;omega,by show ((1:Nat):Int)≤b;omega,fun x hx=>by rw [List.mem_singleton.1 hx];exact hm,fun a ha=>(by cases ha),⟨List.Pairwise.nil,fun u h1 h2=>(by have h2' : u<((1:Nat):Int):=h2;omega)⟩,List.pairwise_singleton _ _⟩ (by show 0≤_;omega) (Nat.zero_le _) (fun a ha=>by cases ha)
  refine ⟨r,?_,?_,e3⟩
  · unfold spec_l4Explore.f
    refine Evt.bind0 (a:=m) ?_ e1
    simp only [spec_l1Own.f,Option.bind_some,List.nil_append,List.length_nil,Nat.zero_add]
    exact if_pos (by omega)
  · unfold impl_explore.f
    refine Evt.bind0 (a:=m) ?_ e2
    simp only [slices_Clone_int_int.f,Option.bind_some,List.nil_append,List.length_nil,Nat.zero_add]
    exact if_pos (by omega)
end Go.Proofs.Ytiglhdibibbkjaa.Lib
