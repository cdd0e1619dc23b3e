import Derived.Test.YtiglhdibibbkjaaF0
import Derived.Test.YtiglhdibibbkjaaF2
import Derived.Test.YtiglhdibibbkjaaF3
import Derived.Test.YtiglhdibibbkjaaF4
import Derived.Test.YtiglhdibibbkjaaF8
import Derived.Test.YtiglhdibibbkjaaF9
import Derived.Test.YtiglhdibibbkjaaF10
import Derived.Test.YtiglhdibibbkjaaGoodFlow
import Derived.Test.YtiglhdibibbkjaaWay
import Derived.Test.YtiglhdibibbkjaaLead
import Derived.Test.YtiglhdibibbkjaaDead
import Derived.Test.YtiglhdibibbkjaaOver
import Derived.Test.YtiglhdibibbkjaaOne
namespace Go.Proofs.Ytiglhdibibbkjaa.Lib
open Go.RowKit Go.Proofs.Ytiglhdibibbkjaa.F Go.Proofs.YtiglhdibibbkjaaW.PrintWords Go.Proofs.YtiglhdibibbkjaaW.PrintLast Go.Proofs.YtiglhdibibbkjaaW.PrintMore
abbrev VT:=Int × Int × List Int × Int
theorem allId_iff (R:List Bool):R.all id=true ↔ ∀ i (h:i<R.length),R[i]=true:=by
  rw [List.all_eq_true]
  constructor
  · intro h i hi;exact h _ (List.getElem_mem hi)
  · intro h x hx
    obtain ⟨i,hi,rfl⟩:=List.getElem_of_mem hx
    exact h i hi
section
variable (p:Int) (ts:List Tr) (u v:Int) (M:List (List Int)) (A:List ArcT) (en:List Int)
theorem check0_ev (R:List Bool) (hR:R.length≤1000) (r:VT) (h1:R.all id=true→Evt (fun k=>spec_l9Check.l1 k en M (M.length:Int) 0 p ts u v M A) r)
    (h2:∀ i (h:i<R.length),R[i]=false→(∀ j (hj:j<i),R[j]'(by omega)=true)→Evt (fun k=>(spec_l4Way.f k M A (i:Int)).bind fun t=>some ((2,1,t,0):VT)) r) :
    Evt (fun k=>spec_l9Check.l0 k en R (R.length:Int) 0 p ts u v M A) r:=by
  have key:∀ i,i≤R.length → ∀ _:Unit,(∀ j (hj:j<i) (h:j<R.length),R[j]=true)→Evt (fun k=>spec_l9Check.l0 k en R (R.length:Int) (i:Int) p ts u v M A) r:=by
    refine down (P:=fun i _=>(∀ j (hj:j<i) (h:j<R.length),R[j]=true)→Evt (fun k=>spec_l9Check.l0 k en R (R.length:Int) (i:Int) p ts u v M A) r) ?_ ?_
    · intro _ h
      refine Evt.step ?_
      simp only [spec_l9Check.l0]
      exact Evt.neg (natNotLt _) (h1 ((allId_iff R).2 fun i hi=>h i hi hi))
    · intro i hi ih _ h
      have eb:rdOf false R (i:Int)=R[i]:=by unfold rdOf;rw [Int.toNat_natCast,getDN R false i hi]
      refine Evt.step ?_
      simp only [spec_l9Check.l0,eb]
      rw [wrapN i _ hi (by omega)]
      refine Evt.pos (natLt _ _ hi) (Evt.pos (by omega) (Evt.pos (natLt _ _ hi) ?_))
      cases c:R[i] with
      | true =>
        refine Evt.pos rfl (ih () fun j hj hjl=>?_)
        by_cases e:j=i
        · subst e;exact c
        · exact h j (by omega) hjl
      | false=>exact Evt.neg (by decide) (h2 i hi c fun j hj=>h j hj (by omega))
  exact key 0 (Nat.zero_le _) () (fun j hj=>by omega)
def past (en m:List Int):Bool:=over en.length m en && !decide (m=en)
theorem check1_ev (hM:M.length≤1000) (hl:∀ m ∈ M,m.length=en.length) (he:en.length≤16) (r:VT) (h1:(∀ m ∈ M,past en m=false)→Evt (fun k=>(spec_l4Dead.f k p ts M A).bind fun t344=>(if (t344.length:Int) > 0 then (if 0<(t344.length:Int) then (some ((2,3,([]:List Int),rd t344 0):VT)) else (none)) else (some ((1,0,([]:List Int),0):VT)))) r)
    (h2:∀ i (h:i<M.length),past en M[i]=true→(∀ j (hj:j<i),past en (M[j]'(by omega))=false)→Evt (fun k=>(spec_l4Way.f k M A (i:Int)).bind fun t=>some ((2,2,t,0):VT)) r) :
    Evt (fun k=>spec_l9Check.l1 k en M (M.length:Int) 0 p ts u v M A) r:=by
  have hse:Short en:=by show en.length≤_;omega
  have key:∀ i,i≤M.length → ∀ _:Unit,(∀ j (hj:j<i) (h:j<M.length),past en M[j]=false)→Evt (fun k=>spec_l9Check.l1 k en M (M.length:Int) (i:Int) p ts u v M A) r:=by
    refine down (P:=fun i _=>(∀ j (hj:j<i) (h:j<M.length),past en M[j]=false)→Evt (fun k=>spec_l9Check.l1 k en M (M.length:Int) (i:Int) p ts u v M A) r) ?_ ?_
    · intro _ h
      refine Evt.step ?_
      simp only [spec_l9Check.l1]
      exact Evt.neg (natNotLt _) (h1 fun m hm=>by
        obtain ⟨i,hi,rfl⟩:=List.getElem_of_mem hm
        exact h i hi hi)
    · intro i hi ih _ h
      have hm:=List.getElem_mem hi
      have hms:Short M[i]:=by have:=hl _ hm;show M[i].length≤_;omega
      refine Evt.step ?_
      simp only [spec_l9Check.l1,rdL M i hi]
      rw [wrapN i _ hi (by omega)]
      refine Evt.pos (natLt _ _ hi) (Evt.pos (by omega) (Evt.pos (natLt _ _ hi) (Evt.bind (l1Covers_ev M[i] en hse (by rw [hl _ hm];exact Nat.le_refl _)) ?_)))
      have go:past en M[i]=false→Evt (fun k=>spec_l9Check.l1 k en M (M.length:Int) ((i+1:Nat):Int) p ts u v M A) r:=fun hp=>ih () fun j hj hjl=>by
        by_cases e:j=i
        · subst e;exact hp
        · exact h j (by omega) hjl
      cases c:over en.length M[i] en with
      | false=>exact Evt.neg (by decide) (go (by unfold past;rw [c];rfl))
      | true =>
        refine Evt.pos rfl (Evt.bind (l1Same_ev M[i] en hms) ?_)
        by_cases d:M[i]=en
        · exact Evt.pos (decide_eq_true d) (go (by unfold past;rw [c,decide_eq_true d];rfl))
        · exact Evt.neg (by simpa using d) (h2 i hi (by unfold past;rw [c,decide_eq_false d];rfl) fun j hj=>h j hj (by omega))
  exact key 0 (Nat.zero_le _) () (fun j hj=>by omega)
end
structure SoundSpace (p:Int) (ts:List Tr) (u v b:Int) (M:List (List Int)) (A:List ArcT):Prop where
  space:SpaceOk p ts b M A
  few:A.length≤9600
  run:Evt (fun k=>spec_l4Explore.f k p ts ((List.replicate p.toNat 0).set u.toNat 1) b) (M,A,1)
  lead:∃ (e:Int) (R:List Bool),IsAt M ((List.replicate p.toNat 0).set v.toNat 1) e∧0≤e∧Done M.length A [e] R∧R.all id=true
def verdS (k:Nat) (p:Int) (ts:List Tr) (u v b:Int):Option (Int × Int × List Int × Int × Bool):=(spec_l9Ends.f p ts u v).bind fun bt357=>((spec_l4Explore.f k p ts bt357.1 b).bind fun bt363=>(if bt363.2.2=1 then ((spec_l9Check.f k p ts u v bt363.1 bt363.2.1).bind fun bt371=>(if (bt371.2.2.1.length:Int) > 60 then (some (3,0,([]:List Int),0,true)) else (some (bt371.1,bt371.2.1,bt371.2.2.1,bt371.2.2.2,true)))) else (some (3,0,([]:List Int),0,true))))
def wrapV (V:VT):Int × Int × List Int × Int × Bool:=if (V.2.2.1.length:Int) > 60 then (3,0,[],0,true) else (V.1,V.2.1,V.2.2.1,V.2.2.2,true)
theorem verdict_ex (p:Int) (ts:List Tr) (u v b:Int) (hs:SmallN ts) (hg:goodNet p ts=true) (hu:0≤u∧u<p) (hv:0≤v∧v<p) (hb:1≤b∧b≤400) :
    ∃ (c l:Int) (w:List Int) (t:Int) (M:List (List Int)) (A:List ArcT),Evt (fun k=>verdS k p ts u v b) (c,l,w,t,true)∧Evt (fun k=>impl_checkSound.f k p ts u v b) (c,l,w,t,M,A)∧w.length≤60∧(c=1→SoundSpace p ts u v b M A):=by
  have hf:=goodNet_facts hg
  have e:=one_ev p u hf.2.1 hu
  have e':=one_ev p v hf.2.1 hv
  have eS:spec_l9Ends.f p ts u v=some ((List.replicate p.toNat 0).set u.toNat 1,(List.replicate p.toNat 0).set v.toNat 1):=by
    unfold spec_l9Ends.f
    rw [e.1,Option.bind_some,e'.1,Option.bind_some]
  have eI:impl_startOf.f p ts u v=some ((List.replicate p.toNat 0).set u.toNat 1):=by
    unfold impl_startOf.f
    rw [e.2,Option.bind_some]
  have eE:impl_endOf.f p ts u v=some ((List.replicate p.toNat 0).set v.toNat 1):=by
    unfold impl_endOf.f
    rw [e'.2,Option.bind_some]
  have lst:((List.replicate p.toNat (0:Int)).set u.toNat 1).length=p.toNat:=by rw [List.length_set,List.length_replicate]
  have len:((List.replicate p.toNat (0:Int)).set v.toNat 1).length=p.toNat:=by rw [List.length_set,List.length_replicate]
  have hgs:=one_good p u ⟨hf.1,hf.2.1⟩ hu
  have key:∀ st en:List Int,st=(List.replicate p.toNat 0).set u.toNat 1→en=(List.replicate p.toNat 0).set v.toNat 1 → 
    ∃ (c l:Int) (w:List Int) (t:Int) (M:List (List Int)) (A:List ArcT),Evt (fun k=>verdS k p ts u v b) (c,l,w,t,true)∧Evt (fun k=>impl_checkSound.f k p ts u v b) (c,l,w,t,M,A)∧w.length≤60∧(c=1→SoundSpace p ts u v b M A):=by
    intro st en hst0 hen0
    rw [← hst0] at eS eI lst hgs
    rw [← hen0] at eS eE len
    obtain ⟨⟨M,A,n⟩,x1,x2,x3⟩:=explore_ex p ts st b hs hg hgs hb
    unfold verdS impl_checkSound.f
    by_cases hn:n=1
    rotate_left
    · exact ⟨3,0,[],0,M,A,Evt.bind0 eS (Evt.bind x1 (Evt.neg hn (Evt.ok _))),Evt.bind0 eI (Evt.bind x2 (Evt.neg hn (Evt.ok _))),by simp,fun h=>by omega⟩
    subst hn
    obtain ⟨hk,hA⟩:=x3.1 rfl
    have hA' : A.length≤9600:=hA
    have hmost:(M.length:Int)≤b:=hk.most
    have hone:1≤M.length:=hk.one
    have hM:Short M:=by show M.length≤_;omega
    have hml:∀ m ∈ M,m.length=en.length:=fun m hm=>by have:=(goodMark_bounds (hk.good m hm)).2.2.1;omega
    have hS:∀ m ∈ M,Short m:=fun m hm=>by have:=hml m hm;show m.length≤_;omega
    have harc:∀ a ∈ A,nd M.length a.f0∧nd M.length a.f2:=fun a ha=>⟨(hk.arcs a ha).1,(hk.arcs a ha).2.2⟩
    obtain ⟨e0,f1,f2⟩:=l4Find_ex M en hM hS
    obtain ⟨e1,f3,f4⟩:=find_ex M A (fun z=>impl_Space_find.f z M A en) en hM hS (fun z=>by simp only [impl_Space_find.f])
    have ee:=isAt_unique f2 f4
    subst ee
    have bound:∀ K:List Int,(∀ k ∈ K,0≤k∧k<(M.length:Int))→K.length≤1→Bound M.length A K:=fun K q1 q2=>⟨fun a ha=>harc a ha,q1,by omega,by omega,by omega⟩
    -- a way, both sides
    have way:∀ i (hi:i<M.length),∃ W:List Int,Evt (fun k=>spec_l4Way.f k M A (i:Int)) W∧Evt (fun k=>impl_Space_wayTo.f k M A M[i]) (W,true):=by
      intro i hi
      obtain ⟨W,w1,w2,w3⟩:=way_ex (n:=M.length) (M:=M) (A:=A) hk.tree harc rfl (by omega) hA' (t:=(i:Int)) ⟨by omega,by omega⟩
      refine ⟨W,w1,?_⟩
      obtain ⟨q,q1,q2⟩:=find_ex M A (fun z=>impl_Space_find.f z M A M[i]) M[i] hM hS (fun z=>by simp only [impl_Space_find.f])
      have eq:q=(i:Int):=by
        have h0:¬ q<0:=fun h=>isAt_not q2 h (List.getElem_mem hi)
        obtain ⟨j,rfl⟩:∃ j:Nat,q=(j:Int):=⟨q.toNat,by omega⟩
        obtain ⟨hj,g1,_⟩:=q2.2.1 j rfl
        have e:=of_decide_eq_true g1
        have hp:=List.pairwise_iff_getElem.1 hk.uniq
        rcases Nat.lt_trichotomy i j with c|c|c
        · exact (hp i j hi hj c e.symm).elim
        · omega
        · exact (hp j i hj hi c e).elim
      unfold impl_Space_wayTo.f
      rw [← eq] at w2
      exact Evt.bind q1 (Evt.neg (by omega) w2)
    -- the tail of both sides, from the flags on
    have tail:∀ R:List Bool,R.length=M.length → ∃ (V:VT) (c l:Int) (w:List Int) (t:Int),Evt (fun k=>spec_l9Check.l0 k en R (R.length:Int) 0 p ts u v M A) V∧wrapV V=(c,l,w,t,true) ∧
        Evt (fun k=>impl_checkSound.j0 k R p ts u v M A en) (c,l,w,t,M,A)∧w.length≤60∧(c=1→R.all id=true):=by
      intro R hR
      have fin:∀ (i:Nat) (hi:i<M.length) (cl:Int),∃ (W:List Int) (c l:Int) (w:List Int),Evt (fun k=>(spec_l4Way.f k M A (i:Int)).bind fun t=>some ((2,cl,t,0):VT)) (2,cl,W,0)∧wrapV (2,cl,W,0)=(c,l,w,0,true)∧Evt (fun k=>impl_checkSound.j1 k cl (i:Int) p ts u v M A) (c,l,w,0,M,A)∧w.length≤60∧c≠1:=by
        intro i hi cl
        obtain ⟨W,w1,w2⟩:=way i hi
        by_cases hw:(W.length:Int) > 60
        · refine ⟨W,3,0,[],Evt.bind w1 (Evt.ok _),by unfold wrapV;rw [if_pos hw],Evt.step ?_,by simp,by omega⟩
          simp only [impl_checkSound.j1,rdL M i hi]
          exact Evt.pos (by omega) (Evt.pos (by omega) (Evt.pos (by omega) (Evt.bind w2 (Evt.pos hw (Evt.ok _)))))
        · refine ⟨W,2,cl,W,Evt.bind w1 (Evt.ok _),by unfold wrapV;rw [if_neg hw],Evt.step ?_,by omega,by omega⟩
          simp only [impl_checkSound.j1,rdL M i hi]
          exact Evt.pos (by omega) (Evt.pos (by omega) (Evt.pos (by omega) (Evt.bind w2 (Evt.neg hw (Evt.ok _)))))
      obtain ⟨i1,a1,a2,a3,a4⟩:=indexFunc_gen (fun _ x=>some (false == x)) (fun x=>false == x) (rdOf false R) (fun k i=>slices_Index_bool_bool.l0 k R false (R.length:Int) i) R (fun k i=>by simp only [slices_Index_bool_bool.l0,Option.bind_some]) (fun x _=>Evt.ok _) (fun i hi=>by unfold rdOf;rw [Int.toNat_natCast,getDN R false i hi]) (by show R.length≤_;omega)
      have a1' : Evt (fun k=>slices_Index_bool_bool.f k R false) i1:=by unfold slices_Index_bool_bool.f;exact a1
      by_cases h1:i1<0
      · have hall:R.all id=true:=by
          rw [decide_eq_false (show ¬ i1 ≥ 0 by omega)] at a2
          refine (allId_iff R).2 fun i hi=>?_
          have:=List.any_eq_false.1 a2.symm R[i] (List.getElem_mem hi)
          cases c:R[i] with
          | true=>rfl
          | false=>rw [c] at this;exact (this rfl).elim
        -- the second clause
        obtain ⟨i2,b1,b2,b3,b4⟩:=indexFunc_gen (fun k x=>impl_checkSound_1.f k x en) (fun x=>past en x) (rd_L1 M) (fun k i=>slices_IndexFunc_int_int_at_impl_checkSound_1.l0 k M (M.length:Int) i en) M (fun k i=>by simp only [slices_IndexFunc_int_int_at_impl_checkSound_1.l0]) (fun x hx=>by
            unfold impl_checkSound_1.f impl_isOver.f
            have hxl:=hml x hx
            refine Evt.bind (a:=past en x) (Evt.bind ((covers_ev x en (hS x hx) (by omega)).cast (by rw [hxl])) ?_) (Evt.ok _)
            cases c:over en.length x en with
            | false=>exact Evt.neg (by decide) ((Evt.ok _).cast (by unfold past;rw [c];rfl))
            | true=>exact Evt.pos rfl (Evt.bind (sEqual_ev x en (hS x hx)) ((Evt.ok _).cast (by unfold past;rw [c];rfl)))) (fun i hi=>rdL M i hi) hM
        have b1' : Evt (fun k=>slices_IndexFunc_int_int_at_impl_checkSound_1.f k M en) i2:=by unfold slices_IndexFunc_int_int_at_impl_checkSound_1.f;exact b1
        have toI:∀ r,Evt (fun k=>impl_checkSound.j1 k 2 i2 p ts u v M A) r→Evt (fun k=>impl_checkSound.j0 k R p ts u v M A en) r:=fun r hr=>by
          refine Evt.step ?_
          simp only [impl_checkSound.j0]
          exact Evt.bind a1' (Evt.pos h1 (Evt.bind b1' hr))
        by_cases h2:i2<0
        · have hno:∀ m ∈ M,past en m=false:=fun m hm=>by
            rw [decide_eq_false (show ¬ i2 ≥ 0 by omega)] at b2
            have:=List.any_eq_false.1 b2.symm m hm
            simpa using this
          have d1:=l4Dead_ev p ts M A hs hA'
          have d2:=deadTrans_ev p ts M A hs hA'
          by_cases hd:((deadL A ts.length).length:Int) > 0
          · refine ⟨(2,3,[],rd (deadL A ts.length) 0),2,3,[],rd (deadL A ts.length) 0,(check0_ev p ts u v M A en R (by omega) _ (fun _=>check1_ev p ts u v M A en (by omega) hml (by omega) _ (fun _=>Evt.bind d1 (Evt.pos hd (Evt.pos (by omega) (Evt.ok _)))) (fun i hi hp _=>by rw [hno _ (List.getElem_mem hi)] at hp;cases hp)) (fun i hi hp _=>by rw [(allId_iff R).1 hall i hi] at hp;cases hp)),rfl,toI _ (Evt.step ?_),by simp,fun h=>by omega⟩
            simp only [impl_checkSound.j1]
            exact Evt.neg (by omega) (Evt.bind d2 (Evt.pos hd (Evt.pos (by omega) (Evt.ok _))))
          · refine ⟨(1,0,[],0),1,0,[],0,(check0_ev p ts u v M A en R (by omega) _ (fun _=>check1_ev p ts u v M A en (by omega) hml (by omega) _ (fun _=>Evt.bind d1 (Evt.neg hd (Evt.ok _))) (fun i hi hp _=>by rw [hno _ (List.getElem_mem hi)] at hp;cases hp)) (fun i hi hp _=>by rw [(allId_iff R).1 hall i hi] at hp;cases hp)),rfl,toI _ (Evt.step ?_),by simp,fun _=>hall⟩
            simp only [impl_checkSound.j1]
            exact Evt.neg (by omega) (Evt.bind d2 (Evt.neg hd (Evt.ok _)))
        · obtain ⟨i,rfl⟩:∃ i:Nat,i2=(i:Int):=⟨i2.toNat,by omega⟩
          obtain ⟨hi,g1,g2⟩:=b3 i rfl
          obtain ⟨W,c,l,w,s1,s2,s3,s4,s5⟩:=fin i hi 2
          refine ⟨(2,2,W,0),c,l,w,0,(check0_ev p ts u v M A en R (by omega) _ (fun _=>check1_ev p ts u v M A en (by omega) hml (by omega) _ (fun hno=>by rw [hno _ (List.getElem_mem hi)] at g1;cases g1) (fun i' hi' hp hq=>?_)) (fun i hi hp _=>by rw [(allId_iff R).1 hall i hi] at hp;cases hp)),s2,toI _ s3,s4,fun h=>(s5 h).elim⟩
          have:i' = i:=by
            rcases Nat.lt_trichotomy i i' with c|c|c
            · have:=hq i c;rw [g1] at this;cases this
            · exact c.symm
            · have:=g2 i' c;rw [hp] at this;cases this
          rw [this];exact s1
      · obtain ⟨i,rfl⟩:∃ i:Nat,i1=(i:Int):=⟨i1.toNat,by omega⟩
        obtain ⟨hi,g1,g2⟩:=a3 i rfl
        have gf:∀ j (h:j<R.length),(false == R[j])=true→R[j]=false:=fun j h hh=>by cases c:R[j] with
          | false=>rfl
          | true=>rw [c] at hh;cases hh
        obtain ⟨W,c,l,w,s1,s2,s3,s4,s5⟩:=fin i (by omega) 1
        refine ⟨(2,1,W,0),c,l,w,0,(check0_ev p ts u v M A en R (by omega) _ (fun hall=>by have:=(allId_iff R).1 hall i hi;rw [gf i hi g1] at this;cases this) (fun i' hi' hp hq=>?_)),s2,Evt.step ?_,s4,fun h=>(s5 h).elim⟩
        · have:i' = i:=by
            rcases Nat.lt_trichotomy i i' with c|c|c
            · have:=hq i c;rw [gf i hi g1] at this;cases this
            · exact c.symm
            · have:=g2 i' c;rw [hp] at this;cases this
          rw [this];exact s1
        · simp only [impl_checkSound.j0]
          exact Evt.bind a1' (Evt.neg h1 s3)
    have wrapE:∀ V:VT,Evt (fun _=>(if (V.2.2.1.length:Int) > 60 then (some ((3,0,([]:List Int),0,true):Int × Int × List Int × Int × Bool)) else (some (V.1,V.2.1,V.2.2.1,V.2.2.2,true)))) (wrapV V):=fun V=>by
      unfold wrapV
      by_cases h:(V.2.2.1.length:Int) > 60
      · simp only [if_pos h];exact Evt.ok _
      · simp only [if_neg h];exact Evt.ok _
    have hn0:(0:Int)≤(M.length:Int):=by omega
    have hn1:((M.length:Int):Int).toNat≤281474976710656:=by rw [Int.toNat_natCast];omega
    by_cases h0:e0 ≥ 0
    · have hlt:=isAt_lt f2 (by omega)
      obtain ⟨R,g1,g2,g3⟩:=lead_ex (bound [e0] (fun k hk=>by rw [List.mem_singleton.1 hk];exact ⟨h0,hlt⟩) (by simp))
      obtain ⟨V,c,l,w,t,v1,v2,v3,v4,v5⟩:=tail R g3.fl.len
      refine ⟨c,l,w,t,M,A,Evt.bind0 eS (Evt.bind x1 (Evt.pos rfl (Evt.bind (a:=V) ?_ ((wrapE V).cast v2)))),Evt.bind0 eI (Evt.bind x2 (Evt.pos rfl (Evt.bind0 eE (Evt.pos hn0 (Evt.pos hn1 (Evt.bind f3 (Evt.pos h0 (Evt.bind g2 v3)))))))),v4,fun hc=>⟨hk,hA,by rw [← hst0];exact x1,e0,R,by rw [← hen0];exact f2,h0,g3,v5 hc⟩⟩
      unfold spec_l9Check.f
      refine Evt.bind0 eS (Evt.bind f1 (Evt.pos h0 (Evt.pos (by simp) (Evt.step ?_))))
      simp only [spec_l9Check.j0,List.nil_append]
      exact Evt.bind g1 v1
    · obtain ⟨R,g1,_,g3⟩:=lead_ex (bound [] (fun k hk=>by cases hk) (by simp))
      have eR:R=List.replicate M.length false:=g3.unique ⟨Fl.zero _ _ _,fun k hk=>(by cases hk),fun a _ h=>(by
        unfold rdOf at h
        rw [List.getD_eq_getElem?_getD,List.getElem?_replicate] at h
        split at h <;> cases h)⟩
      obtain ⟨V,c,l,w,t,v1,v2,v3,v4,v5⟩:=tail R g3.fl.len
      refine ⟨c,l,w,t,M,A,Evt.bind0 eS (Evt.bind x1 (Evt.pos rfl (Evt.bind (a:=V) ?_ ((wrapE V).cast v2)))),Evt.bind0 eI (Evt.bind x2 (Evt.pos rfl (Evt.bind0 eE (Evt.pos hn0 (Evt.pos hn1 (Evt.bind f3 (Evt.neg h0 ?_))))))),v4,fun hc=>?_⟩
      · unfold spec_l9Check.f
        refine Evt.bind0 eS (Evt.bind f1 (Evt.neg h0 (Evt.step ?_)))
        simp only [spec_l9Check.j0]
        exact Evt.bind g1 v1
      · rw [Int.toNat_natCast,← eR];exact v3
      · have:=v5 hc
        rw [eR] at this
        have h1:=(allId_iff _).1 this 0 (by rw [List.length_replicate];omega)
        rw [List.getElem_replicate] at h1;cases h1
  exact key _ _ rfl rfl
end Go.Proofs.Ytiglhdibibbkjaa.Lib
