import Derived.Test.YtbkjgnfnjgebiaaF2
import Derived.Test.YtbkjgnfnjgebiaaF3
import Derived.Test.YtbkjgnfnjgebiaaF5
import Derived.Test.YtbkjgnfnjgebiaaF6
import Derived.Test.YtbkjgnfnjgebiaaCertTail
import Derived.Test.YtbkjgnfnjgebiaaOneEv
namespace Go.Proofs.Ytbkjgnfnjgebiaa.Lib
open Go.RowKit Go.Proofs.Ytbkjgnfnjgebiaa.F Go.Proofs.YtbkjgnfnjgebiaaW.PrintWords Go.Proofs.YtbkjgnfnjgebiaaW.PrintLast Go.Proofs.YtbkjgnfnjgebiaaW.PrintMore
theorem lexL_self:∀ a:List Int,¬ lexL a a<0
  | []=>by simp [lexL]
  | x :: a=>by simp only [lexL,Int.lt_irrefl,gt_iff_lt,if_false];exact lexL_self a
theorem lexL_trans:∀ a b c:List Int,a.length=b.length→b.length=c.length→lexL a b<0→lexL b c<0→lexL a c<0
  | [],[],[],_,_,h,_=>by simp [lexL] at h
  | x :: a,y :: b,z :: c,h1,h2,p,q=>by
    simp only [lexL,gt_iff_lt] at p q ⊢
    rcases Int.lt_trichotomy x y with e|e|e
    · rcases Int.lt_trichotomy y z with f|f|f
      · rw [if_pos (by omega)];decide
      · rw [if_pos (by omega)];decide
      · rw [if_neg (by omega),if_pos f] at q;omega
    · subst e
      rw [if_neg (by omega),if_neg (by omega)] at p
      rcases Int.lt_trichotomy x z with f|f|f
      · rw [if_pos f];decide
      · subst f
        rw [if_neg (by omega),if_neg (by omega)] at q ⊢
        exact lexL_trans a b c (by simpa using h1) (by simpa using h2) p q
      · rw [if_neg (by omega),if_pos f] at q;omega
    · rw [if_neg (by omega),if_pos e] at p;omega
  | [],_ :: _,_,h,_,_,_=>by simp at h
  | _ :: _,[],_,h,_,_,_=>by simp at h
  | [],[],_ :: _,_,h,_,_=>by simp at h
  | _ :: _,_ :: _,[],_,h,_,_=>by simp at h
structure Formed (p:Int) (M:List (List Int)) (S R:List Int):Prop where
  one:1≤M.length
  most:M.length≤400
  steps:S.length=M.length
  ranks:R.length=M.length
  good:∀ m ∈ M,goodMark p m=true
  dist:Dist M
theorem formed_facts {p:Int} {M:List (List Int)} {S R:List Int} (h:formed p M S R=true):Formed p M S R:=by
  unfold formed at h
  simp only [Bool.and_eq_true,decide_eq_true_eq] at h
  obtain ⟨⟨⟨⟨⟨h1,h2⟩,h3⟩,h4⟩,h5⟩,h6⟩:=h
  have hb:=within_bounds h1
  have at_:∀ i,(hi:i<M.length)→goodMark p M[i]=true∧(0<i→lexL (M.getD (i - 1) []) M[i]<0):=by
    intro i hi
    have:=List.all_eq_true.1 h6 i (List.mem_range.2 hi)
    simp only [formAt,getDN M [] i hi,Bool.and_eq_true,Bool.or_eq_true,decide_eq_true_eq] at this
    exact ⟨this.1,fun h0=>this.2.resolve_left (by omega)⟩
  have hg:∀ m ∈ M,goodMark p m=true:=fun m hm=>by
    obtain ⟨i,hi,rfl⟩:=List.getElem_of_mem hm
    exact (at_ i hi).1
  have hl:∀ i,(hi:i<M.length)→((M[i]).length:Int)=p:=fun i hi=>(goodMark_bounds (at_ i hi).1).2.2.1
  have lt:∀ d i,(hj:i+d+1<M.length)→lexL (M[i]'(by omega)) (M[i+d+1])<0:=by
    intro d
    induction d with
    | zero =>
      intro i hj
      have:=(at_ (i+1) (by omega)).2 (by omega)
      rw [show i+1 - 1=i by omega,getDN M [] i (by omega)] at this
      exact this
    | succ d ih =>
      intro i hj
      have a:=ih i (by omega)
      have b:=(at_ (i+d+1+1) (by omega)).2 (by omega)
      rw [show i+d+1+1 - 1=i+d+1 by omega,getDN M [] (i+d+1) (by omega)] at b
      have e1:=hl i (by omega)
      have e2:=hl (i+d+1) (by omega)
      have e3:=hl (i+d+1+1) (by omega)
      have e4:M[i+(d+1)+1]=M[i+d+1+1]'(by omega):=rfl
      rw [e4]
      exact lexL_trans _ _ _ (by omega) (by omega) a b
  refine ⟨by omega,by omega,h2,h3,hg,fun i j hi hj e=>?_⟩
  rcases Nat.lt_trichotomy i j with c|c|c
  · exfalso
    obtain ⟨d,rfl⟩:∃ d,j=i+d+1:=⟨j - i - 1,by omega⟩
    have:=lt d i (by omega)
    rw [e] at this
    exact lexL_self _ this
  · exact c
  · exfalso
    obtain ⟨d,rfl⟩:∃ d,i=j+d+1:=⟨i - j - 1,by omega⟩
    have:=lt d j (by omega)
    rw [← e] at this
    exact lexL_self _ this
theorem core_CheckCert (p:Int) (ts:List Tr) (u v:Int) (M:List (List Int)) (S R:List Int) (hs:SmallN ts) (hM:Short M) (hMS:∀ m ∈ M,Short m) (hS:Short S) (hR:Short R):∃ x:Int × Bool,Evt (fun k=>spec_CheckCert.f k p ts u v M S R) x∧Evt (fun k=>impl_CheckCert.f k p ts u v M S R) x:=by
  obtain ⟨b,e1,e2,h⟩:=goodFlow_ex p ts u v hs
  have s1:=l9Shape_ev p ts u v M S R hM hMS hS hR
  have s2:=isFormed_ev p M S R hM hMS hS hR
  unfold spec_CheckCert.f impl_CheckCert.f impl_checkCert.f
  cases b with
  | false=>exact ⟨(0,false),Evt.bind e1 (Evt.neg (by decide) (Evt.ok _)),Evt.bind e2 (Evt.neg (by decide) (Evt.ok _))⟩
  | true =>
    obtain ⟨hg,hu,hv⟩:=h rfl
    have hfc:=goodNet_facts hg
    have o1:=one_ev p u hfc.2.1 hu
    have o2:=one_ev p v hfc.2.1 hv
    have ends:spec_l9Ends.f p ts u v=some ((List.replicate p.toNat 0).set u.toNat 1,(List.replicate p.toNat 0).set v.toNat 1):=by
      unfold spec_l9Ends.f
      rw [o1.1,o2.1]
      rfl
    have es:impl_startOf.f p ts u v=some ((List.replicate p.toNat 0).set u.toNat 1):=by unfold impl_startOf.f;rw [o1.2];rfl
    have ee:impl_endOf.f p ts u v=some ((List.replicate p.toNat 0).set v.toNat 1):=by unfold impl_endOf.f;rw [o2.2];rfl
    simp only [ends,es,ee,Option.bind_some]
    cases hf:formed p M S R with
    | false=>exact ⟨(1,true),Evt.bind e1 (Evt.pos rfl (Evt.bind (s1.cast hf) (Evt.neg (by decide) (Evt.ok _)))),Evt.bind e2 (Evt.pos rfl (Evt.bind (Evt.bind (s2.cast hf) (Evt.neg (by decide) (Evt.ok _))) (Evt.ok _)))⟩
    | true =>
      obtain ⟨f1,f2,f3,f4,f5,f6⟩:=formed_facts hf
      have lenst:((List.replicate p.toNat (0:Int)).set v.toNat 1).length=p.toNat:=by rw [List.length_set,List.length_replicate]
      have hlM:∀ m ∈ M,m.length=((List.replicate p.toNat (0:Int)).set v.toNat 1).length:=fun m hm=>by have:=goodMark_bounds (f5 m hm);rw [lenst];omega
      obtain ⟨x5,a1,a2,a3⟩:=find_both M S R ((List.replicate p.toNat 0).set u.toNat 1) f6 hM hMS
      obtain ⟨x6,b1,b2,b3⟩:=find_both M S R ((List.replicate p.toNat 0).set v.toNat 1) f6 hM hMS
      by_cases c:x5<0
      · exact ⟨(2,true),Evt.bind e1 (Evt.pos rfl (Evt.bind (s1.cast hf) (Evt.pos rfl (Evt.bind a1 (Evt.pos c (Evt.ok _)))))),Evt.bind e2 (Evt.pos rfl (Evt.bind (Evt.bind (s2.cast hf) (Evt.pos rfl (Evt.bind a2 (Evt.bind b2 (Evt.pos c (Evt.ok _)))))) (Evt.ok _)))⟩
      have h3:Len3 M.length ts.length (List.replicate M.length false,List.replicate M.length false,List.replicate ts.length false):=⟨List.length_replicate,List.length_replicate,List.length_replicate⟩
      obtain ⟨rs,ri,g1,g2,g3⟩:=arcs_both p ts u v M S R x5 x6 (List.replicate M.length false,List.replicate M.length false,List.replicate ts.length false) hs hg f2 f3 f4 f6 f5 h3 (fun A hA hok=>by
        have hl3:=Len3.fold S R A h3
        have t2:=implTail_ev p ts u v ((List.replicate p.toNat 0).set u.toNat 1) ((List.replicate p.toNat 0).set v.toNat 1) M S R x5 x6 f2 f3 f4 f6 hlM (by rw [lenst];omega) a3 b3 (by omega) _ _ _ hl3.1 hl3.2.1 (by rw [hl3.2.2];omega) ee
        have t1:=specTail_ev ((List.replicate p.toNat 0).set u.toNat 1) ((List.replicate p.toNat 0).set v.toNat 1) M S R x5 x6 f2 f3 f4 f6 hlM (by rw [lenst];omega) a3 b3 _ _ _ hl3.1 hl3.2.1 (show (A.foldl (upd S R) (List.replicate M.length false,List.replicate M.length false,List.replicate ts.length false)).2.2.length≤1000 by rw [hl3.2.2];omega)
        exact ⟨_,t2,specC_loop M S R M.length ts.length f3 f4 _ _ A hA hok _ h3 _ t1⟩)
      refine ⟨(ri,true),Evt.bind e1 (Evt.pos rfl (Evt.bind (s1.cast hf) (Evt.pos rfl (Evt.bind a1 (Evt.neg c (Evt.bind g1 ?_)))))),Evt.bind e2 (Evt.pos rfl (Evt.bind (Evt.bind (s2.cast hf) (Evt.pos rfl (Evt.bind a2 (Evt.bind b2 (Evt.neg c ?_))))) (Evt.ok _)))⟩
      · rcases g3 with ⟨q,rfl⟩|⟨q,g3⟩
        · exact Evt.neg (by rw [q];decide) (Evt.ok _)
        · refine Evt.pos q (Evt.pos (by omega) (Evt.pos (by omega) (Evt.pos (by omega) (Evt.pos (by omega) ?_))))
          rw [Int.toNat_natCast,Int.toNat_natCast]
          exact g3
      · refine Evt.pos (by omega) (Evt.pos (by omega) (Evt.pos (by omega) (Evt.pos (by omega) ?_)))
        rw [Int.toNat_natCast,Int.toNat_natCast]
        exact g2
end Go.Proofs.Ytbkjgnfnjgebiaa.Lib
