import Derived.Test.YtiglhdibibbkjaaF0
import Derived.Test.YtiglhdibibbkjaaF3
import Derived.Test.YtiglhdibibbkjaaF8
import Derived.Test.YtiglhdibibbkjaaWayMath
namespace Go.Proofs.Ytiglhdibibbkjaa.Lib
open Go.RowKit Go.Proofs.Ytiglhdibibbkjaa.F Go.Proofs.YtiglhdibibbkjaaW.PrintWords Go.Proofs.YtiglhdibibbkjaaW.PrintLast Go.Proofs.YtiglhdibibbkjaaW.PrintMore
theorem rdA (A:List ArcT) (i:Nat) (h:i<A.length):rd_T115 A (i:Int)=A[i]:=rdG A _ i h
theorem reverse_ev (l:List Int) (hl:l.length≤1000000):Evt (fun k=>slices_Reverse_int_int.f k l) l.reverse:=by
  have key:∀ d i,l.length - 2*i≤d→2*i≤l.length+1 → ∀ s:List Int,s.length=l.length→(∀ t (h:t<s.length) (h2:t<l.length),s[t]=if t<i∨l.length - i≤t then l[l.length - 1 - t]'(by omega) else l[t])→Evt (fun k=>slices_Reverse_int_int.l0 k s (i:Int) ((l.length:Int) - 1 - (i:Int))) l.reverse:=by
    intro d
    induction d with
    | zero =>
      intro i hd hi s hs ht
      refine Evt.step ?_
      simp only [slices_Reverse_int_int.l0]
      refine Evt.neg (by omega) ((Evt.ok _).cast ?_)
      refine List.ext_getElem (by simp [hs]) fun t h1 h2=>?_
      rw [ht t h1 (by omega),List.getElem_reverse]
      split
      · rfl
      · congr 1;omega
    | succ d ih =>
      intro i hd hi s hs ht
      refine Evt.step ?_
      simp only [slices_Reverse_int_int.l0]
      by_cases c:(i:Int)<(l.length:Int) - 1 - (i:Int)
      · have hi1:i<s.length:=by omega
        have hj1:l.length - 1 - i<s.length:=by omega
        have ej:((l.length:Int) - 1 - (i:Int))=((l.length - 1 - i:Nat):Int):=by omega
        refine Evt.pos c (Evt.pos (by omega) (Evt.pos (by omega) (Evt.pos (by omega) (Evt.pos (by omega) ?_))))
        rw [wrapN i _ hi1 (by omega),wrap_id ((l.length:Int) - 1 - (i:Int) - 1) (by omega) (by omega),show (l.length:Int) - 1 - (i:Int) - 1=(l.length:Int) - 1 - ((i+1:Nat):Int) by omega]
        rw [ej,rdN s _ hj1,rdN s i hi1,Int.toNat_natCast,Int.toNat_natCast]
        refine ih (i+1) (by omega) (by omega) _ (by simp [hs]) (fun t h h2=>?_)
        rw [List.getElem_set,List.getElem_set]
        by_cases e1:l.length - 1 - i=t
        · rw [if_pos e1,ht i hi1 (by omega),if_neg (by omega),if_pos (by omega)]
          congr 1;omega
        · rw [if_neg e1]
          by_cases e2:i=t
          · rw [if_pos e2,ht _ hj1 (by omega),if_neg (by omega),if_pos (by omega)]
            congr 1;omega
          · rw [if_neg e2,ht t (by simpa using h) h2]
            by_cases e3:t<i∨l.length - i≤t
            · rw [if_pos e3,if_pos (by omega)]
            · rw [if_neg e3,if_neg (by omega)]
      · refine Evt.neg c ((Evt.ok _).cast ?_)
        refine List.ext_getElem (by simp [hs]) fun t h1 h2=>?_
        rw [ht t h1 (by omega),List.getElem_reverse]
        split
        · rfl
        · congr 1;omega
  unfold slices_Reverse_int_int.f
  rw [wrap_id _ (by omega) (by omega)]
  have:=key l.length 0 (by omega) (by omega) l rfl (fun t h h2=>by rw [if_neg (by omega)])
  simpa using this
theorem find_first {α:Type} (p:α→Bool) (l:List α) (i:Nat) (h:i<l.length) (hp:p l[i]=true) (hb:∀ j (hj:j<i),p (l[j]'(by omega))=false):l.find? p=some l[i]:=by
  refine List.find?_eq_some_iff_append.2 ⟨hp,l.take i,l.drop (i+1),?_,fun a ha=>?_⟩
  · rw [← List.drop_eq_getElem_cons h,List.take_append_drop]
  · obtain ⟨j,hj,rfl⟩:=List.getElem_of_mem ha
    rw [List.length_take] at hj
    rw [List.getElem_take,hb j (by omega)];rfl
section
variable {n:Nat} {M:List (List Int)} {A:List ArcT} {t:Int}
theorem implWay_ev (h:TreeOk n A) (hA:∀ a ∈ A,nd n a.f0∧nd n a.f2) (hn:n≤400) (hAl:A.length≤9600) (ht:nd n t) (L:Nat) (hL:L≤n) (h0:anc A t L=0) (hpos:∀ j,j<L→0<anc A t j) :
    Evt (fun k=>impl_Space_wayTo.l0 k [] M A t) (wayL A t L,true):=by
  have key:∀ j,j≤L → ∀ _:Unit,Evt (fun k=>impl_Space_wayTo.l0 k ((List.range j).map fun i=>lab A (anc A t i)) M A (anc A t j)) (wayL A t L,true):=by
    refine down (P:=fun j _=>Evt (fun k=>impl_Space_wayTo.l0 k ((List.range j).map fun i=>lab A (anc A t i)) M A (anc A t j)) (wayL A t L,true)) ?_ ?_
    · intro _
      refine Evt.step ?_
      simp only [impl_Space_wayTo.l0]
      exact Evt.neg (by omega) (Evt.bind (reverse_ev _ (by simp;omega)) (Evt.ok _))
    · intro j hj ih _
      have hp:=hpos j hj
      have hnd:=anc_nd h hA ht j
      obtain ⟨P,a,S,e,e1,e2,e3,e4,e5,e6⟩:=fst_spec h (u:=anc A t j) (by omega) hnd.2
      have haM:a ∈ A:=by rw [e];simp
      obtain ⟨r,f1,f2,f3,f4⟩:=indexFunc_gen (fun _ x=>some (x.f2 == anc A t j)) (fun x:ArcT=>decide (x.f2=anc A t j)) (rd_T115 A) (fun k i=>slices_IndexFunc_impl_Arc_impl_Arc_at_impl_Space_wayTo_1.l0 k A (A.length:Int) i (anc A t j)) A (fun k i=>by simp only [slices_IndexFunc_impl_Arc_impl_Arc_at_impl_Space_wayTo_1.l0,impl_Space_wayTo_1.f]) (fun x _=>(Evt.ok _).cast (by rw [Bool.eq_iff_iff];simp)) (fun i hi=>rdA A i hi) (by show A.length≤_;omega)
      have hany:A.any (fun x:ArcT=>decide (x.f2=anc A t j))=true:=List.any_eq_true.2 ⟨a,haM,decide_eq_true e1⟩
      rw [hany] at f2
      have hr0:=of_decide_eq_true f2
      obtain ⟨i,rfl⟩:∃ i:Nat,r=(i:Int):=⟨r.toNat,by omega⟩
      obtain ⟨hi,g1,g2⟩:=f3 i rfl
      have hfi:=find_first (fun x:ArcT=>decide (x.f2=anc A t j)) A i hi g1 g2
      have ea:A[i]=a:=by
        have:fstA A (anc A t j)=some A[i]:=hfi
        rw [e4] at this;exact (Option.some.inj this).symm
      refine Evt.step ?_
      simp only [impl_Space_wayTo.l0]
      have hidx:Evt (fun k=>slices_IndexFunc_impl_Arc_impl_Arc_at_impl_Space_wayTo_1.f k A (anc A t j)) (i:Int):=by
        unfold slices_IndexFunc_impl_Arc_impl_Arc_at_impl_Space_wayTo_1.f;exact f1
      refine Evt.pos (by omega) (Evt.bind hidx (Evt.pos (by omega) (Evt.pos (by omega) (Evt.pos (by simp;omega) ?_))))
      rw [rdA A i hi,ea]
      have:=ih ()
      rw [range_map_succ,e6] at this
      rw [show anc A t (j+1)=a.f0 from e5] at this
      exact this
  exact key 0 (Nat.zero_le _) ()
theorem specWay_ev (h:TreeOk n A) (hA:∀ a ∈ A,nd n a.f0∧nd n a.f2) (hn:n≤400) (hAl:A.length≤9600) (ht:nd n t) {far:List Int} (hF:BfsOk n t far (backE A)) (L:Nat) (hL:L≤n) (h0:anc A t L=0) (heq:∀ j,j≤L→rd far (anc A t j)=(j:Int)) (hpos:∀ j,j<L→0<anc A t j) :
    Evt (fun k=>spec_l4Way.l3 k t far [] 0 M A) (wayL A t L):=by
  have key:∀ j,j≤L → ∀ out:List Int,out=((List.range L).map fun i=>lab A (anc A t i)).reverse.take (L - j)→Evt (fun k=>spec_l4Way.l3 k t far out (anc A t j) M A) (wayL A t L):=by
    intro j
    induction j with
    | zero =>
      intro _ out ho
      refine Evt.step ?_
      simp only [spec_l4Way.l3]
      refine Evt.pos rfl ((Evt.ok _).cast ?_)
      rw [ho];unfold wayL
      exact List.take_of_length_le (by simp)
    | succ j ih =>
      intro hj out ho
      have hnd:=anc_nd h hA ht j
      have hp:=hpos j (by omega)
      obtain ⟨P,a,S,e,e1,e2,e3,e4,e5,e6⟩:=fst_spec h (u:=anc A t j) (by omega) hnd.2
      have haM:a ∈ A:=by rw [e];simp
      have ej1:anc A t (j+1)=a.f0:=e5
      have hf1:=heq (j+1) hj
      have hf0:=heq j (by omega)
      have hne:¬ anc A t (j+1)=t:=fun c=>by
        rw [c,(hF.zero t ht).2 rfl] at hf1;omega
      have hnd1:=anc_nd h hA ht (j+1)
      refine Evt.step ?_
      simp only [spec_l4Way.l3]
      refine Evt.neg hne ?_
      have hol:out.length≤400:=by rw [ho];simp;omega
      have hPl:P.length<A.length:=by rw [e];simp
      have aP:A[P.length]=a:=by simp only [e];simp
      have row:∀ i,i≤P.length → ∀ _:Unit,Evt (fun k=>spec_l4Way.l4 k t far out (anc A t (j+1)) A (A.length:Int) (i:Int) M A) (wayL A t L):=by
        refine down (P:=fun i _=>Evt (fun k=>spec_l4Way.l4 k t far out (anc A t (j+1)) A (A.length:Int) (i:Int) M A) (wayL A t L)) ?_ ?_
        · intro _
          refine Evt.step ?_
          simp only [spec_l4Way.l4,rdA A P.length hPl,aP]
          have b2:=(hA a haM).2
          refine Evt.pos (by omega) (Evt.pos (by omega) (Evt.pos (by omega) (Evt.pos ej1.symm (Evt.pos b2.1 (Evt.pos (by rw [hF.len];exact b2.2) (Evt.pos hnd1.1 (Evt.pos (by rw [hF.len];exact hnd1.2) (Evt.pos ?_ (Evt.pos (by omega) ?_)))))))))
          · rw [hf1,e1,hf0,wrap_id _ (by omega) (by omega)];omega
          · rw [e1]
            refine ih (by omega) _ ?_
            have ex:L - j=(L - (j+1))+1:=by omega
            rw [ho,ex,List.take_succ_eq_append_getElem (by simp;omega)]
            congr 1
            rw [List.getElem_reverse]
            simp only [List.getElem_map,List.getElem_range,List.length_map,List.length_range]
            rw [show L - 1 - (L - (j+1))=j by omega,e6]
        · intro i hi ihi _
          have hiA:i<A.length:=by omega
          have hb:A[i] ∈ P:=by
            have:A[i]=P[i]:=by simp only [e];rw [List.getElem_append_left hi]
            rw [this];exact List.getElem_mem hi
          have hlt:=e3 _ hb
          have hbm:=List.getElem_mem hiA
          have b0:=(hA _ hbm).2
          refine Evt.step ?_
          simp only [spec_l4Way.l4,rdA A i hiA]
          rw [wrapN i _ hiA (by omega)]
          refine Evt.pos (by omega) (Evt.pos (by omega) (Evt.pos (by omega) ?_))
          by_cases c:A[i].f0=anc A t (j+1)
          · refine Evt.pos c (Evt.pos b0.1 (Evt.pos (by rw [hF.len];exact b0.2) (Evt.pos hnd1.1 (Evt.pos (by rw [hF.len];exact hnd1.2) (Evt.neg ?_ (ihi ()))))))
            rw [hf1,wrap_id _ (by omega) (by omega)]
            intro hc
            have:=anc_le h hA ht hF j A[i].f2 b0 (by omega)
            omega
          · exact Evt.neg c (ihi ())
      exact row 0 (Nat.zero_le _) ()
  have:=key L (Nat.le_refl _) [] (by simp)
  rw [h0] at this
  exact this
theorem specFar_ev (hA:∀ a ∈ A,nd n a.f0∧nd n a.f2) (hM:M.length=n) (hn:n≤400) (hAl:A.length≤9600) (ht:nd n t) :
    ∃ far,BfsOk n t far (backE A) ∧ ∀ r,Evt (fun k=>spec_l4Way.l3 k t far [] 0 M A) r→Evt (fun k=>spec_l4Way.f k M A t) r:=by
  have hE:∀ e ∈ backE A,nd n e.1∧nd n e.2:=fun e he=>by
    obtain ⟨a,ha,rfl⟩:=back_mem he
    exact ⟨(hA a ha).2,(hA a ha).1⟩
  have el:(backE A).length=A.length:=by unfold backE;rw [List.length_map]
  have eg:∀ i (h:i<(backE A).length),(backE A)[i]=(A[i].f2,A[i].f0):=fun i h=>by simp only [backE,List.getElem_map]
  have hb:∃ far,BfsOk n t far (backE A) ∧ ∀ r,Evt (fun k=>spec_l4Way.l3 k t far [] 0 M A) r→Evt (fun k=>spec_l4Way.l1 k t ((List.replicate n (-1)).set t.toNat 0) [t] M A) r:=by
    refine bfs_ex (ρ:=List Int) hE ht (fun k far q=>spec_l4Way.l1 k t far q M A) (fun k far q k0 i=>spec_l4Way.l2 k t far q k0 A (A.length:Int) (i:Int) M A) (fun k far=>spec_l4Way.l3 k t far [] 0 M A) ?_ ?_ ?_ ?_ ?_ _ _ _ (Nat.le_refl _) (bfs_start hE ht)
    · intro far r hr
      refine Evt.step ?_
      simp only [spec_l4Way.l1]
      exact Evt.neg (by simp) hr
    · intro far k0 q r hq hr
      refine Evt.step ?_
      simp only [spec_l4Way.l1]
      exact Evt.pos (by rw [List.length_cons];omega) (Evt.pos (by rw [List.length_cons];omega) (Evt.pos (by rw [List.length_cons];omega) hr))
    · intro far q k0 r hr
      refine Evt.step ?_
      simp only [spec_l4Way.l2,el]
      exact Evt.neg (natNotLt _) hr
    · intro far q k0 i hi r hl hk0 hk1 hk2 hq h1 hy h2 hr
      rw [eg i hi] at h1 hy h2 hr
      have hi' : i<A.length:=by omega
      refine Evt.step ?_
      simp only [spec_l4Way.l2,rdA A i hi']
      rw [wrapN i _ hi' (by omega),wrap_id (rd far k0+1) (by omega) (by omega)]
      exact Evt.pos (natLt _ _ hi') (Evt.pos (by omega) (Evt.pos (natLt _ _ hi') (Evt.pos h1 (Evt.pos hy.1 (Evt.pos (by rw [hl];exact hy.2) (Evt.pos h2 (Evt.pos hk0.1 (Evt.pos (by rw [hl];exact hk0.2) (Evt.pos (by omega) hr)))))))))
    · intro far q k0 i hi r hl hk0 hy hc hr
      rw [eg i hi] at hy hc
      have hi' : i<A.length:=by omega
      refine Evt.step ?_
      simp only [spec_l4Way.l2,rdA A i hi']
      rw [wrapN i _ hi' (by omega)]
      refine Evt.pos (natLt _ _ hi') (Evt.pos (by omega) (Evt.pos (natLt _ _ hi') ?_))
      by_cases c:A[i].f2=k0
      · refine Evt.pos c (Evt.pos hy.1 (Evt.pos (by rw [hl];exact hy.2) (Evt.neg ?_ hr)))
        rcases hc with hc|hc
        · exact (hc c).elim
        · exact Int.not_lt.2 hc
      · exact Evt.neg c hr
  obtain ⟨far,f1,f2⟩:=hb
  refine ⟨far,f1,fun r hr=>?_⟩
  have hg:=f2 r hr
  unfold spec_l4Way.f
  refine Evt.pos (by omega) (Evt.pos (by omega) (Evt.bind0 rfl ?_))
  rw [Int.toNat_natCast,hM]
  have init:∀ i,i≤n → ∀ s:List Int,s.length=n→s=filled (fun _=>(-1:Int)) 0 i n→Evt (fun k=>spec_l4Way.l0 k t s (n:Int) (i:Int) M A) r:=by
    refine down (P:=fun i (s:List Int)=>s.length=n→s=filled (fun _=>(-1:Int)) 0 i n→Evt (fun k=>spec_l4Way.l0 k t s (n:Int) (i:Int) M A) r) ?_ ?_
    · intro s hs e
      refine Evt.step ?_
      simp only [spec_l4Way.l0]
      refine Evt.neg (natNotLt _) (Evt.pos ht.1 (Evt.pos (by rw [hs];exact ht.2) ?_))
      have es:s=List.replicate n (-1):=by
        rw [e,filled_all]
        apply List.ext_getElem (by simp)
        intro i h1 h2;simp
      rw [es];exact hg
    · intro i hi ih s hs e
      refine Evt.step ?_
      simp only [spec_l4Way.l0]
      rw [wrapN i _ hi (by omega),Int.toNat_natCast]
      refine Evt.pos (natLt _ _ hi) (Evt.pos (by omega) (Evt.pos (by omega) (ih _ (by rw [List.length_set];exact hs) ?_)))
      rw [e];exact filled_set (fun _=>(-1:Int)) 0 i n hi
  have:=init 0 (Nat.zero_le _) (List.replicate n 0) (by simp) (by rw [filled_zero])
  rw [List.length_replicate];exact this
theorem way_ex (h:TreeOk n A) (hA:∀ a ∈ A,nd n a.f0∧nd n a.f2) (hM:M.length=n) (hn:n≤400) (hAl:A.length≤9600) (ht:nd n t) :
    ∃ W:List Int,Evt (fun k=>spec_l4Way.f k M A t) W∧Evt (fun k=>impl_Space_wayTo.l0 k [] M A t) (W,true)∧W.length≤400:=by
  obtain ⟨far,hF,f2⟩:=specFar_ev (M:=M) hA hM hn hAl ht
  obtain ⟨L,h1,h2,h3,h4⟩:=way_facts h hA ht hF
  exact ⟨wayL A t L,f2 _ (specWay_ev h hA hn hAl ht hF L h1 h2 h3 h4),implWay_ev h hA hn hAl ht L h1 h2 h4,by unfold wayL;simp;omega⟩
end
end Go.Proofs.Ytiglhdibibbkjaa.Lib
