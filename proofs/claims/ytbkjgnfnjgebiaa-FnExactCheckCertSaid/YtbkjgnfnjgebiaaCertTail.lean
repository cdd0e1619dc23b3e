import Derived.Test.YtbkjgnfnjgebiaaF0
import Derived.Test.YtbkjgnfnjgebiaaF2
import Derived.Test.YtbkjgnfnjgebiaaF3
import Derived.Test.YtbkjgnfnjgebiaaF5
import Derived.Test.YtbkjgnfnjgebiaaF6
import Derived.Test.YtbkjgnfnjgebiaaCertArcs
import Derived.Test.YtbkjgnfnjgebiaaOver
namespace Go.Proofs.Ytbkjgnfnjgebiaa.Lib
open Go.RowKit Go.Proofs.Ytbkjgnfnjgebiaa.F Go.Proofs.YtbkjgnfnjgebiaaW.PrintWords Go.Proofs.YtbkjgnfnjgebiaaW.PrintLast Go.Proofs.YtbkjgnfnjgebiaaW.PrintMore
theorem hasFalse_ev (F:List Bool) (hF:F.length≤1000):Evt (fun k=>slices_Contains_bool_bool.f k F false) (!(List.range F.length).all fun i=>rdOf false F (i:Int)):=by
  have h:=containsFunc_gen (fun _ x=>some (false == x)) (fun x=>false == x) (rdOf false F) (fun k i=>slices_Index_bool_bool.l0 k F false (F.length:Int) i) (fun k=>slices_Contains_bool_bool.f k F false) F (fun k=>by simp only [slices_Contains_bool_bool.f,slices_Index_bool_bool.f]) (fun k i=>by simp only [slices_Index_bool_bool.l0,Option.bind_some]) (fun x _=>Evt.ok _) (fun i hi=>by unfold rdOf;rw [Int.toNat_natCast,getDN F false i hi]) (by show F.length≤_;omega)
  refine h.cast ?_
  rw [Bool.eq_iff_iff]
  simp only [List.any_eq_true,Bool.not_eq_true',List.all_eq_false,List.mem_range]
  constructor
  · rintro ⟨x,hx,e⟩
    obtain ⟨i,hi,rfl⟩:=List.getElem_of_mem hx
    refine ⟨i,hi,?_⟩
    unfold rdOf
    rw [Int.toNat_natCast,getDN F false i hi]
    cases h:F[i] <;> simp_all
  · rintro ⟨i,hi,e⟩
    refine ⟨F[i],List.getElem_mem hi,?_⟩
    unfold rdOf at e
    rw [Int.toNat_natCast,getDN F false i hi] at e
    cases h:F[i] <;> simp_all
section
variable (p:Int) (ts:List Tr) (u v:Int) (st en:List Int) (M:List (List Int)) (S R:List Int) (x5 x6:Int)
variable (hn:M.length≤400) (hS:S.length=M.length) (hR:R.length=M.length) (hd:Dist M) (hl:∀ m ∈ M,m.length=en.length) (he:en.length≤16) (ha:IsAt M st x5) (hb:IsAt M en x6) (h5:0≤x5)
def four (C:List Bool) (i:Nat):Bool:=if (i:Int)=x5 then decide (rd S (i:Int)=0) else rdOf false C (i:Int)
def five (L:List Bool) (i:Nat):Bool:=decide ((i:Int)=x6) || rdOf false L (i:Int)
def six (i:Nat):Bool:=!over en.length (M.getD i []) en || decide ((i:Int)=x6)
def codeT (C L F:List Bool):Int :=
  if (List.range M.length).all (four S x5 C)=true then
    (if (List.range M.length).all (five x6 L)=true then
      (if x6<0 then 6 else if rd R x6=0 then (if (List.range M.length).all (six en M x6)=true then (if ((List.range F.length).all fun i=>rdOf false F (i:Int))=true then 0 else 7) else 6) else 6)
    else 5)
  else 4
include hn hR hd hl he hb in
theorem last_ev (F:List Bool) (hF:F.length≤1000):Evt (fun k=>spec_l9Last.f k M S R en F) (if x6<0 then 6 else if rd R x6=0 then (if (List.range M.length).all (six en M x6)=true then (if ((List.range F.length).all fun i=>rdOf false F (i:Int))=true then 0 else 7) else 6) else 6):=by
  have hMs:Short M:=by show M.length≤_;omega
  have hMl:∀ y ∈ M,Short y:=fun y hy=>by have:=hl y hy;show y.length≤_;omega
  have hes:Short en:=by show en.length≤_;omega
  obtain ⟨r,f1,f2⟩:=l4Find_ex M en hMs hMl
  have e:=isAt_same hd f2 hb
  subst e
  have hlt:=isAt_lt f2
  have yes:∀ c:Bool,c=true→Evt (fun k=>spec_l9Last.j0 k en F r c M S R) 6:=by
    intro c hc
    refine Evt.step ?_
    simp only [spec_l9Last.j0]
    exact Evt.pos hc (Evt.ok _)
  unfold spec_l9Last.f
  refine Evt.bind f1 ?_
  by_cases c:r<0
  · rw [if_pos c];exact Evt.pos c (yes true rfl)
  rw [if_neg c]
  refine Evt.neg c (Evt.pos (by omega) (Evt.pos (by omega) ?_))
  by_cases c3:¬ rd R r=0
  · rw [if_neg c3];exact yes _ (by simp [c3])
  have c2:rd R r=0:=Decidable.not_not.1 c3
  rw [if_pos c2]
  refine Evt.step ?_
  simp only [spec_l9Last.j0]
  refine Evt.neg (by simp [c2]) ?_
  have inner:Evt (fun k=>spec_l9Last.l1 k F (F.length:Int) 0) (if ((List.range F.length).all fun i=>rdOf false F (i:Int))=true then (0:Int) else 7):=by
    refine loop_until (fun k i=>spec_l9Last.l1 k F (F.length:Int) (i:Int)) F.length (fun i=>rdOf false F (i:Int)) 7 0 ?_ ?_ ?_
    · intro _
      simp only [spec_l9Last.l1]
      exact Evt.neg (natNotLt _) (Evt.ok _)
    · intro i hi _ hT x hx
      simp only [spec_l9Last.l1]
      rw [wrapN i _ hi (by omega)]
      exact Evt.pos (natLt _ _ hi) (Evt.pos (by omega) (Evt.pos (natLt _ _ hi) (Evt.pos hT hx)))
    · intro i hi _ hT
      simp only [spec_l9Last.l1]
      exact Evt.pos (natLt _ _ hi) (Evt.pos (by omega) (Evt.pos (natLt _ _ hi) (Evt.neg (by rw [hT];decide) (Evt.ok _))))
  refine loop_until (fun k i=>spec_l9Last.l0 k en F r M (M.length:Int) (i:Int)) M.length (six en M r) 6 _ ?_ ?_ ?_
  · intro _
    simp only [spec_l9Last.l0]
    exact Evt.neg (natNotLt _) inner
  · intro i hi _ hT x hx
    have hc:=l1Covers_ev M[i] en hes (by have:=hl _ (List.getElem_mem hi);omega)
    simp only [six,getDN M [] i hi] at hT
    simp only [spec_l9Last.l0,rdL M i hi]
    rw [wrapN i _ hi (by omega)]
    refine Evt.pos (natLt _ _ hi) (Evt.pos (by omega) (Evt.pos (natLt _ _ hi) ?_))
    cases ho:over en.length M[i] en with
    | false=>exact Evt.bind (hc.cast ho) (Evt.neg (by decide) hx)
    | true =>
      rw [ho] at hT
      exact Evt.bind (hc.cast ho) (Evt.pos rfl (Evt.pos (of_decide_eq_true (by simpa using hT)) hx))
  · intro i hi _ hT
    have hc:=l1Covers_ev M[i] en hes (by have:=hl _ (List.getElem_mem hi);omega)
    simp only [six,getDN M [] i hi,Bool.or_eq_false_iff,Bool.not_eq_false'] at hT
    simp only [spec_l9Last.l0,rdL M i hi]
    exact Evt.pos (natLt _ _ hi) (Evt.pos (by omega) (Evt.pos (natLt _ _ hi) (Evt.bind (hc.cast hT.1) (Evt.pos rfl (Evt.neg (of_decide_eq_false hT.2) (Evt.ok _))))))
include hn hS hR hd hl he ha hb in
theorem specTail_ev (C L F:List Bool) (hC:C.length=M.length) (hL:L.length=M.length) (hF:F.length≤1000):Evt (fun k=>spec_CheckCert.l1 k st en C L F M (M.length:Int) 0 M S R) (codeT en M S R x5 x6 C L F,true):=by
  have hMl:∀ y ∈ M,Short y:=fun y hy=>by have:=hl y hy;show y.length≤_;omega
  have hlast:=last_ev en M S R x6 hn hR hd hl he hb F hF
  have l2:Evt (fun k=>spec_CheckCert.l2 k en L F M (M.length:Int) 0 M S R) ((if (List.range M.length).all (five x6 L)=true then (if x6<0 then 6 else if rd R x6=0 then (if (List.range M.length).all (six en M x6)=true then (if ((List.range F.length).all fun i=>rdOf false F (i:Int))=true then 0 else 7) else 6) else 6) else 5:Int),true):=by
    refine (loop_until (fun k i=>spec_CheckCert.l2 k en L F M (M.length:Int) (i:Int) M S R) M.length (five x6 L) ((5:Int),true) ((if x6<0 then 6 else if rd R x6=0 then (if (List.range M.length).all (six en M x6)=true then (if ((List.range F.length).all fun i=>rdOf false F (i:Int))=true then 0 else 7) else 6) else 6:Int),true) ?_ ?_ ?_).cast (by split <;> rfl)
    · intro _
      simp only [spec_CheckCert.l2]
      exact Evt.neg (natNotLt _) (Evt.bind hlast (Evt.ok _))
    · intro i hi _ hT x hx
      have hsame:=l1Same_ev M[i] en (hMl _ (List.getElem_mem hi))
      have hiff:=isAt_iff hd hb i hi
      simp only [spec_CheckCert.l2,rdL M i hi]
      rw [wrapN i _ hi (by omega)]
      refine Evt.pos (natLt _ _ hi) (Evt.pos (by omega) (Evt.pos (natLt _ _ hi) (Evt.bind hsame ?_)))
      by_cases c:M[i]=en
      · exact Evt.pos (decide_eq_true c) hx
      · have hT' : rdOf false L (i:Int)=true:=by
          simp only [five,decide_eq_false (fun h=>c (hiff.2 h)),Bool.false_or] at hT
          exact hT
        exact Evt.neg (by simp [c]) (Evt.pos (by omega) (Evt.pos hT' hx))
    · intro i hi _ hT
      have hsame:=l1Same_ev M[i] en (hMl _ (List.getElem_mem hi))
      have hiff:=isAt_iff hd hb i hi
      simp only [five,Bool.or_eq_false_iff] at hT
      have c:¬ M[i]=en:=fun h=>of_decide_eq_false hT.1 (hiff.1 h)
      simp only [spec_CheckCert.l2,rdL M i hi]
      exact Evt.pos (natLt _ _ hi) (Evt.pos (by omega) (Evt.pos (natLt _ _ hi) (Evt.bind hsame (Evt.neg (by simp [c]) (Evt.pos (by omega) (Evt.neg (by rw [hT.2];decide) (Evt.ok _)))))))
  unfold codeT
  refine (loop_until (fun k i=>spec_CheckCert.l1 k st en C L F M (M.length:Int) (i:Int) M S R) M.length (four S x5 C) ((4:Int),true) _ ?_ ?_ ?_).cast (r:=if (List.range M.length).all (four S x5 C)=true then ((if (List.range M.length).all (five x6 L)=true then (if x6<0 then 6 else if rd R x6=0 then (if (List.range M.length).all (six en M x6)=true then (if ((List.range F.length).all fun i=>rdOf false F (i:Int))=true then 0 else 7) else 6) else 6) else 5:Int),true) else ((4:Int),true)) (by split <;> rfl)
  · intro _
    simp only [spec_CheckCert.l1]
    exact Evt.neg (natNotLt _) l2
  · intro i hi _ hT x hx
    have hsame:=l1Same_ev M[i] st (hMl _ (List.getElem_mem hi))
    have hiff:=isAt_iff hd ha i hi
    simp only [spec_CheckCert.l1,rdL M i hi]
    rw [wrapN i _ hi (by omega)]
    refine Evt.pos (natLt _ _ hi) (Evt.pos (by omega) (Evt.pos (natLt _ _ hi) (Evt.bind hsame ?_)))
    by_cases c:M[i]=st
    · have hT' : rd S (i:Int)=0:=by
        simp only [four,if_pos (hiff.1 c)] at hT
        exact of_decide_eq_true hT
      exact Evt.pos (decide_eq_true c) (Evt.pos (by omega) (Evt.pos hT' (Evt.bind hsame (Evt.pos (decide_eq_true c) hx))))
    · have hT' : rdOf false C (i:Int)=true:=by
        simp only [four,if_neg (fun h=>c (hiff.2 h))] at hT
        exact hT
      exact Evt.neg (by simp [c]) (Evt.bind hsame (Evt.neg (by simp [c]) (Evt.pos (by omega) (Evt.pos hT' hx))))
  · intro i hi _ hT
    have hsame:=l1Same_ev M[i] st (hMl _ (List.getElem_mem hi))
    have hiff:=isAt_iff hd ha i hi
    simp only [spec_CheckCert.l1,rdL M i hi]
    refine Evt.pos (natLt _ _ hi) (Evt.pos (by omega) (Evt.pos (natLt _ _ hi) (Evt.bind hsame ?_)))
    by_cases c:M[i]=st
    · have hT' : ¬ rd S (i:Int)=0:=by
        simp only [four,if_pos (hiff.1 c)] at hT
        exact of_decide_eq_false hT
      exact Evt.pos (decide_eq_true c) (Evt.pos (by omega) (Evt.neg hT' (Evt.ok _)))
    · have hT' : rdOf false C (i:Int)=false:=by
        simp only [four,if_neg (fun h=>c (hiff.2 h))] at hT
        exact hT
      exact Evt.neg (by simp [c]) (Evt.bind hsame (Evt.neg (by simp [c]) (Evt.pos (by omega) (Evt.neg (by rw [hT'];decide) (Evt.ok _)))))
theorem set_all (C:List Bool) (n:Nat) (hC:C.length=n) (i5:Nat) (h:i5<n) (b:Bool) (T:Nat→Bool) (hT:∀ i,i<n→T i=if i=i5 then b else rdOf false C (i:Int)):(List.range (C.set i5 b).length).all (fun i=>rdOf false (C.set i5 b) (i:Int))=(List.range n).all T:=by
  rw [List.length_set,hC,Bool.eq_iff_iff]
  simp only [List.all_eq_true,List.mem_range]
  refine forall_congr' fun i=>forall_congr' fun hi=>?_
  rw [hT i hi]
  unfold rdOf
  rw [Int.toNat_natCast,getDN _ false i (by rw [List.length_set];omega),getDN C false i (by omega),List.getElem_set]
  by_cases e:i=i5
  · subst e;simp
  · simp [e,Ne.symm e]
include hn hS hR hd hl he ha hb h5 in
theorem implTail_ev (C L F:List Bool) (hC:C.length=M.length) (hL:L.length=M.length) (hF:F.length≤1000) (hen:impl_endOf.f p ts u v=some en):Evt (fun k=>impl_checkCert.l0 k x5 x6 C L F M (M.length:Int) (M.length:Int) p ts u v M S R) (codeT en M S R x5 x6 C L F):=by
  have hMs:Short M:=by show M.length≤_;omega
  have hMl:∀ y ∈ M,Short y:=fun y hy=>by have:=hl y hy;show y.length≤_;omega
  have hes:Short en:=by show en.length≤_;omega
  have h5':=isAt_lt ha
  have h6':=isAt_lt hb
  obtain ⟨i5,rfl⟩:∃ i:Nat,x5=(i:Int):=⟨x5.toNat,by omega⟩
  have e4:=set_all C M.length hC i5 (by omega) (rd S (i5:Int) == 0) (four S (i5:Int) C) (fun i hi=>by
    unfold four
    by_cases e:i=i5
    · subst e;rw [if_pos rfl,if_pos rfl];rfl
    · rw [if_neg (by omega),if_neg e])
  have hc4:=hasFalse_ev (C.set i5 (rd S (i5:Int) == 0)) (by rw [List.length_set];omega)
  rw [e4] at hc4
  refine Evt.step ?_
  simp only [impl_checkCert.l0]
  refine Evt.neg (natNotLt _) (Evt.pos (by omega) (Evt.pos (by omega) (Evt.pos (by omega) ?_)))
  rw [Int.toNat_natCast]
  unfold codeT
  cases c4:(List.range M.length).all (four S (i5:Int) C) with
  | false =>
    rw [c4] at hc4
    exact Evt.bind hc4 (Evt.pos rfl ((Evt.ok _).cast (by simp)))
  | true =>
    rw [c4] at hc4
    rw [if_pos rfl]
    refine Evt.bind hc4 (Evt.neg (by decide) ?_)
    have hover:Evt (fun k=>slices_ContainsFunc_int_int_at_impl_checkCert_1.f k M p ts u v) (!(List.range M.length).all (six en M x6)):=by
      have g:=containsFunc_gen (fun k x=>impl_checkCert_1.f k x p ts u v) (fun x=>over en.length x en && !decide (x=en)) (rd_L1 M) (fun k i=>slices_IndexFunc_int_int_at_impl_checkCert_1.l0 k M (M.length:Int) i p ts u v) (fun k=>slices_ContainsFunc_int_int_at_impl_checkCert_1.f k M p ts u v) M (fun k=>by simp only [slices_ContainsFunc_int_int_at_impl_checkCert_1.f,slices_IndexFunc_int_int_at_impl_checkCert_1.f]) (fun k i=>by simp only [slices_IndexFunc_int_int_at_impl_checkCert_1.l0]) (fun x hx=>by
        have hxl:=hl x hx
        have hco:=covers_ev x en (hMl x hx) (by omega)
        rw [hxl] at hco
        unfold impl_checkCert_1.f impl_isOver.f
        simp only [hen,Option.bind_some]
        cases ho:over en.length x en with
        | false=>exact Evt.bind (Evt.bind (hco.cast ho) (Evt.neg (by decide) (Evt.ok _))) (Evt.ok _)
        | true=>exact Evt.bind (Evt.bind (hco.cast ho) (Evt.pos rfl (Evt.bind (sEqual_ev x en (hMl x hx)) (Evt.ok _)))) ((Evt.ok _).cast (by simp))) (fun i hi=>rdL M i hi) hMs
      refine g.cast ?_
      rw [Bool.eq_iff_iff]
      simp only [List.any_eq_true,Bool.not_eq_true',List.all_eq_false,List.mem_range]
      constructor
      · rintro ⟨x,hx,e⟩
        obtain ⟨i,hi,rfl⟩:=List.getElem_of_mem hx
        refine ⟨i,hi,?_⟩
        simp only [Bool.and_eq_true,Bool.not_eq_true',decide_eq_false_iff_not] at e
        simp only [six,getDN M [] i hi,e.1,Bool.not_true,Bool.false_or,decide_eq_true_eq]
        exact fun h=>e.2 ((isAt_iff hd hb i hi).2 h)
      · rintro ⟨i,hi,e⟩
        refine ⟨M[i],List.getElem_mem hi,?_⟩
        simp only [six,getDN M [] i hi,Bool.or_eq_true,Bool.not_eq_true',decide_eq_true_eq,not_or,Bool.not_eq_false] at e
        simp only [Bool.and_eq_true,Bool.not_eq_true',decide_eq_false_iff_not]
        exact ⟨e.1,fun h=>e.2 ((isAt_iff hd hb i hi).1 h)⟩
    have j3:∀ c:Bool,c=true→Evt (fun k=>impl_checkCert.j3 k F c) 6:=by
      intro c hc
      refine Evt.step ?_
      simp only [impl_checkCert.j3]
      exact Evt.pos hc (Evt.ok _)
    have hc7:=hasFalse_ev F hF
    refine (loop_until (fun k i=>impl_checkCert.l2 k x6 F L (M.length:Int) (i:Int) p ts u v M S R) M.length (five x6 L) 5 (if x6<0 then 6 else if rd R x6=0 then (if (List.range M.length).all (six en M x6)=true then (if ((List.range F.length).all fun i=>rdOf false F (i:Int))=true then 0 else 7) else 6) else 6) ?_ ?_ ?_).fn (fun k=>by rw [hL];rfl)
    · intro _
      simp only [impl_checkCert.l2]
      refine Evt.neg (natNotLt _) ?_
      cases c6:(List.range M.length).all (six en M x6) with
      | false =>
        rw [c6] at hover
        refine Evt.bind hover (Evt.pos rfl ((j3 true rfl).cast ?_))
        split
        · rfl
        · split <;> rfl
      | true =>
        rw [c6] at hover
        refine Evt.bind hover (Evt.neg (by decide) ?_)
        by_cases c:x6<0
        · rw [if_pos c];exact Evt.pos c (j3 true rfl)
        rw [if_neg c]
        refine Evt.neg c (Evt.pos (by omega) (Evt.pos (by omega) ?_))
        by_cases c2:rd R x6=0
        · rw [if_pos c2,if_pos rfl]
          refine Evt.step ?_
          simp only [impl_checkCert.j3]
          refine Evt.neg (by simp [c2]) ?_
          cases c7:(List.range F.length).all fun i=>rdOf false F (i:Int) with
          | true=>rw [c7] at hc7;exact Evt.bind hc7 (Evt.neg (by decide) ((Evt.ok _).cast (by simp)))
          | false=>rw [c7] at hc7;exact Evt.bind hc7 (Evt.pos rfl ((Evt.ok _).cast (by simp)))
        · rw [if_neg c2];exact j3 _ (by simp [c2])
    · intro i hi _ hT x hx
      simp only [impl_checkCert.l2]
      rw [wrapN i _ hi (by omega)]
      refine Evt.pos (natLt _ _ hi) (Evt.pos (by omega) (Evt.pos (by omega) ?_))
      by_cases c:(i:Int)=x6
      · exact Evt.pos c hx
      · simp only [five,decide_eq_false c,Bool.false_or] at hT
        exact Evt.neg c (Evt.pos hT hx)
    · intro i hi _ hT
      simp only [five,Bool.or_eq_false_iff] at hT
      simp only [impl_checkCert.l2]
      exact Evt.pos (natLt _ _ hi) (Evt.pos (by omega) (Evt.pos (by omega) (Evt.neg (of_decide_eq_false hT.1) (Evt.neg (by rw [hT.2];decide) (Evt.ok _)))))
end
end Go.Proofs.Ytbkjgnfnjgebiaa.Lib
