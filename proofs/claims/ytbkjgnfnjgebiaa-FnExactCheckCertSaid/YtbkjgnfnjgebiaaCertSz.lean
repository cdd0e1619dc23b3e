import Derived.Test.YtbkjgnfnjgebiaaF1
import Derived.Test.YtbkjgnfnjgebiaaF3
import Derived.Test.YtbkjgnfnjgebiaaF6
import Derived.Test.YtbkjgnfnjgebiaaSS0
namespace Go.Proofs.Ytbkjgnfnjgebiaa.Lib
open Go.RowKit Go.Proofs.Ytbkjgnfnjgebiaa.F Go.Proofs.YtbkjgnfnjgebiaaW.PrintWords Go.Proofs.YtbkjgnfnjgebiaaW.PrintLast Go.Proofs.YtbkjgnfnjgebiaaW.PrintMore
theorem szI_eq (l:List Int) (b:Int) (h0:0≤b) (hb:b≤1048576) (hl:l.length≤maxLen):laws_szIntS.f l b=some (if b<(l.length:Int) then -1 else b - (l.length:Int)):=by
  unfold maxLen at hl
  have e:wrap64 (b - (l.length:Int))=b - (l.length:Int):=wrap_id _ (by omega) (by omega)
  unfold laws_szIntS.f
  rw [e]
  by_cases h:b<(l.length:Int)
  · rw [if_pos (by omega),if_pos h]
  · rw [if_neg (by omega),if_neg h]
theorem szSS_ex (L:List (List Int)) (b:Int) (h0:0≤b) (hb:b≤1048576) (hl:L.length≤maxLen) (hr:∀ x ∈ L,x.length≤maxLen):∃ r:Int,Evt (fun k=>laws_szIntSS.f k L b) r∧(0≤r→(L.length:Int)+(tot L:Int)+r=b):=by
  have e:wrap64 (b - (L.length:Int))=b - (L.length:Int):=wrap_id _ (by unfold maxLen at hl;omega) (by omega)
  unfold laws_szIntSS.f
  rw [e]
  by_cases h:b<(L.length:Int)
  · exact ⟨-1,Evt.pos (by omega) (Evt.ok _),fun h=>by omega⟩
  · have key:∀ i,i≤L.length → ∀ s:Int,0≤s∧s≤1048576 → ∃ r:Int,Evt (fun k=>laws_szIntSS.l0 k L s (i:Int)) r∧(0≤r→(tot (L.drop i):Int)+r=s):=by
      refine down (P:=fun i (s:Int)=>0≤s∧s≤1048576 → ∃ r:Int,Evt (fun k=>laws_szIntSS.l0 k L s (i:Int)) r∧(0≤r→(tot (L.drop i):Int)+r=s)) ?_ ?_
      · intro s hs
        refine ⟨s,Evt.step ?_,fun _=>by rw [List.drop_length];simp [tot]⟩
        simp only [laws_szIntSS.l0]
        exact Evt.neg (natNotLt _) (Evt.ok _)
      · intro i hi ih s hs
        have hz:=szI_eq L[i] s hs.1 hs.2 (hr _ (List.getElem_mem hi))
        have ed:tot (L.drop i)=L[i].length+tot (L.drop (i+1)):=by rw [dropN L i hi,tot_cons]
        by_cases c:s<(L[i].length:Int)
        · rw [if_pos c] at hz
          refine ⟨-1,Evt.step ?_,fun h=>by omega⟩
          simp only [laws_szIntSS.l0,rdLL L i hi]
          exact Evt.pos (natLt _ _ hi) (Evt.pos (by omega) (Evt.bind0 hz (Evt.pos (by omega) (Evt.ok _))))
        · rw [if_neg c] at hz
          obtain ⟨r,e1,e2⟩:=ih (s - (L[i].length:Int)) ⟨by omega,by omega⟩
          refine ⟨r,Evt.step ?_,fun h=>by have:=e2 h;rw [ed];omega⟩
          simp only [laws_szIntSS.l0,rdLL L i hi,wrapN i _ hi (by omega)]
          exact Evt.pos (natLt _ _ hi) (Evt.pos (by omega) (Evt.bind0 hz (Evt.neg (by omega) e1)))
    obtain ⟨r,e1,e2⟩:=key 0 (Nat.zero_le _) (b - (L.length:Int)) ⟨by omega,by omega⟩
    exact ⟨r,Evt.neg (by omega) e1,fun h=>by have:=e2 h;rw [List.drop_zero] at this;omega⟩
theorem toSS_ev (L:List (List Int)) (hl:L.length≤1048576) (hr:∀ x ∈ L,Short x):Evt (fun k=>laws_toIntSS.f k L) L:=by
  have key:∀ i,i≤L.length → ∀ s:List (List Int),s.length=L.length→s.take i=L.take i→Evt (fun k=>laws_toIntSS.l0 k L s i) L:=by
    refine down (P:=fun i s=>s.length=L.length→s.take i=L.take i→Evt (fun k=>laws_toIntSS.l0 k L s i) L) ?_ ?_
    · intro s hs ht
      refine Evt.step ?_
      simp only [laws_toIntSS.l0]
      refine Evt.neg (natNotLt _) ?_
      have e:s=L:=by
        rw [List.take_of_length_le (by omega),List.take_of_length_le (Nat.le_refl _)] at ht
        exact ht
      rw [e];exact Evt.ok _
    · intro i hi ih s hs ht
      refine Evt.step ?_
      simp only [laws_toIntSS.l0,rdLL L i hi]
      refine Evt.pos (natLt _ _ hi) (Evt.pos (by omega) (Evt.bind (toIntS_ev L[i] (hr _ (List.getElem_mem hi))) (Evt.pos (by omega) ?_)))
      rw [wrapN i _ hi (by omega)]
      refine ih _ (by simpa using hs) ?_
      rw [Int.toNat_natCast,takeN L i hi,takeN _ i (by simp;omega),List.take_set_of_le (Nat.le_refl i),ht]
      simp
  unfold laws_toIntSS.f
  refine Evt.pos (by omega) (Evt.pos (by rw [Int.toNat_natCast];omega) ?_)
  rw [Int.toNat_natCast]
  exact key 0 (Nat.zero_le _) _ (by simp) (by simp)
theorem eqSS_same (M:List (List Int)) (hM:M.length≤1048576) (hS:∀ m ∈ M,Short m):Evt (fun k=>laws_eqIntSS.f k M M) true:=by
  have key:∀ i,i≤M.length → ∀ _:Unit,Evt (fun k=>laws_eqIntSS.l0 k M M (i:Int)) true:=by
    refine down (P:=fun i _=>Evt (fun k=>laws_eqIntSS.l0 k M M (i:Int)) true) ?_ ?_
    · intro _
      refine Evt.step ?_
      simp only [laws_eqIntSS.l0]
      exact Evt.neg (natNotLt _) (Evt.ok _)
    · intro i hi ih _
      refine Evt.step ?_
      simp only [laws_eqIntSS.l0,rdLL M i hi,wrapN i _ hi (by omega)]
      exact Evt.pos (natLt _ _ hi) (Evt.pos (by omega) (Evt.pos (natLt _ _ hi) (Evt.bind (eqIntS_same _ (hS _ (List.getElem_mem hi))) (Evt.pos rfl (ih ())))))
  have h:=key 0 (Nat.zero_le _) ()
  unfold laws_eqIntSS.f
  exact Evt.pos rfl h
structure SmallCert (M:List (List Int)) (S R:List Int):Prop where
  marks:M.length≤1048576
  all:tot M≤1048576
  steps:S.length≤1048576
  ranks:R.length≤1048576
theorem SmallCert.short {M:List (List Int)} {S R:List Int} (h:SmallCert M S R):∀ m ∈ M,Short m:=fun m hm=>by have:=tot_mem hm;have:=h.all;show m.length≤_;omega
theorem SmallCert.shortS {M:List (List Int)} {S R:List Int} (h:SmallCert M S R):Short S:=by have:=h.steps;show S.length≤_;omega
theorem SmallCert.shortR {M:List (List Int)} {S R:List Int} (h:SmallCert M S R):Short R:=by have:=h.ranks;show R.length≤_;omega
theorem szCert_ex (M:List (List Int)) (S R:List Int) (b:Int) (hb0:0≤b) (hb1:b≤1048576) (hM:M.length≤maxLen) (hr:∀ x ∈ M,x.length≤maxLen) (hS:S.length≤maxLen) (hR:R.length≤maxLen):∃ r:Int,Evt (fun k=>laws_szCert.f k M S R b) r∧(0≤r→SmallCert M S R):=by
  obtain ⟨a,e1,e2⟩:=szSS_ex M b hb0 hb1 hM hr
  unfold laws_szCert.f
  by_cases c:a<0
  · exact ⟨-1,Evt.bind e1 (Evt.pos c (Evt.ok _)),fun h=>by omega⟩
  have ha:=e2 (by omega)
  have hs:=szI_eq S a (by omega) (by omega) hS
  by_cases c2:a<(S.length:Int)
  · rw [if_pos c2] at hs
    exact ⟨-1,Evt.bind e1 (Evt.neg c (Evt.bind0 hs (Evt.pos (by omega) (Evt.ok _)))),fun h=>by omega⟩
  rw [if_neg c2] at hs
  have hq:=szI_eq R (a - (S.length:Int)) (by omega) (by omega) hR
  by_cases c3:a - (S.length:Int)<(R.length:Int)
  · rw [if_pos c3] at hq
    exact ⟨-1,Evt.bind e1 (Evt.neg c (Evt.bind0 hs (Evt.neg (by omega) (Evt.bind0 hq (Evt.pos (by omega) (Evt.ok _)))))),fun h=>by omega⟩
  rw [if_neg c3] at hq
  exact ⟨_,Evt.bind e1 (Evt.neg c (Evt.bind0 hs (Evt.neg (by omega) (Evt.bind0 hq (Evt.neg (by omega) (Evt.ok _)))))),fun _=>⟨by omega,by omega,by omega,by omega⟩⟩
theorem toCert_ev (M:List (List Int)) (S R:List Int) (h:SmallCert M S R):Evt (fun k=>laws_toCert.f k M S R) (M,S,R):=by
  unfold laws_toCert.f
  exact Evt.bind (toSS_ev M h.marks h.short) (Evt.bind (toIntS_ev S h.shortS) (Evt.bind (toIntS_ev R h.shortR) (Evt.ok _)))
theorem eqCert_same (M:List (List Int)) (S R:List Int) (h:SmallCert M S R):Evt (fun k=>laws_eqCert.f k M S R M S R) true:=by
  unfold laws_eqCert.f
  exact Evt.bind (eqSS_same M h.marks h.short) (Evt.pos rfl (Evt.bind (eqIntS_same S h.shortS) (Evt.pos rfl (Evt.bind (eqIntS_same R h.shortR) (Evt.pos rfl (Evt.ok _))))))
end Go.Proofs.Ytbkjgnfnjgebiaa.Lib
