import Derived.Test.YtbkjgnfnjgebiaaF0
import Derived.Test.YtbkjgnfnjgebiaaF2
import Derived.Test.YtbkjgnfnjgebiaaF5
import Derived.Test.YtbkjgnfnjgebiaaMarks
import Derived.Test.YtbkjgnfnjgebiaaCmp
import Derived.Test.YtbkjgnfnjgebiaaIn
import Derived.Test.YtbkjgnfnjgebiaaNet
namespace Go.Proofs.Ytbkjgnfnjgebiaa.Lib
open Go.RowKit Go.Proofs.Ytbkjgnfnjgebiaa.F Go.Proofs.YtbkjgnfnjgebiaaW.PrintWords Go.Proofs.YtbkjgnfnjgebiaaW.PrintLast Go.Proofs.YtbkjgnfnjgebiaaW.PrintMore
theorem loop_until {ρ:Type} (L:Nat→Nat→Option ρ) (n:Nat) (T:Nat→Bool) (e r:ρ) (hend:(∀ i,i<n→T i=true)→Evt (fun k=>L (k+1) n) r)
    (hyes:∀ i,i<n→(∀ j,j<i→T j=true)→T i=true → ∀ x,Evt (fun k=>L k (i+1)) x→Evt (fun k=>L (k+1) i) x) (hno:∀ i,i<n→(∀ j,j<i→T j=true)→T i=false→Evt (fun k=>L (k+1) i) e) :
    Evt (fun k=>L k 0) (if (List.range n).all T=true then r else e):=by
  have key:∀ i,i≤n → ∀ _:Unit,(∀ j,j<i→T j=true)→Evt (fun k=>L k i) (if (List.range n).all T=true then r else e):=by
    refine down (P:=fun i _=>(∀ j,j<i→T j=true)→Evt (fun k=>L k i) (if (List.range n).all T=true then r else e)) ?_ ?_
    · intro _ h
      rw [if_pos (List.all_eq_true.2 fun j hj=>h j (List.mem_range.1 hj))]
      exact Evt.step (hend h)
    · intro i hi ih _ h
      refine Evt.step ?_
      cases c:T i with
      | true =>
        refine hyes i hi h c _ (ih () fun j hj=>?_)
        by_cases e:j=i
        · subst e;exact c
        · exact h j (by omega)
      | false =>
        rw [if_neg (fun h2=>by have:=List.all_eq_true.1 h2 i (List.mem_range.2 hi);rw [c] at this;cases this)]
        exact hno i hi h c
  exact key 0 (Nat.zero_le _) () (fun j hj=>by omega)
theorem mn_neg (a b:Int):mn a b<0 ↔ a<0∨b<0:=by unfold mn;split <;> omega
theorem min_ex (l:List Int) (hl:Short l) (h0:0<l.length):∃ m:Int,Evt (fun k=>slices_Min_int_int.f k l) m∧(m<0 ↔ ∃ x ∈ l,x<0):=by
  have hl' : l.length≤17592186044415:=hl
  have key:∀ i,i≤l.length → ∀ c:Int,∃ m:Int,Evt (fun k=>slices_Min_int_int.l0 k l c (i:Int)) m∧(m<0 ↔ c<0 ∨ ∃ x ∈ l.drop i,x<0):=by
    refine down (P:=fun i (c:Int)=>∃ m:Int,Evt (fun k=>slices_Min_int_int.l0 k l c (i:Int)) m∧(m<0 ↔ c<0 ∨ ∃ x ∈ l.drop i,x<0)) ?_ ?_
    · intro c
      refine ⟨c,Evt.step ?_,by simp⟩
      simp only [slices_Min_int_int.l0]
      exact Evt.neg (natNotLt _) (Evt.ok _)
    · intro i hi ih c
      obtain ⟨m,e1,e2⟩:=ih (mn c (rd l (i:Int)))
      refine ⟨m,Evt.step ?_,?_⟩
      · simp only [slices_Min_int_int.l0]
        rw [wrapN i _ hi (by omega)]
        exact Evt.pos (natLt _ _ hi) (Evt.pos (by omega) e1)
      · rw [e2,mn_neg,rdN l i hi,dropN l i hi]
        simp only [List.mem_cons,exists_eq_or_imp]
        exact or_assoc
  obtain ⟨m,e1,e2⟩:=key 1 (by omega) (rd l 0)
  refine ⟨m,?_,?_⟩
  · unfold slices_Min_int_int.f
    exact Evt.neg (by omega) (Evt.pos (by omega) e1)
  · have e:rd l 0=l[0]:=rdN l 0 h0
    have d:=dropN l 0 h0
    rw [List.drop_zero] at d
    rw [e2,e]
    constructor
    · rintro (h|⟨x,hx,h⟩)
      · exact ⟨_,List.getElem_mem h0,h⟩
      · exact ⟨x,List.mem_of_mem_drop hx,h⟩
    · rintro ⟨x,hx,h⟩
      rw [d] at hx
      rcases List.mem_cons.1 hx with rfl|hx
      · exact .inl h
      · exact .inr ⟨x,hx,h⟩
def formAt (p:Int) (M:List (List Int)) (i:Nat):Bool:=goodMark p (M.getD i []) && (decide (i=0) || decide (lexL (M.getD (i - 1) []) (M.getD i [])<0))
def formed (p:Int) (M:List (List Int)) (S R:List Int):Bool :=
  within (M.length:Int) 1 400 && decide (S.length=M.length) && decide (R.length=M.length) && S.all (fun x=>decide (0≤x)) && R.all (fun x=>decide (0≤x)) && (List.range M.length).all (formAt p M)
theorem rdLg (M:List (List Int)) (i:Nat) (h:i<M.length):rd_L1 M (i:Int)=M.getD i []:=by
  rw [show rd_L1 M (i:Int)=M[i] from rdG M _ i h,getDN M [] i h]
section
variable (p:Int) (M:List (List Int)) (S R:List Int) (hM:M.length≤400) (hS:∀ x ∈ M,Short x)
include hM hS
omit hM in
theorem short_at (i:Nat):Short (M.getD i []):=by
  by_cases h:i<M.length
  · rw [getDN M [] i h];exact hS _ (List.getElem_mem h)
  · rw [List.getD_eq_getElem?_getD,List.getElem?_eq_none (by omega)];show ([]:List Int).length≤_;simp
theorem isFormed_loop:Evt (fun k=>impl_Cert_isFormed.l0 k p M (M.length:Int) 0 M S R) ((List.range M.length).all (formAt p M)):=by
  refine (loop_until (fun k i=>impl_Cert_isFormed.l0 k p M (M.length:Int) (i:Int) M S R) M.length (formAt p M) false true ?_ ?_ ?_).cast ?_
  · intro _
    simp only [impl_Cert_isFormed.l0]
    exact Evt.neg (natNotLt _) (Evt.ok _)
  · intro i hi _ hT x hx
    simp only [formAt,Bool.and_eq_true] at hT
    have hm:=(goodMark_ev p _ (short_at M hS i)).cast hT.1
    simp only [impl_Cert_isFormed.l0,rdLg M i hi]
    rw [wrapN i _ hi (by omega)]
    refine Evt.pos (natLt _ _ hi) (Evt.pos (by omega) (Evt.pos (natLt _ _ hi) (Evt.bind hm (Evt.pos rfl ?_))))
    by_cases h0:i=0
    · exact Evt.neg (by omega) hx
    · have ew:wrap64 ((i:Int) - 1)=((i - 1:Nat):Int):=by rw [wrap_id _ (by omega) (by omega)];omega
      have hlt:lexL (M.getD (i - 1) []) (M.getD i [])<0:=by
        rcases Bool.or_eq_true_iff.1 hT.2 with h|h
        · exact absurd (of_decide_eq_true h) h0
        · exact of_decide_eq_true h
      rw [ew,rdLg M (i - 1) (by omega)]
      exact Evt.pos (by omega) (Evt.pos (by omega) (Evt.pos (by omega) (Evt.bind (slicesCompare_ev _ _ (short_at M hS _)) (Evt.neg (by omega) hx))))
  · intro i hi _ hT
    simp only [impl_Cert_isFormed.l0,rdLg M i hi]
    refine Evt.pos (natLt _ _ hi) (Evt.pos (by omega) (Evt.pos (natLt _ _ hi) ?_))
    cases hg:goodMark p (M.getD i []) with
    | false=>exact Evt.bind ((goodMark_ev p _ (short_at M hS i)).cast hg) (Evt.neg (by decide) (Evt.ok _))
    | true =>
      simp only [formAt,hg,Bool.true_and,Bool.or_eq_false_iff] at hT
      have h0:=of_decide_eq_false hT.1
      have h1:=of_decide_eq_false hT.2
      have ew:wrap64 ((i:Int) - 1)=((i - 1:Nat):Int):=by rw [wrap_id _ (by omega) (by omega)];omega
      rw [ew,rdLg M (i - 1) (by omega)]
      exact Evt.bind ((goodMark_ev p _ (short_at M hS i)).cast hg) (Evt.pos rfl (Evt.pos (by omega) (Evt.pos (by omega) (Evt.pos (by omega) (Evt.bind (slicesCompare_ev _ _ (short_at M hS _)) (Evt.pos (by omega) (Evt.ok _)))))))
  · cases (List.range M.length).all (formAt p M) <;> rfl
end
theorem isFormed_ev (p:Int) (M:List (List Int)) (S R:List Int) (hM:Short M) (hS:∀ x ∈ M,Short x) (h1:Short S) (h2:Short R):Evt (fun k=>impl_Cert_isFormed.f k M S R p) (formed p M S R):=by
  have no:Evt (fun k=>impl_Cert_isFormed.j0 k p true M S R) false:=by
    refine Evt.step ?_
    simp only [impl_Cert_isFormed.j0]
    exact Evt.pos (by first|rfl|trivial) (Evt.ok _)
  unfold impl_Cert_isFormed.f formed
  simp only [within_eq,Option.bind_some]
  cases hw:within (M.length:Int) 1 400 with
  | false=>exact Evt.neg (by decide) (no.cast (by simp))
  | true =>
    have hb:=within_bounds hw
    refine Evt.pos rfl ?_
    by_cases c1:S.length=M.length
    · by_cases c2:R.length=M.length
      · obtain ⟨a,a1,a2⟩:=min_ex S h1 (by omega)
        obtain ⟨b,b1,b2⟩:=min_ex R h2 (by omega)
        refine Evt.pos (by omega) (Evt.pos (by omega) (Evt.bind a1 ?_))
        by_cases ca:a<0
        · obtain ⟨x,hx,h⟩:=a2.1 ca
          have e:S.all (fun x=>decide (0≤x))=false:=List.all_eq_false.2 ⟨x,hx,by simp;omega⟩
          exact Evt.pos ca (no.cast (by simp [e]))
        · have e:S.all (fun x=>decide (0≤x))=true:=List.all_eq_true.2 fun x hx=>decide_eq_true (by
            by_cases h:x<0
            · exact absurd (a2.2 ⟨x,hx,h⟩) ca
            · omega)
          refine Evt.neg ca (Evt.bind b1 (Evt.step ?_))
          simp only [impl_Cert_isFormed.j0]
          by_cases cb:b<0
          · obtain ⟨x,hx,h⟩:=b2.1 cb
            have e2:R.all (fun x=>decide (0≤x))=false:=List.all_eq_false.2 ⟨x,hx,by simp;omega⟩
            exact Evt.pos (decide_eq_true cb) ((Evt.ok _).cast (by simp [e2]))
          · have e2:R.all (fun x=>decide (0≤x))=true:=List.all_eq_true.2 fun x hx=>decide_eq_true (by
              by_cases h:x<0
              · exact absurd (b2.2 ⟨x,hx,h⟩) cb
              · omega)
            refine Evt.neg (by simp [cb]) ((isFormed_loop p M S R (by omega) hS).cast ?_)
            rw [e,e2,decide_eq_true c1,decide_eq_true c2]
            rfl
      · exact Evt.pos (by omega) (Evt.neg (by omega) (no.cast (by simp [c2])))
    · exact Evt.neg (by omega) (no.cast (by simp [c1]))
theorem l9Shape_ev (p:Int) (ts:List Tr) (u v:Int) (M:List (List Int)) (S R:List Int) (hM:Short M) (hS:∀ x ∈ M,Short x) (h1:Short S) (h2:Short R):Evt (fun k=>spec_l9Shape.f k p ts u v M S R) (formed p M S R):=by
  have no:∀ c:Bool,c=true→Evt (fun k=>spec_l9Shape.j0 k c p ts u v M S R) false:=by
    intro c hc
    refine Evt.step ?_
    simp only [spec_l9Shape.j0]
    exact Evt.pos hc (Evt.ok _)
  unfold spec_l9Shape.f formed
  simp only [l1In_eq,Option.bind_some]
  cases hw:within (M.length:Int) 1 400 with
  | false=>exact Evt.neg (by decide) ((no true rfl).cast (by simp))
  | true =>
    have hb:=within_bounds hw
    refine Evt.pos rfl ?_
    by_cases c1:S.length=M.length
    · by_cases c2:R.length=M.length
      · refine Evt.pos (by omega) (Evt.step ?_)
        simp only [spec_l9Shape.j0]
        refine Evt.neg (by simp [c2]) ?_
        have hsa:=short_at M hS
        refine (loop_until (fun k i=>spec_l9Shape.l0 k M (M.length:Int) (i:Int) p ts u v M S R) M.length (fun i=>formAt p M i && (decide (0≤S.getD i 0) && decide (0≤R.getD i 0))) false true ?_ ?_ ?_).cast ?_
        · intro _
          simp only [spec_l9Shape.l0]
          exact Evt.neg (natNotLt _) (Evt.ok _)
        · intro i hi hP hT x hx
          simp only [formAt,Bool.and_eq_true,decide_eq_true_eq] at hT
          have hm:=(specGoodMark_ev p _ (hsa i)).cast hT.1.1
          simp only [spec_l9Shape.l0,rdLg M i hi,rdD]
          refine Evt.pos (natLt _ _ hi) (Evt.pos (by omega) (Evt.pos (natLt _ _ hi) (Evt.bind hm (Evt.pos rfl (Evt.pos (by omega) (Evt.neg (by omega) (Evt.pos (by omega) (Evt.step ?_))))))))
          simp only [spec_l9Shape.j2]
          rw [wrapN i _ hi (by omega)]
          refine Evt.neg (by rw [decide_eq_true_eq];omega) ?_
          by_cases h0:i=0
          · exact Evt.neg (by omega) hx
          · have ew:wrap64 ((i:Int) - 1)=((i - 1:Nat):Int):=by rw [wrap_id _ (by omega) (by omega)];omega
            have hlt:lexL (M.getD (i - 1) []) (M.getD i [])<0:=by
              rcases Bool.or_eq_true_iff.1 hT.1.2 with h|h
              · exact absurd (of_decide_eq_true h) h0
              · exact of_decide_eq_true h
            have hq:=hP (i - 1) (by omega)
            simp only [formAt,Bool.and_eq_true] at hq
            have g1:=goodMark_bounds hq.1.1
            have g2:=goodMark_bounds hT.1.1
            rw [ew,rdLg M (i - 1) (by omega)]
            exact Evt.pos (by omega) (Evt.pos (by omega) (Evt.pos (by omega) (Evt.bind (l1Compare_ev _ _ (hsa _) (by omega)) (Evt.neg (by omega) hx))))
        · intro i hi hP hT
          simp only [spec_l9Shape.l0,rdLg M i hi,rdD]
          refine Evt.pos (natLt _ _ hi) (Evt.pos (by omega) (Evt.pos (natLt _ _ hi) ?_))
          have bad:∀ c:Bool,c=true→Evt (fun k=>spec_l9Shape.j2 k (i:Int) (M.getD i []) M (M.length:Int) (i:Int) c p ts u v M S R) false:=by
            intro c hc
            refine Evt.step ?_
            simp only [spec_l9Shape.j2]
            exact Evt.pos hc (Evt.ok _)
          cases hg:goodMark p (M.getD i []) with
          | false=>exact Evt.bind ((specGoodMark_ev p _ (hsa i)).cast hg) (Evt.neg (by decide) (bad true rfl))
          | true =>
            refine Evt.bind ((specGoodMark_ev p _ (hsa i)).cast hg) (Evt.pos rfl (Evt.pos (by omega) ?_))
            by_cases s0:S.getD i 0<0
            · exact Evt.pos s0 (bad true rfl)
            · refine Evt.neg s0 (Evt.pos (by omega) ?_)
              by_cases r0:R.getD i 0<0
              · exact bad _ (decide_eq_true r0)
              · simp only [formAt,hg,Bool.true_and,decide_eq_true (show 0≤S.getD i 0 by omega),decide_eq_true (show 0≤R.getD i 0 by omega),Bool.and_true,Bool.or_eq_false_iff] at hT
                have h0:=of_decide_eq_false hT.1
                have h1:=of_decide_eq_false hT.2
                have ew:wrap64 ((i:Int) - 1)=((i - 1:Nat):Int):=by rw [wrap_id _ (by omega) (by omega)];omega
                have hq:=hP (i - 1) (by omega)
                simp only [formAt,Bool.and_eq_true] at hq
                have g1:=goodMark_bounds hq.1.1
                have g2:=goodMark_bounds hg
                refine Evt.step ?_
                simp only [spec_l9Shape.j2]
                rw [ew,rdLg M (i - 1) (by omega)]
                exact Evt.neg (by rw [decide_eq_true_eq];omega) (Evt.pos (by omega) (Evt.pos (by omega) (Evt.pos (by omega) (Evt.bind (l1Compare_ev _ _ (hsa _) (by omega)) (Evt.pos (by omega) (Evt.ok _))))))
        · have e:((List.range M.length).all fun i=>formAt p M i && (decide (0≤S.getD i 0) && decide (0≤R.getD i 0)))=(S.all (fun x=>decide (0≤x)) && R.all (fun x=>decide (0≤x)) && (List.range M.length).all (formAt p M)):=by
            rw [Bool.eq_iff_iff]
            simp only [Bool.and_eq_true,List.all_eq_true,List.mem_range,decide_eq_true_eq]
            constructor
            · intro h
              refine ⟨⟨fun x hx=>?_,fun x hx=>?_⟩,fun i hi=>(h i hi).1⟩
              · obtain ⟨i,hi,rfl⟩:=List.getElem_of_mem hx
                have:=(h i (by omega)).2.1
                rwa [getDN S 0 i hi] at this
              · obtain ⟨i,hi,rfl⟩:=List.getElem_of_mem hx
                have:=(h i (by omega)).2.2
                rwa [getDN R 0 i hi] at this
            · rintro ⟨⟨a,b⟩,c⟩ i hi
              refine ⟨c i hi,?_,?_⟩
              · rw [getDN S 0 i (by omega)];exact a _ (List.getElem_mem _)
              · rw [getDN R 0 i (by omega)];exact b _ (List.getElem_mem _)
          rw [e,decide_eq_true c1,decide_eq_true c2]
          generalize S.all (fun x=>decide (0≤x))=a
          generalize R.all (fun x=>decide (0≤x))=b
          generalize (List.range M.length).all (formAt p M)=c
          cases a <;> cases b <;> cases c <;> rfl
      · exact Evt.pos (by omega) ((no _ (by simp;omega)).cast (by simp [c2]))
    · exact Evt.neg (by omega) ((no true rfl).cast (by simp [c1]))
end Go.Proofs.Ytbkjgnfnjgebiaa.Lib
