import Derived.Test.YtbkjgnfnjgebiaaF0
import Derived.Test.YtbkjgnfnjgebiaaF2
import Derived.Test.YtbkjgnfnjgebiaaF3
import Derived.Test.YtbkjgnfnjgebiaaF5
import Derived.Test.YtbkjgnfnjgebiaaF6
import Derived.Test.YtbkjgnfnjgebiaaCertFind
import Derived.Test.YtbkjgnfnjgebiaaCertForm
import Derived.Test.YtbkjgnfnjgebiaaGoodIn
namespace Go.Proofs.Ytbkjgnfnjgebiaa.Lib
open Go.RowKit Go.Proofs.Ytbkjgnfnjgebiaa.F Go.Proofs.YtbkjgnfnjgebiaaW.PrintWords Go.Proofs.YtbkjgnfnjgebiaaW.PrintLast Go.Proofs.YtbkjgnfnjgebiaaW.PrintMore
abbrev B3:=List Bool × List Bool × List Bool
def upd (S R:List Int) (st:B3) (a:ArcT):B3 :=
  (st.1.set a.f2.toNat (rdOf false st.1 a.f2 || decide (rd S a.f0<rd S a.f2)),st.2.1.set a.f0.toNat (rdOf false st.2.1 a.f0 || decide (rd R a.f2<rd R a.f0)),st.2.2.set a.f1.toNat true)
def Len3 (n d:Nat) (st:B3):Prop:=st.1.length=n∧st.2.1.length=n∧st.2.2.length=d
theorem Len3.upd {n d:Nat} {st:B3} (h:Len3 n d st) (S R:List Int) (a:ArcT):Len3 n d (upd S R st a):=⟨by simpa [Lib.upd] using h.1,by simpa [Lib.upd] using h.2.1,by simpa [Lib.upd] using h.2.2⟩
theorem Len3.fold {n d:Nat} (S R:List Int) (A:List ArcT):∀ {st:B3},Len3 n d st→Len3 n d (A.foldl (Lib.upd S R) st):=by
  induction A with
  | nil=>intro st h;exact h
  | cons a A ih=>intro st h;exact ih (h.upd S R a)
def ArcOk (n d:Nat) (a:ArcT):Prop:=(0≤a.f0∧a.f0<(n:Int))∧(0≤a.f1∧a.f1<(d:Int))∧(0≤a.f2∧a.f2<(n:Int))
section
variable (M:List (List Int)) (S R:List Int) (n d:Nat) (hS:S.length=n) (hR:R.length=n)
include hS hR
theorem specC_step (u v:List Int) (st:B3) (A:List ArcT) (i:Nat) (hi:i<A.length) (hA:A.length≤9600) (h3:Len3 n d st) (ha:ArcOk n d A[i]) (r:Int × Bool)
    (h:Evt (fun k=>spec_CheckCert.l0 k u v (upd S R st A[i]).1 (upd S R st A[i]).2.1 (upd S R st A[i]).2.2 A (A.length:Int) ((i+1:Nat):Int) M S R) r) :
    Evt (fun k=>spec_CheckCert.l0 (k+1) u v st.1 st.2.1 st.2.2 A (A.length:Int) (i:Int) M S R) r:=by
  obtain ⟨C,L,F⟩:=st
  obtain ⟨l1,l2,l3⟩:=h3
  obtain ⟨⟨a0,a1⟩,⟨b0,b1⟩,c0,c1⟩:=ha
  have l1' : C.length=n:=l1
  have l2' : L.length=n:=l2
  have l3' : F.length=d:=l3
  have er:rd_T85 A (i:Int)=A[i]:=rdG A _ i hi
  simp only [spec_CheckCert.l0,er,Option.bind_some]
  rw [wrapN i _ hi (by omega)]
  simp only [Lib.upd] at h
  refine Evt.pos (natLt _ _ hi) (Evt.pos (by omega) (Evt.pos (natLt _ _ hi) (Evt.pos c0 (Evt.pos (by omega) ?_))))
  cases p:rdOf false C (A[i]).f2 with
  | true =>
    rw [p,Bool.true_or] at h
    refine Evt.pos rfl (Evt.pos a0 (Evt.pos (by omega) ?_))
    cases q:rdOf false L (A[i]).f0 with
    | true =>
      rw [q,Bool.true_or] at h
      exact Evt.pos rfl (Evt.pos b0 (Evt.pos (by omega) h))
    | false =>
      rw [q,Bool.false_or] at h
      exact Evt.neg (by decide) (Evt.pos (by omega) (Evt.pos (by omega) (Evt.pos b0 (Evt.pos (by omega) h))))
  | false =>
    rw [p,Bool.false_or] at h
    refine Evt.neg (by decide) (Evt.pos a0 (Evt.pos (by omega) (Evt.pos (by omega) (Evt.pos (by omega) ?_))))
    cases q:rdOf false L (A[i]).f0 with
    | true =>
      rw [q,Bool.true_or] at h
      exact Evt.pos rfl (Evt.pos b0 (Evt.pos (by omega) h))
    | false =>
      rw [q,Bool.false_or] at h
      exact Evt.neg (by decide) (Evt.pos (by omega) (Evt.pos (by omega) (Evt.pos b0 (Evt.pos (by omega) h))))
theorem specC_loop (u v:List Int) (A:List ArcT) (hA:A.length≤9600) (ha:∀ a ∈ A,ArcOk n d a) (st0:B3) (h3:Len3 n d st0) (r:Int × Bool)
    (h:Evt (fun k=>spec_CheckCert.l1 k u v (A.foldl (upd S R) st0).1 (A.foldl (upd S R) st0).2.1 (A.foldl (upd S R) st0).2.2 M (M.length:Int) 0 M S R) r) :
    Evt (fun k=>spec_CheckCert.l0 k u v st0.1 st0.2.1 st0.2.2 A (A.length:Int) 0 M S R) r:=by
  have key:∀ i,i≤A.length → ∀ st:B3,st=(A.take i).foldl (upd S R) st0→Evt (fun k=>spec_CheckCert.l0 k u v st.1 st.2.1 st.2.2 A (A.length:Int) (i:Int) M S R) r:=by
    refine down (P:=fun i (st:B3)=>st=(A.take i).foldl (upd S R) st0→Evt (fun k=>spec_CheckCert.l0 k u v st.1 st.2.1 st.2.2 A (A.length:Int) (i:Int) M S R) r) ?_ ?_
    · intro st e
      rw [List.take_length] at e
      subst e
      refine Evt.step ?_
      simp only [spec_CheckCert.l0]
      exact Evt.neg (natNotLt _) h
    · intro i hi ih st e
      refine Evt.step (specC_step M S R n d hS hR u v st A i hi hA (by rw [e];exact Len3.fold S R _ h3) (ha _ (List.getElem_mem hi)) r (ih _ ?_))
      rw [takeN A i hi,List.foldl_append,← e]
      rfl
  exact key 0 (Nat.zero_le _) st0 rfl
theorem implC_step (p:Int) (ts:List Tr) (u v:Int) (x5 x6:Int) (st:B3) (x:List Int) (k0:Nat) (hk:k0<n) (E:List Int) (j:Nat) (hj:j<E.length) (hE:E.length≤100) (q:Nat) (eq0:rd E (j:Int)=(q:Int)) (hq:q<d) (hd:ts.length=d) (hn:n≤400) (m:List Int) (at1:Int)
    (hm:Evt (fun z=>impl_fired.f z (ts[q]'(by omega)).f0 (ts[q]'(by omega)).f1 (ts[q]'(by omega)).f2 x) m) (hf:Evt (fun z=>impl_Cert_find.f z M S R m) at1) (at2:at1<(n:Int)) (h3:Len3 n d st) (r:Int) (hneg:at1<0→r=3)
    (h:¬ at1<0→Evt (fun k=>impl_checkCert.l1 k x5 x6 (upd S R st ⟨(k0:Int),(q:Int),at1⟩).1 (upd S R st ⟨(k0:Int),(q:Int),at1⟩).2.1 (upd S R st ⟨(k0:Int),(q:Int),at1⟩).2.2 (k0:Int) x M (M.length:Int) (k0:Int) E (E.length:Int) ((j+1:Nat):Int) p ts u v M S R) r) :
    Evt (fun k=>impl_checkCert.l1 (k+1) x5 x6 st.1 st.2.1 st.2.2 (k0:Int) x M (M.length:Int) (k0:Int) E (E.length:Int) (j:Int) p ts u v M S R) r:=by
  obtain ⟨C,L,F⟩:=st
  obtain ⟨l1,l2,l3⟩:=h3
  have l1' : C.length=n:=l1
  have l2' : L.length=n:=l2
  have l3' : F.length=d:=l3
  have er:rd_T63 ts (q:Int)=ts[q]'(by omega):=rdG ts _ q (by omega)
  simp only [impl_checkCert.l1,eq0,er,Option.bind_some]
  rw [wrapN j _ hj (by omega)]
  refine Evt.pos (natLt _ _ hj) (Evt.pos (by omega) (Evt.pos (natLt _ _ hj) (Evt.pos (by omega) (Evt.pos (by omega) (Evt.bind hm (Evt.bind hf ?_))))))
  by_cases c:at1<0
  · rw [hneg c];exact Evt.pos c (Evt.ok _)
  have h:=h c
  simp only [Lib.upd] at h
  refine Evt.neg c (Evt.pos (by omega) (Evt.pos (by omega) (Evt.pos (by omega) ?_)))
  cases e1:rdOf false C at1 with
  | true =>
    rw [e1,Bool.true_or] at h
    refine Evt.pos rfl (Evt.pos (by omega) (Evt.pos (by omega) ?_))
    cases e2:rdOf false L (k0:Int) with
    | true=>rw [e2,Bool.true_or] at h;exact Evt.pos rfl h
    | false=>rw [e2,Bool.false_or] at h;exact Evt.neg (by decide) (Evt.pos (by omega) (Evt.pos (by omega) h))
  | false =>
    rw [e1,Bool.false_or] at h
    refine Evt.neg (by decide) (Evt.pos (by omega) (Evt.pos (by omega) (Evt.pos (by omega) (Evt.pos (by omega) ?_))))
    cases e2:rdOf false L (k0:Int) with
    | true=>rw [e2,Bool.true_or] at h;exact Evt.pos rfl h
    | false=>rw [e2,Bool.false_or] at h;exact Evt.neg (by decide) (Evt.pos (by omega) (Evt.pos (by omega) h))
end
theorem arcs_both (p:Int) (ts:List Tr) (u v:Int) (M:List (List Int)) (S R:List Int) (x5 x6:Int) (st0:B3) (hs:SmallN ts) (hg:goodNet p ts=true) (hn:M.length≤400) (hS:S.length=M.length) (hR:R.length=M.length) (hd:Dist M) (hM:∀ m ∈ M,goodMark p m=true) (h3:Len3 M.length ts.length st0)
    (hend:∀ A:List ArcT,A.length≤9600→(∀ a ∈ A,ArcOk M.length ts.length a) → ∃ ri:Int,Evt (fun k=>impl_checkCert.l0 k x5 x6 (A.foldl (upd S R) st0).1 (A.foldl (upd S R) st0).2.1 (A.foldl (upd S R) st0).2.2 M (M.length:Int) (M.length:Int) p ts u v M S R) ri∧Evt (fun k=>spec_CheckCert.l0 k ((List.replicate p.toNat 0).set u.toNat 1) ((List.replicate p.toNat 0).set v.toNat 1) st0.1 st0.2.1 st0.2.2 A (A.length:Int) 0 M S R) (ri,true)) :
    ∃ (rs:List ArcT × Bool) (ri:Int),Evt (fun k=>spec_l9Arcs.f k p ts u v M S R) rs∧Evt (fun k=>impl_checkCert.l0 k x5 x6 st0.1 st0.2.1 st0.2.2 M (M.length:Int) 0 p ts u v M S R) ri∧((rs.2=false∧ri=3)∨(rs.2=true∧Evt (fun k=>spec_CheckCert.l0 k ((List.replicate p.toNat 0).set u.toNat 1) ((List.replicate p.toNat 0).set v.toNat 1) st0.1 st0.2.1 st0.2.2 rs.1 (rs.1.length:Int) 0 M S R) (ri,true))):=by
  have hfc:=goodNet_facts hg
  have hMs:Short M:=by show M.length≤_;omega
  have hMl:∀ y ∈ M,Short y:=fun y hy=>by have:=goodMark_bounds (hM y hy);show y.length≤_;omega
  let Out (rs:List ArcT × Bool) (ri:Int):Prop:=(rs.2=false∧ri=3)∨(rs.2=true∧Evt (fun k=>spec_CheckCert.l0 k ((List.replicate p.toNat 0).set u.toNat 1) ((List.replicate p.toNat 0).set v.toNat 1) st0.1 st0.2.1 st0.2.2 rs.1 (rs.1.length:Int) 0 M S R) (ri,true))
  have outer:∀ k,k≤M.length → ∀ A:List ArcT,A.length≤24*k→(∀ a ∈ A,ArcOk M.length ts.length a) → ∃ (rs:List ArcT × Bool) (ri:Int),Evt (fun z=>spec_l9Arcs.l0 z A M (M.length:Int) (k:Int) p ts u v M S R) rs∧Evt (fun z=>impl_checkCert.l0 z x5 x6 (A.foldl (upd S R) st0).1 (A.foldl (upd S R) st0).2.1 (A.foldl (upd S R) st0).2.2 M (M.length:Int) (k:Int) p ts u v M S R) ri∧Out rs ri:=by
    refine down (P:=fun k (A:List ArcT)=>A.length≤24*k→(∀ a ∈ A,ArcOk M.length ts.length a) → ∃ (rs:List ArcT × Bool) (ri:Int),Evt (fun z=>spec_l9Arcs.l0 z A M (M.length:Int) (k:Int) p ts u v M S R) rs∧Evt (fun z=>impl_checkCert.l0 z x5 x6 (A.foldl (upd S R) st0).1 (A.foldl (upd S R) st0).2.1 (A.foldl (upd S R) st0).2.2 M (M.length:Int) (k:Int) p ts u v M S R) ri∧Out rs ri) ?_ ?_
    · intro A hA ha
      obtain ⟨ri,e1,e2⟩:=hend A (by omega) ha
      refine ⟨(A,true),ri,Evt.step ?_,e1,.inr ⟨rfl,e2⟩⟩
      simp only [spec_l9Arcs.l0]
      exact Evt.neg (natNotLt _) (Evt.ok _)
    · intro k hk ih A hA ha
      have hx:goodMark p M[k]=true:=hM _ (List.getElem_mem hk)
      have hmb:=goodMark_bounds hx
      have hin:=good_inNet hg (M[k]).length (by omega)
      have hxs:Short M[k]:=hMl _ (List.getElem_mem hk)
      have eM:rd_L1 M (k:Int)=M[k]:=rdL M k hk
      have hEl:=enabledL_length ts M[k]
      have inner:∀ j,j≤(enabledL ts M[k]).length → ∀ A:List ArcT,A.length≤24*k+j→(∀ a ∈ A,ArcOk M.length ts.length a) → ∃ (rs:List ArcT × Bool) (ri:Int),Evt (fun z=>spec_l9Arcs.l1 z A (k:Int) M[k] M (M.length:Int) (k:Int) (enabledL ts M[k]) ((enabledL ts M[k]).length:Int) (j:Int) p ts u v M S R) rs∧Evt (fun z=>impl_checkCert.l1 z x5 x6 (A.foldl (upd S R) st0).1 (A.foldl (upd S R) st0).2.1 (A.foldl (upd S R) st0).2.2 (k:Int) M[k] M (M.length:Int) (k:Int) (enabledL ts M[k]) ((enabledL ts M[k]).length:Int) (j:Int) p ts u v M S R) ri∧Out rs ri:=by
        refine down (P:=fun j (A:List ArcT)=>A.length≤24*k+j→(∀ a ∈ A,ArcOk M.length ts.length a) → ∃ (rs:List ArcT × Bool) (ri:Int),Evt (fun z=>spec_l9Arcs.l1 z A (k:Int) M[k] M (M.length:Int) (k:Int) (enabledL ts M[k]) ((enabledL ts M[k]).length:Int) (j:Int) p ts u v M S R) rs∧Evt (fun z=>impl_checkCert.l1 z x5 x6 (A.foldl (upd S R) st0).1 (A.foldl (upd S R) st0).2.1 (A.foldl (upd S R) st0).2.2 (k:Int) M[k] M (M.length:Int) (k:Int) (enabledL ts M[k]) ((enabledL ts M[k]).length:Int) (j:Int) p ts u v M S R) ri∧Out rs ri) ?_ ?_
        · intro A hA ha
          obtain ⟨rs,ri,e1,e2,e3⟩:=ih A (by omega) ha
          refine ⟨rs,ri,Evt.step ?_,Evt.step ?_,e3⟩
          · simp only [spec_l9Arcs.l1]
            rw [wrapN k _ hk (by omega)]
            exact Evt.neg (natNotLt _) e1
          · simp only [impl_checkCert.l1]
            rw [wrapN k _ hk (by omega)]
            exact Evt.neg (natNotLt _) e2
        · intro j hj ihj A hA ha
          obtain ⟨q,eq0,hq⟩:=enabledL_in ts M[k] j hj
          have hsm:SmallT ts[q]:=hs.2 _ (List.getElem_mem hq)
          have er:rd_T63 ts (q:Int)=ts[q]:=rdG ts _ q hq
          obtain ⟨m,hm1,hm2⟩:=l2Fire_ex ts[q] M[k] hsm (hin _ (List.getElem_mem hq)) hxs
          have hm1' : Evt (fun z=>impl_fired.f z ts[q].f0 ts[q].f1 ts[q].f2 M[k]) m:=hm1.fn (fun z=>fired_f z _ _ _ _)
          obtain ⟨at1,f1,f2,f3⟩:=find_both M S R m hd hMs hMl
          have hlt:=isAt_lt f3
          by_cases c:at1<0
          · refine ⟨([],false),3,Evt.step ?_,Evt.step ?_,.inl ⟨rfl,rfl⟩⟩
            · simp only [spec_l9Arcs.l1,eq0,er]
              exact Evt.pos (natLt _ _ hj) (Evt.pos (by omega) (Evt.pos (natLt _ _ hj) (Evt.pos (by omega) (Evt.pos (by omega) (Evt.bind hm1 (Evt.bind f1 (Evt.pos c (Evt.ok _))))))))
            · exact implC_step M S R M.length ts.length hS hR p ts u v x5 x6 _ M[k] k hk _ j hj (by omega) q eq0 hq rfl hn m at1 hm1' f2 hlt (Len3.fold S R _ h3) 3 (fun _=>rfl) (fun h=>absurd c h)
          · have hok:ArcOk M.length ts.length (⟨(k:Int),(q:Int),at1⟩:ArcT):=⟨⟨by show (0:Int)≤(k:Int);omega,by show (k:Int)<_;omega⟩,⟨by show (0:Int)≤(q:Int);omega,by show (q:Int)<_;omega⟩,⟨by show (0:Int)≤at1;omega,hlt⟩⟩
            obtain ⟨rs,ri,e1,e2,e3⟩:=ihj (A ++ [(⟨(k:Int),(q:Int),at1⟩:ArcT)]) (by rw [List.length_append,List.length_singleton];omega) (fun a h=>by
              rcases List.mem_append.1 h with h|h
              · exact ha a h
              · rw [List.mem_singleton.1 h];exact hok)
            rw [List.foldl_append] at e2
            refine ⟨rs,ri,Evt.step ?_,Evt.step ?_,e3⟩
            · simp only [spec_l9Arcs.l1,eq0,er]
              rw [wrapN j _ hj (by omega)]
              exact Evt.pos (natLt _ _ hj) (Evt.pos (by omega) (Evt.pos (natLt _ _ hj) (Evt.pos (by omega) (Evt.pos (by omega) (Evt.bind hm1 (Evt.bind f1 (Evt.neg c (Evt.pos (by omega) e1))))))))
            · exact implC_step M S R M.length ts.length hS hR p ts u v x5 x6 _ M[k] k hk _ j hj (by omega) q eq0 hq rfl hn m at1 hm1' f2 hlt (Len3.fold S R _ h3) ri (fun h=>absurd h c) (fun _=>e2)
      obtain ⟨rs,ri,e1,e2,e3⟩:=inner 0 (Nat.zero_le _) A (by omega) ha
      refine ⟨rs,ri,Evt.step ?_,Evt.step ?_,e3⟩
      · simp only [spec_l9Arcs.l0,eM]
        exact Evt.pos (natLt _ _ hk) (Evt.pos (by omega) (Evt.pos (natLt _ _ hk) (Evt.bind (l2Enabled_ev p ts M[k] hs hin) e1)))
      · simp only [impl_checkCert.l0,eM]
        exact Evt.pos (natLt _ _ hk) (Evt.pos (by omega) (Evt.pos (natLt _ _ hk) (Evt.bind (enabled_ev p ts M[k] hs hin) e2)))
  obtain ⟨rs,ri,e1,e2,e3⟩:=outer 0 (Nat.zero_le _) [] (by simp) (fun a h=>by cases h)
  exact ⟨rs,ri,by unfold spec_l9Arcs.f;exact e1,e2,e3⟩
end Go.Proofs.Ytbkjgnfnjgebiaa.Lib
