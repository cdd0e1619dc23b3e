import Derived.Test.YtiglhdibibbkjaaLib
namespace Go.Proofs.Ytiglhdibibbkjaa.Lib
open Go.RowKit Go.Proofs.YtiglhdibibbkjaaW.PrintWords
def nd (n:Nat) (x:Int):Prop:=0≤x∧x<(n:Int)
def negs (far:List Int):Nat:=far.countP fun x=>decide (x<0)
theorem rd_set {n:Nat} {far:List Int} (hl:far.length=n) {y z v:Int} (hy:nd n y) (hz:nd n z):rd (far.set y.toNat v) z=if z=y then v else rd far z:=by
  obtain ⟨a,rfl⟩:∃ a:Nat,y=(a:Int):=⟨y.toNat,by have:=hy.1;omega⟩
  obtain ⟨b,rfl⟩:∃ b:Nat,z=(b:Int):=⟨z.toNat,by have:=hz.1;omega⟩
  have ha:=hy.2
  have hb:=hz.2
  rw [rdN _ b (by rw [List.length_set];omega),Int.toNat_natCast,List.getElem_set,rdN far b (by omega)]
  by_cases c:a=b
  · rw [if_pos c,if_pos (by omega)]
  · rw [if_neg c,if_neg (by omega)]
theorem negs_set {n:Nat} {far:List Int} (hl:far.length=n) {y v:Int} (hy:nd n y) (hn:rd far y<0) (hv:0≤v):negs (far.set y.toNat v)+1=negs far:=by
  obtain ⟨a,rfl⟩:∃ a:Nat,y=(a:Int):=⟨y.toNat,by have:=hy.1;omega⟩
  have ha:a<far.length:=by have:=hy.2;omega
  rw [rdN far a ha] at hn
  unfold negs
  rw [Int.toNat_natCast,List.countP_set ha,decide_eq_true hn,decide_eq_false (show ¬ v<0 by omega)]
  simp only [if_true,Bool.false_eq_true,if_false]
  have:0<far.countP (fun x=>decide (x<0)):=List.countP_pos_iff.2 ⟨far[a],List.getElem_mem ha,decide_eq_true hn⟩
  omega
structure BfsOk (n:Nat) (s:Int) (far:List Int) (E:List (Int × Int)):Prop where
  len:far.length=n
  low:∀ x,nd n x→-1≤rd far x
  zero:∀ x,nd n x→(rd far x=0 ↔ x=s)
  back:∀ x,nd n x → ∀ m:Int,0≤m→rd far x=m+1 → ∃ e ∈ E,e.2=x∧rd far e.1=m
  fwd:∀ e ∈ E,0≤rd far e.1→0≤rd far e.2∧rd far e.2≤rd far e.1+1
  high:∀ x,nd n x→rd far x≤n
structure BfsQ (n:Nat) (s:Int) (E:List (Int × Int)) (far q:List Int):Prop where
  len:far.length=n
  low:∀ x,nd n x→-1≤rd far x
  zero:∀ x,nd n x→(rd far x=0 ↔ x=s)
  back:∀ x,nd n x → ∀ m:Int,0≤m→rd far x=m+1 → ∃ e ∈ E,e.2=x∧rd far e.1=m
  inq:∀ x ∈ q,nd n x∧0≤rd far x
  sorted:q.Pairwise fun a b=>rd far a≤rd far b
  near:∀ a ∈ q,∀ b ∈ q,rd far b≤rd far a+1
  done:∀ x,nd n x→0≤rd far x→x ∉ q→(∀ e ∈ E,e.1=x→0≤rd far e.2∧rd far e.2≤rd far x+1) ∧ ∀ y ∈ q,rd far x≤rd far y
  cnt:q.length+negs far≤n
  high:∀ x,nd n x→rd far x+negs far≤n
structure BfsI (n:Nat) (s:Int) (E:List (Int × Int)) (k:Int) (i:Nat) (far q:List Int):Prop where
  len:far.length=n
  low:∀ x,nd n x→-1≤rd far x
  zero:∀ x,nd n x→(rd far x=0 ↔ x=s)
  back:∀ x,nd n x → ∀ m:Int,0≤m→rd far x=m+1 → ∃ e ∈ E,e.2=x∧rd far e.1=m
  inq:∀ x ∈ q,nd n x∧0≤rd far x
  sorted:q.Pairwise fun a b=>rd far a≤rd far b
  kk:nd n k∧0≤rd far k
  klo:∀ y ∈ q,rd far k≤rd far y∧rd far y≤rd far k+1
  done:∀ x,nd n x→0≤rd far x→x ∉ q→x≠k→(∀ e ∈ E,e.1=x→0≤rd far e.2∧rd far e.2≤rd far x+1)∧rd far x≤rd far k
  part:∀ j (h:j<E.length),j<i→E[j].1=k→0≤rd far E[j].2∧rd far E[j].2≤rd far k+1
  cnt:q.length+negs far+1≤n
  high:∀ x,nd n x→rd far x+negs far≤n
section
variable {n:Nat} {s:Int} {E:List (Int × Int)}
theorem BfsQ.pop {k:Int} {far q:List Int} (h:BfsQ n s E far (k :: q)):BfsI n s E k 0 far q:=by
  have hp:=List.pairwise_cons.1 h.sorted
  have hk:=h.inq k (List.mem_cons_self ..)
  refine ⟨h.len,h.low,h.zero,h.back,fun x hx=>h.inq x (List.mem_cons_of_mem _ hx),hp.2,hk,fun y hy=>⟨hp.1 y hy,h.near k (List.mem_cons_self ..) y (List.mem_cons_of_mem _ hy)⟩,fun x hx h0 hq hne=>?_,fun j _ hj=>by omega,by have:=h.cnt;rw [List.length_cons] at this;omega,h.high⟩
  have hd:=h.done x hx h0 (fun hm=>by rcases List.mem_cons.1 hm with e|hm;exact hne e;exact hq hm)
  exact ⟨hd.1,hd.2 k (List.mem_cons_self ..)⟩
theorem BfsI.all {k:Int} {far q:List Int} (h:BfsI n s E k E.length far q):BfsQ n s E far q:=by
  refine ⟨h.len,h.low,h.zero,h.back,h.inq,h.sorted,fun a ha b hb=>?_,fun x hx h0 hq=>?_,by have:=h.cnt;omega,h.high⟩
  · have:=h.klo a ha;have:=h.klo b hb;omega
  · by_cases c:x=k
    · subst c
      refine ⟨fun e he e1=>?_,fun y hy=>(h.klo y hy).1⟩
      obtain ⟨j,hj,rfl⟩:=List.getElem_of_mem he
      exact h.part j hj hj e1
    · have hd:=h.done x hx h0 hq c
      exact ⟨hd.1,fun y hy=>Int.le_trans hd.2 (h.klo y hy).1⟩
theorem BfsI.skip {k:Int} {i:Nat} {far q:List Int} (hE:∀ e ∈ E,nd n e.1∧nd n e.2) (h:BfsI n s E k i far q) (hi:i<E.length) (hc:E[i].1≠k∨0≤rd far E[i].2):BfsI n s E k (i+1) far q:=by
  refine ⟨h.len,h.low,h.zero,h.back,h.inq,h.sorted,h.kk,h.klo,h.done,fun j hj hji e1=>?_,h.cnt,h.high⟩
  by_cases c:j=i
  · subst c
    rcases hc with hc|hc
    · exact (hc e1).elim
    · refine ⟨hc,?_⟩
      have hn:=(hE _ (List.getElem_mem hj)).2
      by_cases cq:E[j].2 ∈ q
      · exact (h.klo _ cq).2
      · by_cases ck:E[j].2=k
        · rw [ck];omega
        · have:=(h.done _ hn hc cq ck).2;omega
  · exact h.part j hj (by omega) e1
theorem BfsI.push {k:Int} {i:Nat} {far q:List Int} (hE:∀ e ∈ E,nd n e.1∧nd n e.2) (hs:nd n s) (h:BfsI n s E k i far q) (hi:i<E.length) (h1:E[i].1=k) (h2:rd far E[i].2<0):BfsI n s E k (i+1) (far.set E[i].2.toNat (rd far k+1)) (q ++ [E[i].2]):=by
  have hmem:=List.getElem_mem hi
  have hy:=(hE _ hmem).2
  generalize hye:E[i].2=y at *
  have hk0:=h.kk.2
  have R:∀ z,nd n z→rd (far.set y.toNat (rd far k+1)) z=if z=y then rd far k+1 else rd far z:=fun z hz=>rd_set h.len hy hz
  have Ry:rd (far.set y.toNat (rd far k+1)) y=rd far k+1:=by rw [R y hy,if_pos rfl]
  have Rn:∀ z,nd n z→z≠y→rd (far.set y.toNat (rd far k+1)) z=rd far z:=fun z hz hne=>by rw [R z hz,if_neg hne]
  have ne0:∀ z,0≤rd far z→z≠y:=fun z hz e=>by rw [e] at hz;omega
  have hky:k≠y:=ne0 k hk0
  have Rk:=Rn k h.kk.1 hky
  have hng:=negs_set h.len hy h2 (show 0≤rd far k+1 by omega)
  refine ⟨by rw [List.length_set];exact h.len,fun x hx=>?_,fun x hx=>?_,fun x hx m hm hr=>?_,fun x hx=>?_,?_,⟨h.kk.1,by rw [Rk];exact hk0⟩,fun z hz=>?_,fun x hx h0 hq hne=>?_,fun j hj hji e1=>?_,?_,fun x hx=>?_⟩
  · rw [R x hx];split
    · omega
    · exact h.low x hx
  · rw [R x hx];split
    · rename_i e;subst e
      refine ⟨fun h3=>by omega,fun h3=>?_⟩
      have:=(h.zero x hx).2 h3;omega
    · exact h.zero x hx
  · by_cases c:x=y
    · subst c
      rw [Ry] at hr
      exact ⟨E[i],hmem,hye,by rw [h1,Rk];omega⟩
    · rw [Rn x hx c] at hr
      obtain ⟨e,he,e1,e2⟩:=h.back x hx m hm hr
      exact ⟨e,he,e1,by rw [Rn e.1 (hE e he).1 (ne0 _ (by omega))];exact e2⟩
  · rcases List.mem_append.1 hx with hx|hx
    · have hq:=h.inq x hx
      exact ⟨hq.1,by rw [Rn x hq.1 (ne0 _ hq.2)];exact hq.2⟩
    · rw [List.mem_singleton] at hx;subst hx
      exact ⟨hy,by rw [Ry];omega⟩
  · refine List.pairwise_append.2 ⟨List.Pairwise.imp_of_mem ?_ h.sorted,List.pairwise_singleton _ _,fun a ha b hb=>?_⟩
    · intro a b ha hb hab
      have qa:=h.inq a ha
      have qb:=h.inq b hb
      rw [Rn a qa.1 (ne0 _ qa.2),Rn b qb.1 (ne0 _ qb.2)];exact hab
    · rw [List.mem_singleton] at hb;subst hb
      have qa:=h.inq a ha
      rw [Ry,Rn a qa.1 (ne0 _ qa.2)];exact (h.klo a ha).2
  · rw [Rk]
    rcases List.mem_append.1 hz with hz|hz
    · have hq:=h.inq z hz
      rw [Rn z hq.1 (ne0 _ hq.2)];exact h.klo z hz
    · rw [List.mem_singleton] at hz;subst hz
      rw [Ry];omega
  · have hxy:x≠y:=fun e=>hq (List.mem_append_right _ (by rw [e];exact List.mem_singleton.2 rfl))
    rw [Rn x hx hxy] at h0 ⊢
    have hd:=h.done x hx h0 (fun hm=>hq (List.mem_append_left _ hm)) hne
    refine ⟨fun e he e1=>?_,by rw [Rk];exact hd.2⟩
    have hf:=hd.1 e he e1
    rw [Rn e.2 (hE e he).2 (ne0 _ hf.1)];exact hf
  · rw [Rk]
    have hn:=(hE _ (List.getElem_mem hj)).2
    by_cases c:j=i
    · subst c
      rw [hye,Ry];omega
    · have hf:=h.part j hj (by omega) e1
      rw [Rn _ hn (ne0 _ hf.1)];exact hf
  · have:=h.cnt
    rw [List.length_append,List.length_singleton];omega
  · have:=h.high x hx
    have:=h.high k h.kk.1
    rw [R x hx];split <;> omega
theorem bfs_ex {ρ:Type} (hE:∀ e ∈ E,nd n e.1∧nd n e.2) (hs:nd n s) (L1:Nat→List Int→List Int→Option ρ) (L2:Nat→List Int→List Int→Int→Nat→Option ρ) (X:Nat→List Int→Option ρ)
    (hend:∀ far r,Evt (fun k=>X k far) r→Evt (fun k=>L1 k far []) r)
    (hpop:∀ far k0 q r,q.length≤n→Evt (fun k=>L2 k far q k0 0) r→Evt (fun k=>L1 k far (k0 :: q)) r)
    (hnext:∀ far q k0 r,Evt (fun k=>L1 k far q) r→Evt (fun k=>L2 k far q k0 E.length) r)
    (hset:∀ far q k0 i (h:i<E.length) r,far.length=n→nd n k0→0≤rd far k0→rd far k0≤n→q.length≤n→E[i].1=k0→nd n E[i].2→rd far E[i].2<0→Evt (fun k=>L2 k (far.set E[i].2.toNat (rd far k0+1)) (q ++ [E[i].2]) k0 (i+1)) r→Evt (fun k=>L2 k far q k0 i) r)
    (hskip:∀ far q k0 i (h:i<E.length) r,far.length=n→nd n k0→nd n E[i].2→(E[i].1≠k0∨0≤rd far E[i].2)→Evt (fun k=>L2 k far q k0 (i+1)) r→Evt (fun k=>L2 k far q k0 i) r) :
    ∀ d far q,q.length+negs far≤d→BfsQ n s E far q → ∃ far',BfsOk n s far' E ∧ ∀ r,Evt (fun k=>X k far') r→Evt (fun k=>L1 k far q) r:=by
  have row:∀ k0,∀ i,i≤E.length → ∀ st:List Int × List Int,BfsI n s E k0 i st.1 st.2 → ∃ far2 q2,BfsQ n s E far2 q2∧q2.length+negs far2=st.2.length+negs st.1 ∧ ∀ r,Evt (fun k=>L1 k far2 q2) r→Evt (fun k=>L2 k st.1 st.2 k0 i) r:=by
    intro k0
    refine down (P:=fun i (st:List Int × List Int)=>BfsI n s E k0 i st.1 st.2 → ∃ far2 q2,BfsQ n s E far2 q2∧q2.length+negs far2=st.2.length+negs st.1 ∧ ∀ r,Evt (fun k=>L1 k far2 q2) r→Evt (fun k=>L2 k st.1 st.2 k0 i) r) ?_ ?_
    · rintro ⟨far,q⟩ h
      exact ⟨far,q,h.all,rfl,fun r hr=>hnext far q k0 r hr⟩
    · rintro i hi ih ⟨far,q⟩ h0
      have h:BfsI n s E k0 i far q:=h0
      have hy:=(hE _ (List.getElem_mem hi)).2
      by_cases c:E[i].1=k0∧rd far E[i].2<0
      · obtain ⟨f2,q2,a1,a2,a3⟩:=ih (_,_) (h.push hE hs hi c.1 c.2)
        have hng:=negs_set h.len hy c.2 (show 0≤rd far k0+1 by have:=h.kk.2;omega)
        have hh:=h.high k0 h.kk.1
        have hcn:=h.cnt
        have a2' : q2.length+negs f2=(q ++ [E[i].2]).length+negs (far.set E[i].2.toNat (rd far k0+1)):=a2
        rw [List.length_append,List.length_singleton] at a2'
        refine ⟨f2,q2,a1,?_,fun r hr=>hset far q k0 i hi r h.len h.kk.1 h.kk.2 (by omega) (by show q.length≤n;have:q.length+negs far+1≤n:=hcn;omega) c.1 hy c.2 (a3 r hr)⟩
        show q2.length+negs f2=q.length+negs far
        omega
      · have hc:E[i].1≠k0∨0≤rd far E[i].2:=by
          by_cases c1:E[i].1=k0
          · exact .inr (by have:¬ rd far E[i].2<0:=fun h=>c ⟨c1,h⟩;omega)
          · exact .inl c1
        obtain ⟨f2,q2,a1,a2,a3⟩:=ih (far,q) (h.skip hE hi hc)
        exact ⟨f2,q2,a1,a2,fun r hr=>hskip far q k0 i hi r h.len h.kk.1 hy hc (a3 r hr)⟩
  intro d
  induction d with
  | zero =>
    intro far q hd h
    have:q=[]:=List.eq_nil_of_length_eq_zero (by omega)
    subst this
    refine ⟨far,⟨h.len,h.low,h.zero,h.back,fun e he h0=>(h.done e.1 (hE e he).1 h0 (by simp)).1 e he rfl,fun x hx=>by have:=h.high x hx;omega⟩,fun r hr=>hend far r hr⟩
  | succ d ih =>
    intro far q hd h
    cases q with
    | nil=>exact ⟨far,⟨h.len,h.low,h.zero,h.back,fun e he h0=>(h.done e.1 (hE e he).1 h0 (by simp)).1 e he rfl,fun x hx=>by have:=h.high x hx;omega⟩,fun r hr=>hend far r hr⟩
    | cons k0 q =>
      obtain ⟨f2,q2,a1,a2,a3⟩:=row k0 0 (Nat.zero_le _) (far,q) h.pop
      have a2' : q2.length+negs f2=q.length+negs far:=a2
      rw [List.length_cons] at hd
      obtain ⟨f3,b1,b2⟩:=ih f2 q2 (by omega) a1
      have hc:=h.cnt
      rw [List.length_cons] at hc
      exact ⟨f3,b1,fun r hr=>hpop far k0 q r (by omega) (a3 r (b2 r hr))⟩
theorem bfs_start (hE:∀ e ∈ E,nd n e.1∧nd n e.2) (hs:nd n s):BfsQ n s E ((List.replicate n (-1)).set s.toNat 0) [s]:=by
  have hl:(List.replicate n (-1:Int)).length=n:=List.length_replicate
  have R0:∀ z,nd n z→rd (List.replicate n (-1)) z=-1:=fun z hz=>by
    obtain ⟨b,rfl⟩:∃ b:Nat,z=(b:Int):=⟨z.toNat,by have:=hz.1;omega⟩
    rw [rdN _ b (by rw [hl];have:=hz.2;omega),List.getElem_replicate]
  have R:∀ z,nd n z→rd ((List.replicate n (-1)).set s.toNat 0) z=if z=s then 0 else -1:=fun z hz=>by
    rw [rd_set hl hs hz];split
    · rfl
    · exact R0 z hz
  have hng:negs ((List.replicate n (-1:Int)).set s.toNat 0)+1=n:=by
    have:=negs_set hl hs (by rw [R0 s hs];decide) (Int.le_refl 0)
    rw [this]
    unfold negs
    rw [List.countP_replicate];simp
  refine ⟨by rw [List.length_set];exact hl,fun x hx=>?_,fun x hx=>?_,fun x hx m hm hr=>?_,fun x hx=>?_,List.pairwise_singleton _ _,fun a ha b hb=>?_,fun x hx h0 hq=>?_,by rw [List.length_singleton];omega,fun x hx=>?_⟩
  · rw [R x hx];split <;> omega
  · rw [R x hx];split
    · rename_i e;exact ⟨fun _=>e,fun _=>rfl⟩
    · rename_i e;exact ⟨fun h=>by omega,fun h=>(e h).elim⟩
  · rw [R x hx] at hr;split at hr <;> omega
  · rw [List.mem_singleton] at hx;subst hx
    exact ⟨hs,by rw [R x hs,if_pos rfl];omega⟩
  · rw [List.mem_singleton] at ha hb;rw [ha,hb];omega
  · rw [R x hx] at h0
    split at h0
    · rename_i e;exact (hq (List.mem_singleton.2 e)).elim
    · omega
  · rw [R x hx];split <;> omega
end
end Go.Proofs.Ytiglhdibibbkjaa.Lib
