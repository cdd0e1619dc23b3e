import Derived.Test.YtbkjgnfnjgebiaaF2
import Derived.Test.YtbkjgnfnjgebiaaF5
import Derived.Test.YtbkjgnfnjgebiaaCan
import Derived.Test.YtbkjgnfnjgebiaaMarkSame
namespace Go.Proofs.Ytbkjgnfnjgebiaa.Lib
open Go.RowKit Go.Proofs.Ytbkjgnfnjgebiaa.F Go.Proofs.YtbkjgnfnjgebiaaW.PrintWords Go.Proofs.YtbkjgnfnjgebiaaW.PrintLast Go.Proofs.YtbkjgnfnjgebiaaW.PrintMore
theorem loop_put (L:Nat→List Int→Nat→Option (List Int)) (ps:List Int) (n:Nat) (hb:∀ q ∈ ps,0≤q∧q<(n:Int)) (hend:∀ s,s.length=n → ∃ r,Evt (fun k=>L (k+1) s ps.length) r∧r.length=n)
    (hgo:∀ i (h:i<ps.length) s,s.length=n → ∃ x,∀ r,Evt (fun k=>L k (s.set ps[i].toNat x) (i+1)) r→Evt (fun k=>L (k+1) s i) r):∀ s,s.length=n → ∃ r,Evt (fun k=>L k s 0) r∧r.length=n:=by
  have key:∀ i,i≤ps.length → ∀ s:List Int,s.length=n → ∃ r,Evt (fun k=>L k s i) r∧r.length=n:=by
    refine down (P:=fun i (s:List Int)=>s.length=n → ∃ r,Evt (fun k=>L k s i) r∧r.length=n) ?_ ?_
    · intro s hs
      obtain ⟨r,h1,h2⟩:=hend s hs
      exact ⟨r,Evt.step h1,h2⟩
    · intro i hi ih s hs
      obtain ⟨x,hx⟩:=hgo i hi s hs
      obtain ⟨r,h1,h2⟩:=ih (s.set ps[i].toNat x) (by simpa using hs)
      exact ⟨r,Evt.step (hx r h1),h2⟩
  exact key 0 (Nat.zero_le _)
theorem l2Fire_ex (t:Tr) (m:List Int) (ht:SmallT t) (hp:inNet m.length t) (hm:Short m):∃ r,Evt (fun k=>spec_l2Fire.f k t.f0 t.f1 t.f2 m) r∧r.length=m.length:=by
  have hm' : m.length≤17592186044415:=hm
  have h0:=ht.1
  have h1:=ht.2.1
  have h2:=ht.2.2
  have k2:=loop_put (fun k s (i:Nat)=>spec_l2Fire.l2 k s t.f1 (t.f1.length:Int) (i:Int)) t.f1 m.length hp.2.1
    (fun s hs=>⟨s,by simp only [spec_l2Fire.l2];exact Evt.neg (natNotLt _) (Evt.ok _),hs⟩)
    (fun i hi s hs=>⟨_,fun r hr=>by
      have hb:=hp.2.1 t.f1[i] (List.getElem_mem hi)
      simp only [spec_l2Fire.l2]
      rw [wrapN i _ hi (by omega),rdN t.f1 i hi]
      exact Evt.pos (natLt _ _ hi) (Evt.pos (by omega) (Evt.pos (natLt _ _ hi) (Evt.pos hb.1 (Evt.pos (by omega) hr))))⟩)
  have k1:=loop_put (fun k s (i:Nat)=>spec_l2Fire.l1 k s t.f2 (t.f2.length:Int) (i:Int) t.f0 t.f1 t.f2) t.f2 m.length hp.2.2
    (fun s hs=>by
      obtain ⟨r,h1,h2⟩:=k2 s hs
      exact ⟨r,by simp only [spec_l2Fire.l1];exact Evt.neg (natNotLt _) h1,h2⟩)
    (fun i hi s hs=>⟨0,fun r hr=>by
      have hb:=hp.2.2 t.f2[i] (List.getElem_mem hi)
      simp only [spec_l2Fire.l1]
      rw [wrapN i _ hi (by omega),rdN t.f2 i hi]
      exact Evt.pos (natLt _ _ hi) (Evt.pos (by omega) (Evt.pos (natLt _ _ hi) (Evt.pos hb.1 (Evt.pos (by omega) hr))))⟩)
  have k0:=loop_put (fun k s (i:Nat)=>spec_l2Fire.l0 k s t.f0 (t.f0.length:Int) (i:Int) t.f0 t.f1 t.f2) t.f0 m.length hp.1
    (fun s hs=>by
      obtain ⟨r,h1,h2⟩:=k1 s hs
      exact ⟨r,by simp only [spec_l2Fire.l0];exact Evt.neg (natNotLt _) h1,h2⟩)
    (fun i hi s hs=>⟨_,fun r hr=>by
      have hb:=hp.1 t.f0[i] (List.getElem_mem hi)
      simp only [spec_l2Fire.l0]
      rw [wrapN i _ hi (by omega),rdN t.f0 i hi]
      exact Evt.pos (natLt _ _ hi) (Evt.pos (by omega) (Evt.pos (natLt _ _ hi) (Evt.pos hb.1 (Evt.pos (by omega) hr))))⟩)
  obtain ⟨r,hr,hl⟩:=k0 m rfl
  refine ⟨r,?_,hl⟩
  unfold spec_l2Fire.f
  refine Evt.bind0 (a:=m) ?_ hr
  simp only [spec_l1Own.f,Option.bind_some,List.nil_append,List.length_nil,Nat.zero_add]
  exact if_pos (by omega)
theorem fired_ls (k:Nat):(∀ s ps n i a b c,impl_fired.l0 k s ps n i a b c=spec_l2Fire.l0 k s ps n i a b c)∧(∀ s ps n i a b c,impl_fired.l1 k s ps n i a b c=spec_l2Fire.l1 k s ps n i a b c)∧(∀ s ps n i,impl_fired.l2 k s ps n i=spec_l2Fire.l2 k s ps n i):=by
  induction k with
  | zero=>exact ⟨fun _ _ _ _ _ _ _=>by simp only [impl_fired.l0,spec_l2Fire.l0],fun _ _ _ _ _ _ _=>by simp only [impl_fired.l1,spec_l2Fire.l1],fun _ _ _ _=>by simp only [impl_fired.l2,spec_l2Fire.l2]⟩
  | succ k ih =>
    obtain ⟨i0,i1,i2⟩:=ih
    exact ⟨fun _ _ _ _ _ _ _=>by simp only [impl_fired.l0,spec_l2Fire.l0,i0,i1],fun _ _ _ _ _ _ _=>by simp only [impl_fired.l1,spec_l2Fire.l1,i1,i2],fun _ _ _ _=>by simp only [impl_fired.l2,spec_l2Fire.l2,i2]⟩
theorem fired_f (k:Nat) (a b c m:List Int):impl_fired.f k a b c m=spec_l2Fire.f k a b c m:=by
  simp only [impl_fired.f,spec_l2Fire.f,slices_Clone_int_int.f,spec_l1Own.f,(fired_ls k).1]
end Go.Proofs.Ytbkjgnfnjgebiaa.Lib
