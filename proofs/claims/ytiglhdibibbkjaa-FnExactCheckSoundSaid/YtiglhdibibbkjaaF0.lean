import Derived.Test.YtiglhdibibbkjaaProg
import Derived.Lib.SliceRun
import Derived.Test.YtiglhdibibbkjaaT
import Derived.Test.YtiglhdibibbkjaaOpens
namespace Go.Proofs.Ytiglhdibibbkjaa.F
open Go.RowKit Go.Proofs.YtiglhdibibbkjaaW.PrintWords Go.Proofs.YtiglhdibibbkjaaW.PrintLast Go.Proofs.YtiglhdibibbkjaaW.PrintMore
attribute [local go_sem] max2_int min2_int max_two min_two max_three min_three max_four min_four
set_option linter.unusedVariables false
set_option linter.unusedSimpArgs false
set_option maxHeartbeats 8000000
set_option maxRecDepth 100000
def errW:Option Int→Value
  | none=>.nilIface
  | some c=>.iface 0 (.int .i64 c)
theorem errW_none:errW none=.nilIface:=rfl
theorem errW_some (c:Int):errW (some c)=.iface 0 (.int .i64 c):=rfl
theorem info3:(Try.prog.info? 3).map (fun i=>(i.zero,i.size,i.bytes))=some (some (.int .i64 0),1,8):=by kernel_rfl
theorem info4:(Try.prog.info? 4).map (fun i=>(i.zero,i.size,i.bytes))=some (some (.bool false),1,1):=by kernel_rfl
theorem info32:(Try.prog.info? 32).map (fun i=>(i.zero,i.size,i.bytes))=some (some (.slice none 0 0),1,24):=by kernel_rfl
theorem info105:(Try.prog.info? 105).map (fun i=>(i.zero,i.size,i.bytes))=some (some (.agg #[(.slice none 0 0),(.slice none 0 0),(.slice none 0 0)]),3,72):=by kernel_rfl
theorem info115:(Try.prog.info? 115).map (fun i=>(i.zero,i.size,i.bytes))=some (some (.agg #[(.int .i64 0),(.int .i64 0),(.int .i64 0)]),3,24):=by kernel_rfl
def rd_L1 (xs:List (List Int)) (i:Int):(List Int):=xs.getD i.toNat ([]:List Int)
theorem at_L1 {w:World} {A:Option Addr} {n:Nat} {xs:List (List Int)} (h:Kd.C (Kd.slice 3 (Kd.int .i64)) w A n xs) (i:Int) (h0:0≤i) (h1:i<n):∃ ad A0 c0,A=some ad∧w.cell? (ad.add i.toNat)=some (.slice A0 (rd_L1 xs i).length c0)∧(rd_L1 xs i).length≤c0∧(Kd.int .i64).C w A0 (rd_L1 xs i).length (rd_L1 xs i):=by
  obtain ⟨ad,c,e,_,hK,hc0⟩:=Kd.C_get h ([]:List Int) i h0 h1;have hc:∀ j u,c[j]? = some u→w.cell? (ad.add (i.toNat*1+j))=some u:=hc0;obtain ⟨A0,c0,rfl,l0,g0⟩:=hK;exact ⟨ad,A0,c0,e,by have hq:=hc 0 _ rfl;rwa [Nat.mul_one,Nat.add_zero] at hq,l0,g0⟩
structure S104 where
  f0:(List Int)
  f1:(List Int)
  f2:(List Int)
def z104:S104:=⟨([]:List Int),([]:List Int),([]:List Int)⟩
def k104:Kd S104:=Kd.iso (Kd.pair (Kd.slice 3 (Kd.int .i64)) (Kd.pair (Kd.slice 3 (Kd.int .i64)) (Kd.slice 3 (Kd.int .i64)))) (fun x:S104=>(x.f0,x.f1,x.f2))
theorem k104_open {w:World} {x:S104} {cs:List Value} (h:k104.K w x cs):∃ A0 c0 A1 c1 A2 c2,cs=[.slice A0 x.f0.length c0,.slice A1 x.f1.length c1,.slice A2 x.f2.length c2]∧x.f0.length≤c0∧(Kd.int .i64).C w A0 x.f0.length x.f0∧x.f1.length≤c1∧(Kd.int .i64).C w A1 x.f1.length x.f1∧x.f2.length≤c2∧(Kd.int .i64).C w A2 x.f2.length x.f2:=by
  obtain ⟨_,_,rfl,⟨A0,c0,rfl,l0,g0⟩,⟨_,_,rfl,⟨A1,c1,rfl,l1,g1⟩,⟨A2,c2,rfl,l2,g2⟩⟩⟩:=h;exact ⟨A0,c0,A1,c1,A2,c2,rfl,l0,g0,l1,g1,l2,g2⟩
def rd_T104 (xs:List S104) (i:Int):S104:=xs.getD i.toNat z104
theorem at_T104 {w:World} {A:Option Addr} {n:Nat} {xs:List S104} (h:Kd.C k104 w A n xs) (i:Int) (h0:0≤i) (h1:i<n):∃ ad A0 c0 A1 c1 A2 c2,A=some ad∧w.cell? (ad.add (i.toNat*3))=some (.slice A0 (rd_T104 xs i).f0.length c0)∧w.cell? ⟨(ad.add (i.toNat*3)).block,(ad.add (i.toNat*3)).off+1,none⟩=some (.slice A1 (rd_T104 xs i).f1.length c1)∧w.cell? ⟨(ad.add (i.toNat*3)).block,(ad.add (i.toNat*3)).off+2,none⟩=some (.slice A2 (rd_T104 xs i).f2.length c2)∧(rd_T104 xs i).f0.length≤c0∧(Kd.int .i64).C w A0 (rd_T104 xs i).f0.length (rd_T104 xs i).f0∧(rd_T104 xs i).f1.length≤c1∧(Kd.int .i64).C w A1 (rd_T104 xs i).f1.length (rd_T104 xs i).f1∧(rd_T104 xs i).f2.length≤c2∧(Kd.int .i64).C w A2 (rd_T104 xs i).f2.length (rd_T104 xs i).f2:=by
  obtain ⟨ad,c,e,_,hK,hc0⟩:=Kd.C_get h z104 i h0 h1;have hc:∀ j u,c[j]? = some u→w.cell? (ad.add (i.toNat*3+j))=some u:=hc0;obtain ⟨A0,c0,A1,c1,A2,c2,rfl,l0,g0,l1,g1,l2,g2⟩:=k104_open hK;exact ⟨ad,A0,c0,A1,c1,A2,c2,e,hc 0 _ rfl,by rw [← add_field _ _ 1 (by omega)];exact hc 1 _ rfl,by rw [← add_field _ _ 2 (by omega)];exact hc 2 _ rfl,l0,g0,l1,g1,l2,g2⟩
structure S105 where
  f0:(List Int)
  f1:(List Int)
  f2:(List Int)
def z105:S105:=⟨([]:List Int),([]:List Int),([]:List Int)⟩
def k105:Kd S105:=Kd.iso (Kd.pair (Kd.slice 3 (Kd.int .i64)) (Kd.pair (Kd.slice 3 (Kd.int .i64)) (Kd.slice 3 (Kd.int .i64)))) (fun x:S105=>(x.f0,x.f1,x.f2))
theorem k105_open {w:World} {x:S105} {cs:List Value} (h:k105.K w x cs):∃ A0 c0 A1 c1 A2 c2,cs=[.slice A0 x.f0.length c0,.slice A1 x.f1.length c1,.slice A2 x.f2.length c2]∧x.f0.length≤c0∧(Kd.int .i64).C w A0 x.f0.length x.f0∧x.f1.length≤c1∧(Kd.int .i64).C w A1 x.f1.length x.f1∧x.f2.length≤c2∧(Kd.int .i64).C w A2 x.f2.length x.f2:=by
  obtain ⟨_,_,rfl,⟨A0,c0,rfl,l0,g0⟩,⟨_,_,rfl,⟨A1,c1,rfl,l1,g1⟩,⟨A2,c2,rfl,l2,g2⟩⟩⟩:=h;exact ⟨A0,c0,A1,c1,A2,c2,rfl,l0,g0,l1,g1,l2,g2⟩
theorem k105_openM {w:World} {base:Nat} {ok:Nat→Prop} {x:S105} {cs:List Value} (h:k105.M w base ok x cs):∃ v0 v1 v2,cs=[v0,v1,v2]∧(Kd.int .i64).R 3 w base ok v0 x.f0∧(Kd.int .i64).R 3 w base ok v1 x.f1∧(Kd.int .i64).R 3 w base ok v2 x.f2:=by
  obtain ⟨_,_,rfl,⟨v0,rfl,g0⟩,⟨_,_,rfl,⟨v1,rfl,g1⟩,⟨v2,rfl,g2⟩⟩⟩:=h;exact ⟨v0,v1,v2,rfl,g0,g1,g2⟩
theorem k105_mkM (w:World) (base:Nat) (ok:Nat→Prop) (x:S105) {v0:Value} (g0:(Kd.int .i64).R 3 w base ok v0 x.f0) {v1:Value} (g1:(Kd.int .i64).R 3 w base ok v1 x.f1) {v2:Value} (g2:(Kd.int .i64).R 3 w base ok v2 x.f2):k105.M w base ok x [v0,v1,v2]:=⟨[v0],[v1,v2],rfl,⟨v0,rfl,g0⟩,⟨[v1],[v2],rfl,⟨v1,rfl,g1⟩,⟨v2,rfl,g2⟩⟩⟩
def rd_T105 (xs:List S105) (i:Int):S105:=xs.getD i.toNat z105
theorem at_T105 {w:World} {A:Option Addr} {n:Nat} {xs:List S105} (h:Kd.C k105 w A n xs) (i:Int) (h0:0≤i) (h1:i<n):∃ ad A0 c0 A1 c1 A2 c2,A=some ad∧w.cell? (ad.add (i.toNat*3))=some (.slice A0 (rd_T105 xs i).f0.length c0)∧w.cell? ⟨(ad.add (i.toNat*3)).block,(ad.add (i.toNat*3)).off+1,none⟩=some (.slice A1 (rd_T105 xs i).f1.length c1)∧w.cell? ⟨(ad.add (i.toNat*3)).block,(ad.add (i.toNat*3)).off+2,none⟩=some (.slice A2 (rd_T105 xs i).f2.length c2)∧(rd_T105 xs i).f0.length≤c0∧(Kd.int .i64).C w A0 (rd_T105 xs i).f0.length (rd_T105 xs i).f0∧(rd_T105 xs i).f1.length≤c1∧(Kd.int .i64).C w A1 (rd_T105 xs i).f1.length (rd_T105 xs i).f1∧(rd_T105 xs i).f2.length≤c2∧(Kd.int .i64).C w A2 (rd_T105 xs i).f2.length (rd_T105 xs i).f2:=by
  obtain ⟨ad,c,e,_,hK,hc0⟩:=Kd.C_get h z105 i h0 h1;have hc:∀ j u,c[j]? = some u→w.cell? (ad.add (i.toNat*3+j))=some u:=hc0;obtain ⟨A0,c0,A1,c1,A2,c2,rfl,l0,g0,l1,g1,l2,g2⟩:=k105_open hK;exact ⟨ad,A0,c0,A1,c1,A2,c2,e,hc 0 _ rfl,by rw [← add_field _ _ 1 (by omega)];exact hc 1 _ rfl,by rw [← add_field _ _ 2 (by omega)];exact hc 2 _ rfl,l0,g0,l1,g1,l2,g2⟩
structure S115 where
  f0:Int
  f1:Int
  f2:Int
def z115:S115:=⟨(0:Int),(0:Int),(0:Int)⟩
def k115:Kd S115:=Kd.iso (Kd.pair (Kd.int .i64) (Kd.pair (Kd.int .i64) (Kd.int .i64))) (fun x:S115=>(x.f0,x.f1,x.f2))
theorem k115_open {w:World} {x:S115} {cs:List Value} (h:k115.K w x cs):cs=[.int .i64 x.f0,.int .i64 x.f1,.int .i64 x.f2]:=by
  obtain ⟨_,_,rfl,rfl,⟨_,_,rfl,rfl,rfl⟩⟩:=h;exact rfl
theorem k115_mkM (w:World) (base:Nat) (ok:Nat→Prop) (x:S115):k115.M w base ok x [.int .i64 x.f0,.int .i64 x.f1,.int .i64 x.f2]:=⟨[.int .i64 x.f0],[.int .i64 x.f1,.int .i64 x.f2],rfl,rfl,⟨[.int .i64 x.f1],[.int .i64 x.f2],rfl,rfl,rfl⟩⟩
def rd_T115 (xs:List S115) (i:Int):S115:=xs.getD i.toNat z115
theorem at_T115 {w:World} {A:Option Addr} {n:Nat} {xs:List S115} (h:Kd.C k115 w A n xs) (i:Int) (h0:0≤i) (h1:i<n):∃ ad ,A=some ad∧w.cell? (ad.add (i.toNat*3))=some (.int .i64 (rd_T115 xs i).f0)∧w.cell? ⟨(ad.add (i.toNat*3)).block,(ad.add (i.toNat*3)).off+1,none⟩=some (.int .i64 (rd_T115 xs i).f1)∧w.cell? ⟨(ad.add (i.toNat*3)).block,(ad.add (i.toNat*3)).off+2,none⟩=some (.int .i64 (rd_T115 xs i).f2):=by
  obtain ⟨ad,c,e,_,hK,hc0⟩:=Kd.C_get h z115 i h0 h1;have hc:∀ j u,c[j]? = some u→w.cell? (ad.add (i.toNat*3+j))=some u:=hc0;obtain rfl:=k115_open hK;exact ⟨ad,e,hc 0 _ rfl,by rw [← add_field _ _ 1 (by omega)];exact hc 1 _ rfl,by rw [← add_field _ _ 2 (by omega)];exact hc 2 _ rfl⟩
structure S31 where
  f0:Int
  f1:(List S104)
def k31:Kd S31:=Kd.iso (Kd.pair (Kd.int .i64) (Kd.slice 104 k104)) (fun x:S31=>(x.f0,x.f1))
theorem k31_open {w:World} {x:S31} {cs:List Value} (h:k31.K w x cs):∃ A1 c1,cs=[.int .i64 x.f0,.slice A1 x.f1.length c1]∧x.f1.length≤c1∧k104.C w A1 x.f1.length x.f1:=by
  obtain ⟨_,_,rfl,rfl,⟨A1,c1,rfl,l1,g1⟩⟩:=h;exact ⟨A1,c1,rfl,l1,g1⟩
structure S54 where
  f0:S31
  f1:Int
  f2:Int
def k54:Kd S54:=Kd.iso (Kd.pair k31 (Kd.pair (Kd.int .i64) (Kd.int .i64))) (fun x:S54=>(x.f0,x.f1,x.f2))
theorem k54_open {w:World} {x:S54} {cs:List Value} (h:k54.K w x cs):∃ A1 c1,cs=[.int .i64 x.f0.f0,.slice A1 x.f0.f1.length c1,.int .i64 x.f1,.int .i64 x.f2]∧x.f0.f1.length≤c1∧k104.C w A1 x.f0.f1.length x.f0.f1:=by
  obtain ⟨_,_,rfl,s0,⟨_,_,rfl,rfl,rfl⟩⟩:=h;obtain ⟨A1,c1,rfl,l1,g1⟩:=k31_open s0;exact ⟨A1,c1,rfl,l1,g1⟩
theorem opens32:Go.Proofs.Ytiglhdibibbkjaa.Opens.Opens Try.prog 32 (Kd.slice 3 (Kd.int .i64)) (fun x=>(x.length≤maxLen ∧ ∀ e5_ ∈ x,(Lit.int .i64 e5_).wf=true)) :=
  haveI:Inhabited Int:=⟨0⟩;Go.Proofs.Ytiglhdibibbkjaa.Opens.opens_slice Try.underlying32 (by kernel_rfl) (Go.Proofs.Ytiglhdibibbkjaa.Opens.opens_int Try.underlying3)
theorem opens104:Go.Proofs.Ytiglhdibibbkjaa.Opens.Opens Try.prog 104 k104 (fun x=>((x.f0.length≤maxLen ∧ ∀ e6_ ∈ x.f0,(Lit.int .i64 e6_).wf=true)∧(x.f1.length≤maxLen ∧ ∀ e7_ ∈ x.f1,(Lit.int .i64 e7_).wf=true)∧(x.f2.length≤maxLen ∧ ∀ e8_ ∈ x.f2,(Lit.int .i64 e8_).wf=true))) :=
  Go.Proofs.Ytiglhdibibbkjaa.Opens.opens_struct (f:=fun x:S104=>(x.f0,x.f1,x.f2)) (g:=fun p=>⟨p.1,p.2.1,p.2.2⟩) (fun _=>rfl) Try.underlying104 (by kernel_rfl) (Go.Proofs.Ytiglhdibibbkjaa.Opens.opens_cons rfl (by kernel_rfl) opens32 (Go.Proofs.Ytiglhdibibbkjaa.Opens.opens_cons rfl (by kernel_rfl) opens32 (Go.Proofs.Ytiglhdibibbkjaa.Opens.opens_one rfl (by kernel_rfl) opens32)))
theorem opens29:Go.Proofs.Ytiglhdibibbkjaa.Opens.Opens Try.prog 29 (Kd.slice 104 k104) (fun x=>(x.length≤maxLen ∧ ∀ e9_ ∈ x,((e9_.f0.length≤maxLen ∧ ∀ e10_ ∈ e9_.f0,(Lit.int .i64 e10_).wf=true)∧(e9_.f1.length≤maxLen ∧ ∀ e11_ ∈ e9_.f1,(Lit.int .i64 e11_).wf=true)∧(e9_.f2.length≤maxLen ∧ ∀ e12_ ∈ e9_.f2,(Lit.int .i64 e12_).wf=true)))) :=
  haveI:Inhabited S104:=⟨z104⟩;Go.Proofs.Ytiglhdibibbkjaa.Opens.opens_slice Try.underlying29 (by kernel_rfl) opens104
theorem opens31:Go.Proofs.Ytiglhdibibbkjaa.Opens.Opens Try.prog 31 k31 (fun x=>((Lit.int .i64 x.f0).wf=true∧(x.f1.length≤maxLen ∧ ∀ e13_ ∈ x.f1,((e13_.f0.length≤maxLen ∧ ∀ e14_ ∈ e13_.f0,(Lit.int .i64 e14_).wf=true)∧(e13_.f1.length≤maxLen ∧ ∀ e15_ ∈ e13_.f1,(Lit.int .i64 e15_).wf=true)∧(e13_.f2.length≤maxLen ∧ ∀ e16_ ∈ e13_.f2,(Lit.int .i64 e16_).wf=true))))) :=
  Go.Proofs.Ytiglhdibibbkjaa.Opens.opens_struct (f:=fun x:S31=>(x.f0,x.f1)) (g:=fun p=>⟨p.1,p.2⟩) (fun _=>rfl) Try.underlying31 (by kernel_rfl) (Go.Proofs.Ytiglhdibibbkjaa.Opens.opens_cons rfl (by kernel_rfl) (Go.Proofs.Ytiglhdibibbkjaa.Opens.opens_int Try.underlying3) (Go.Proofs.Ytiglhdibibbkjaa.Opens.opens_one rfl (by kernel_rfl) opens29))
theorem opens54:Go.Proofs.Ytiglhdibibbkjaa.Opens.Opens Try.prog 54 k54 (fun x=>(((Lit.int .i64 x.f0.f0).wf=true∧(x.f0.f1.length≤maxLen ∧ ∀ e17_ ∈ x.f0.f1,((e17_.f0.length≤maxLen ∧ ∀ e18_ ∈ e17_.f0,(Lit.int .i64 e18_).wf=true)∧(e17_.f1.length≤maxLen ∧ ∀ e19_ ∈ e17_.f1,(Lit.int .i64 e19_).wf=true)∧(e17_.f2.length≤maxLen ∧ ∀ e20_ ∈ e17_.f2,(Lit.int .i64 e20_).wf=true))))∧(Lit.int .i64 x.f1).wf=true∧(Lit.int .i64 x.f2).wf=true)) :=
  Go.Proofs.Ytiglhdibibbkjaa.Opens.opens_struct (f:=fun x:S54=>(x.f0,x.f1,x.f2)) (g:=fun p=>⟨p.1,p.2.1,p.2.2⟩) (fun _=>rfl) Try.underlying54 (by kernel_rfl) (Go.Proofs.Ytiglhdibibbkjaa.Opens.opens_cons rfl (by kernel_rfl) opens31 (Go.Proofs.Ytiglhdibibbkjaa.Opens.opens_cons rfl (by kernel_rfl) (Go.Proofs.Ytiglhdibibbkjaa.Opens.opens_int Try.underlying3) (Go.Proofs.Ytiglhdibibbkjaa.Opens.opens_one rfl (by kernel_rfl) (Go.Proofs.Ytiglhdibibbkjaa.Opens.opens_int Try.underlying3))))
end Go.Proofs.Ytiglhdibibbkjaa.F
