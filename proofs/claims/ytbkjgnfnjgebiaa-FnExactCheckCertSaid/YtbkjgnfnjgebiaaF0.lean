import Derived.Test.YtbkjgnfnjgebiaaProg
import Derived.Lib.SliceRun
import Derived.Test.YtbkjgnfnjgebiaaT
import Derived.Test.YtbkjgnfnjgebiaaOpens
namespace Go.Proofs.Ytbkjgnfnjgebiaa.F
open Go.RowKit Go.Proofs.YtbkjgnfnjgebiaaW.PrintWords Go.Proofs.YtbkjgnfnjgebiaaW.PrintLast Go.Proofs.YtbkjgnfnjgebiaaW.PrintMore
attribute [local go_sem] max2_int min2_int max_two min_two max_three min_three max_four min_four
set_option linter.unusedVariables false
set_option linter.unusedSimpArgs false
set_option maxHeartbeats 8000000
set_option maxRecDepth 100000
def errW:Option Int→Value
  | none=>.nilIface
  | some c=>.iface 0 (.int .i64 c)
theorem errW_none:errW none=.nilIface:=rfl
theorem errW_some (c:Int):errW (some c)=.iface 0 (.int .i64 c):=rfl
theorem info3:(Try.prog.info? 3).map (fun i=>(i.zero,i.size,i.bytes))=some (some (.int .i64 0),1,8):=by kernel_rfl
theorem info4:(Try.prog.info? 4).map (fun i=>(i.zero,i.size,i.bytes))=some (some (.bool false),1,1):=by kernel_rfl
theorem info50:(Try.prog.info? 50).map (fun i=>(i.zero,i.size,i.bytes))=some (some (.slice none 0 0),1,24):=by kernel_rfl
theorem info63:(Try.prog.info? 63).map (fun i=>(i.zero,i.size,i.bytes))=some (some (.agg #[(.slice none 0 0),(.slice none 0 0),(.slice none 0 0)]),3,72):=by kernel_rfl
theorem info85:(Try.prog.info? 85).map (fun i=>(i.zero,i.size,i.bytes))=some (some (.agg #[(.int .i64 0),(.int .i64 0),(.int .i64 0)]),3,24):=by kernel_rfl
def rd_L1 (xs:List (List Int)) (i:Int):(List Int):=xs.getD i.toNat ([]:List Int)
theorem at_L1 {w:World} {A:Option Addr} {n:Nat} {xs:List (List Int)} (h:Kd.C (Kd.slice 3 (Kd.int .i64)) w A n xs) (i:Int) (h0:0≤i) (h1:i<n):∃ ad A0 c0,A=some ad∧w.cell? (ad.add i.toNat)=some (.slice A0 (rd_L1 xs i).length c0)∧(rd_L1 xs i).length≤c0∧(Kd.int .i64).C w A0 (rd_L1 xs i).length (rd_L1 xs i):=by
  obtain ⟨ad,c,e,_,hK,hc0⟩:=Kd.C_get h ([]:List Int) i h0 h1;have hc:∀ j u,c[j]? = some u→w.cell? (ad.add (i.toNat*1+j))=some u:=hc0;obtain ⟨A0,c0,rfl,l0,g0⟩:=hK;exact ⟨ad,A0,c0,e,by have hq:=hc 0 _ rfl;rwa [Nat.mul_one,Nat.add_zero] at hq,l0,g0⟩
structure S92 where
  f0:(List Int)
  f1:(List Int)
  f2:(List Int)
def z92:S92:=⟨([]:List Int),([]:List Int),([]:List Int)⟩
def k92:Kd S92:=Kd.iso (Kd.pair (Kd.slice 3 (Kd.int .i64)) (Kd.pair (Kd.slice 3 (Kd.int .i64)) (Kd.slice 3 (Kd.int .i64)))) (fun x:S92=>(x.f0,x.f1,x.f2))
theorem k92_open {w:World} {x:S92} {cs:List Value} (h:k92.K w x cs):∃ A0 c0 A1 c1 A2 c2,cs=[.slice A0 x.f0.length c0,.slice A1 x.f1.length c1,.slice A2 x.f2.length c2]∧x.f0.length≤c0∧(Kd.int .i64).C w A0 x.f0.length x.f0∧x.f1.length≤c1∧(Kd.int .i64).C w A1 x.f1.length x.f1∧x.f2.length≤c2∧(Kd.int .i64).C w A2 x.f2.length x.f2:=by
  obtain ⟨_,_,rfl,⟨A0,c0,rfl,l0,g0⟩,⟨_,_,rfl,⟨A1,c1,rfl,l1,g1⟩,⟨A2,c2,rfl,l2,g2⟩⟩⟩:=h;exact ⟨A0,c0,A1,c1,A2,c2,rfl,l0,g0,l1,g1,l2,g2⟩
def rd_T92 (xs:List S92) (i:Int):S92:=xs.getD i.toNat z92
theorem at_T92 {w:World} {A:Option Addr} {n:Nat} {xs:List S92} (h:Kd.C k92 w A n xs) (i:Int) (h0:0≤i) (h1:i<n):∃ ad A0 c0 A1 c1 A2 c2,A=some ad∧w.cell? (ad.add (i.toNat*3))=some (.slice A0 (rd_T92 xs i).f0.length c0)∧w.cell? ⟨(ad.add (i.toNat*3)).block,(ad.add (i.toNat*3)).off+1,none⟩=some (.slice A1 (rd_T92 xs i).f1.length c1)∧w.cell? ⟨(ad.add (i.toNat*3)).block,(ad.add (i.toNat*3)).off+2,none⟩=some (.slice A2 (rd_T92 xs i).f2.length c2)∧(rd_T92 xs i).f0.length≤c0∧(Kd.int .i64).C w A0 (rd_T92 xs i).f0.length (rd_T92 xs i).f0∧(rd_T92 xs i).f1.length≤c1∧(Kd.int .i64).C w A1 (rd_T92 xs i).f1.length (rd_T92 xs i).f1∧(rd_T92 xs i).f2.length≤c2∧(Kd.int .i64).C w A2 (rd_T92 xs i).f2.length (rd_T92 xs i).f2:=by
  obtain ⟨ad,c,e,_,hK,hc0⟩:=Kd.C_get h z92 i h0 h1;have hc:∀ j u,c[j]? = some u→w.cell? (ad.add (i.toNat*3+j))=some u:=hc0;obtain ⟨A0,c0,A1,c1,A2,c2,rfl,l0,g0,l1,g1,l2,g2⟩:=k92_open hK;exact ⟨ad,A0,c0,A1,c1,A2,c2,e,hc 0 _ rfl,by rw [← add_field _ _ 1 (by omega)];exact hc 1 _ rfl,by rw [← add_field _ _ 2 (by omega)];exact hc 2 _ rfl,l0,g0,l1,g1,l2,g2⟩
structure S63 where
  f0:(List Int)
  f1:(List Int)
  f2:(List Int)
def z63:S63:=⟨([]:List Int),([]:List Int),([]:List Int)⟩
def k63:Kd S63:=Kd.iso (Kd.pair (Kd.slice 3 (Kd.int .i64)) (Kd.pair (Kd.slice 3 (Kd.int .i64)) (Kd.slice 3 (Kd.int .i64)))) (fun x:S63=>(x.f0,x.f1,x.f2))
theorem k63_open {w:World} {x:S63} {cs:List Value} (h:k63.K w x cs):∃ A0 c0 A1 c1 A2 c2,cs=[.slice A0 x.f0.length c0,.slice A1 x.f1.length c1,.slice A2 x.f2.length c2]∧x.f0.length≤c0∧(Kd.int .i64).C w A0 x.f0.length x.f0∧x.f1.length≤c1∧(Kd.int .i64).C w A1 x.f1.length x.f1∧x.f2.length≤c2∧(Kd.int .i64).C w A2 x.f2.length x.f2:=by
  obtain ⟨_,_,rfl,⟨A0,c0,rfl,l0,g0⟩,⟨_,_,rfl,⟨A1,c1,rfl,l1,g1⟩,⟨A2,c2,rfl,l2,g2⟩⟩⟩:=h;exact ⟨A0,c0,A1,c1,A2,c2,rfl,l0,g0,l1,g1,l2,g2⟩
theorem k63_openM {w:World} {base:Nat} {ok:Nat→Prop} {x:S63} {cs:List Value} (h:k63.M w base ok x cs):∃ v0 v1 v2,cs=[v0,v1,v2]∧(Kd.int .i64).R 3 w base ok v0 x.f0∧(Kd.int .i64).R 3 w base ok v1 x.f1∧(Kd.int .i64).R 3 w base ok v2 x.f2:=by
  obtain ⟨_,_,rfl,⟨v0,rfl,g0⟩,⟨_,_,rfl,⟨v1,rfl,g1⟩,⟨v2,rfl,g2⟩⟩⟩:=h;exact ⟨v0,v1,v2,rfl,g0,g1,g2⟩
theorem k63_mkM (w:World) (base:Nat) (ok:Nat→Prop) (x:S63) {v0:Value} (g0:(Kd.int .i64).R 3 w base ok v0 x.f0) {v1:Value} (g1:(Kd.int .i64).R 3 w base ok v1 x.f1) {v2:Value} (g2:(Kd.int .i64).R 3 w base ok v2 x.f2):k63.M w base ok x [v0,v1,v2]:=⟨[v0],[v1,v2],rfl,⟨v0,rfl,g0⟩,⟨[v1],[v2],rfl,⟨v1,rfl,g1⟩,⟨v2,rfl,g2⟩⟩⟩
def rd_T63 (xs:List S63) (i:Int):S63:=xs.getD i.toNat z63
theorem at_T63 {w:World} {A:Option Addr} {n:Nat} {xs:List S63} (h:Kd.C k63 w A n xs) (i:Int) (h0:0≤i) (h1:i<n):∃ ad A0 c0 A1 c1 A2 c2,A=some ad∧w.cell? (ad.add (i.toNat*3))=some (.slice A0 (rd_T63 xs i).f0.length c0)∧w.cell? ⟨(ad.add (i.toNat*3)).block,(ad.add (i.toNat*3)).off+1,none⟩=some (.slice A1 (rd_T63 xs i).f1.length c1)∧w.cell? ⟨(ad.add (i.toNat*3)).block,(ad.add (i.toNat*3)).off+2,none⟩=some (.slice A2 (rd_T63 xs i).f2.length c2)∧(rd_T63 xs i).f0.length≤c0∧(Kd.int .i64).C w A0 (rd_T63 xs i).f0.length (rd_T63 xs i).f0∧(rd_T63 xs i).f1.length≤c1∧(Kd.int .i64).C w A1 (rd_T63 xs i).f1.length (rd_T63 xs i).f1∧(rd_T63 xs i).f2.length≤c2∧(Kd.int .i64).C w A2 (rd_T63 xs i).f2.length (rd_T63 xs i).f2:=by
  obtain ⟨ad,c,e,_,hK,hc0⟩:=Kd.C_get h z63 i h0 h1;have hc:∀ j u,c[j]? = some u→w.cell? (ad.add (i.toNat*3+j))=some u:=hc0;obtain ⟨A0,c0,A1,c1,A2,c2,rfl,l0,g0,l1,g1,l2,g2⟩:=k63_open hK;exact ⟨ad,A0,c0,A1,c1,A2,c2,e,hc 0 _ rfl,by rw [← add_field _ _ 1 (by omega)];exact hc 1 _ rfl,by rw [← add_field _ _ 2 (by omega)];exact hc 2 _ rfl,l0,g0,l1,g1,l2,g2⟩
structure S85 where
  f0:Int
  f1:Int
  f2:Int
def z85:S85:=⟨(0:Int),(0:Int),(0:Int)⟩
def k85:Kd S85:=Kd.iso (Kd.pair (Kd.int .i64) (Kd.pair (Kd.int .i64) (Kd.int .i64))) (fun x:S85=>(x.f0,x.f1,x.f2))
theorem k85_open {w:World} {x:S85} {cs:List Value} (h:k85.K w x cs):cs=[.int .i64 x.f0,.int .i64 x.f1,.int .i64 x.f2]:=by
  obtain ⟨_,_,rfl,rfl,⟨_,_,rfl,rfl,rfl⟩⟩:=h;exact rfl
theorem k85_mkM (w:World) (base:Nat) (ok:Nat→Prop) (x:S85):k85.M w base ok x [.int .i64 x.f0,.int .i64 x.f1,.int .i64 x.f2]:=⟨[.int .i64 x.f0],[.int .i64 x.f1,.int .i64 x.f2],rfl,rfl,⟨[.int .i64 x.f1],[.int .i64 x.f2],rfl,rfl,rfl⟩⟩
def rd_T85 (xs:List S85) (i:Int):S85:=xs.getD i.toNat z85
theorem at_T85 {w:World} {A:Option Addr} {n:Nat} {xs:List S85} (h:Kd.C k85 w A n xs) (i:Int) (h0:0≤i) (h1:i<n):∃ ad ,A=some ad∧w.cell? (ad.add (i.toNat*3))=some (.int .i64 (rd_T85 xs i).f0)∧w.cell? ⟨(ad.add (i.toNat*3)).block,(ad.add (i.toNat*3)).off+1,none⟩=some (.int .i64 (rd_T85 xs i).f1)∧w.cell? ⟨(ad.add (i.toNat*3)).block,(ad.add (i.toNat*3)).off+2,none⟩=some (.int .i64 (rd_T85 xs i).f2):=by
  obtain ⟨ad,c,e,_,hK,hc0⟩:=Kd.C_get h z85 i h0 h1;have hc:∀ j u,c[j]? = some u→w.cell? (ad.add (i.toNat*3+j))=some u:=hc0;obtain rfl:=k85_open hK;exact ⟨ad,e,hc 0 _ rfl,by rw [← add_field _ _ 1 (by omega)];exact hc 1 _ rfl,by rw [← add_field _ _ 2 (by omega)];exact hc 2 _ rfl⟩
structure S24 where
  f0:Int
  f1:(List S92)
def k24:Kd S24:=Kd.iso (Kd.pair (Kd.int .i64) (Kd.slice 92 k92)) (fun x:S24=>(x.f0,x.f1))
theorem k24_open {w:World} {x:S24} {cs:List Value} (h:k24.K w x cs):∃ A1 c1,cs=[.int .i64 x.f0,.slice A1 x.f1.length c1]∧x.f1.length≤c1∧k92.C w A1 x.f1.length x.f1:=by
  obtain ⟨_,_,rfl,rfl,⟨A1,c1,rfl,l1,g1⟩⟩:=h;exact ⟨A1,c1,rfl,l1,g1⟩
structure S36 where
  f0:S24
  f1:Int
  f2:Int
def k36:Kd S36:=Kd.iso (Kd.pair k24 (Kd.pair (Kd.int .i64) (Kd.int .i64))) (fun x:S36=>(x.f0,x.f1,x.f2))
theorem k36_open {w:World} {x:S36} {cs:List Value} (h:k36.K w x cs):∃ A1 c1,cs=[.int .i64 x.f0.f0,.slice A1 x.f0.f1.length c1,.int .i64 x.f1,.int .i64 x.f2]∧x.f0.f1.length≤c1∧k92.C w A1 x.f0.f1.length x.f0.f1:=by
  obtain ⟨_,_,rfl,s0,⟨_,_,rfl,rfl,rfl⟩⟩:=h;obtain ⟨A1,c1,rfl,l1,g1⟩:=k24_open s0;exact ⟨A1,c1,rfl,l1,g1⟩
structure S52 where
  f0:(List (List Int))
  f1:(List Int)
  f2:(List Int)
def k52:Kd S52:=Kd.iso (Kd.pair (Kd.slice 50 (Kd.slice 3 (Kd.int .i64))) (Kd.pair (Kd.slice 3 (Kd.int .i64)) (Kd.slice 3 (Kd.int .i64)))) (fun x:S52=>(x.f0,x.f1,x.f2))
theorem k52_open {w:World} {x:S52} {cs:List Value} (h:k52.K w x cs):∃ A0 c0 A1 c1 A2 c2,cs=[.slice A0 x.f0.length c0,.slice A1 x.f1.length c1,.slice A2 x.f2.length c2]∧x.f0.length≤c0∧(Kd.slice 3 (Kd.int .i64)).C w A0 x.f0.length x.f0∧x.f1.length≤c1∧(Kd.int .i64).C w A1 x.f1.length x.f1∧x.f2.length≤c2∧(Kd.int .i64).C w A2 x.f2.length x.f2:=by
  obtain ⟨_,_,rfl,⟨A0,c0,rfl,l0,g0⟩,⟨_,_,rfl,⟨A1,c1,rfl,l1,g1⟩,⟨A2,c2,rfl,l2,g2⟩⟩⟩:=h;exact ⟨A0,c0,A1,c1,A2,c2,rfl,l0,g0,l1,g1,l2,g2⟩
theorem opens50:Go.Proofs.Ytbkjgnfnjgebiaa.Opens.Opens Try.prog 50 (Kd.slice 3 (Kd.int .i64)) (fun x=>(x.length≤maxLen ∧ ∀ e9_ ∈ x,(Lit.int .i64 e9_).wf=true)) :=
  haveI:Inhabited Int:=⟨0⟩;Go.Proofs.Ytbkjgnfnjgebiaa.Opens.opens_slice Try.underlying50 (by kernel_rfl) (Go.Proofs.Ytbkjgnfnjgebiaa.Opens.opens_int Try.underlying3)
theorem opens92:Go.Proofs.Ytbkjgnfnjgebiaa.Opens.Opens Try.prog 92 k92 (fun x=>((x.f0.length≤maxLen ∧ ∀ e10_ ∈ x.f0,(Lit.int .i64 e10_).wf=true)∧(x.f1.length≤maxLen ∧ ∀ e11_ ∈ x.f1,(Lit.int .i64 e11_).wf=true)∧(x.f2.length≤maxLen ∧ ∀ e12_ ∈ x.f2,(Lit.int .i64 e12_).wf=true))) :=
  Go.Proofs.Ytbkjgnfnjgebiaa.Opens.opens_struct (f:=fun x:S92=>(x.f0,x.f1,x.f2)) (g:=fun p=>⟨p.1,p.2.1,p.2.2⟩) (fun _=>rfl) Try.underlying92 (by kernel_rfl) (Go.Proofs.Ytbkjgnfnjgebiaa.Opens.opens_cons rfl (by kernel_rfl) opens50 (Go.Proofs.Ytbkjgnfnjgebiaa.Opens.opens_cons rfl (by kernel_rfl) opens50 (Go.Proofs.Ytbkjgnfnjgebiaa.Opens.opens_one rfl (by kernel_rfl) opens50)))
theorem opens22:Go.Proofs.Ytbkjgnfnjgebiaa.Opens.Opens Try.prog 22 (Kd.slice 92 k92) (fun x=>(x.length≤maxLen ∧ ∀ e13_ ∈ x,((e13_.f0.length≤maxLen ∧ ∀ e14_ ∈ e13_.f0,(Lit.int .i64 e14_).wf=true)∧(e13_.f1.length≤maxLen ∧ ∀ e15_ ∈ e13_.f1,(Lit.int .i64 e15_).wf=true)∧(e13_.f2.length≤maxLen ∧ ∀ e16_ ∈ e13_.f2,(Lit.int .i64 e16_).wf=true)))) :=
  haveI:Inhabited S92:=⟨z92⟩;Go.Proofs.Ytbkjgnfnjgebiaa.Opens.opens_slice Try.underlying22 (by kernel_rfl) opens92
theorem opens24:Go.Proofs.Ytbkjgnfnjgebiaa.Opens.Opens Try.prog 24 k24 (fun x=>((Lit.int .i64 x.f0).wf=true∧(x.f1.length≤maxLen ∧ ∀ e17_ ∈ x.f1,((e17_.f0.length≤maxLen ∧ ∀ e18_ ∈ e17_.f0,(Lit.int .i64 e18_).wf=true)∧(e17_.f1.length≤maxLen ∧ ∀ e19_ ∈ e17_.f1,(Lit.int .i64 e19_).wf=true)∧(e17_.f2.length≤maxLen ∧ ∀ e20_ ∈ e17_.f2,(Lit.int .i64 e20_).wf=true))))) :=
  Go.Proofs.Ytbkjgnfnjgebiaa.Opens.opens_struct (f:=fun x:S24=>(x.f0,x.f1)) (g:=fun p=>⟨p.1,p.2⟩) (fun _=>rfl) Try.underlying24 (by kernel_rfl) (Go.Proofs.Ytbkjgnfnjgebiaa.Opens.opens_cons rfl (by kernel_rfl) (Go.Proofs.Ytbkjgnfnjgebiaa.Opens.opens_int Try.underlying3) (Go.Proofs.Ytbkjgnfnjgebiaa.Opens.opens_one rfl (by kernel_rfl) opens22))
theorem opens36:Go.Proofs.Ytbkjgnfnjgebiaa.Opens.Opens Try.prog 36 k36 (fun x=>(((Lit.int .i64 x.f0.f0).wf=true∧(x.f0.f1.length≤maxLen ∧ ∀ e21_ ∈ x.f0.f1,((e21_.f0.length≤maxLen ∧ ∀ e22_ ∈ e21_.f0,(Lit.int .i64 e22_).wf=true)∧(e21_.f1.length≤maxLen ∧ ∀ e23_ ∈ e21_.f1,(Lit.int .i64 e23_).wf=true)∧(e21_.f2.length≤maxLen ∧ ∀ e24_ ∈ e21_.f2,(Lit.int .i64 e24_).wf=true))))∧(Lit.int .i64 x.f1).wf=true∧(Lit.int .i64 x.f2).wf=true)) :=
  Go.Proofs.Ytbkjgnfnjgebiaa.Opens.opens_struct (f:=fun x:S36=>(x.f0,x.f1,x.f2)) (g:=fun p=>⟨p.1,p.2.1,p.2.2⟩) (fun _=>rfl) Try.underlying36 (by kernel_rfl) (Go.Proofs.Ytbkjgnfnjgebiaa.Opens.opens_cons rfl (by kernel_rfl) opens24 (Go.Proofs.Ytbkjgnfnjgebiaa.Opens.opens_cons rfl (by kernel_rfl) (Go.Proofs.Ytbkjgnfnjgebiaa.Opens.opens_int Try.underlying3) (Go.Proofs.Ytbkjgnfnjgebiaa.Opens.opens_one rfl (by kernel_rfl) (Go.Proofs.Ytbkjgnfnjgebiaa.Opens.opens_int Try.underlying3))))
theorem opens49:Go.Proofs.Ytbkjgnfnjgebiaa.Opens.Opens Try.prog 49 (Kd.slice 50 (Kd.slice 3 (Kd.int .i64))) (fun x=>(x.length≤maxLen ∧ ∀ e25_ ∈ x,(e25_.length≤maxLen ∧ ∀ e26_ ∈ e25_,(Lit.int .i64 e26_).wf=true))) :=
  haveI:Inhabited (List Int):=⟨[]⟩;Go.Proofs.Ytbkjgnfnjgebiaa.Opens.opens_slice Try.underlying49 (by kernel_rfl) opens50
theorem opens52:Go.Proofs.Ytbkjgnfnjgebiaa.Opens.Opens Try.prog 52 k52 (fun x=>((x.f0.length≤maxLen ∧ ∀ e27_ ∈ x.f0,(e27_.length≤maxLen ∧ ∀ e28_ ∈ e27_,(Lit.int .i64 e28_).wf=true))∧(x.f1.length≤maxLen ∧ ∀ e29_ ∈ x.f1,(Lit.int .i64 e29_).wf=true)∧(x.f2.length≤maxLen ∧ ∀ e30_ ∈ x.f2,(Lit.int .i64 e30_).wf=true))) :=
  Go.Proofs.Ytbkjgnfnjgebiaa.Opens.opens_struct (f:=fun x:S52=>(x.f0,x.f1,x.f2)) (g:=fun p=>⟨p.1,p.2.1,p.2.2⟩) (fun _=>rfl) Try.underlying52 (by kernel_rfl) (Go.Proofs.Ytbkjgnfnjgebiaa.Opens.opens_cons rfl (by kernel_rfl) opens49 (Go.Proofs.Ytbkjgnfnjgebiaa.Opens.opens_cons rfl (by kernel_rfl) opens50 (Go.Proofs.Ytbkjgnfnjgebiaa.Opens.opens_one rfl (by kernel_rfl) opens50)))
end Go.Proofs.Ytbkjgnfnjgebiaa.F
