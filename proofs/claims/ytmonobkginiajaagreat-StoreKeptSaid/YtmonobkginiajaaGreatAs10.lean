/- packed. -/
import Derived.Lib.Bytealg
import Derived.Laws.StructEq
import Derived.Lib.Overlaps
import Derived.Lib.SliceRun
import Derived.Lib.AppendZerosOnto
import Derived.Test.YtmonobkginiajaaGreatAs9
set_option linter.all false
set_option maxRecDepth 100000
set_option maxHeartbeats 8000000
namespace Go.Proofs.YtmonobkginiajaaGreat
open Go.Proofs.Tryz
open Value renaming string→U2,slice→U3,int→U5,bool→U6,tuple→U8
open Ending renaming returned→BY
open IntKind renaming i64→By
open Obj renaming cells→WF
open Go renaming World→YB,Value→YO,Calls→eq,maxLen→it,TypeId→pm
namespace Nd
open Go.RowKit Sl
attribute [local go_sem ↓] bA
def wD(rs:List (pu)):Bool:=decide (rs.head?=some [1])
def pF(rs:List (pu)):List E:=rs.tail.map λr=>lR ⟨r.toArray⟩
def mR(rs:List (pu)):Prop:=(rs.head?=some [1]\/rs.head?=some [2])/\(∀r∈rs.tail,k8 ⟨r.toArray⟩)/\et (pF rs) (wD rs)
def rX(rs:List (pu))(w:YB)(e:Ending)(w':YB):Prop:=
 ((¬mR rs/\e=BY (U8 #[bH false none 0 0,U5 By 14]))\/
  (mR rs/\∃A n c,e=BY (U8 #[bH (wD rs) A n c,U5 By 0])/\aM w' 111 3 (U3 A n c) n (aJ (pF rs))/\Hid (∀g∈ah (U3 A n c),w.heap.size<=g)))/\i7 w w'
theorem got_nil(s:rd)(w:YB)(hs:s.size<=1000000)(hq:cC s.data.toList=0)(gZ:dn s.data.toList=[]):
  eq prog 122 #[U2 s] w (rX ([]) w):=by
 have B0:=aF.new w 118 #[U6 false,U3 none 0 0];have O0:=i6 w (WF #[U6 false,U3 none 0 0] 118);have KA:=xh<|tx s (w.alloc (WF #[U6 false,U3 none 0 0] 118)) hs;unfold rX bH;have O0:=xh O0;have B0:=xh B0;have hS:=(fP _).1 hq;have hm:=tA hS;have hsm:=xh<|qG hS;have hN:=dV s.data.toList;obtain⟨N,PF⟩:∃N,cd s.data.toList 0=N:=⟨_,rfl⟩;unfold qF at KA
 rw[hq,gZ,PF]at KA;rw[gZ,PF]at hN;rw[gZ]at hm hsm;clear hS hq gZ PF;go_in;go_wp2_with fail;go_call KA.o as e w1 ⟨v,rfl,aO,fr,hv⟩;have S1:aM w1 9 1 v N (strs []):=hv.elim (λh=>h.2) (λh=>absurd rfl h.1);have Rm:∀x∈ah v,w.heap.size+1<=x:=λx hx=>by have:=fr x hx;rw[CH]at this;exact this
 obtain⟨V1,Ek,rfl⟩:=ax S1;have O1:=xh<|aC O0.o aO;have B1:=xh<|B0.o.below aO B0.o.lt;have f0:w1.frozen? ⟨w.heap.size,0,none⟩=false:=B1.o.frozen 0 (by simp);have f1:w1.frozen? ⟨w.heap.size,1,none⟩=false:=B1.o.frozen 1 (by simp);have z0:w1.cell? (lc w.heap.size)=some (U6 false):=B1.ap 0;have z1:w1.cell? ⟨w.heap.size,1,none⟩=some (U3 none 0 0):=B1.ap 1
 have BZ:=xh<|(B1.o.cw 0 (U6 false)).cw 1 (U3 none 0 0);have OZ:=xh<|((((ag.aj (S:=[]) O1.o).setCell (p:=⟨w.heap.size,0,none⟩) (λh=>absurd h (by simp)) (U6 false)).setCell (p:=⟨w.heap.size,1,none⟩) (λh=>absurd h (by simp)) (U3 none 0 0))).iw;clear fr aO hv;obtain rfl:N=0:=by simpa using hN.symm
 go_wp2_with fail;exact bodyPost_ret (jG rfl rfl BZ.o) rfl ⟨.inl ⟨by simp[mR],rfl⟩,OZ.o⟩
theorem got_odd(s:rd)(w:YB)(hs:s.size<=1000000)(hq:cC s.data.toList=0)(r0:pu)(rest:List (pu))(h1:¬r0=[1])(h2:¬r0=[2])(gZ:dn s.data.toList=r0::rest):
  eq prog 122 #[U2 s] w (rX (r0::rest) w):=by
 have B0:=aF.new w 118 #[U6 false,U3 none 0 0];have O0:=i6 w (WF #[U6 false,U3 none 0 0] 118);have KA:=xh<|tx s (w.alloc (WF #[U6 false,U3 none 0 0] 118)) hs;unfold rX bH;have O0:=xh O0;have B0:=xh B0;have hS:=(fP _).1 hq;have hm:=tA hS;have hsm:=xh<|qG hS;have hN:=dV s.data.toList;obtain⟨N,PF⟩:∃N,cd s.data.toList 0=N:=⟨_,rfl⟩;unfold qF at KA
 rw[hq,gZ,PF]at KA;rw[gZ,PF]at hN;rw[gZ]at hm hsm;clear hS hq gZ PF;go_in;go_wp2_with fail;go_call KA.o as e w1 ⟨v,rfl,aO,fr,hv⟩;have S1:aM w1 9 1 v N (strs (r0::rest)):=hv.elim (λh=>h.2) (λh=>absurd rfl h.1);have Rm:∀x∈ah v,w.heap.size+1<=x:=λx hx=>by have:=fr x hx;rw[CH]at this;exact this
 obtain⟨V1,Ek,rfl⟩:=ax S1;have O1:=xh<|aC O0.o aO;have B1:=xh<|B0.o.below aO B0.o.lt;have f0:w1.frozen? ⟨w.heap.size,0,none⟩=false:=B1.o.frozen 0 (by simp);have f1:w1.frozen? ⟨w.heap.size,1,none⟩=false:=B1.o.frozen 1 (by simp);have z0:w1.cell? (lc w.heap.size)=some (U6 false):=B1.ap 0;have z1:w1.cell? ⟨w.heap.size,1,none⟩=some (U3 none 0 0):=B1.ap 1
 have BZ:=xh<|(B1.o.cw 0 (U6 false)).cw 1 (U3 none 0 0);have OZ:=xh<|((((ag.aj (S:=[]) O1.o).setCell (p:=⟨w.heap.size,0,none⟩) (λh=>absurd h (by simp)) (U6 false)).setCell (p:=⟨w.heap.size,1,none⟩) (λh=>absurd h (by simp)) (U3 none 0 0))).iw;clear fr aO hv;obtain rfl:N=rest.length+1:=by simpa using hN.symm
 obtain⟨g,rfl,ck⟩:=rS S1 0 (by simp);have hgw:w.heap.size<g:=Rm g (by simp[ah]);have hgl:g<w1.heap.size:=S1.lt g (by simp[ah]);have hwl1:=B1.o.lt;have ck0:w1.cell? (lc g)=some (U2 ⟨r0.toArray⟩):=ck;have S1:=xh S1;have TD:rest.length<=56:=G6 hm;have Cy:rest.length+1<=Ek/\Ek<=it:=by
  obtain⟨r,_,h1,_,h2⟩:=S1.o.uD;simp at h1;exact⟨by first|omega|(simp;omega),h2⟩
 clear ck Rm KA hN hm;obtain⟨K0,Yq⟩:∃K0:rd,(⟨r0.toArray⟩:rd)=K0:=⟨_,rfl⟩;rw[Yq]at ck0;have hKL:K0.toList=r0:=by rw[bQ,<-Yq]
 clear Yq;have n1:¬(rest.length:Int)+1=0:=by omega
 have n2:((rest.length:Int)+1==0)=false:=by simpa using n1
 rw[<-hKL]at h1 h2;have k1:(K0.toList==[1])=false:=by simpa using h1
 have k2:(K0.toList==[2])=false:=by simpa using h2
 have HNO:=xh (show ¬mR (r0::rest)from λhx=>by
  have:=hx.1;simp only[List.head?_cons,Option.some.injEq]at this;rw[<-hKL]at this;exact this.elim h1 h2)
 clear hKL;go_wp2_with fail;exact bodyPost_ret (jG rfl rfl BZ.o) rfl ⟨.inl ⟨HNO.o,rfl⟩,OZ.o⟩
theorem got_one(s:rd)(w:YB)(hs:s.size<=1000000)(hq:cC s.data.toList=0)(r0:pu)(leaf:Bool)(Pd:r0=[if leaf then 1 else 2])(gZ:dn s.data.toList=[r0]):
  eq prog 122 #[U2 s] w (rX ([r0]) w):=by
 have B0:=aF.new w 118 #[U6 false,U3 none 0 0];have O0:=i6 w (WF #[U6 false,U3 none 0 0] 118);have KA:=xh<|tx s (w.alloc (WF #[U6 false,U3 none 0 0] 118)) hs;unfold rX bH;have O0:=xh O0;have B0:=xh B0;have hS:=(fP _).1 hq;have hm:=tA hS;have hsm:=xh<|qG hS;have hN:=dV s.data.toList;obtain⟨N,PF⟩:∃N,cd s.data.toList 0=N:=⟨_,rfl⟩;unfold qF at KA
 rw[hq,gZ,PF]at KA;rw[gZ,PF]at hN;rw[gZ]at hm hsm;clear hS hq gZ PF;go_in;go_wp2_with fail;go_call KA.o as e w1 ⟨v,rfl,aO,fr,hv⟩;have S1:aM w1 9 1 v N (strs [r0]):=hv.elim (λh=>h.2) (λh=>absurd rfl h.1);have Rm:∀x∈ah v,w.heap.size+1<=x:=λx hx=>by have:=fr x hx;rw[CH]at this;exact this
 obtain⟨V1,Ek,rfl⟩:=ax S1;have O1:=xh<|aC O0.o aO;have B1:=xh<|B0.o.below aO B0.o.lt;have f0:w1.frozen? ⟨w.heap.size,0,none⟩=false:=B1.o.frozen 0 (by simp);have f1:w1.frozen? ⟨w.heap.size,1,none⟩=false:=B1.o.frozen 1 (by simp);have z0:w1.cell? (lc w.heap.size)=some (U6 false):=B1.ap 0;have z1:w1.cell? ⟨w.heap.size,1,none⟩=some (U3 none 0 0):=B1.ap 1
 have BZ:=xh<|(B1.o.cw 0 (U6 false)).cw 1 (U3 none 0 0);have OZ:=xh<|((((ag.aj (S:=[]) O1.o).setCell (p:=⟨w.heap.size,0,none⟩) (λh=>absurd h (by simp)) (U6 false)).setCell (p:=⟨w.heap.size,1,none⟩) (λh=>absurd h (by simp)) (U3 none 0 0))).iw;clear fr aO hv;obtain rfl:N=([]:List (pu)).length+1:=by simpa using hN.symm
 obtain⟨g,rfl,ck⟩:=rS S1 0 (by simp);have hgw:w.heap.size<g:=Rm g (by simp[ah]);have hgl:g<w1.heap.size:=S1.lt g (by simp[ah]);have hwl1:=B1.o.lt;have ck0:w1.cell? (lc g)=some (U2 ⟨r0.toArray⟩):=ck;have S1:=xh S1;have TD:([]:List (pu)).length<=56:=G6 hm;have Cy:([]:List (pu)).length+1<=Ek/\Ek<=it:=by
  obtain⟨r,_,h1,_,h2⟩:=S1.o.uD;simp at h1;exact⟨by first|omega|(simp;omega),h2⟩
 clear ck Rm KA hN hm;obtain⟨K0,Yq⟩:∃K0:rd,(⟨r0.toArray⟩:rd)=K0:=⟨_,rfl⟩;rw[Yq]at ck0;have hKL:K0.toList=r0:=by rw[bQ,<-Yq]
 clear Yq;have hk:K0.toList=[if leaf then 1 else 2]:=by rw[hKL];exact Pd
 have HR0:=xh Pd;have HC:=xh (show(K0.toList=[1]/\(K0.toList==[1])=true/\(K0.toList==[2])=false)\/(¬K0.toList=[1]/\(K0.toList==[1])=false/\(K0.toList==[2])=true)from by rw[hk];cases leaf<;>decide);have H1:=xh (show(K0.toList==[1])=leaf from by rw[hk];cases leaf<;>decide);clear hKL hk
 go_upto_region 4 with fail
 go_cut [21]from 22 to 36 (λv21 wx=>v21=U6 false/\w1=wx)
 case first=>
  rcases HC.o with⟨k3,k1,k2⟩|⟨k3,k1,k2⟩
  all_goals
   go_wp2_with fail;go_meet
   case rel=>exact⟨rfl,rfl⟩
 obtain⟨rfl,rfl⟩:=hcut;have k1:=H1.o;have R0:=g9 (aF (w1.alloc (WF #[U6 leaf,U3 none 0 0] 118)) w1.heap.size 118 #[U6 leaf,U3 none 0 0]) (aF.new w1 _ _);have R2:=xh<|B1.o.alloc (WF #[U6 leaf,U3 none 0 0] 118);have RO:=xh<|aC O1.o (i6 _ (WF #[U6 leaf,U3 none 0 0] 118));have HLF:=g9 (wD [r0]=leaf) (by rw[HR0.o];cases leaf<;>decide)
 have HM:=g9 (et ([]:List E) leaf) (λi hi=>absurd hi (mc _));have HYES:=g9 (mR [r0]) ⟨by rw[HR0.o];cases leaf<;>simp,by simp,by rw[HLF.o];exact HM.o⟩
 by_cases qV:Ek=1
 all_goals
  go_wp2_with fail;generalize hW6:(w1.alloc (WF #[U6 leaf,U3 none 0 0] 118))=W6 at *;clear hW6 f0 f1 z0 z1 ck0;have KM:=xh<|Aq (w:=W6) leaf none 0 0 [] (show qY W6 none 0 []from⟨rfl,λk e h=>by simp at h⟩) (by omega);unfold bH at KM
  go_loopw [46] (λiv wr=>iv=U5 By 0/\wr=W6) (λ_ _=>0)
  case atStart=>exact⟨rfl,rfl⟩
  case round=>
   obtain⟨rfl,rfl⟩:=hrel;have d0:wr.cell? (lc w1.heap.size)=some (U6 leaf):=R0.ap 0;have d1:wr.cell? ⟨w1.heap.size,1,none⟩=some (U3 none 0 0):=R0.ap 1;go_wp2_with fail;go_call KM.o as e' w2 ⟨⟨b,rfl,hb⟩,cf⟩;obtain rfl:=hb.2 HM.o;have CW:=R2.o.below cf R2.o.lt;have CN:=R0.o.below cf R0.o.lt;have f0:w2.frozen? ⟨w.heap.size,0,none⟩=false:=CW.frozen 0 (by simp)
   have f1:w2.frozen? ⟨w.heap.size,1,none⟩=false:=CW.frozen 1 (by simp);have z0:w2.cell? (lc w.heap.size)=some (U6 false):=CW.bi 0;have z1:w2.cell? ⟨w.heap.size,1,none⟩=some (U3 none 0 0):=CW.bi 1;have y0:w2.cell? (lc w1.heap.size)=some (U6 leaf):=CN.bi 0;have y1:w2.cell? ⟨w1.heap.size,1,none⟩=some (U3 none 0 0):=CN.bi 1;have hwlt:=R2.o.lt;have CX:=xh<|(CW.cw 0 (U6 leaf)).cw 1 (U3 none 0 0)
   have OX:=xh<|(((ag.aj (S:=[]) (aC RO.o cf)).setCell (p:=⟨w.heap.size,0,none⟩) (λh=>absurd h (by simp)) (U6 leaf)).setCell (p:=⟨w.heap.size,1,none⟩) (λh=>absurd h (by simp)) (U3 none 0 0)).iw;clear CW CN cf hb d0 d1;go_wp2_with fail;exact bodyPost_ret (jG rfl rfl CX.o) rfl ⟨.inr ⟨HYES.o,none,0,0,by rw[HLF.o];rfl,aM.nil _ _ _,xh (λx hx=>by simp[ah]at hx)⟩,OX.o⟩
theorem Yr(s:rd)(w:YB)(hs:s.size<=1000000)(hq:cC s.data.toList=0)(r0:pu)(rest:List (pu))(leaf:Bool)(Pd:r0=[if leaf then 1 else 2])(fF:rest≠[])(gZ:dn s.data.toList=r0::rest):
  eq prog 122 #[U2 s] w (rX (r0::rest) w):=by
 have B0:=aF.new w 118 #[U6 false,U3 none 0 0];have O0:=i6 w (WF #[U6 false,U3 none 0 0] 118);have KA:=xh<|tx s (w.alloc (WF #[U6 false,U3 none 0 0] 118)) hs;unfold rX bH;have O0:=xh O0;have B0:=xh B0;have hS:=(fP _).1 hq;have hm:=tA hS;have hsm:=xh<|qG hS;have hN:=dV s.data.toList;obtain⟨N,PF⟩:∃N,cd s.data.toList 0=N:=⟨_,rfl⟩;unfold qF at KA
 rw[hq,gZ,PF]at KA;rw[gZ,PF]at hN;rw[gZ]at hm hsm;clear hS hq gZ PF;go_in;go_wp2_with fail;go_call KA.o as e w1 ⟨v,rfl,aO,fr,hv⟩;have S1:aM w1 9 1 v N (strs (r0::rest)):=hv.elim (λh=>h.2) (λh=>absurd rfl h.1);have Rm:∀x∈ah v,w.heap.size+1<=x:=λx hx=>by have:=fr x hx;rw[CH]at this;exact this
 obtain⟨V1,Ek,rfl⟩:=ax S1;have O1:=xh<|aC O0.o aO;have B1:=xh<|B0.o.below aO B0.o.lt;have f0:w1.frozen? ⟨w.heap.size,0,none⟩=false:=B1.o.frozen 0 (by simp);have f1:w1.frozen? ⟨w.heap.size,1,none⟩=false:=B1.o.frozen 1 (by simp);have z0:w1.cell? (lc w.heap.size)=some (U6 false):=B1.ap 0;have z1:w1.cell? ⟨w.heap.size,1,none⟩=some (U3 none 0 0):=B1.ap 1
 have BZ:=xh<|(B1.o.cw 0 (U6 false)).cw 1 (U3 none 0 0);have OZ:=xh<|((((ag.aj (S:=[]) O1.o).setCell (p:=⟨w.heap.size,0,none⟩) (λh=>absurd h (by simp)) (U6 false)).setCell (p:=⟨w.heap.size,1,none⟩) (λh=>absurd h (by simp)) (U3 none 0 0))).iw;clear fr aO hv;obtain rfl:N=rest.length+1:=by simpa using hN.symm
 obtain⟨g,rfl,ck⟩:=rS S1 0 (by simp);have hgw:w.heap.size<g:=Rm g (by simp[ah]);have hgl:g<w1.heap.size:=S1.lt g (by simp[ah]);have hwl1:=B1.o.lt;have ck0:w1.cell? (lc g)=some (U2 ⟨r0.toArray⟩):=ck;have S1:=xh S1;have TD:rest.length<=56:=G6 hm;have Cy:rest.length+1<=Ek/\Ek<=it:=by
  obtain⟨r,_,h1,_,h2⟩:=S1.o.uD;simp at h1;exact⟨by first|omega|(simp;omega),h2⟩
 clear ck Rm KA hN hm;obtain⟨K0,Yq⟩:∃K0:rd,(⟨r0.toArray⟩:rd)=K0:=⟨_,rfl⟩;rw[Yq]at ck0;have hKL:K0.toList=r0:=by rw[bQ,<-Yq]
 clear Yq;have hk:K0.toList=[if leaf then 1 else 2]:=by rw[hKL];exact Pd
 have HR0:=xh Pd;have HC:=xh (show(K0.toList=[1]/\(K0.toList==[1])=true/\(K0.toList==[2])=false)\/(¬K0.toList=[1]/\(K0.toList==[1])=false/\(K0.toList==[2])=true)from by rw[hk];cases leaf<;>decide);have H1:=xh (show(K0.toList==[1])=leaf from by rw[hk];cases leaf<;>decide);clear hKL hk;have n1:¬(rest.length:Int)+1=0:=by omega
 have n2:((rest.length:Int)+1==0)=false:=by simpa using n1
 have qV:¬Ek=1:=λh=>by
  have:0<rest.length:=zT.2 fF;omega
 go_upto_region 4 with fail
 go_cut [21]from 22 to 36 (λv21 wx=>v21=U6 false/\w1=wx)
 case first=>
  rcases HC.o with⟨k3,k1,k2⟩|⟨k3,k1,k2⟩
  all_goals
   go_wp2_with fail;go_meet
   case rel=>exact⟨rfl,rfl⟩
 obtain⟨rfl,rfl⟩:=hcut;have k1:=H1.o;have R0:=g9 (aF (w1.alloc (WF #[U6 leaf,U3 none 0 0] 118)) w1.heap.size 118 #[U6 leaf,U3 none 0 0]) (aF.new w1 _ _);have R2:=xh<|B1.o.alloc (WF #[U6 leaf,U3 none 0 0] 118);have RS:=xh<|S1.o.alloc (WF #[U6 leaf,U3 none 0 0] 118);have RO:=xh<|aC O1.o (i6 _ (WF #[U6 leaf,U3 none 0 0] 118));go_wp2_with fail
 generalize hW6:(w1.alloc (WF #[U6 leaf,U3 none 0 0] 118))=W6 at *;clear hW6 f0 f1 z0 z1 ck0
 go_loopw [46] (λiv wr=> ∃(i:Nat) (v':YO),i<=rest.length/\iv=U5 By i/\aF wr w1.heap.size 118 #[U6 leaf,v']/\aF wr w.heap.size 118 #[U6 false,U3 none 0 0]/\aM wr 111 3 v' i (aJ ((rest.take i).map λr=>lR ⟨r.toArray⟩))/\aM wr 9 1 (U3 (lc g) (rest.length+1) Ek) (rest.length+1) (strs (r0::rest))/\Hid (∀r∈rest.take i,k8 ⟨r.toArray⟩)/\i7 w wr/\Hid (∀x∈ah v',w1.heap.size+1<=x)) (λiv _=>rest.length-(intOf iv).toNat)
 case atStart=>exact⟨0,_,aW _,rfl,R0.o,R2.o,aM.nil _ _ _,RS.o,xh (by simp),RO.o,xh (λx hx=>by simp[ah]at hx)⟩
 case round=>
  obtain⟨i,v',hi,rfl,C6,C2,S,RS,EO,O,F⟩:=hrel;obtain⟨VA,vc,rfl⟩:=ax S;have hltr:=C6.lt;have hg6:w1.heap.size∉ah (U3 VA i vc):=λhx=>by have:=F.o _ hx;omega
  have hg2:w.heap.size∉ah (U3 VA i vc):=λhx=>by have:=F.o _ hx;omega
  have Yg:g∉ah (U3 VA i vc):=λhx=>by have:=F.o _ hx;omega
  by_cases h:i<rest.length
  .obtain⟨g',hgx,ck⟩:=rS RS (i+1) (by simp;omega);simp only[Option.some.injEq,Addr.mk.injEq,and_true]at hgx;subst hgx;have hri:(r0::rest)[i+1]'(by simp;omega)=rest[i]:=List.getElem_cons_succ ..;rw[hri]at ck;have oq:rest[i].length<=232:=hsm.o _ (bK _ (jS h));have HT:=xh<|ik h;obtain⟨T,hT⟩:∃T:rd,(⟨rest[i].toArray⟩:rd)=T:=⟨_,rfl⟩;have hTs:T.size<=232:=by rw[<-hT,Sl.size_of_list];exact oq
   rw[hT]at ck;have HTT:=xh hT;have ck2:wr.cell? ((⟨g,1,none⟩:Addr).add i)=some (U2 T):=by rw[iN,zX];exact ck
   have hiI:(i:Int)<(rest.length:Int):=by omega
   have ck3:wr.cell? ⟨g,1+i,none⟩=some (U2 T):=by rw[zX];exact ck
   clear hT hri oq
   by_cases gj:k8 T
   .have KE:=xh (λw=>Uh w T gj (by omega));have Em:=xh gj;obtain⟨e,he⟩:∃e,lR T=e:=⟨_,rfl⟩;rw[he]at KE;have HE:=xh he;have SL:=xh S;have CL:=xh C6;have C2L:=xh C2;have RL:=xh RS;have OL:=xh O;unfold E.agg at KE;clear gj he S C6 C2 RS O;go_wp2_with fail;go_call (KE.o _) as e' w2 ⟨rfl,cf⟩
    obtain⟨v2,w3,ea,S3,ow,f3⟩:=CG (P:=prog) ((SL.o.below cf).alloc (WF #[U2 e.key,U2 e.val,e.aY] 111)) 108 108 (.agg #[U2 .empty,U2 .empty,U5 By 0]) 40 underlying108 (by kernel_rfl) rfl e (by unfold it;omega) (by omega);rw[CH]at ea;obtain⟨V2,jh,rfl⟩:=ax S3;have EA:=xh ea;have O2:=xh<|(ag.aj (S:=ah (U3 VA i vc)) cf).alloc (WF #[U2 e.key,U2 e.val,e.aY] 111)
    have OW:=O2.o.trans ow;have CW:=((CL.o.below cf CL.o.lt).alloc (WF #[U2 e.key,U2 e.val,e.aY] 111)).only ow hg6;have c61:((w2.alloc (WF #[U2 e.key,U2 e.val,e.aY] 111))).cell? ⟨w1.heap.size,1,none⟩=some (U3 VA i vc):=((CL.o.below cf CL.o.lt).alloc (WF #[U2 e.key,U2 e.val,e.aY] 111)).ab (i:=1) rfl;have fz:w3.frozen? ⟨w1.heap.size,1,none⟩=false:=CW.frozen 1 (by simp)
    have cz:w3.cell? ⟨w1.heap.size,1,none⟩=some (U3 VA i vc):=CW.bi 1;have hsz2:wr.heap.size<=w2.heap.size:=cf.size;have OX:=OW.mono (S':=w1.heap.size::ah (U3 VA i vc)) (λx hx _=>bK _ hx)|>.setCell (p:=⟨w1.heap.size,1,none⟩) (λ_=>by simp) (U3 V2 (i+1) jh);have CX:=xh<|CW.cw 1 (U3 V2 (i+1) jh);have C2X:=xh<|C2L.o.only OX (by simp;exact⟨by omega,hg2⟩)
    have RX:=xh<|RL.o.only OX (λx hx=>by simp[ah]at hx;subst hx;simp;exact⟨by omega,Yg⟩);have re:∀x∈ah (U3 V2 (i+1) jh),w1.heap.size+1<=x:=λx hx=>(f3 x hx).elim (F.o x) (λh=>by rw[CH]at h;omega);have FX:=xh re;have SX:=xh<|S3.only ((ag.refl [w1.heap.size] w3).setCell (p:=⟨w1.heap.size,1,none⟩) (λ_=>by simp) (U3 V2 (i+1) jh)) (λx hx=>by have:=re x hx;simp;omega)
    have OB:=xh<|OL.o.trans (OX.aK OL.o.size (λx hx=>by
     rcases ar.1 hx with rfl|hx
     .omega
     .have:=F.o x hx;omega))
    have HSX:=xh (show aJ ((rest.take (i+1)).map λr=>lR ⟨r.toArray⟩)=aJ ((rest.take i).map λr=>lR ⟨r.toArray⟩)++e.cells from by
     rw[HT.o,cX,iH,fA,HTT.o,HE.o];simp[aJ])
    have EX:=xh (show ∀r∈rest.take (i+1),k8 ⟨r.toArray⟩from λr hr=>by
     rw[HT.o]at hr
     rcases ay.1 hr with hr|hr
     .exact EO.o r hr
     .simp only[az]at hr;rw[hr,HTT.o];exact Em.o)
    clear ea S3 ow f3 OW CW OX re cf;go_wp2_with fail;rw[EA.o];go_wp2_with fail;go_roundw
    case rel=>exact⟨i+1,_,by omega,by go_num,CX.o,C2X.o,by rw[HSX.o];exact SX.o,RX.o,EX,OB.o,FX⟩
    case measure=>simp[intOf];omega
   .have KE:=xh (λw=>Yn w T gj);have Em:=xh gj;have HNO:=g9 (¬mR (r0::rest)) (λhx=>gj (by rw[<-HTT.o];exact hx.2.1 _ (by rw[l9];exact jS h)));have C2L:=xh C2;have OL:=xh O;unfold E.agg E.zero at KE;clear gj S C6 C2 RS O;go_wp2_with fail;go_call (KE.o _) as e' w2 ⟨rfl,cf⟩;have CW:=(C2L.o.below cf C2L.o.lt).alloc (WF #[U2 .empty,U2 .empty,U5 By 0] 111)
    have f0:(w2.alloc (WF #[U2 .empty,U2 .empty,U5 By 0] 111)).frozen? ⟨w.heap.size,0,none⟩=false:=CW.frozen 0 (by simp);have f1:(w2.alloc (WF #[U2 .empty,U2 .empty,U5 By 0] 111)).frozen? ⟨w.heap.size,1,none⟩=false:=CW.frozen 1 (by simp);have z0:(w2.alloc (WF #[U2 .empty,U2 .empty,U5 By 0] 111)).cell? (lc w.heap.size)=some (U6 false):=CW.bi 0
    have z1:(w2.alloc (WF #[U2 .empty,U2 .empty,U5 By 0] 111)).cell? ⟨w.heap.size,1,none⟩=some (U3 none 0 0):=CW.bi 1;have CX:=xh<|(CW.cw 0 (U6 false)).cw 1 (U3 none 0 0)
    have OX:=xh<|(((ag.aj (S:=[]) (aC OL.o (ae cf (WF #[U2 .empty,U2 .empty,U5 By 0] 111)))).setCell (p:=⟨w.heap.size,0,none⟩) (λh=>absurd h (by simp)) (U6 false)).setCell (p:=⟨w.heap.size,1,none⟩) (λh=>absurd h (by simp)) (U3 none 0 0)).iw;have hwlt:=C2L.o.lt;clear CW cf;go_wp2_with fail;exact bodyPost_ret (jG rfl rfl CX.o) rfl ⟨.inl ⟨HNO.o,rfl⟩,OX.o⟩
  .obtain rfl:i=rest.length:=by omega
   rw[fX]at S EO;have HE:=g9 (pF (r0::rest)=rest.map λr=>lR ⟨r.toArray⟩) rfl;have HLF:=g9 (wD (r0::rest)=leaf) (by rw[HR0.o];cases leaf<;>simp[wD]);rw[<-HE.o]at S;obtain⟨-,EN⟩:=aM.aJ S;have KM:=xh<|Aq (w:=wr) leaf VA rest.length vc (pF (r0::rest)) EN (by omega)
   have HF:=xh (show(et (pF (r0::rest)) leaf->mR (r0::rest))/\(mR (r0::rest)->et (pF (r0::rest)) leaf)from⟨λhm=>⟨by rw[HR0.o];cases leaf<;>simp,EO.o,by rw[HLF.o];exact hm⟩,λhx=>by have:=hx.2.2;rw[HLF.o]at this;exact this⟩);have d0:wr.cell? (lc w1.heap.size)=some (U6 leaf):=C6.bi 0;have d1:wr.cell? ⟨w1.heap.size,1,none⟩=some (U3 VA rest.length vc):=C6.bi 1;have SL:=xh S;have CL:=xh C6
   have C2L:=xh C2;have OL:=xh O;unfold bH at KM;clear S C6 C2 RS O EN;go_wp2_with fail;go_call KM.o as e' w2 ⟨⟨b,rfl,hb⟩,cf⟩;have CW:=C2L.o.below cf C2L.o.lt;have CN:=CL.o.below cf CL.o.lt;have f0:w2.frozen? ⟨w.heap.size,0,none⟩=false:=CW.frozen 0 (by simp);have f1:w2.frozen? ⟨w.heap.size,1,none⟩=false:=CW.frozen 1 (by simp);have z0:w2.cell? (lc w.heap.size)=some (U6 false):=CW.bi 0
   have z1:w2.cell? ⟨w.heap.size,1,none⟩=some (U3 none 0 0):=CW.bi 1;have y0:w2.cell? (lc w1.heap.size)=some (U6 leaf):=CN.bi 0;have y1:w2.cell? ⟨w1.heap.size,1,none⟩=some (U3 VA rest.length vc):=CN.bi 1;have hwlt:=C2L.o.lt
   cases b
   .have HNO:=g9 (¬mR (r0::rest)) (λhx=>by have:=hb.2 (HF.o.2 hx);cases this);have CX:=xh<|(CW.cw 0 (U6 false)).cw 1 (U3 none 0 0);have OX:=xh<|(((ag.aj (S:=[]) (aC OL.o cf)).setCell (p:=⟨w.heap.size,0,none⟩) (λh=>absurd h (by simp)) (U6 false)).setCell (p:=⟨w.heap.size,1,none⟩) (λh=>absurd h (by simp)) (U3 none 0 0)).iw;clear CW CN cf hb d0 d1;go_wp2_with fail
    exact bodyPost_ret (jG rfl rfl CX.o) rfl ⟨.inl ⟨HNO.o,rfl⟩,OX.o⟩
   .have HYES:=xh<|HF.o.1 (hb.1 rfl);have CX:=xh<|(CW.cw 0 (U6 leaf)).cw 1 (U3 VA rest.length vc);have OX:=xh<|(((ag.aj (S:=[]) (aC OL.o cf)).setCell (p:=⟨w.heap.size,0,none⟩) (λh=>absurd h (by simp)) (U6 leaf)).setCell (p:=⟨w.heap.size,1,none⟩) (λh=>absurd h (by simp)) (U3 VA rest.length vc)).iw
    have SX:=xh<|(SL.o.below cf).only (((ag.refl [w.heap.size] w2).setCell (p:=⟨w.heap.size,0,none⟩) (λ_=>by simp) (U6 leaf)).setCell (p:=⟨w.heap.size,1,none⟩) (λ_=>by simp) (U3 VA rest.length vc)) (λx hx=>by simp;exact λhxx=>hg2 (hxx▸hx));clear CW CN cf hb d0 d1;go_wp2_with fail;exact bodyPost_ret (jG rfl rfl CX.o) rfl ⟨.inr (⟨HYES.o,VA,rest.length,vc,by rw[HLF.o];rfl,SX.o,xh (λx hx=>by have:=F.o x hx;omega)⟩),OX.o⟩
def Iz(s:rd)(w:YB)(e:Ending)(w':YB):Prop:=
 (cC s.data.toList≠0/\e=BY (U8 #[bH false none 0 0,U5 By (cC s.data.toList)])/\i7 w w')\/(cC s.data.toList=0/\rX (dn s.data.toList) w e w')
theorem got_any(s:rd)(w:YB)(hs:s.size<=1000000):
  eq prog 122 #[U2 s] w (Iz s w):=by
 by_cases hq:cC s.data.toList=0
 .have lift:∀{rs},dn s.data.toList=rs->eq prog 122 #[U2 s] w (rX rs w)->eq prog 122 #[U2 s] w (Iz s w):=λh k=>k.mono λe w' h2=> .inr ⟨hq,by rw[h];exact h2⟩
  match gZ:dn s.data.toList with
  |[]=>exact lift gZ (got_nil s w hs hq gZ)
  |r0::rest=>
   refine lift gZ ?_;have both:∀leaf:Bool,r0=[if leaf then 1 else 2]->eq prog 122 #[U2 s] w (rX (r0::rest) w):=λleaf h=>by
    by_cases fF:rest=[]
    .subst fF;exact got_one s w hs hq r0 leaf h gZ
    .exact Yr s w hs hq r0 rest leaf h fF gZ
   by_cases h1:r0=[1]
   .exact both true h1
   .by_cases h2:r0=[2]
    .exact both false h2
    .exact got_odd s w hs hq r0 rest h1 h2 gZ
 .have HQ:=xh hq;have B0:=aF.new w 118 #[U6 false,U3 none 0 0];have O0:=i6 w (WF #[U6 false,U3 none 0 0] 118);have KA:=xh<|tx s (w.alloc (WF #[U6 false,U3 none 0 0] 118)) hs;unfold Iz bH;have O0:=xh O0;have B0:=xh B0;unfold qF at KA;generalize cC s.data.toList=q at *;go_in;go_wp2_with fail;go_call KA.o as e w1 ⟨v,rfl,aO,fr,hv⟩
  rcases hv with⟨h0,-⟩|⟨-,rfl⟩
  .exact absurd h0 hq
  have O1:=xh<|aC O0.o aO;have B1:=xh<|B0.o.below aO B0.o.lt;have f0:w1.frozen? ⟨w.heap.size,0,none⟩=false:=B1.o.frozen 0 (by simp);have f1:w1.frozen? ⟨w.heap.size,1,none⟩=false:=B1.o.frozen 1 (by simp);have z0:w1.cell? (lc w.heap.size)=some (U6 false):=B1.ap 0;have z1:w1.cell? ⟨w.heap.size,1,none⟩=some (U3 none 0 0):=B1.ap 1;have BZ:=xh<|(B1.o.cw 0 (U6 false)).cw 1 (U3 none 0 0)
  have OZ:=xh<|((((ag.aj (S:=[]) O1.o).setCell (p:=⟨w.heap.size,0,none⟩) (λh=>absurd h (by simp)) (U6 false)).setCell (p:=⟨w.heap.size,1,none⟩) (λh=>absurd h (by simp)) (U3 none 0 0))).iw;have q2:(q==0)=false:=by simpa using hq
  clear fr aO KA;go_wp2_with fail;exact bodyPost_ret (jG rfl rfl BZ.o) rfl (.inl ⟨HQ.o,rfl,OZ.o⟩)
end Nd
namespace Nd
open Go.RowKit Sl
variable{l:List E}{leaf:Bool}
theorem tC(e:E):(wC e).data.toList=rV e:=by simp[wC]
theorem Ui(e:E):(rV e).drop 1=e.key.data.toList++(fD (e.aY+1).toNat++e.val.data.toList):=rfl
theorem CJ(e:E)(h:e.key.size<=32):nY (wC e)=e.key.size:=by
 unfold nY;rw[tC];show(UInt8.ofNat e.key.size).toNat=e.key.size;rw[il];omega
theorem FG(e:E):(wC e).size=3+e.key.size+e.val.size:=by
 unfold wC;rw[Sl.size_of_list,rW]
theorem La(e:E)(h:e.key.size<=32):k8 (wC e):=by
 unfold k8;rw[CJ e h,FG];omega
theorem keyL(e:E):e.key.data.toList.length=e.key.size:=by simp
theorem PH(e:E)(h:e.key.size<=32)(h1: -1<=e.aY)(h2:e.aY<=511):lR (wC e)=e:=by
 obtain⟨m,hm⟩:=dZ (show 0<=e.aY+1 by omega);have hk:=keyL e;have hd:=Ui e;have d2:(rV e).drop (1+e.key.size)=fD (e.aY+1).toNat++e.val.data.toList:=by
  rw[<-ji,hd,uv (by omega),<-hk,Nc,cQ]
 have d3:(rV e).drop (3+e.key.size)=e.val.data.toList:=by
  rw[show 3+e.key.size=(1+e.key.size)+2 by omega,<-ji,d2];rfl
 unfold lR;rw[CJ e h];have a1:(wC e).extract 1 (1+e.key.size)=e.key:=by
  rw[qE,tC,hd,m8 (by omega),<-hk,fX]
 have a2:(wC e).extract (3+e.key.size) (wC e).size=e.val:=by
  rw[FG,qE,tC,d3,cm (by simp)]
 have a3:cd (wC e).data.toList (1+e.key.size)=m:=by
  rw[tC];have g0:(rV e).getD (1+e.key.size) 0=UInt8.ofNat (m / 256):=by
   have:=congrArg (λl=>l.getD 0 0) d2;simp only[iq,iK,ma]at this;rw[iq,this,hm];rfl
  have g1:(rV e).getD (1+e.key.size+1) 0=UInt8.ofNat m:=by
   have:=congrArg (λl=>l.getD 1 0) d2;simp only[iq,iK]at this;rw[iq,this,hm];rfl
  unfold cd;rw[g0,g1,il,il];omega
 rw[a1,a2,a3];obtain⟨k,v,f⟩:=e;dsimp only at *;rw[show((m:Nat):Int)-1=f by omega]
theorem CK(hm:et l leaf)(e:E)(he:e∈l):e.key.size<=32/\e.val.size<=40/\ -1<=e.aY/\e.aY<=511:=by
 obtain⟨i,hi,rfl⟩:=p9 he;have h2:=(CF l[i] leaf).1 (hm i hi l[i] (aH hi)).1;exact⟨h2.1,h2.2.1,h2.2.2.1,h2.2.2.2.1⟩
theorem CM(hm:et l leaf):pF (jg leaf l)=l:=by
 unfold pF jg;rw[l9,gR];have:l.map ((λr=>lR ⟨r.toArray⟩) ∘ rV)=l.map id:=by
  apply fW;intro e he;obtain⟨b1,b2,b3,b4⟩:=CK hm e he;exact PH e b1 b3 b4
 rw[this,List.map_id]
theorem CQ(leaf:Bool)(l:List E):wD (jg leaf l)=leaf:=by
 unfold wD jg FF
 cases leaf<;>simp
theorem Lb(hm:et l leaf):mR (jg leaf l):=by
 refine⟨?_,?_,?_⟩
 .unfold jg FF
  cases leaf<;>simp
 .intro r hr;unfold jg at hr;rw[l9]at hr;obtain⟨e,he,rfl⟩:=cr.1 hr;exact La e (CK hm e he).1
 .rw[CM hm,CQ];exact hm
def l0:List E:=[⟨⟨#[97]⟩,⟨#[120]⟩,-1⟩,⟨⟨#[99]⟩,⟨#[]⟩,7⟩]
variable{w:YB}{t g j:Nat}{u:pm}{l:List E}{rest:List YO}{oW R:Int}
section
open Go.RowKit Sl
attribute [local go_sem ↓] bA
def lB(l:List E)(i:Nat):Int:=max ((an (l.take i):Int)-((an l:Int)-an (l.take i))) ((an l:Int)-an (l.take i)-an (l.take i))
def yh(l:List E)(m t:Nat):Prop:=1<=t/\t<m/\(∀j,1<=j->j<m->lB l t<=lB l j)/\∀j,1<=j->j<t->lB l t<lB l j
theorem yi(l:List E)(k:Nat):(aJ l).take (k*3)=aJ (l.take k):=by
 induction l generalizing k with
 |nil=>simp[aJ]
 |cons e l ih=>
  cases k with
  |zero=>simp[aJ]
  |succ k=>
   rw[lS,qe,lS,show(k+1)*3=e.cells.length+k*3 by simp[E.cells];omega,List.take_length_add_append,ih]
theorem nF(l:List E)(k:Nat):(aJ l).drop (k*3)=aJ (l.drop k):=by
 induction l generalizing k with
 |nil=>simp[aJ]
 |cons e l ih=>
  cases k with
  |zero=>simp[aJ]
  |succ k=>
   rw[lS,GL,show(k+1)*3=e.cells.length+k*3 by simp[E.cells];omega,List.drop_length_add_append,ih]
theorem mD(l:List E):∀v∈aJ l,v.oneCell'=true:=by
 intro v hv;simp only[aJ,mZ]at hv;obtain⟨e,_,hv⟩:=hv;simp[E.cells]at hv
 rcases hv with rfl|rfl|rfl<;>rfl
theorem zf{P:Program}{t:pm}{v:YO}{n:Nat}{l0:List E}(S:aM w t 3 v n (aJ l0))(B:aF w g u (aJ l++rest).toArray)(o m c:Nat)(hom:o+m<=l.length)
 (T ty:pm)(z:YO)(bytes:Nat)(ht:P.underlying T=some (.slice t))(nN:(P.info? t).map (λi=>(i.zero,i.size,i.bytes))=some (some z,3,bytes))(hz:z.cells.size=3)
 (Hc:n+m<=it)(hb:(n+m)*bytes<=140737488355328):
  ∃v' w',dF P T ty w v (U3 (some ⟨g,o*3,none⟩) m c)= .ok v' w'/\aM w' t 3 v' (n+m) (aJ (l0++(l.drop o).take m))/\ag (ah v) w w'/\(∀x∈ah v',x∈ah v\/w.heap.size<=x):=by
 obtain⟨i0,hi,lz,jK,kl⟩:=info_parts nN;have hlen:(aJ ((l.drop o).take m)).length=m*3:=by rw[aw,bC,ev];congr 1;omega
 obtain⟨v',w',h1,h2,h3,h4⟩:=dE (P:=P) S T ty i0 z bytes ht hi lz jK kl hz (by omega)
  ⟨g,o*3,none⟩ m c (aJ ((l.drop o).take m)) hlen (λj x hx=>by
   have hj:j<m*3:=by rw[<-hlen];exact(aR.1 hx).1
   rw[iN];refine(B.cell _).trans ?_;rw[<-yi,<-nF,uA,if_pos hj,iK]at hx;rw[cN,bE (by rw[aw];omega)];exact hx) (mD _) Hc hb
 exact⟨v',w',h1,by rw[iH];exact h2,h3,h4⟩
theorem Uj(B:aF w g u (aJ l++rest).toArray)(j:Nat)(e:E)(he:l[j]?=some e):qY w (some ⟨g,j*3,none⟩) 1 [e]:=by
 refine⟨rfl,λk x hx=>?_⟩;have hk:k=0:=by have:=(aR.1 hx).1;simp at this;exact this
 subst hk;simp only[uz,Option.some.injEq]at hx;subst hx;have:=K8 B j e he;rw[iN,bq]at this;exact⟨_,rfl,by rw[qh,Addr.add,if_pos rfl];exact this⟩
theorem Ys(l:List E)(i:Nat):0<=lB l i:=by unfold lB;omega
def tD(l:List E)(j t:Nat)(oW:Int):Prop:=(j=0/\oW= -1/\t=1)\/(0<j/\yh l (j+1) t/\oW=lB l t)
theorem FH(h:tD l j t oW)(hR:R=lB l (j+1))(hb:oW<0\/R<oW):tD l (j+1) (j+1) R:=by
 have lt:∀i,1<=i->i<j+1->lB l (j+1)<lB l i:=λi hi1 VG=>by
  rcases h with⟨rfl,_,_⟩|⟨h0,hB,vR⟩
  .omega
  .have:=hB.2.2.1 i hi1 VG;have:=Ys l t;omega
 refine .inr ⟨by omega,⟨by omega,by omega,λi hi1 VG=>?_,lt⟩,hR⟩
 rcases fC i (j+1)with h1|h1
 .have:=lt i hi1 h1;omega
 .obtain rfl:i=j+1:=by omega
  exact ki _
theorem FI(h:tD l j t oW)(hR:R=lB l (j+1))(h1:¬oW<0)(h2:¬R<oW):tD l (j+1) t oW:=by
 rcases h with⟨rfl,hb,_⟩|⟨h0,hB,vR⟩
 .omega
 .refine .inr ⟨by omega,⟨hB.1,by have:=hB.2.1;omega,λi hi1 VG=>?_,hB.2.2.2⟩,vR⟩
  rcases fC i (j+1)with h3|h3
  .exact hB.2.2.1 i hi1 h3
  .obtain rfl:i=j+1:=by omega
   omega
theorem PJ(leaf:Bool)(A:Option Addr)(n c:Nat)(l:List E)(S:aM w 111 3 (U3 A n c) n (aJ l))(hn:2<=n)(Wd:n<=100)(hb:an l<=100000):
  eq prog 129 #[bH leaf A n c] w λr w'=>(∃t A1 c1 A2 c2,r=BY (U8 #[bH leaf A1 t c1,bH leaf A2 (n-t) c2])/\yh l n t/\aM w' 111 3 (U3 A1 t c1) t (aJ (l.take t))/\aM w' 111 3 (U3 A2 (n-t) c2) (n-t) (aJ (l.drop t))/\∀x∈ah (U3 A2 (n-t) c2),w.heap.size<=x)/\i7 w w':=by
 obtain⟨g,cap,rest,hv,BG,hcn,Pe⟩:=S.form (by omega) (by omega);simp only[Value.slice.injEq,true_and]at hv;obtain⟨rfl,rfl⟩:=hv;have vr:c<=it:=by obtain⟨_,_,_,_,h⟩:=S.uD;exact h
 have qQ:l.length=n:=by have:=S.1;rw[aw]at this;omega
 have ou:=xh qQ;have hgl:=BG.lt;have B1:=xh<|((aF.new w 118 #[U6 leaf,U3 (lc g) n c]).alloc (WF #[U6 false,U3 none 0 0] 118)).alloc (WF #[U6 false,U3 none 0 0] 118);have B2:=(aF.new (w.alloc (WF #[U6 leaf,U3 (lc g) n c] 118)) 118 #[U6 false,U3 none 0 0]).alloc (WF #[U6 false,U3 none 0 0] 118)
 have B3:=aF.new ((w.alloc (WF #[U6 leaf,U3 (lc g) n c] 118)).alloc (WF #[U6 false,U3 none 0 0] 118)) 118 #[U6 false,U3 none 0 0];rw[CH]at B2;rw[CH,CH]at B3;have B2:=xh B2;have B3:=xh B3;have O0:=xh<|ae (ae (i6 w (WF #[U6 leaf,U3 (lc g) n c] 118)) (WF #[U6 false,U3 none 0 0] 118)) (WF #[U6 false,U3 none 0 0] 118)
 have G0:=xh<|((BG.alloc (WF #[U6 leaf,U3 (lc g) n c] 118)).alloc (WF #[U6 false,U3 none 0 0] 118)).alloc (WF #[U6 false,U3 none 0 0] 118);have E0:=xh<|((S.alloc (WF #[U6 leaf,U3 (lc g) n c] 118)).alloc (WF #[U6 false,U3 none 0 0] 118)).alloc (WF #[U6 false,U3 none 0 0] 118);clear BG S qQ;unfold bH;go_in
 have bx1:(((w.alloc (WF #[U6 leaf,U3 (lc g) n c] 118)).alloc (WF #[U6 false,U3 none 0 0] 118)).alloc (WF #[U6 false,U3 none 0 0] 118)).cell? ⟨w.heap.size,1,none⟩=some (U3 (lc g) n c):=B1.ap 1;go_wp2_with fail;generalize hW:(((w.alloc (WF #[U6 leaf,U3 (lc g) n c] 118)).alloc (WF #[U6 false,U3 none 0 0] 118)).alloc (WF #[U6 false,U3 none 0 0] 118))=W at *;clear hW
 go_call (FE (w:=W) (some ⟨g,0,none⟩) n c l (aM.aJ E0.o).2 (by omega) (by omega)) as r w1 ⟨rfl,aO⟩;have O1:=xh<|aC O0.o aO;have C1:=xh<|B1.o.below aO B1.o.lt;have C2:=xh<|B2.o.below aO B2.o.lt;have C3:=xh<|B3.o.below aO B3.o.lt;have G1:=xh<|G0.o.below aO G0.o.lt;have hwl:=C1.o.lt;have x1:w1.cell? ⟨w.heap.size,1,none⟩=some (U3 (lc g) n c):=C1.ap 1
 obtain⟨all,jU⟩:∃all,an l=all:=⟨_,rfl⟩;have HALL:=xh jU;rw[jU]at hb ⊢;have BH:min (1:Int) (n:Int)=1:=by omega
 clear aO jU bx1;go_wp2_with fail;go_quiet (fail);go_wp2_with fail;have x0:w1.cell? (lc w.heap.size)=some (U6 leaf):=C1.ap 0
 go_loopw [5,6,7,8] (λbv av lv iv wr=> ∃(j t:Nat) (oW:Int),j+1<=n/\bv=U5 By oW/\av=U5 By (t:Nat)/\lv=U5 By (an (l.take j):Nat)/\iv=U5 By ((j:Int)+1)/\Hid (tD l j t oW)/\i7 w1 wr) (λ_ _ _ iv _=>n-(intOf iv).toNat)
 case atStart=>exact⟨0,1,-1,by omega,rfl,rfl,by simp[an],rfl,xh (.inl ⟨rfl,rfl,rfl⟩),de (Below.refl _ _) _⟩
 case round=>
  obtain⟨j,t,oW,hj,rfl,rfl,rfl,rfl,BI,O⟩:=hrel;have D1:=xh<|C1.o.below O C1.o.lt;have y1:wr.cell? ⟨w.heap.size,1,none⟩=some (U3 (lc g) n c):=D1.ap 1
  by_cases h:j+1<n
  .have he:=aH (show j<l.length by rw[ou.o];omega);obtain⟨e,hee⟩:∃e,l[j]'(by rw[ou.o];omega)=e:=⟨_,rfl⟩;rw[hee]at he;have hs:=mC l j e he;have ht:=rU l (j+1);have hone:an [e]=e.key.size+e.val.size+7:=by simp[an]
   rw[HALL.o]at ht;have KB:=xh (λcc=>FE (w:=wr) (some ⟨g,j*3,none⟩) 1 cc [e] (Uj (G1.o.below O G1.o.lt) j e he) (by omega) (by rw[hone];omega));have HRF:=g9 (lB l (j+1)=max ((an (l.take (j+1)):Int)-((all:Int)-an (l.take (j+1)))) ((all:Int)-an (l.take (j+1))-an (l.take (j+1)))) (by unfold lB;rw[HALL.o]);obtain⟨P,hP⟩:∃P,an (l.take j)=P:=⟨_,rfl⟩;obtain⟨q,hq⟩:∃q,an (l.take (j+1))=q:=⟨_,rfl⟩
   obtain⟨ce,hce⟩:∃ce,an [e]=ce:=⟨_,rfl⟩;rw[hce]at KB hone;rw[hP,hq]at hs;rw[hq]at ht HRF;rw[hP];have HQ:=xh hq;have hqP:(P:Int)+(ce:Int)=(q:Int):=by omega
   have s1:IntKind.i64.wrap ((P:Int)+(ce:Int))=(q:Int):=by rw[hqP];exact dl
   have s2:IntKind.i64.wrap ((all:Int)-(q:Int))=(all:Int)-(q:Int):=dl;have s3:IntKind.i64.wrap ((q:Int)-((all:Int)-(q:Int)))=(q:Int)-((all:Int)-(q:Int)):=dl;have s4:IntKind.i64.wrap ((all:Int)-(q:Int)-(q:Int))=(all:Int)-(q:Int)-(q:Int):=dl;have s5:IntKind.i64.wrap (j:Int)=(j:Int):=dl;have s6:IntKind.i64.wrap ((j:Int)+1-1)=(j:Int):=by rw[GI];exact s5
   have s7:IntKind.i64.wrap ((j:Int)+1+1)=(j:Int)+1+1:=dl;have s8:(j:Int)+1<(n:Int):=by omega
   have s9:(j:Int)<=(j:Int)+1:=by omega
   have s10:(j:Int)+1<=(c:Int):=by omega
   have s11:((j:Int)+1).toNat=j+1:=by omega
   have s12:(0:Int)<=(j:Int)+1:=by omega
   have OO:=xh O;clear he hee hs hone hP hq hce O;go_wp2_with fail;go_call (KB.o _) as r w2 ⟨rfl,cf⟩;have O2:=xh<|aC OO.o cf;clear cf;go_wp2_with fail
   all_goals
    have hRI:∀R:Int,R=(if((q:Int)-((all:Int)-q))<(all:Int)-q-q then(all:Int)-q-q else(q:Int)-((all:Int)-q))->R=lB l (j+1):=λR h=>by rw[h,HRF.o];split<;>omega
    refine⟨?_,by simp[intOf];omega⟩
    first
     |exact⟨j+1,t,oW,by omega,rfl,rfl,by rw[HQ.o],by go_num,xh (FI BI.o (hRI _ (by first|rfl|(split<;>omega))) (by first|assumption|omega) (by first|assumption|omega)),O2.o⟩
     |exact⟨j+1,j+1,_,by omega,rfl,by go_num,by rw[HQ.o],by go_num,xh (FH BI.o (hRI _ (by first|rfl|(split<;>omega))) (by first|(left;assumption)|(right;assumption)|omega)),O2.o⟩
  .obtain rfl:n=j+1:=by omega
   have D2:=xh<|C2.o.below O C2.o.lt;have D3:=xh<|C3.o.below O C3.o.lt;have G2:=xh<|G1.o.below O G1.o.lt;have y0:wr.cell? (lc w.heap.size)=some (U6 leaf):=D1.ap 0;have HBT:=xh (show yh l (j+1) t from by
    rcases BI.o with⟨rfl,_,_⟩|⟨_,hB,_⟩
    .omega
    .exact hB)
   have ht1:=HBT.o.1;have ht2:=HBT.o.2.1;have OO:=xh<|aC O1.o O;have s8:¬(j:Int)+1<((j+1:Nat):Int):=by omega
   have t1:(t:Int)<=(c:Int):=by omega
   have t2:(t:Int)<=((j+1:Nat):Int):=by omega
   have t3:t<c:=by omega
   have t4:¬t=c:=by omega
   clear O;go_wp2_with fail;have t5:(t:Int)<=(j:Int)+1:=by omega
   have t6:¬c=t:=by omega
   have HK:=g9 (∀W',ag [w.heap.size+1,w.heap.size+1+1] wr W'->(W'.cell? (lc w.heap.size)=some (U6 leaf)/\W'.cell? ⟨w.heap.size,1,none⟩=some (U3 (lc g) (j+1) c))) (λW' ho=>⟨(D1.o.only ho (by simp;omega)).ab (i:=0) rfl,(D1.o.only ho (by simp;omega)).ab (i:=1) rfl⟩)
   have HK0:=g9 (∀W',ag [] wr W'->(W'.cell? (lc w.heap.size)=some (U6 leaf)/\W'.cell? ⟨w.heap.size,1,none⟩=some (U3 (lc g) (j+1) c))) (λW' ho=>HK.o W' (ho.mono (λx hx _=>absurd hx (by simp))));have OD:=xh<|(ag.refl [] wr).drew;have GD:=xh<|G2.o.drew;have XB:=D2.o.lt;have hd3:=D3.o.lt
   have AP1:=xh (show ∀W' u,aF W' g u (aJ l++rest).toArray->∃V1 k1 w2,dF prog 108 108 W' (U3 none 0 0) (U3 (lc g) t t)= .ok (U3 V1 t k1) w2/\aM w2 111 3 (U3 V1 t k1) t (aJ (l.take t))/\ag [] W' w2/\(∀x∈ah (U3 V1 t k1),W'.heap.size<=x)from λW' u B=>by
    obtain⟨v,w2,e1,S,o,f⟩:=zf (P:=prog) (l0:=[]) (aM.nil W' 111 3) B 0 t t (by rw[ou.o];omega) 108 108 (.agg #[U2 .empty,U2 .empty,U5 By 0]) 40 underlying108 (by kernel_rfl) rfl (by unfold it;omega) (by omega);rw[bq,cQ,GM]at S;obtain⟨V1,k1,rfl⟩:=ax S;exact⟨V1,k1,w2,e1,S,o,λx hx=>(f x hx).elim (λh=>by simp[ah]at h) id⟩)
   have AP2:=xh (show ∀W' u,aF W' g u (aJ l++rest).toArray->∃V1 k1 w2,dF prog 108 108 W' (U3 none 0 0) (U3 (some ⟨g,t*3,none⟩) (j+1-t) (c-t))= .ok (U3 V1 (j+1-t) k1) w2/\aM w2 111 3 (U3 V1 (j+1-t) k1) (j+1-t) (aJ (l.drop t))/\ag [] W' w2/\(∀x∈ah (U3 V1 (j+1-t) k1),W'.heap.size<=x)from λW' u B=>by
    obtain⟨v,w2,e1,S,o,f⟩:=zf (P:=prog) (l0:=[]) (aM.nil W' 111 3) B t (j+1-t) (c-t) (by rw[ou.o];omega) 108 108 (.agg #[U2 .empty,U2 .empty,U5 By 0]) 40 underlying108 (by kernel_rfl) rfl (by unfold it;omega) (by omega);rw[bq,cQ,cm (by rw[ev,ou.o];exact ai _)]at S;obtain⟨V1,k1,rfl⟩:=ax S;exact⟨V1,k1,w2,e1,S,o,λx hx=>(f x hx).elim (λh=>by simp[ah]at h) id⟩)
   refine kw (λW'=>W'.cell? (lc w.heap.size)=some (U6 leaf)/\W'.cell? ⟨w.heap.size,1,none⟩=some (U3 (lc g) (j+1) c)) (HK0.o _ OD.o) (λau=>?_);refine dP [(0,53),(1,54),(2,55),(3,56),(4,57),(5,58),(6,59),(9,62),(10,63),(11,64),(12,65),(13,66),(14,67)] ?_
   iterate 13 refine bJ ?_
   refine dI 7 60 λK hK=>?_
   .obtain⟨Va,ka,w2,ea,Sa,oa,fa⟩:=AP1.o _ _ GD.o;have Oa:=xh<|OD.o.trans oa;obtain⟨Vb,kb,w3,eb,Sb,ob,fb⟩:=AP2.o _ _ (GD.o.only oa (by simp));have Ob:=xh<|Oa.o.trans ob;have E1:=xh ea;have E2:=xh eb;have Sa3:=Sa.only ob (by simp);have Fa:=g9 (∀x∈ah _,wr.heap.size<=x) fa;have Fb:=g9 (∀x∈ah _,wr.heap.size<=x) (λx hx=>aq oa.size (fb x hx));have D23:=D2.o.only Ob.o (by simp);have D33:=D3.o.only Ob.o (by simp)
    clear ea eb;go_simp;rw[E1.o];go_simp;refine bn hK (HK0.o _ Oa.o) (λau=>?_);refine dP [(8,61)] ?_
    iterate 1 refine bJ ?_
    refine dI 15 68 λK hK=>?_;go_simp;rw[E2.o];go_simp;refine bn hK (HK0.o _ Ob.o) (λau=>?_);refine dP [(16,69)] ?_
    iterate 1 refine bJ ?_
    refine zpe ?_;have p0:w3.frozen? ⟨w.heap.size+1,0,none⟩=false:=D23.frozen 0 (by simp);have p1:w3.frozen? ⟨w.heap.size+1,1,none⟩=false:=D23.frozen 1 (by simp);have p2:w3.cell? ⟨w.heap.size+1,0,none⟩=some (U6 false):=D23.bi 0;have p3:w3.cell? ⟨w.heap.size+1,1,none⟩=some (U3 none 0 0):=D23.bi 1;have r0:w3.frozen? ⟨w.heap.size+1+1,0,none⟩=false:=D33.frozen 0 (by simp);have r1:w3.frozen? ⟨w.heap.size+1+1,1,none⟩=false:=D33.frozen 1 (by simp)
    have r2:w3.cell? ⟨w.heap.size+1+1,0,none⟩=some (U6 false):=D33.bi 0;have r3:w3.cell? ⟨w.heap.size+1+1,1,none⟩=some (U3 none 0 0):=D33.bi 1;have OX1:=xh<|((Ob.o.mono (S':=[w.heap.size+1,w.heap.size+1+1]) (λx hx _=>absurd hx (by simp))).setCell (p:=⟨w.heap.size+1,0,none⟩) (λ_=>by simp) (U6 leaf)).setCell (p:=⟨w.heap.size+1,1,none⟩) (λ_=>by simp) (U3 Va t ka)
    have OX2:=xh<|(OX1.o.setCell (p:=⟨w.heap.size+1+1,0,none⟩) (λ_=>by simp) (U6 leaf)).setCell (p:=⟨w.heap.size+1+1,1,none⟩) (λ_=>by simp) (U3 Vb (j+1-t) kb);have BX2:=xh<|(((D23.cw 0 (U6 leaf)).cw 1 (U3 Va t ka)).aY (p:=⟨w.heap.size+1+1,0,none⟩) (by simp) (U6 leaf)).aY (p:=⟨w.heap.size+1+1,1,none⟩) (by simp) (U3 Vb (j+1-t) kb)
    have BX3:=xh<|(((D33.aY (p:=⟨w.heap.size+1,0,none⟩) (by simp) (U6 leaf)).aY (p:=⟨w.heap.size+1,1,none⟩) (by simp) (U3 Va t ka)).cw 0 (U6 leaf)).cw 1 (U3 Vb (j+1-t) kb)
    have OS:=xh<|(((((ag.refl [w.heap.size+1,w.heap.size+1+1] w3).setCell (p:=⟨w.heap.size+1,0,none⟩) (λ_=>by simp) (U6 leaf)).setCell (p:=⟨w.heap.size+1,1,none⟩) (λ_=>by simp) (U3 Va t ka)).setCell (p:=⟨w.heap.size+1+1,0,none⟩) (λ_=>by simp) (U6 leaf)).setCell (p:=⟨w.heap.size+1+1,1,none⟩) (λ_=>by simp) (U3 Vb (j+1-t) kb));have SX1:=xh<|Sa3.only OS.o (λx hx=>by have:=Fa.o x hx;simp;omega)
    have SX2:=xh<|Sb.only OS.o (λx hx=>by have:=Fb.o x hx;simp;omega);have OB:=xh<|OO.o.trans (OX2.o.aK OO.o.size (λx hx=>by simp at hx;omega));clear Sa Sb Sa3 oa ob fa fb D23 D33;refine rm 17 λK hK=>?_;go_simp;refine bn hK (HK.o _ OX1.o) (λau=>?_);refine rm 18 λK hK=>?_;go_simp;refine bn hK (HK.o _ OX2.o) (λau=>?_);refine jp ?_ _;go_wp2_with fail
    exact bodyPost_ret (PE rfl rfl rfl BX2.o BX3.o) rfl ⟨⟨t,_,_,_,_,rfl,HBT.o,SX1.o,SX2.o,λx hx=>aq OO.o.size (Fb.o x hx)⟩,OB.o⟩
end
section
open Go.RowKit Sl Go.Deep Go.ChangeShapes Go.WideShapes
def cost(e:E):Nat:=e.key.size+e.val.size+7
theorem Ey(l m:List E):an (l++m)=an l+an m:=by simp[an]
theorem zg(l:List E)(t:Nat):an l=an (l.take t)+an (l.drop t):=by rw[<-Ey,m7]
theorem CR(leaf:Bool)(l:List E):jZ (jg leaf l)=223-(an l:Int):=by
 unfold jZ jg an;have h:∀l:List E,((l.map rV).map λr=>4+r.length).sum=(l.map λe=>e.key.size+e.val.size+7).sum:=by
  intro l
  induction l with
  |nil=>rfl
  |cons e l ih=>simp only[fA,l8,ih,rW];omega
 have hk:(FF leaf).length=1:=by unfold FF;split<;>rfl
 rw[fA,l8,h,hk];omega
theorem FJ(l:List E)(hc:∀e∈l,cost e<=79)(hn:2<=l.length):∃i,1<=i/\i<l.length/\lB l i<=79:=by
 have step:∀k,k+1<l.length->(∃i,1<=i/\i<l.length/\lB l i<=79)\/2*an (l.take (k+1))<an l:=by
  intro k
  induction k with
  |zero=>
   intro hk
   by_cases h:2*an (l.take 1)<an l
   .exact .inr h
   .refine .inl ⟨1,by omega,by omega,?_⟩;have he:=aH (show 0<l.length by omega);have hs:=mC l 0 _ he;have hx:=hc _ (jS (show 0<l.length by omega));unfold cost at hx;have ht:=rU l 1;rw[jA]at hs;have h0:an ([]:List E)=0:=rfl;rw[bq]at hs;unfold lB;omega
  |succ k ih=>
   intro hk
   rcases ih (by omega)with h|h
   .exact .inl h
   .by_cases h2:2*an (l.take (k+1+1))<an l
    .exact .inr h2
    .have he:=aH (show k+1<l.length by omega);have hs:=mC l (k+1) _ he;have hx:=hc _ (jS (show k+1<l.length by omega));unfold cost at hx
     by_cases h3:2*an (l.take (k+1+1))<=an l+79
     .refine .inl ⟨k+1+1,by omega,by omega,?_⟩;unfold lB;omega
     .refine .inl ⟨k+1,by omega,by omega,?_⟩;unfold lB;omega
 rcases step (l.length-2) (by omega)with h|h
 .exact h
 .refine⟨l.length-1,by omega,by omega,?_⟩;rw[show l.length-2+1=l.length-1 by omega]at h;have he:=aH (show l.length-1<l.length by omega);have hs:=mC l (l.length-1) _ he;have hx:=hc _ (jS (show l.length-1<l.length by omega));unfold cost at hx;rw[show l.length-1+1=l.length by omega,fX]at hs;unfold lB;omega
theorem Uk(hc:∀e∈l,cost e<=79)(hn:2<=l.length)(hb:an l<=302)(h:yh l l.length t):an (l.take t)<=223/\an (l.drop t)<=223:=by
 obtain⟨i,h1,h2,h3⟩:=FJ l hc hn;have h4:=h.2.2.1 i h1 h2;have h5:=zg l t;unfold lB at h3 h4;omega
end
theorem PK(a b:rd)(w:YB):
  eq prog 161 #[U2 a,U2 b] w λe w'=>e=BY (U5 By (Lib.compareBytes a.data.toList b.data.toList))/\i7 w w':=by
 go_in;go_wp2_with fail;rw[run_callFunc_extern func205 (by kernel_rfl) (by kernel_rfl) (by kernel_rfl) (e:=Extern.BytealgCompare.compare) (by kernel_rfl),Lib.run_compareString];simp only[Result.andThen];rw[Oper.upon_value]
 go_wp2
 go_ret;exact⟨rfl,Below.refl _ _⟩
theorem Lc(a b:rd)(w:YB):
  eq prog 115 #[U2 a,U2 b] w λe w'=>e=BY (U5 By (Lib.compareBytes a.data.toList b.data.toList))/\i7 w w':=by
 have K:=xh<|PK a b w;go_in;go_wp2_with fail;go_call K.o as e w1 ⟨rfl,hb⟩;have HB:=xh hb;go_wp2;go_ret;exact⟨rfl,HB.o⟩
theorem sZ(e:E)(k:rd)(w:YB):
  eq prog 114 #[e.agg,U2 k] w λr w'=>r=BY (U5 By (Lib.compareBytes e.key.data.toList k.data.toList))/\i7 w w':=by
 have O0:=xh<|(i5 w).alloc (ai _) (WF #[U2 e.key,U2 e.val,e.aY] 111);have B0:=aF.new w 111 #[U2 e.key,U2 e.val,e.aY];have c0:=B0.bi 0;have K:=xh (λw=>Lc e.key k w);clear B0;unfold E.agg;go_in;go_wp2_with fail;go_call (K.o _) as e w1 ⟨rfl,hb⟩;have HB:=xh<|aC O0.o hb;clear hb;go_wp2;go_ret;exact⟨rfl,HB.o⟩
def uc(e:E)(k:rd):Int:=Lib.compareBytes e.key.data.toList k.data.toList
def tE(l:List E)(key:rd)(k:Nat):Prop:=k<=l.length/\(∀e,0<k->l[k-1]?=some e->uc e key<0)/\(∀e,l[k]?=some e->0<=uc e key)
def FK(l:List E)(key:rd)(k:Nat):Prop:= ∃e,l[k]?=some e/\uc e key=0
theorem Ld{w:YB}(A:Option Addr)(n c:Nat)(l:List E)(key:rd)(h:qY w A n l)(hn:n<=1000000):
  eq prog 113 #[U3 A n c,U2 key,.func (Fn.func 114) #[] #[]] w λr w'=>(∃k b,r=BY (U8 #[(k:Nat),U6 b])/\tE l key k/\(b=true↔FK l key k))/\i7 w w':=by
 have hl:=xh h.1;have H0:=xh h;clear h;go_in;go_wp2_with fail
 go_loopw [9,10] (λiv jv wr=> ∃i j:Nat,i<=j/\j<=n/\iv=U5 By i/\jv=U5 By j/\Hid (∀e,0<i->l[i-1]?=some e->uc e key<0)/\Hid (∀e,l[j]?=some e->0<=uc e key)/\i7 w wr) (λiv jv _=>(intOf jv).toNat-(intOf iv).toNat)
 case atStart=>exact⟨0,n,aW _,ai _,rfl,rfl,xh (λe h=>absurd h (sL _)),xh (λe h=>by have:=(aR.1 h).1;have:=hl.o;omega),Below.refl _ _⟩
 case round=>
  obtain⟨i,j,hij,hj,rfl,rfl,LO,HI,hb⟩:=hrel
  by_cases h:i<j
  .obtain⟨m,hm⟩:∃m,(i+j) / 2=m:=⟨_,rfl⟩;have hmj:m<j:=by omega
   have hmi:i<=m:=by omega
   have hmI:((i:Int)+(j:Int)) / 2=(m:Int):=by omega
   obtain⟨ad,e,rfl,he,AT⟩:=(H0.o.below hb).at m (by omega);have HB:=xh hb;have a0:=AT.c0;have a1:=AT.c1;have a2:=AT.c2;have e1:IntKind.i64.wrap ((i:Int)+(j:Int))=(i:Int)+(j:Int):=dl;have e2:IntKind.u64.wrap ((i:Int)+(j:Int))=(i:Int)+(j:Int):=d9;have e3:IntKind.i64.wrap (m:Int)=(m:Int):=dl;have hmn:m<n:=by omega
   have KF:=xh<|sZ e key wr;have HE:=xh he;unfold E.agg at KF;clear AT hb he;obtain⟨q,hq⟩:∃q,Lib.compareBytes e.key.data.toList key.data.toList=q:=⟨_,rfl⟩;have HQ:=g9 (uc e key=q) hq;rw[hq]at KF;clear hq;go_wp2_with fail;go_call KF.o as r w1 ⟨rfl,aO⟩;have JL:=xh<|aC HB.o aO;clear aO
   by_cases hq:q<0
   .have HLO:=xh (show ∀x,0<m+1->l[m+1-1]?=some x->uc x key<0 from λx _ hx=>by
     rw[qf,HE.o]at hx;injection hx with hx
     rw[<-hx,HQ.o];exact hq)
    go_wp2_with fail;go_roundw
    case rel=>exact⟨m+1,j,by omega,hj,by go_num,rfl,HLO,HI,JL.o⟩
    case measure=>simp[intOf];omega
   .have HHI:=xh (show ∀x,l[m]?=some x->0<=uc x key from λx hx=>by
     rw[HE.o]at hx;injection hx with hx
     rw[<-hx,HQ.o];omega)
    go_wp2_with fail;go_roundw
    case rel=>exact⟨i,m,hmi,by omega,rfl,rfl,LO,HHI,JL.o⟩
    case measure=>simp[intOf];omega
  .obtain rfl:i=j:=by omega
   have HB:=xh hb;have xe:=g9 (tE l key i) ⟨by have:=hl.o;omega,LO.o,HI.o⟩
   by_cases sW:i<n
   .obtain⟨ad,e,rfl,he,AT⟩:=(H0.o.below hb).at i sW;have a0:=AT.c0;have a1:=AT.c1;have a2:=AT.c2;have KF:=xh<|sZ e key wr;have HE:=xh he;unfold E.agg at KF;clear AT hb he;obtain⟨q,hq⟩:∃q,Lib.compareBytes e.key.data.toList key.data.toList=q:=⟨_,rfl⟩;have HQ:=g9 (uc e key=q) hq;rw[hq]at KF;clear hq;have HI2:(i:Int)<(n:Int):=by omega
    go_wp2_with fail;go_call KF.o as r w1 ⟨rfl,aO⟩;have JL:=xh<|aC HB.o aO;clear aO
    by_cases hq:q=0
    .subst hq;go_wp2;go_ret2;exact⟨⟨i,true,rfl,xe.o,by simp only[true_iff];exact⟨e,HE.o,HQ.o⟩⟩,JL.o⟩
    .go_wp2;go_ret2;refine⟨⟨i,false,by simp[hq],xe.o,?_⟩,JL.o⟩;simp only[mJ,false_iff];rintro⟨x,hx,h0⟩;rw[HE.o]at hx;injection hx with hx
     subst hx;exact hq (HQ.o.symm.trans h0)
   .have hin2:¬(i:Int)<(n:Int):=by omega
    clear hb;go_wp2;go_ret2;refine⟨⟨i,.inl ⟨rfl,xe.o,?_⟩⟩,HB.o⟩;rintro⟨x,hx,h0⟩;have:=(aR.1 hx).1;have:=hl.o;omega
variable{w:YB}
theorem jq(leaf:Bool)(A:Option Addr)(n c:Nat)(l:List E)(key:rd)(h:qY w A n l)(hn:n<=1000000):
  eq prog 64 #[bH leaf A n c,U2 key] w λr w'=>(∃k b,r=BY (U8 #[(k:Nat),U6 b])/\tE l key k/\(b=true↔FK l key k))/\i7 w w':=by
 have O0:=(i5 w).alloc (ai _) (WF #[U6 leaf,U3 A n c] 118);have B0:=aF.new w 118 #[U6 leaf,U3 A n c];have c1:(w.alloc (WF #[U6 leaf,U3 A n c] 118)).cell? ⟨w.heap.size,1,none⟩=some (U3 A n c):=B0.bi 1;have K:=xh<|Ld (w:=w.alloc (WF #[U6 leaf,U3 A n c] 118)) A n c l key (h.below O0) hn;have O0:=xh O0;clear h B0;unfold bH;go_in;go_wp2_with fail
 go_call K.o as r w1 ⟨⟨k,b,rfl,hp,hh⟩,aO⟩;have HP:=xh hp;have HH:=xh hh;have O1:=xh<|aC O0.o aO;clear hp hh aO;go_wp2;go_ret2;exact⟨⟨k,b,rfl,HP.o,HH.o⟩,O1.o⟩
theorem Ul(leaf:Bool)(A:Option Addr)(n c:Nat)(l:List E)(key:rd)(h:qY w A n l)(hn:n<=1000000):
  eq prog 110 #[bH leaf A n c,U2 key] w λr w'=>(∃m:Nat,r=BY (m:Nat)/\∃k,tE l key k/\((FK l key k/\m=k)\/(¬FK l key k/\m=k-1)))/\i7 w w':=by
 have O0:=(i5 w).alloc (ai _) (WF #[U6 leaf,U3 A n c] 118);have B0:=aF.new w 118 #[U6 leaf,U3 A n c];have c0:(w.alloc (WF #[U6 leaf,U3 A n c] 118)).cell? (lc w.heap.size)=some (U6 leaf):=B0.bi 0;have c1:(w.alloc (WF #[U6 leaf,U3 A n c] 118)).cell? ⟨w.heap.size,1,none⟩=some (U3 A n c):=B0.bi 1
 have K:=xh<|jq (w:=w.alloc (WF #[U6 leaf,U3 A n c] 118)) leaf A n c l key (h.below O0) hn;have O0:=xh O0;have HL:=xh h.1;clear h B0;unfold bH at *;go_in;go_wp2_with fail;go_call K.o as r w1 ⟨⟨k,b,rfl,hp,hh⟩,aO⟩;have HP:=xh hp;have HH:=xh hh;have O1:=xh<|aC O0.o aO;have hk:k<=1000000:=by have:=hp.1;have:=HL.o;omega
 clear hp hh aO
 cases b
 .rcases(show k=0\/∃j,k=j+1 from by cases k;exact .inl rfl;exact .inr ⟨_,rfl⟩)with rfl|⟨j,rfl⟩
  .go_wp2;go_ret;exact⟨⟨0,rfl,0,HP.o,.inr ⟨λhx=>absurd (HH.o.2 hx) (by decide),rfl⟩⟩,O1.o⟩
  .have e1:IntKind.i64.wrap ((j:Int)+1-1)=(j:Int):=by rw[GI];exact dl
   have e2:IntKind.i64.wrap (j:Int)=(j:Int):=dl;have e3:max (j:Int) 0=(j:Int):=by omega
   have e4:¬(j:Int)<0:=by omega
   go_wp2;go_ret;refine⟨⟨j,?_,j+1,HP.o,.inr ⟨λhx=>absurd (HH.o.2 hx) (by decide),rfl⟩⟩,O1.o⟩
   first|rfl|simp[e3]
 .have e3:max (k:Int) 0=(k:Int):=by omega
  have e4:¬(k:Int)<0:=by omega
  go_wp2;go_ret;refine⟨⟨k,?_,k,HP.o,.inl ⟨HH.o.1 (by trivial),rfl⟩⟩,O1.o⟩
  first|rfl|simp[e3]
attribute [local go_sem ↓] bA
end Nd
namespace Nd
open Go.RowKit Sl Go.Deep Go.ChangeShapes Go.WideShapes
instance:Inhabited E:=⟨⟨.empty,.empty,0⟩⟩
open Go.RowKit Sl
variable{l:List E}{leaf:Bool}
abbrev cb:=Lib.compareBytes
theorem mo(a:UInt8)(x:pu)(b:UInt8)(y:pu):cb (a::x) (b::y)=if a<b then -1 else if b<a then 1 else cb x y:=rfl
theorem Rp{a b:UInt8}(h1:¬a<b)(h2:¬b<a):a=b:=by
 rw[sP]at h1 h2;exact UInt8.toNat_inj.1 (by omega)
theorem Yt:∀(x y:pu),cb x y=0↔x=y
 |[],[]=>by simp[cb,Lib.compareBytes]
 |[],_::_=>by simp[cb,Lib.compareBytes]
 |_::_,[]=>by simp[cb,Lib.compareBytes]
 |a::x,b::y=>by
  rw[mo]
  by_cases h1:a<b
  .rw[if_pos h1];have:a≠b:=λe=>by subst e;exact absurd h1 (by rw[sP];omega)
   simp[this]
  .rw[if_neg h1]
   by_cases h2:b<a
   .rw[if_pos h2];have:a≠b:=λe=>by subst e;exact h1 h2
    simp[this]
   .rw[if_neg h2,Yt x y,Rp h1 h2];simp
theorem IA:∀(x y:pu),cb y x= -cb x y
 |[],[]=>rfl
 |[],_::_=>rfl
 |_::_,[]=>rfl
 |a::x,b::y=>by
  rw[mo,mo]
  by_cases h1:a<b
  .have h2:¬b<a:=by rw[sP]at *;omega
   rw[if_pos h1,if_neg h2,if_pos h1];rfl
  .rw[if_neg h1,if_neg h1]
   by_cases h2:b<a
   .rw[if_pos h2,if_pos h2]
   .rw[if_neg h2,if_neg h2];exact IA x y
theorem rY:∀(x y z:pu),cb x y<0->cb y z<0->cb x z<0
 |[],[],_=>λh _=>absurd h (by decide)
 |[],_::_,[]=>λ_ h=>absurd h (by simp[cb,Lib.compareBytes])
 |[],_::_,_::_=>λ_ _=>by simp[cb,Lib.compareBytes]
 |_::_,[],_=>λh _=>absurd h (by simp[cb,Lib.compareBytes])
 |_::_,_::_,[]=>λ_ h=>absurd h (by simp[cb,Lib.compareBytes])
 |a::x,b::y,c::z=>by
  rw[mo,mo,mo];intro h1 h2
  by_cases p1:a<b
  .by_cases p2:b<c
   .rw[if_pos (by rw[sP]at *;omega)];decide
   .rw[if_neg p2]at h2
    by_cases p3:c<b
    .rw[if_pos p3]at h2;exact absurd h2 (by decide)
    .obtain rfl:=Rp p2 p3;rw[if_pos p1];decide
  .rw[if_neg p1]at h1
   by_cases p4:b<a
   .rw[if_pos p4]at h1;exact absurd h1 (by decide)
   .rw[if_neg p4]at h1;obtain rfl:=Rp p1 p4
    by_cases p2:a<c
    .rw[if_pos p2];decide
    .rw[if_neg p2]at h2 ⊢
     by_cases p3:c<a
     .rw[if_pos p3]at h2;exact absurd h2 (by decide)
     .rw[if_neg p3]at h2 ⊢;exact rY x y z h1 h2
theorem Rq:∀(x y:pu),Op.bytesLess x y=decide (cb x y<0)
 |[],[]=>by simp[Op.bytesLess,cb,Lib.compareBytes]
 |[],_::_=>by simp[Op.bytesLess,cb,Lib.compareBytes]
 |_::_,[]=>by simp[Op.bytesLess,cb,Lib.compareBytes]
 |a::x,b::y=>by
  rw[mo,Op.bytesLess]
  by_cases h1:a<b
  .simp[h1]
  .by_cases h2:b<a
   .have h3:¬a=b:=λe=>by subst e;exact h1 h2
    simp[h1,h2,h3]
   .have h3:=Rp h1 h2;subst h3;simp[h1,Rq x y]
theorem Yu(a b:rd):leB a b=decide (cb a.data.toList b.data.toList<=0):=by
 unfold leB;rw[bQ,bQ,Rq];have h:=Yt a.data.toList b.data.toList
 by_cases h1:cb a.data.toList b.data.toList<0
 .rw[decide_eq_true h1,decide_eq_true (by omega)];rfl
 .rw[decide_eq_false h1]
  by_cases h2:a.data.toList=b.data.toList
  .rw[decide_eq_true (by rw[h.2 h2];omega),h2];simp
  .rw[decide_eq_false (by
    have:cb a.data.toList b.data.toList≠0:=λe=>h2 (h.1 e);omega)]
   simpa using h2
theorem Le(hm:et l leaf){i:Nat}{p e:E}(hp:l[i]?=some p)(he:l[i+1]?=some e):cb p.key.data.toList e.key.data.toList<0:=by
 have h:=(hm (i+1) (aR.1 he).1 e he).2 (by omega) p (by rw[qf];exact hp);rw[Yu,decide_eq_false_iff_not]at h;have:=IA p.key.data.toList e.key.data.toList;omega
theorem PL(hm:et l leaf)(i d:Nat):∀{p e:E},l[i]?=some p->l[i+1+d]?=some e->cb p.key.data.toList e.key.data.toList<0:=by
 induction d with
 |zero=>intro p e hp he;exact Le hm hp he
 |succ d ih=>
  intro p e hp he;have ef:=(aR.1 he).1;have hq:=aH (show i+1+d<l.length by omega);exact rY _ _ _ (ih hp hq) (Le hm hq (by rw[show i+1+d+1=i+1+(d+1) by omega];exact he))
theorem PM{key:rd}{p:Nat}(hm:et l leaf)(h:tE l key p)(j:Nat)(e:E)(he:l[j]?=some e):uc e key<0↔j<p:=by
 constructor
 .intro hc
  rcases fC j p with h1|h1
  .exact h1
  .exfalso
   rcases Nat.lt_or_eq_of_le h1 with h2|rfl
   .have hq:=aH (show p<l.length by have:=(aR.1 he).1;omega);have h3:=h.2.2 _ hq;have h4:=PL hm p (j-p-1) hq (by rw[show p+1+(j-p-1)=j by omega];exact he);have h5:=rY _ _ _ h4 hc;unfold uc at h3;exact absurd h5 (by unfold cb;omega)
   .have:=h.2.2 _ he;omega
 .intro hj;have hp:=h.1;have hq:=aH (show p-1<l.length by omega);have h3:=h.2.1 _ (by omega) hq
  rcases fC j (p-1)with h1|h1
  .have h4:=PL hm j (p-1-j-1) he (by rw[show j+1+(p-1-j-1)=p-1 by omega];exact hq);exact rY _ _ _ h4 h3
  .obtain rfl:j=p-1:=by omega
   rw[he]at hq;injection hq with hq
   rw[hq];exact h3
variable{leaf:Bool}{l:List E}{key:rd}{k:Nat}{w:YB}
def mayB(l:List E)(leaf:Bool):Bool:=(List.range l.length).all λi=>match l[i]? with
 |none=>true
 |some e=>decide (dO e leaf) && (decide (i=0) || match l[i-1]? with
  |none=>true
  |some p=> !leB e.key p.key)
theorem mE(l:List E)(leaf:Bool):mayB l leaf=true↔et l leaf:=by
 unfold mayB et okAt;rw[oN];refine⟨λh i hi e he=>?_,λh i hi=>?_⟩
 .have:=h i (l7.2 hi);rw[he]at this;simp only[iG,decide_eq_true_eq,pZ]at this;refine⟨this.1,λh0 p hp=>?_⟩;have h2:=this.2.resolve_left (by omega);rw[hp]at h2;simpa using h2
 .have hi:=l7.1 hi;have he:=aH hi;obtain⟨a,b⟩:=h i hi _ he;rw[he];simp only[iG,decide_eq_true_eq,pZ];refine⟨a,?_⟩
  by_cases h0:i=0
  .exact .inl h0
  .right;have hp:=aH (show i-1<l.length by omega);rw[hp];simpa using b (by omega) _ hp
def Yv(rs:List (pu)):Bool:=(decide (rs.head?=some [1]) || decide (rs.head?=some [2])) && (rs.tail.all (λr=>decide (3+nY ⟨r.toArray⟩<=r.length)) && mayB (pF rs) (wD rs))
theorem tF(rs:List (pu)):Yv rs=true↔mR rs:=by
 unfold Yv mR k8;simp only[iG,pZ,decide_eq_true_eq,oN,mE];refine and_congr_right λ_=>and_congr_left λ_=>?_;have:∀r:pu,(⟨r.toArray⟩:rd).size=r.length:=λr=>by show r.toArray.size=_;simp
 simp only[this]
def aS(b:pu):Bool×List E×Int:=
 if cC b≠0 then(false,[],cC b)else if Yv (dn b)=true then(wD (dn b),pF (dn b),0)else(false,[],14)
def aZ(leaf:Bool)(l:List E):pu×Int:=
 if mayB l leaf=true then(if 0<=jZ (jg leaf l)then(ofL (jg leaf l),0)else([],11))else([],2)
theorem CT(l:List (pu))(h:0<=jZ l):∀k,k<=l.length->Sound (KK l k)/\dn (KK l k)=l.take k
 |0,_=>⟨rP.1,by rw[jA];exact rP.2.1⟩
 |k+1,hk=>by
  obtain⟨s,r⟩:=CT l h k (by omega);have e:l.getD k []=l[k]:=by rw[iq,aH (by omega)];rfl
  have h1:=CD l k (by omega);have h2:=CE l (k+1);obtain⟨_,a,b⟩:=Ro s k l[k] (by rw[r];omega) (by rw[r,bC];omega);unfold KK;rw[e];refine⟨a,?_⟩;rw[b,r,ik (by omega),cm (by rw[bC];omega),lJ (by rw[bC];omega)]
theorem yj(l:List (pu))(h:0<=jZ l):Sound (ofL l)/\dn (ofL l)=l:=by
 have:=CT l h l.length (ai _);rw[fX]at this;exact this
theorem zh(leaf:Bool)(l:List E):(aZ leaf l).1.length<=232:=by
 unfold aZ
 split
 .split
  .rename_i h;exact Nat.le_of_eq (yj _ h).1.len
  .exact aW _
 .exact aW _
theorem Lf(b:pu):(aS b).2.1.length<=57:=by
 unfold aS
 split
 .exact aW _
 .rename_i h
  split
  .have hs:Sound b:=(fP b).1 (by simpa using h);have h1:=hs.head;have h2:=hs.heap;show(pF (dn b)).length<=57;unfold pF;rw[bM,List.length_tail,dV];omega
  .exact aW _
theorem zi{b:pu}(h:(aS b).2.2=0):et (aS b).2.1 (aS b).1:=by
 unfold aS at h ⊢
 split at h
 .rename_i h2;exact absurd h h2
 .rename_i h2;rw[if_neg h2]
  split at h
  .rename_i h3;rw[if_pos h3];exact((tF _).1 h3).2.2
  .exact absurd h (by decide)
theorem Lg(h:(aZ leaf l).2=0):aS (aZ leaf l).1=(leaf,l,0):=by
 unfold aZ at h ⊢
 split at h
 .rename_i hm;rw[if_pos hm]
  split at h
  .rename_i hr;rw[if_pos hr];obtain⟨s,r⟩:=yj _ hr;have Bp:=(mE _ _).1 hm;unfold aS;rw[if_neg (by rw[(fP _).2 s];simp),r,if_pos ((tF _).2 (Lb Bp)),CQ,CM Bp]
  .exact absurd h (by decide)
 .exact absurd h (by decide)
def bg(l:List E)(key:rd):Nat:=l.findIdx λe=>decide (0<=uc e key)
def cG(l:List E)(key:rd):Bool:=match l[bg l key]? with
 |none=>false
 |some e=>decide (uc e key=0)
def bI(l:List E)(key:rd):Nat:=if cG l key=true then bg l key else bg l key-1
def bR(l:List E):Nat:=((List.range l.length).find? λt=>decide (1<=t) && (List.range l.length).all λj=>decide (j=0) || decide (lB l t<=lB l j)).getD 1
theorem Rr{t:Nat}(h:yh l l.length t):bR l=t:=by
 obtain⟨h1,h2,h3,h4⟩:=h;unfold bR;have:(List.range l.length).find? (λt=>decide (1<=t) && (List.range l.length).all λj=>decide (j=0) || decide (lB l t<=lB l j))=some t:=by
  rw[List.find?_eq_some_iff_append];refine⟨?_,List.range t,(List.range (l.length-t-1)).map (· +(t+1)),?_,λa ha=>?_⟩
  .simp only[iG,decide_eq_true_eq,oN,pZ,l7];exact⟨h1,λj hj=>by
    by_cases h0:j=0
    .exact .inl h0
    .exact .inr (h3 j (by omega) hj)⟩
  .apply xq
   .simp;omega
   .intro i hi1 VG;rw[AN,List.getElem_append];simp only[GS]
    split
    .rw[AN]
    .rename_i hi;rw[List.getElem_cons]
     split
     .omega
     .simp;omega
  .have ha:=l7.1 ha
   by_cases h0:a=0
   .subst h0;simp
   .have:=h4 a (by omega) ha;simp only[Bool.not_eq_true',Bool.and_eq_false_iff];right;rw[QP];intro hc;rw[oN]at hc;have:=hc t (l7.2 h2);simp only[pZ,decide_eq_true_eq]at this;omega
 rw[this];rfl
theorem CU(hm:et l leaf)(h:tE l key k):bg l key=k:=by
 unfold bg;obtain⟨h1,h2,h3⟩:=h;have hp:=PM hm ⟨h1,h2,h3⟩
 rcases fC k l.length with hk|hk
 .have hkk:=aH hk;rw[List.findIdx_eq hk];refine⟨by simpa using h3 _ hkk,λj hj=>?_⟩;have:=(hp j _ (aH (by omega))).2 hj;simpa using this
 .obtain rfl:k=l.length:=by omega
  rw[List.findIdx_eq_length];intro e he;obtain⟨j,hj,rfl⟩:=p9 he;have:=(hp j _ (aH hj)).2 hj;simpa using this
theorem yk(h:bg l key=k):cG l key=true↔FK l key k:=by
 unfold cG FK;rw[h]
 cases l[k]? with
 |none=>simp
 |some e=>simp
section
open Go.RowKit
theorem Yw(s:rd)(w:YB)(hs:s.size<=1000000):
  eq prog 122 #[U2 s] w λe w'=> ∃A c,e=BY (U8 #[bH (aS s.data.toList).1 A (aS s.data.toList).2.1.length c,U5 By (aS s.data.toList).2.2])/\
   aM w' 111 3 (U3 A (aS s.data.toList).2.1.length c) (aS s.data.toList).2.1.length (aJ (aS s.data.toList).2.1)/\(∀g∈ah (U3 A (aS s.data.toList).2.1.length c),w.heap.size<=g)/\i7 w w':=by
 refine(got_any s w hs).mono ?_;unfold aS;rintro e w' (⟨h1,rfl,hb⟩|⟨h1,h2,hb⟩)
 .rw[if_pos h1];exact⟨none,0,rfl,aM.nil _ _ _,by simp[ah],hb⟩
 .rw[if_neg (by simpa using h1)]
  rcases h2 with⟨h2,rfl⟩|⟨h2,A,n,c,rfl,S,f⟩
  .rw[if_neg (λh=>h2 ((tF _).1 h))];exact⟨none,0,rfl,aM.nil _ _ _,by simp[ah],hb⟩
  .rw[if_pos ((tF _).2 h2)];have hn:=S.1;rw[aw]at hn;obtain rfl:(pF (dn s.data.toList)).length=n:=by omega
   exact⟨A,c,rfl,S,f.o,hb⟩
theorem CY(leaf:Bool)(A:Option Addr)(n c:Nat)(l:List E)(h:qY w A n l)(hn:n<=1000):
  eq prog 68 #[bH leaf A n c] w λe w'=>e=BY (U8 #[U2 ⟨(aZ leaf l).1.toArray⟩,U5 By (aZ leaf l).2])/\i7 w w':=by
 unfold aZ
 by_cases hm:et l leaf
 .rw[if_pos ((mE _ _).2 hm)];go_call (put_yes leaf A n c l h hn hm) as e w' ⟨h1|h1,hb⟩
  .obtain⟨h0,b,rfl,_,_,he⟩:=h1;rw[if_pos h0];refine⟨?_,hb⟩;rw[show(⟨(ofL (jg leaf l)).toArray⟩:rd)=b by rw[<-he]]
  .obtain⟨h0,rfl⟩:=h1;rw[gc];exact⟨rfl,hb⟩
 .rw[if_neg (λh=>hm ((mE _ _).1 h))];exact put_no leaf A n c l h (by omega) hm
theorem yl(leaf:Bool)(A:Option Addr)(n c:Nat)(l:List E)(key:rd)(h:qY w A n l)(hn:n<=1000000)(hm:et l leaf):
  eq prog 64 #[bH leaf A n c,U2 key] w λr w'=>r=BY (U8 #[(bg l key:Nat),U6 (cG l key)])/\i7 w w':=by
 go_call (jq leaf A n c l key h hn) as e w' ⟨⟨k,b,rfl,h1,h2⟩,hb⟩;have hk:=CU hm h1;refine⟨?_,hb⟩;rw[hk];have:cG l key=b:=by
  rw[AH,yk hk,h2]
 rw[this]
theorem C9(leaf:Bool)(A:Option Addr)(n c:Nat)(l:List E)(key:rd)(h:qY w A n l)(hn:n<=1000000)(hm:et l leaf):
  eq prog 110 #[bH leaf A n c,U2 key] w λr w'=>r=BY (bI l key:Nat)/\i7 w w':=by
 go_call (Ul leaf A n c l key h hn) as e w' ⟨⟨m,rfl,k,h1,h2⟩,hb⟩;have hk:=CU hm h1;refine⟨?_,hb⟩;unfold bI;rw[hk]
 rcases h2 with⟨h2,rfl⟩|⟨h2,rfl⟩
 .rw[if_pos ((yk hk).2 h2)]
 .rw[if_neg (λh=>h2 ((yk hk).1 h))]
end
end Nd
section
open Go.RowKit
noncomputable def Ar(P:Program)(T T' ty:pm)(w:YB)(d s:YO):Result YO:=(Builtin.copy_ #[T,T'] ty #[d,s]).run P w
theorem Lh(P:Program)(ρ:Operand->YO)(dst:Option Tmp)(d s:Operand)(T T' t:pm)(p:String)(af:Array Edge)(g:Option (Nat×Bool))(w:YB):
  (execOp ρ {dst:=dst,op:= .call {callee:= .builtin .copy,args:= #[d,s],argTypes:= #[T,T']},type:=t,pos:=p,after:=af,guard:=g}).run P w=(Ar P T T' t w (ρ d) (ρ s)).andThen λv w'=> .ok (.value v) w':=by
 simp[execOp,resolve,invoke,builtin,Ar]
noncomputable def wE(P:Program)(T ty:pm)(w:YB)(s:YO):Result YO:=(Builtin.clear_ #[T] ty #[s]).run P w
theorem Yx(P:Program)(ρ:Operand->YO)(dst:Option Tmp)(s:Operand)(T t:pm)(p:String)(af:Array Edge)(g:Option (Nat×Bool))(w:YB):
  (execOp ρ {dst:=dst,op:= .call {callee:= .builtin .clear,args:= #[s],argTypes:= #[T]},type:=t,pos:=p,after:=af,guard:=g}).run P w=(wE P T t w (ρ s)).andThen λv w'=> .ok (.value v) w':=by
 simp[execOp,resolve,invoke,builtin,wE]
theorem wF{P:Program}{w:YB}{g:Nat}{t:pm}{cur:List YO}(B:aF w g t cur.toArray)(T ty elem:pm)(sz o vH AQ:Nat)(a:Addr)(Nr sCap:Nat)(cs:List YO)
  (hu:P.underlying T=some (.slice elem))(hs:(P.info? elem).map (·.size)=some sz)(hn:cs.length=Nat.min Nr vH*sz)
  (V9:∀j v,cs[j]?=some v->w.cell? (a.add j)=some v)(tU:o+cs.length<=cur.length)(h1:∀v∈cs,v.oneCell'=true):
  ∃w',Ar P T T ty w (U3 (some ⟨g,o,none⟩) vH AQ) (U3 (some a) Nr sCap)= .ok (goInt (Nat.min Nr vH)) w'/\aF w' g t (putAt cur o cs).toArray/\ag [g] w w':=by
 refine⟨w.setCells g o cs,?_,B.setCells cs o tU,(ag.refl _ _).setCells cs o (by simp)⟩;have hl:=run_loadCells_list (P:=P) w a cs V9;have tV:=run_storeCells_cells (P:=P) g o cs 0 w (by intro j hj;rw[B.cell];simp;omega) (by intro j hj;exact B.frozen _ (by simp;omega)) h1
 cases hq:P.info? elem with
 |none=>simp[hq]at hs
 |some i=>
  have hi:i.size=sz:=by simpa [hq]using hs
  simp[Ar,Builtin.copy_,run_underlying hu,Builtin.lenOf,Builtin.firstCells,sizeOf,typeInfo,hq,hi,<-hn,hl,tV]
theorem FL{P:Program}{w:YB}{g:Nat}{t:pm}{cur:List YO}(B:aF w g t cur.toArray)(T ty elem:pm)(sz n cap:Nat)(a:Addr)(m c:Nat)(cs:List YO)
  (hu:P.underlying T=some (.slice elem))(hs:(P.info? elem).map (·.size)=some sz)(hn:cs.length=m*sz)
  (V9:∀j v,cs[j]?=some v->w.cell? (a.add j)=some v)(hr:n+m<=cap)(tU:n*sz+cs.length<=cur.length)(h1:∀v∈cs,v.oneCell'=true):
  ∃w',dF P T ty w (U3 (lc g) n cap) (U3 (some a) m c)= .ok (U3 (lc g) (n+m) cap) w'/\aF w' g t (putAt cur (n*sz) cs).toArray/\ag [g] w w':=by
 cases hq:P.info? elem with
 |none=>simp[hq]at hs
 |some i=>
  have hi:i.size=sz:=by simpa [hq]using hs
  subst hi;have h:=run_append_room_cells (P:=P) w T ty elem i hu hq g 0 n cap a m c cs hn V9 h1 hr (λj hj=>by rw[B.cell];simp;omega) (λj hj=>B.frozen _ (by simp;omega));rw[bq]at h;exact⟨_,h,B.setCells cs _ tU,(ag.refl _ _).setCells cs _ (by simp)⟩
theorem FM{P:Program}{w:YB}{g:Nat}{t:pm}{cur:List YO}(B:aF w g t cur.toArray)(T ty elem:pm)(z:YO)(o c:Nat)
  (hu:P.underlying T=some (.slice elem))(hz:∀w,(zeroValue elem).run P w=.ok z w)(tU:o+z.cells.toList.length<=cur.length)(h1:∀v∈z.cells.toList,v.oneCell'=true):
  ∃w',wE P T ty w (U3 (some ⟨g,o,none⟩) 1 c)= .ok (U8 #[]) w'/\aF w' g t (putAt cur o z.cells.toList).toArray/\ag [g] w w':=by
 refine⟨w.setCells g o z.cells.toList,?_,B.setCells _ o tU,(ag.refl _ _).setCells _ o (by simp)⟩;have hzc:(Builtin.zeroCells z.cells 1).toList=z.cells.toList:=by
  simp[Builtin.zeroCells];apply xq
  .simp
  .intro i h1 h2;have:i<z.cells.size:=by simpa using h2
   simp[G7 this];rw[getElem!_pos z.cells i this]
 have tV:=run_storeCells_cells (P:=P) g o z.cells.toList 0 w (by intro j hj;rw[B.cell];simp at hj tU ⊢;omega) (by intro j hj;exact B.frozen _ (by simp at hj tU ⊢;omega)) h1;simp only[ma]at tV;simp[wE,Builtin.clear_,run_underlying hu,hz,hzc,tV]
namespace Nd
open Sl
section
attribute [local go_sem ↓] bA Lh Yx
theorem pG:(prog.info? 111).map (·.size)=some 3:=by kernel_rfl
theorem Um(l:List E)(rest:List YO)(i:Nat)(hi:i<l.length)(z:List YO)(hz:z.length=3):
  putAt (putAt (aJ l++rest) (i*3) (aJ (l.drop (i+1)))) ((l.length-1)*3) z=aJ (l.eraseIdx i)++(z++rest):=by
 have e1:putAt (aJ l++rest) (i*3) (aJ (l.drop (i+1)))=aJ (l.eraseIdx i)++(aJ (l.drop (l.length-1))++rest):=by
  unfold putAt;rw[m8 (by rw[aw];omega),yi,aw,ev,show i*3+(l.length-(i+1))*3=(l.length-1)*3 by omega,
   uv (by rw[aw];omega),nF,<-iH,<-List.eraseIdx_eq_take_drop_succ]
 have e2:(aJ (l.eraseIdx i)).length=(l.length-1)*3:=by rw[aw,List.length_eraseIdx];split<;>omega
 have e3:(aJ (l.drop (l.length-1))).length=3:=by rw[aw,ev];omega
 rw[e1];unfold putAt;rw[hz,<-e2,sK,cK,<-ji,uw,<-e3,uw]
theorem rZ{w:YB}{A:Option Addr}{n c:Nat}{l:List E}(S:aM w 111 3 (U3 A n c) n (aJ l))(i:Nat)(hi:i<n)(hn:n<=100000):
  eq prog 72 #[U3 A n c,(i:Nat),U5 By ((i:Int)+1)] w λe w'=>e=BY (U3 A (n-1) c)/\aM w' 111 3 (U3 A (n-1) c) (n-1) (aJ (l.eraseIdx i))/\ag (ah (U3 A n c)) w w':=by
 obtain⟨g,cap,rest,hv,BG,hcn,Pe⟩:=S.form (by omega) (by omega);simp only[Value.slice.injEq,true_and]at hv;obtain⟨rfl,rfl⟩:=hv;have vr:c<=it:=by obtain⟨_,_,_,_,h⟩:=S.uD;exact h
 have qQ:l.length=n:=by have:=S.1;rw[aw]at this;omega
 have ou:=xh qQ;have VK:=g9 (rest.length=c*3-n*3) (by rw[aw,qQ]at Pe;omega);have BD:=xh BG;clear S qQ Pe BG;unfold it at vr;have s1:(i:Int)<=(i:Int)+1:=by omega
 have s2:(i:Int)+1<=(n:Int):=by omega
 have s3:(n:Int)<=(c:Int):=by omega
 have s4:((i:Int)+1).toNat=i+1:=by omega
 have s5:¬(i:Int)=(i:Int)+1:=by omega
 have s6:(0:Int)<=(i:Int)+1:=by omega
 have s7:(i:Int)<=(n:Int):=by omega
 have s8:(i:Int)<=(c:Int):=by omega
 have s9:(i:Int)+1<=(c:Int):=by omega
 have s10:¬c=i:=by omega
 have s12:n-(n-1)=1:=by omega
 go_in;go_wp2_with fail;have uU:=xh (show(n-1)*3+(Value.agg #[U2 ⟨#[]⟩,U2 ⟨#[]⟩,U5 By 0]).cells.toList.length<=(putAt (aJ l++rest) (i*3) (aJ (l.drop (i+1)))).length from by
  rw[kS (by rw[aw,ev,aT,aw,ou.o,VK.o];omega),aT,aw,ou.o,VK.o];show(n-1)*3+3<=_;omega)
 have HDC:=xh (show putAt (putAt (aJ l++rest) (i*3) (aJ (l.drop (i+1)))) ((n-1)*3) (Value.agg #[U2 ⟨#[]⟩,U2 ⟨#[]⟩,U5 By 0]).cells.toList=aJ (l.eraseIdx i)++((Value.agg #[U2 ⟨#[]⟩,U2 ⟨#[]⟩,U5 By 0]).cells.toList++rest)from by
  have:=Um l rest i (by rw[ou.o];exact hi) (Value.agg #[U2 ⟨#[]⟩,U2 ⟨#[]⟩,U5 By 0]).cells.toList rfl;rw[ou.o]at this;exact this)
 have Ei:=xh (show(l.eraseIdx i).length=n-1 from by rw[List.length_eraseIdx,ou.o,if_pos hi]);have HRL:=xh (show(aJ (l.eraseIdx i)).length+((Value.agg #[U2 ⟨#[]⟩,U2 ⟨#[]⟩,U5 By 0]).cells.toList++rest).length=c*3 from by
  rw[aw,Ei.o,aT,VK.o];show(n-1)*3+(3+(c*3-n*3))=c*3;omega)
 have HCM:=xh vr;have Un:∀(a:Addr),(i+1<n->a=⟨g,(i+1)*3,none⟩)->∀j v,(aJ (l.drop (i+1)))[j]?=some v->w.drew.cell? (a.add j)=some v:=λa ha j v hv=>by
  have hl:i+1<n:=by
   have:=(aR.1 hv).1;rw[aw,ev,ou.o]at this;omega
  rw[ha hl,iN];refine(BD.o.drew.cell _).trans ?_;rw[<-nF,iK]at hv;rw[cN,bE (aR.1 hv).1,hv]
 by_cases Ib:c=i+1
 .have s11:c-(i+1)=0:=by omega
  have HN:=g9 (n=i+1) (by omega)
  replace Ib:=xh Ib
  refine kw (λ_=>True) (trivial) (λau=>?_);refine dP [(0,20),(1,21),(2,22),(3,23),(4,24),(5,25)] ?_
  iterate 6 refine bJ ?_
  refine dI 6 26 λK hK=>?_;go_simp;obtain⟨w2,ea,B2,oa⟩:=FL (P:=prog) BD.o.drew 108 108 111 3 i c ⟨g,0,none⟩ (n-(i+1)) 0 (aJ (l.drop (i+1))) underlying108 pG (by rw[aw,ev,ou.o]) (Un _ (λh=>by first|rfl|(have:=HN.o;omega))) (by omega) (by rw[aw,ev,ou.o];simp only[aT,aw,ou.o];have:=VK.o;omega) (mD _);rw[show i+(n-(i+1))=n-1 by omega]at ea;have EA:=xh ea
  have B2:=xh B2;have OA:=xh oa;clear ea oa;rw[if_pos Ib.o,EA.o];go_simp;refine ip hK ?_;refine dP [(7,0)] ?_
  iterate 1 refine bJ ?_
  refine jp ?_ _;have B2c:=B2.o;obtain⟨w3,ec,B3,oc⟩:=FM (P:=prog) B2c 108 0 111 (.agg #[U2 ⟨#[]⟩,U2 ⟨#[]⟩,U5 By 0]) ((n-1)*3) (c-(n-1)) underlying108 Tryz.zeroValue111 uU.o (by simp;decide);rw[HDC.o]at B3;have EC:=xh ec;have B3:=xh B3;have OC:=xh<|OA.o.trans oc;clear ec oc B2c;go_wp2_with fail;rw[EC.o];go_wp2;go_ret
  exact aI ⟨⟨by rw[aw,Ei.o],.inr ⟨g,c,_,rfl,B3.o,by rw[HRL.o],HCM.o⟩⟩,by simpa [ah]using (ag.refl [g] w).drew.trans OC.o⟩
 .have s11:¬c=i+1:=Ib;refine kw (λ_=>True) (trivial) (λau=>?_);refine dP [(0,20),(1,21),(2,22),(3,23),(4,24),(5,25)] ?_
  iterate 6 refine bJ ?_
  refine dI 6 26 λK hK=>?_;go_simp;obtain⟨w2,ea,B2,oa⟩:=FL (P:=prog) BD.o.drew 108 108 111 3 i c ⟨g,(i+1)*3,none⟩ (n-(i+1)) (c-(i+1)) (aJ (l.drop (i+1))) underlying108 pG (by rw[aw,ev,ou.o]) (Un _ (λh=>by first|rfl|(have:=HN.o;omega))) (by omega) (by rw[aw,ev,ou.o];simp only[aT,aw,ou.o];have:=VK.o;omega) (mD _);rw[show i+(n-(i+1))=n-1 by omega]at ea
  have EA:=xh ea;have B2:=xh B2;have OA:=xh oa;clear ea oa;rw[EA.o];go_simp;refine ip hK ?_;refine dP [(7,0)] ?_
  iterate 1 refine bJ ?_
  refine jp ?_ _;have B2c:=B2.o;obtain⟨w3,ec,B3,oc⟩:=FM (P:=prog) B2c 108 0 111 (.agg #[U2 ⟨#[]⟩,U2 ⟨#[]⟩,U5 By 0]) ((n-1)*3) (c-(n-1)) underlying108 Tryz.zeroValue111 uU.o (by simp;decide);rw[HDC.o]at B3;have EC:=xh ec;have B3:=xh B3;have OC:=xh<|OA.o.trans oc;clear ec oc B2c;go_wp2_with fail;rw[EC.o];go_wp2;go_ret
  exact aI ⟨⟨by rw[aw,Ei.o],.inr ⟨g,c,_,rfl,B3.o,by rw[HRL.o],HCM.o⟩⟩,by simpa [ah]using (ag.refl [g] w).drew.trans OC.o⟩
theorem tG:(prog.info? 111).map (λi=>(i.zero,i.size,i.bytes))=some (some (.agg #[U2 ⟨#[]⟩,U2 ⟨#[]⟩,U5 By 0]),3,40):=by kernel_rfl
theorem ym(e:E):∀v∈e.cells,v.oneCell'=true:=λv hv=>by
 have:=mD [e] v (by simpa [aJ]using hv);exact this
theorem Au{α:Type}(e:α):∀(l:List α) (i:Nat),i<=l.length->l.insertIdx i e=l.take i++e::l.drop i
 |_,0,_=>by simp
 |[],i+1,h=>absurd h (by simp)
 |a::l,i+1,h=>by
  rw[Nn,Au e l i (by simpa using h)];rfl
theorem Yy(l:List E)(e:E)(rest:List YO)(i:Nat)(hi:i<=l.length)(hr:3<=rest.length):
  putAt (putAt (aJ l++rest) ((i+1)*3) (aJ (l.drop i))) (i*3) e.cells=aJ (l.insertIdx i e)++rest.drop 3:=by
 have e0:e.cells.length=3:=rfl;have e1:l.insertIdx i e=l.take i++e::l.drop i:=Au e l i hi;have e2:(aJ (l.take i)).length=i*3:=by rw[aw,bC];omega
 have e3:(aJ (l.drop i)).length=(l.length-i)*3:=by rw[aw,ev]
 have e5:(aJ l++rest)=aJ (l.take i)++(aJ (l.drop i)++rest):=by rw[<-cK,<-iH,m7]
 have hlen:(aJ l++rest).length=l.length*3+rest.length:=by rw[aT,aw]
 have a1:(putAt (aJ l++rest) ((i+1)*3) (aJ (l.drop i))).take (i*3)=aJ (l.take i):=by
  unfold putAt;rw[cK,m8 (by rw[bC,hlen];omega),List.take_take,sM (by omega),e5,<-e2,sK]
 have a2:(putAt (aJ l++rest) ((i+1)*3) (aJ (l.drop i))).drop (i*3+3)=aJ (l.drop i)++rest.drop 3:=by
  unfold putAt;rw[cK,show i*3+3=((aJ l++rest).take ((i+1)*3)).length by rw[bC,hlen];omega,uw]
  congr 1
  rw[e3,List.drop_append,lJ (by rw[aw];omega),cQ,aw]
  congr 1
  omega
 rw[e1,iH,lS,cK,cK,<-a1,<-a2,show putAt (putAt (aJ l++rest) ((i+1)*3) (aJ (l.drop i))) (i*3) e.cells=(putAt (aJ l++rest) ((i+1)*3) (aJ (l.drop i))).take (i*3)++e.cells++(putAt (aJ l++rest) ((i+1)*3) (aJ (l.drop i))).drop (i*3+e.cells.length)from rfl,e0,cK]
theorem Li{w:YB}{A:Option Addr}{n c:Nat}{l:List E}(S:aM w 111 3 (U3 A n c) n (aJ l))(e:E){g2 cc:Nat}(B2:aF w g2 111 e.cells.toArray)(hn:n<=100000):
  eq prog 74 #[U3 A n c,(n:Nat),U3 (lc g2) 1 cc] w λr w'=> ∃A' c',r=BY (U3 A' (n+1) c')/\aM w' 111 3 (U3 A' (n+1) c') (n+1) (aJ (l++[e]))/\ag (ah (U3 A n c)) w w'/\∀x∈ah (U3 A' (n+1) c'),x∈ah (U3 A n c)\/w.heap.size<=x:=by
 obtain⟨i0,hi,lz,jK,kl⟩:=info_parts tG;have hl:=S.1;rw[aw]at hl;obtain⟨v',w',ea,S2,o2,f2⟩:=dE (P:=prog) S 108 108 i0 _ 40 underlying108 hi lz jK kl rfl (by omega) ⟨g2,0,none⟩ 1 cc e.cells rfl (bm (l:=e.cells) B2 0 _ (by simp)) (ym e) (by unfold it;omega) (by omega);obtain⟨A',c',rfl⟩:=ax S2;have EA:=g9 (dF prog 108 108 w (U3 A n c) (U3 (lc g2) 1 cc)=_) ea;have S2:=xh S2
 have o2:=xh o2;have f2:=xh f2;have HC:A=none/\n=0/\c=0\/∃g,A=some ⟨g,0,none⟩/\n<=c/\c<=it:=by
  rcases S.2 with⟨h1,h2⟩|⟨g,cap,rest,h1,h2,h3,h4⟩
  .injection h1 with a1 a2 a3
   exact .inl ⟨a1,a2,a3⟩
  .injection h1 with a1 a2 a3
   subst a3;refine .inr ⟨g,a1,?_,h4⟩;rw[aw]at h3;omega
 have s1:(n:Int)<=(n:Int):=by omega
 clear S B2 ea hi lz jK kl;have HC:A=none/\n=0/\c=0\/(∃g,A=some ⟨g,0,none⟩/\c=n/\c<=it)\/∃g,A=some ⟨g,0,none⟩/\¬c=n/\n<=c/\c<=it:=by
  rcases HC with h|⟨g,h1,h2,h3⟩
  .exact .inl h
  .by_cases hc:c=n
   .exact .inr (.inl ⟨g,h1,hc,h3⟩)
   .exact .inr (.inr ⟨g,h1,hc,h2,h3⟩)
 rcases HC with⟨rfl,rfl,rfl⟩|⟨g,rfl,rfl,hc2⟩|⟨g,rfl,hc0,Ib,hc2⟩
 all_goals
  (try have hc1I:(n:Int)<=(c:Int):=by omega)
  go_in;go_wp2_with fail;rw[EA.o];go_wp2;go_ret;exact⟨A',c',by first|rfl|simp,by rw[iH];simpa [aJ]using S2.o,o2.o,f2.o⟩
theorem FN{w:YB}{g:Nat}{t:pm}{cs:Array YO}(B:aF w g t cs):w.shape? g=some (t,cs.size):=by
 obtain⟨lo,hi,h,_⟩:=B;unfold World.shape?;rw[h]
theorem sz_ent(w:YB):(Go.sizeOf 111).run prog w=.ok 3 w:=by
 obtain⟨i0,hi,lz,jK,kl⟩:=info_parts tG;simp[sizeOf,typeInfo,hi,jK]
theorem Lj{w:YB}{g1 g2:Nat}{t1 t2:pm}{c1 c2:Array YO}(B1:aF w g1 t1 c1)(B2:aF w g2 t2 c2)(fF:g1≠g2)(h0:c2.size≠0)(hc:c1.size≠0)(hz:w.frozen? ⟨g1,c1.size,none⟩=false)(o2 la ca lb cb:Nat):
  (callFunc 125 #[U3 (lc g1) la ca,U3 (some ⟨g2,o2,none⟩) lb cb]).run prog w=.ok (.value (U6 false)) w:=by
 rw[run_callFunc_extern func125 (by kernel_rfl) (by kernel_rfl) (by kernel_rfl) (e:=Extern.SlicesOverlaps.overlaps #[108,108] #[4]) (by kernel_rfl),
  Lib.run_overlaps_apart w 108 4 111 underlying108 3 sz_ent ⟨g1,0,none⟩ ⟨g2,o2,none⟩ la ca lb cb fF t1 t2 c1.size c2.size (FN B1) (FN B2) h0 (B1.frozen 0 (by omega)) hz]
 rfl
theorem IB{w:YB}{A:Option Addr}{n c:Nat}{l:List E}(S:aM w 111 3 (U3 A n c) n (aJ l))(e:E){g2 cc:Nat}(B2:aF w g2 111 e.cells.toArray)(hn:n<=100000)(hg:g2∉ah (U3 A n c))(i:Nat)(hi:i<n)(hf:w.frozen? ⟨g2,3,none⟩=false)(hc:n+1<=c):
  eq prog 74 #[U3 A n c,(i:Nat),U3 (lc g2) 1 cc] w λr w'=> ∃A' c',r=BY (U3 A' (n+1) c')/\aM w' 111 3 (U3 A' (n+1) c') (n+1) (aJ (l.insertIdx i e))/\ag (ah (U3 A n c)) w w'/\∀x∈ah (U3 A' (n+1) c'),x∈ah (U3 A n c)\/w.heap.size<=x:=by
 obtain⟨g,cap,rest,hv,BG,hcn,Pe⟩:=S.form (by omega) (by omega);simp only[Value.slice.injEq,true_and]at hv;obtain⟨rfl,rfl⟩:=hv;have vr:c<=it:=by obtain⟨_,_,_,_,h⟩:=S.uD;exact h
 have qQ:l.length=n:=by have:=S.1;rw[aw]at this;omega
 have ou:=xh qQ;have VK:=g9 (rest.length=c*3-n*3) (by rw[aw,qQ]at Pe;omega);have BD:=xh BG;have BE:=xh B2;have fF:g2≠g:=λh=>hg (by simp[ah,h]);have HCM:=xh vr;have Ei:=xh (show(l.insertIdx i e).length=n+1 from by rw[zS,qQ,g8]);unfold it at vr;clear S qQ Pe;have s1:¬(i:Int)=(n:Int):=by omega
 have s2:(i:Int)<=(n:Int):=by omega
 have s3:(i:Int)<=(c:Int):=by omega
 have s4:¬c=i:=by omega
 have s8:IntKind.i64.wrap ((i:Int)+1)=(i:Int)+1:=dl;have s9:IntKind.i64.wrap ((n:Int)+1)=(n:Int)+1:=dl;have s10:((i:Int)+1).toNat=i+1:=by omega
 have s11:((n:Int)+1).toNat=n+1:=by omega
 have s12:(0:Int)<=(i:Int)+1:=by omega
 have s13:(0:Int)<=(n:Int)+1:=by omega
 have s14:(i:Int)+1<=(n:Int)+1:=by omega
 have s15:(i:Int)<=(n:Int)+1:=by omega
 have Un:=xh (show ∀j v,(aJ (l.drop i))[j]?=some v->w.drew.cell? ((⟨g,i*3,none⟩:Addr).add j)=some v from λj v hv=>by
  rw[iN];refine(BD.o.drew.cell _).trans ?_;rw[<-nF,iK]at hv;rw[cN,bE (aR.1 hv).1,hv])
 have hov:=λla ca lb cb=>Lj (w:=w) B2 BG fF (by simp[aw];have:=ou.o;omega) (by show 3≠0;decide) (by rw[show e.cells.toArray.size=3 from rfl];exact hf) ((i+1)*3) la ca lb cb;have s16:(n:Int)+1<=(c:Int):=by omega
 have s17:¬(c:Int)<(n:Int)+1:=by omega
 have s18:¬c=i+1:=by omega
 have s19:(i:Int)+1<=(c:Int):=by omega
 clear B2 BG hf hg;go_in;go_wp2_with (simp only[hov]);refine kw (λ_=>True) (trivial) (λau=>?_);refine dP [(0,69),(1,70),(2,71),(3,72),(4,73),(5,74),(6,75),(7,76)] ?_
 iterate 8 refine bJ ?_
 refine dI 8 77 λK hK=>?_;go_simp;obtain⟨w2,ea,B3,oa⟩:=wF (P:=prog) BD.o.drew 108 3 111 3 ((i+1)*3) (n-i) (c-(i+1)) ⟨g,i*3,none⟩ (n+1-i) (c-i) (aJ (l.drop i)) underlying108 pG (by rw[aw,ev,ou.o,show Nat.min (n+1-i) (n-i)=n-i from by simp only[Nat.min_def];split<;>omega]) Un.o (by rw[aw,ev,aT,aw,ou.o,VK.o];omega) (mD _);have EA:=xh ea;have B3:=xh B3
 have OA:=xh oa;clear ea oa;rw[EA.o];go_simp;refine ip hK ?_;refine jp ?_ _;have BE3:=BE.o.drew.only OA.o (by simpa using fF)
 obtain⟨w3,eb,B4,ob⟩:=wF (P:=prog) B3.o 108 3 111 3 (i*3) (n+1-i) (c-i) ⟨g2,0,none⟩ 1 cc e.cells underlying108 pG (by show 3=_;rw[show Nat.min 1 (n+1-i)=1 from by simp only[Nat.min_def];split<;>omega]) (bm (l:=e.cells) BE3 0 _ (by simp)) (by rw[kS (by rw[aw,ev,aT,aw,ou.o,VK.o];omega),aT,aw,ou.o,VK.o];show i*3+3<=_;omega) (ym e)
 rw[Yy l e rest i (by rw[ou.o];omega) (by rw[VK.o];omega)]at B4;have EB:=xh eb;have B4:=xh B4;have OB:=xh<|OA.o.trans ob;clear eb ob BE3;go_wp2_with fail;rw[EB.o];go_wp2;go_ret;exact⟨_,_,by first|rfl|simp,⟨by rw[aw,Ei.o],.inr ⟨g,c,_,rfl,B4.o,by rw[aw,Ei.o,ev,VK.o];omega,HCM.o⟩⟩,by simpa [ah]using (ag.refl [g] w).drew.trans OB.o,λx hx=> .inl (by simpa [ah]using hx)⟩
noncomputable def IC(P:Program)(T U ty:pm)(w:YB)(s x:YO):Result YO:=(Builtin.append_ #[T,U] ty #[s,x]).run P w
theorem Uo(P:Program)(ρ:Operand->YO)(dst:Option Tmp)(s x:Operand)(T U t:pm)(p:String)(af:Array Edge)(g:Option (Nat×Bool))(w:YB):
  (execOp ρ {dst:=dst,op:= .call {callee:= .builtin .append,args:= #[s,x],argTypes:= #[T,U]},type:=t,pos:=p,after:=af,guard:=g}).run P w=(IC P T U t w (ρ s) (ρ x)).andThen λv w'=> .ok (.value v) w':=by
 simp[execOp,resolve,invoke,builtin,IC]
theorem Lk{w:YB}{g c:Nat}{l:List E}{rest:List YO}(B:aF w g 111 (aJ l++rest).toArray)(i k:Nat)(hi:i<=l.length)(hk:0<k)(hc:c<i+k)(hm:i+k<=1000000):
  ∃w' G zs,IC prog 108 3 108 w (U3 (lc g) i c) (k:Nat)= .ok (U3 (lc w.heap.size) (i+k) G) w'/\aF w' w.heap.size 111 (aJ (l.take i)++zs).toArray/\zs.length=(G-i)*3/\i+k<=G/\G<=it/\i7 w w':=by
 obtain⟨i0,Jj,lz,jK,kl⟩:=info_parts tG;have hold:(Builtin.firstCells i0.size i (U3 (lc g) i c)).run prog w.drew=.ok (aJ (l.take i)).toArray w.drew:=by
  rw[jK];exact run_firstCells_some w.drew 3 i ⟨g,0,none⟩ i c (aJ (l.take i)) (by rw[aw,bC];omega) (bm B.drew 0 _ (λj v hv=>by
   rw[bq,bE]
   .rw[<-yi,uA]at hv
    split at hv
    .exact hv
    .cases hv
   .have:=(aR.1 hv).1;rw[aw,bC]at this;rw[aw];omega))
 have h:=Lib.run_append_grow_zeros w 108 3 108 111 i0 _ By By underlying108 underlying3 Jj lz (some ⟨g,0,none⟩) i c (aJ (l.take i)) hold k hk (by omega) hc (by omega) (by rw[kl];omega) (by rw[kl];exact growslice_fits (by omega) (by omega));have hG:=grownCap_ge w (i+k) c 111;have hG2:=grownCap_le_maxLen w (i+k) c 111 (by unfold it;omega);have hzc:∀m,(Builtin.zeroCells (Value.agg #[U2 ⟨#[]⟩,U2 ⟨#[]⟩,U5 By 0]).cells m).size=m*3:=λm=>by
  simp[Builtin.zeroCells,Value.cells]
 generalize grownCap w (i+k) c 111=G at *;have hA:∀(a b:Array YO),(aJ (l.take i)).toArray++a++b=(aJ (l.take i)++(a.toList++b.toList)).toArray:=λa b=>by
  apply qP.1;simp
 rw[hA]at h;have hzl:((Builtin.zeroCells (Value.agg #[U2 ⟨#[]⟩,U2 ⟨#[]⟩,U5 By 0]).cells k).toList++(Builtin.zeroCells (Value.agg #[U2 ⟨#[]⟩,U2 ⟨#[]⟩,U5 By 0]).cells (G-(i+k))).toList).length=(G-i)*3:=by
  rw[aT,VV,VV,hzc,hzc];omega
 generalize (Builtin.zeroCells (Value.agg #[U2 ⟨#[]⟩,U2 ⟨#[]⟩,U5 By 0]).cells k).toList++(Builtin.zeroCells (Value.agg #[U2 ⟨#[]⟩,U2 ⟨#[]⟩,U5 By 0]).cells (G-(i+k))).toList=ZS at *;refine⟨_,G,ZS,h,?_,hzl,hG,hG2,?_⟩
 .exact aF.new w.drew 111 _
 .exact(i5 w).drew.alloc (ai _) _
theorem Yz(l:List E)(e:E)(zs:List YO)(i:Nat)(hi:i<l.length)(hz:(l.length+1-i)*3<=zs.length):
  putAt (putAt (aJ (l.take i)++zs) (i*3) e.cells) ((i+1)*3) (aJ (l.drop i))=aJ (l.insertIdx i e)++zs.drop ((l.length+1-i)*3):=by
 have e0:e.cells.length=3:=rfl;have e2:(aJ (l.take i)).length=i*3:=by rw[aw,bC];omega
 have e3:(aJ (l.drop i)).length=(l.length-i)*3:=by rw[aw,ev]
 have a1:putAt (aJ (l.take i)++zs) (i*3) e.cells=(aJ (l.take i)++e.cells)++zs.drop 3:=by
  unfold putAt;rw[<-e2,sK,e0,<-ji,uw]
 have a2:(aJ (l.take i)++e.cells).length=(i+1)*3:=by rw[aT,e2,e0];omega
 rw[a1,Au e l i (by omega),iH,lS];have e4:zs.drop ((l.length+1-i)*3)=(zs.drop 3).drop ((l.length-i)*3):=by rw[ji];congr 1;omega
 unfold putAt;rw[<-a2,sK,<-ji,uw,e3,e4];simp only[cK]
end
section
attribute [local go_sem ↓] Uo Lh Yx
theorem ID{w:YB}{A:Option Addr}{n c:Nat}{l:List E}(S:aM w 111 3 (U3 A n c) n (aJ l))(e:E){g2 cc:Nat}(B2:aF w g2 111 e.cells.toArray)(hn:n<=100000)(hg:g2∉ah (U3 A n c))(i:Nat)(hi:i<n)(hc:c<n+1):
  eq prog 74 #[U3 A n c,(i:Nat),U3 (lc g2) 1 cc] w λr w'=> ∃A' c',r=BY (U3 A' (n+1) c')/\aM w' 111 3 (U3 A' (n+1) c') (n+1) (aJ (l.insertIdx i e))/\ag (ah (U3 A n c)) w w'/\∀x∈ah (U3 A' (n+1) c'),x∈ah (U3 A n c)\/w.heap.size<=x:=by
 obtain⟨g,cap,rest,hv,BG,hcn,Pe⟩:=S.form (by omega) (by omega);simp only[Value.slice.injEq,true_and]at hv;obtain⟨rfl,rfl⟩:=hv;have vr:c<=it:=by obtain⟨_,_,_,_,h⟩:=S.uD;exact h
 have qQ:l.length=n:=by have:=S.1;rw[aw]at this;omega
 have ou:=xh qQ;have VK:=g9 (rest.length=c*3-n*3) (by rw[aw,qQ]at Pe;omega);have BD:=xh BG;have BE:=xh B2;have fF:g2≠g:=λh=>hg (by simp[ah,h]);have HCM:=xh vr;have Ei:=xh (show(l.insertIdx i e).length=n+1 from by rw[zS,qQ,g8]);unfold it at vr;clear S qQ Pe;have s1:¬(i:Int)=(n:Int):=by omega
 have s2:(i:Int)<=(n:Int):=by omega
 have s3:(i:Int)<=(c:Int):=by omega
 have s4:¬c=i:=by omega
 have s8:IntKind.i64.wrap ((i:Int)+1)=(i:Int)+1:=dl;have s9:IntKind.i64.wrap ((n:Int)+1)=(n:Int)+1:=dl;have s10:((i:Int)+1).toNat=i+1:=by omega
 have s11:((n:Int)+1).toNat=n+1:=by omega
 have s12:(0:Int)<=(i:Int)+1:=by omega
 have s13:(0:Int)<=(n:Int)+1:=by omega
 have s14:(i:Int)+1<=(n:Int)+1:=by omega
 have s15:(i:Int)<=(n:Int)+1:=by omega
 have Un:=xh (show ∀W,aF W g 111 (aJ l++rest).toArray->∀j v,(aJ (l.drop i))[j]?=some v->W.cell? ((⟨g,i*3,none⟩:Addr).add j)=some v from λW BW j v hv=>by
  rw[iN];refine(BW.cell _).trans ?_;rw[<-nF,iK]at hv;rw[cN,bE (aR.1 hv).1,hv])
 obtain⟨w2,G,zs,ea,B3,hz,hG,hG2,cf⟩:=Lk (c:=c) BG i (n+1-i) (by rw[ou.o];omega) (by omega) (by omega) (by omega);rw[show i+(n+1-i)=n+1 by omega]at ea hG;have EA:=xh ea;have B3:=xh B3;have HZ:=xh hz;have PD:=xh cf;have BE2:=xh<|BE.o.below cf BE.o.lt;have BG2:=xh<|BD.o.below cf BD.o.lt;have HGW:=g9 (g<w.heap.size/\g2<w.heap.size) ⟨BD.o.lt,BE.o.lt⟩;have s17:(c:Int)<(n:Int)+1:=by omega
 have s20:(n:Int)+1-(i:Int)=((n+1-i:Nat):Int):=by omega
 have s21:IntKind.i64.wrap (((n+1-i:Nat):Int))=((n+1-i:Nat):Int):=dl;have s22:¬G=i:=by omega
 have s23:¬G=i+1:=by omega
 have s24:(n:Int)+1<=(G:Int):=by omega
 have s25:(i:Int)<=(G:Int):=by omega
 have s26:(i:Int)+1<=(G:Int):=by omega
 unfold it at hG2;have HG2:=xh hG2;clear B2 BG hg ea hz cf;go_in;go_wp2_with fail;rw[EA.o]
 obtain⟨w3,eb,B4,oa⟩:=wF (P:=prog) B3.o 108 3 111 3 (i*3) (n+1-i) (G-i) ⟨g2,0,none⟩ 1 cc e.cells underlying108 pG (by show 3=_;rw[show Nat.min 1 (n+1-i)=1 from by simp only[Nat.min_def];split<;>omega]) (bm (l:=e.cells) BE2.o 0 _ (by simp)) (by rw[aT,aw,bC,ou.o,HZ.o];show i*3+3<=_;omega) (ym e);have EB:=xh eb;have B4:=xh B4;have HBG:=xh<|BG2.o.only oa (by simp;have:=HGW.o;omega)
 have OA:=xh oa;have HFT:=xh (show(i+1)*3+(aJ (l.drop i)).length<=(putAt (aJ (l.take i)++zs) (i*3) e.cells).length from by
  rw[kS (by rw[aT,aw,bC,ou.o,HZ.o];show i*3+3<=_;omega),aT,aw,aw,bC,ev,ou.o,HZ.o];omega)
 clear eb oa;go_wp2_with fail;rw[EB.o];go_wp2_with fail;refine kw (λ_=>True) (trivial) (λau=>?_);refine dP [(0,46),(1,47),(2,48),(3,49),(4,50),(5,51),(6,52),(7,53)] ?_
 iterate 8 refine bJ ?_
 refine dI 8 54 λK hK=>?_;go_simp;obtain⟨w4,eb,B5,ob⟩:=wF (P:=prog) B4.o.drew 108 3 111 3 ((i+1)*3) (n-i) (G-(i+1)) ⟨g,i*3,none⟩ (n-i) (c-i) (aJ (l.drop i)) underlying108 pG (by rw[aw,ev,ou.o,show Nat.min (n-i) (n-i)=n-i from Nat.min_self _]) (Un.o _ HBG.o.drew) HFT.o (mD _);have EB:=xh eb;have B5:=xh B5;have OB:=xh ob;clear eb ob;rw[EB.o];go_simp;refine ip hK ?_
 refine jp ?_ _;have B6:=B5.o;rw[Yz l e zs i (by rw[ou.o];omega) (by rw[ou.o,HZ.o];omega)]at B6;have B6:=xh B6;have OC:=xh<|PD.o.mono (ai _);go_wp2;go_ret;refine⟨_,_,by first|rfl|simp,⟨by rw[aw,Ei.o],.inr ⟨w.heap.size,G,_,rfl,B6.o,by rw[aw,Ei.o,ev,HZ.o,ou.o];omega,HG2.o⟩⟩,?_,λx hx=> .inr (by simp[ah]at hx;omega)⟩
 have o4:=((ag.refl [w.heap.size] w3).drew).trans OB.o;exact((ag.aj (S:=[]) PD.o).aU (OA.o.trans o4) (λx hx ef=>by simp at hx;omega)).mono (λx hx _=>by simp at hx)
end
attribute [local go_sem ↓] bA Lh Yx
theorem zj{w:YB}{A:Option Addr}{n c:Nat}{l:List E}(S:aM w 111 3 (U3 A n c) n (aJ l))(e:E){g2 cc:Nat}(B2:aF w g2 111 e.cells.toArray)(hn:n<=100000)(hg:g2∉ah (U3 A n c))(i:Nat)(hi:i<=n)(hf:w.frozen? ⟨g2,3,none⟩=false):
  eq prog 74 #[U3 A n c,(i:Nat),U3 (lc g2) 1 cc] w λr w'=> ∃A' c',r=BY (U3 A' (n+1) c')/\aM w' 111 3 (U3 A' (n+1) c') (n+1) (aJ (l.insertIdx i e))/\ag (ah (U3 A n c)) w w'/\∀x∈ah (U3 A' (n+1) c'),x∈ah (U3 A n c)\/w.heap.size<=x:=by
 have hl:=S.1;rw[aw]at hl
 rcases fC i n with h|h
 .rcases fC c (n+1)with h1|h1
  .exact ID S e B2 hn hg i h h1
  .exact IB S e B2 hn hg i h hf h1
 .obtain rfl:i=n:=by omega
  have:=Li S e (cc:=cc) B2 hn
  rwa [show l++[e]=l.insertIdx i e from by rw[Au e l i (by omega),cm (by omega),lJ (by omega)]]at this
theorem PN{w:YB}{A:Option Addr}{n c:Nat}{l:List E}(S:aM w 111 3 (U3 A n c) n (aJ l))(hn:n<=100000)(h0:0<n):
  eq prog 217 #[U3 A n c] w λr w'=> ∃g c',r=BY (U3 (lc g) n c')/\aM w' 111 3 (U3 (lc g) n c') n (aJ l)/\i7 w w'/\w.heap.size<=g:=by
 obtain⟨g,cap,rest,hv,BG,hcn,Pe⟩:=S.form h0 (by omega);simp only[Value.slice.injEq,true_and]at hv;obtain⟨rfl,rfl⟩:=hv;obtain⟨i0,hi,lz,jK,kl⟩:=info_parts tG;have hl:=S.1;rw[aw]at hl;have BN:=aF.new w 111 #[];have S0:aM (w.alloc (WF #[] 111)) 111 3 (U3 (lc w.heap.size) 0 0) 0 []:=⟨rfl,.inr ⟨w.heap.size,0,[],rfl,BN,rfl,by unfold it;omega⟩⟩;have BG2:=BG.alloc (WF #[] 111)
 obtain⟨v',w',ea,S2,o2,f2⟩:=dE (P:=prog) S0 108 108 i0 _ 40 underlying108 hi lz jK kl rfl (by omega) ⟨g,0,none⟩ n c (aJ l) (by rw[aw];exact hl) (bm BG2 0 _ (λj v hj=>by rw[bq,bE (aR.1 hj).1];exact hj)) (mD l) (by unfold it;omega) (by omega);rw[cQ,bq]at S2;obtain⟨gg,cc,_,rfl,_,_⟩:=S2.form h0 (by omega)
 have EA:=g9 (dF prog 108 108 (w.alloc (WF #[] 111)) (U3 (lc w.heap.size) 0 0) (U3 (lc g) n c)=_) ea;have Yg:w.heap.size<=gg:=by
  rcases f2 gg (by simp[ah])with h|h
  .simp[ah]at h;omega
  .simp at h;omega
 have hb:i7 w w':=((i5 w).alloc (ai _) _).trans (o2.aK (by simp) (λx hx=>by simp[ah]at hx;omega));have S2:=xh S2;have hb:=xh hb;have Yg:=xh Yg;have HE:=Lib.run_eql_slice_nil (P:=prog) w 108 111 (some ⟨g,0,none⟩) n c 0 0 underlying108;clear BG BG2 BN S0 S ea o2 f2 hi lz jK kl hl Pe;go_in;go_wp2_with fail;rw[EA.o];go_wp2;go_ret
 exact⟨gg,cc,by first|rfl|simp,S2.o,hb.o,Yg.o⟩
end Nd
end
end Go.Proofs.YtmonobkginiajaaGreat
