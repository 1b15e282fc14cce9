/- packed. -/
import Derived.Lib.Bytealg
import Derived.Laws.StructEq
import Derived.Lib.Overlaps
import Derived.Lib.SliceRun
import Derived.Lib.AppendZerosOnto
import Derived.Test.YtmonobkginiajaaGreatBs8
set_option linter.all false
set_option maxRecDepth 100000
set_option maxHeartbeats 8000000
namespace Go.Proofs.YtmonobkginiajaaGreat
open Go.Proofs.Tryz
namespace Nd
open Go.RowKit Sl
attribute [local go_sem ↓] Go.wp_at_zero Go.wp_at_succ bw
def ux(rs:List (List UInt8)):Bool:=decide (rs.head?=some [1])
def nL(rs:List (List UInt8)):List E:=rs.tail.map λr=>kH ⟨r.toArray⟩
def lQ(rs:List (List UInt8)):Prop:=(rs.head?=some [1]\/rs.head?=some [2])/\(∀r∈rs.tail,ke ⟨r.toArray⟩)/\dL (nL rs) (ux rs)
def qm(rs:List (List UInt8))(w:World)(e:Ending)(w':World):Prop:=
 ((¬lQ rs/\e=.returned (.tuple #[bu false none 0 0,.int .i64 14]))\/
  (lQ rs/\∃A n c,e=.returned (.tuple #[bu (ux rs) A n c,.int .i64 0])/\aS w' 111 3 (.slice A n c) n (aD (nL rs))/\Hid (∀g∈ah (.slice A n c),w.heap.size<=g)))/\Below w.heap.size w w'
theorem got_nil(s:ByteArray)(w:World)(hs:s.size<=1000000)(hq:cg s.data.toList=0)(xH:cV s.data.toList=[]):
  Calls prog 122 #[.string s] w (qm ([]) w):=by
 have B0:=aF.new w 118 #[.bool false,.slice none 0 0];have O0:=ae (Below.refl w.heap.size w) (.cells #[.bool false,.slice none 0 0] 118);have KA:=xh (ri s (w.alloc (.cells #[.bool false,.slice none 0 0] 118)) hs);unfold qm bu;have O0:=xh O0;have B0:=xh B0;have hS:=(ff _).1 hq;have hm:=rj hS;have hsm:=xh (oP hS);have hN:=dF s.data.toList;obtain⟨N,Gt⟩:∃N,bS s.data.toList 0=N:=⟨_,rfl⟩;unfold oO at KA
 rw[hq,xH,Gt]at KA;rw[xH,Gt]at hN;rw[xH]at hm hsm;clear hS hq xH Gt;go_enter func122,ntmps122;go_wp2_with fail;refine KA.o.mono ?_;rintro e w1 ⟨v,rfl,bg,fr,hv⟩;have S1:aS w1 9 1 v N (strs []):=hv.elim (λh=>h.2) (λh=>absurd rfl h.1);have Og:∀x∈ah v,w.heap.size+1<=x:=λx hx=>by have:=fr x hx;rw[Ax]at this;exact this
 obtain⟨V1,Cb,rfl⟩:=ax S1;have O1:=xh (aC O0.o bg);have B1:=xh (B0.o.below bg B0.o.lt);have f0:w1.frozen? ⟨w.heap.size,0,none⟩=false:=B1.o.frozen 0 (by simp);have f1:w1.frozen? ⟨w.heap.size,1,none⟩=false:=B1.o.frozen 1 (by simp);have z0:w1.cell? ⟨w.heap.size,0,none⟩=some (.bool false):=B1.o.ab (i:=0) rfl;have z1:w1.cell? ⟨w.heap.size,1,none⟩=some (.slice none 0 0):=B1.o.ab (i:=1) rfl
 have BZ:=xh ((B1.o.bU 0 (.bool false)).bU 1 (.slice none 0 0));have OZ:=xh (((((ag.ai (S:=[]) O1.o).setCell (p:=⟨w.heap.size,0,none⟩) (λh=>absurd h (by simp)) (.bool false)).setCell (p:=⟨w.heap.size,1,none⟩) (λh=>absurd h (by simp)) (.slice none 0 0))).gD);clear fr bg hv;obtain rfl:N=0:=by simpa using hN.symm
 go_wp2_with fail;exact bodyPost_ret (iS rfl rfl BZ.o) rfl ⟨.inl ⟨by simp[lQ],rfl⟩,OZ.o⟩
theorem got_odd(s:ByteArray)(w:World)(hs:s.size<=1000000)(hq:cg s.data.toList=0)(r0:List UInt8)(rest:List (List UInt8))(h1:¬r0=[1])(h2:¬r0=[2])(xH:cV s.data.toList=r0::rest):
  Calls prog 122 #[.string s] w (qm (r0::rest) w):=by
 have B0:=aF.new w 118 #[.bool false,.slice none 0 0];have O0:=ae (Below.refl w.heap.size w) (.cells #[.bool false,.slice none 0 0] 118);have KA:=xh (ri s (w.alloc (.cells #[.bool false,.slice none 0 0] 118)) hs);unfold qm bu;have O0:=xh O0;have B0:=xh B0;have hS:=(ff _).1 hq;have hm:=rj hS;have hsm:=xh (oP hS);have hN:=dF s.data.toList;obtain⟨N,Gt⟩:∃N,bS s.data.toList 0=N:=⟨_,rfl⟩;unfold oO at KA
 rw[hq,xH,Gt]at KA;rw[xH,Gt]at hN;rw[xH]at hm hsm;clear hS hq xH Gt;go_enter func122,ntmps122;go_wp2_with fail;refine KA.o.mono ?_;rintro e w1 ⟨v,rfl,bg,fr,hv⟩;have S1:aS w1 9 1 v N (strs (r0::rest)):=hv.elim (λh=>h.2) (λh=>absurd rfl h.1);have Og:∀x∈ah v,w.heap.size+1<=x:=λx hx=>by have:=fr x hx;rw[Ax]at this;exact this
 obtain⟨V1,Cb,rfl⟩:=ax S1;have O1:=xh (aC O0.o bg);have B1:=xh (B0.o.below bg B0.o.lt);have f0:w1.frozen? ⟨w.heap.size,0,none⟩=false:=B1.o.frozen 0 (by simp);have f1:w1.frozen? ⟨w.heap.size,1,none⟩=false:=B1.o.frozen 1 (by simp);have z0:w1.cell? ⟨w.heap.size,0,none⟩=some (.bool false):=B1.o.ab (i:=0) rfl;have z1:w1.cell? ⟨w.heap.size,1,none⟩=some (.slice none 0 0):=B1.o.ab (i:=1) rfl
 have BZ:=xh ((B1.o.bU 0 (.bool false)).bU 1 (.slice none 0 0));have OZ:=xh (((((ag.ai (S:=[]) O1.o).setCell (p:=⟨w.heap.size,0,none⟩) (λh=>absurd h (by simp)) (.bool false)).setCell (p:=⟨w.heap.size,1,none⟩) (λh=>absurd h (by simp)) (.slice none 0 0))).gD);clear fr bg hv;obtain rfl:N=rest.length+1:=by simpa using hN.symm
 obtain⟨g,rfl,ck⟩:=qg S1 0 (by simp);have hgw:w.heap.size<g:=Og g (by simp[ah]);have hgl:g<w1.heap.size:=S1.lt g (by simp[ah]);have hwl1:=B1.o.lt;have ck0:w1.cell? ⟨g,0,none⟩=some (.string ⟨r0.toArray⟩):=ck;have S1:=xh S1;have Qn:rest.length<=56:=Ez hm;have Am:rest.length+1<=Cb/\Cb<=maxLen:=by
  obtain⟨r,_,h1,_,h2⟩:=S1.o.uP;simp at h1;exact⟨by first|omega|(simp;omega),h2⟩
 clear ck Og KA hN hm;obtain⟨K0,Vt⟩:∃K0:ByteArray,(⟨r0.toArray⟩:ByteArray)=K0:=⟨_,rfl⟩;rw[Vt]at ck0;have hKL:K0.toList=r0:=by rw[cu,<-Vt]
 clear Vt;have n1:¬(rest.length:Int)+1=0:=by omega
 have n2:((rest.length:Int)+1==0)=false:=by simpa using n1
 rw[<-hKL]at h1 h2;have k1:(K0.toList==[1])=false:=by simpa using h1
 have k2:(K0.toList==[2])=false:=by simpa using h2
 have HNO:=xh (show ¬lQ (r0::rest)from λhx=>by
  have:=hx.1;simp only[List.head?_cons,Option.some.injEq]at this;rw[<-hKL]at this;exact this.elim h1 h2)
 clear hKL;go_wp2_with fail;exact bodyPost_ret (iS rfl rfl BZ.o) rfl ⟨.inl ⟨HNO.o,rfl⟩,OZ.o⟩
theorem got_one(s:ByteArray)(w:World)(hs:s.size<=1000000)(hq:cg s.data.toList=0)(r0:List UInt8)(leaf:Bool)(LL:r0=[if leaf then 1 else 2])(xH:cV s.data.toList=[r0]):
  Calls prog 122 #[.string s] w (qm ([r0]) w):=by
 have B0:=aF.new w 118 #[.bool false,.slice none 0 0];have O0:=ae (Below.refl w.heap.size w) (.cells #[.bool false,.slice none 0 0] 118);have KA:=xh (ri s (w.alloc (.cells #[.bool false,.slice none 0 0] 118)) hs);unfold qm bu;have O0:=xh O0;have B0:=xh B0;have hS:=(ff _).1 hq;have hm:=rj hS;have hsm:=xh (oP hS);have hN:=dF s.data.toList;obtain⟨N,Gt⟩:∃N,bS s.data.toList 0=N:=⟨_,rfl⟩;unfold oO at KA
 rw[hq,xH,Gt]at KA;rw[xH,Gt]at hN;rw[xH]at hm hsm;clear hS hq xH Gt;go_enter func122,ntmps122;go_wp2_with fail;refine KA.o.mono ?_;rintro e w1 ⟨v,rfl,bg,fr,hv⟩;have S1:aS w1 9 1 v N (strs [r0]):=hv.elim (λh=>h.2) (λh=>absurd rfl h.1);have Og:∀x∈ah v,w.heap.size+1<=x:=λx hx=>by have:=fr x hx;rw[Ax]at this;exact this
 obtain⟨V1,Cb,rfl⟩:=ax S1;have O1:=xh (aC O0.o bg);have B1:=xh (B0.o.below bg B0.o.lt);have f0:w1.frozen? ⟨w.heap.size,0,none⟩=false:=B1.o.frozen 0 (by simp);have f1:w1.frozen? ⟨w.heap.size,1,none⟩=false:=B1.o.frozen 1 (by simp);have z0:w1.cell? ⟨w.heap.size,0,none⟩=some (.bool false):=B1.o.ab (i:=0) rfl;have z1:w1.cell? ⟨w.heap.size,1,none⟩=some (.slice none 0 0):=B1.o.ab (i:=1) rfl
 have BZ:=xh ((B1.o.bU 0 (.bool false)).bU 1 (.slice none 0 0));have OZ:=xh (((((ag.ai (S:=[]) O1.o).setCell (p:=⟨w.heap.size,0,none⟩) (λh=>absurd h (by simp)) (.bool false)).setCell (p:=⟨w.heap.size,1,none⟩) (λh=>absurd h (by simp)) (.slice none 0 0))).gD);clear fr bg hv;obtain rfl:N=([]:List (List UInt8)).length+1:=by simpa using hN.symm
 obtain⟨g,rfl,ck⟩:=qg S1 0 (by simp);have hgw:w.heap.size<g:=Og g (by simp[ah]);have hgl:g<w1.heap.size:=S1.lt g (by simp[ah]);have hwl1:=B1.o.lt;have ck0:w1.cell? ⟨g,0,none⟩=some (.string ⟨r0.toArray⟩):=ck;have S1:=xh S1;have Qn:([]:List (List UInt8)).length<=56:=Ez hm;have Am:([]:List (List UInt8)).length+1<=Cb/\Cb<=maxLen:=by
  obtain⟨r,_,h1,_,h2⟩:=S1.o.uP;simp at h1;exact⟨by first|omega|(simp;omega),h2⟩
 clear ck Og KA hN hm;obtain⟨K0,Vt⟩:∃K0:ByteArray,(⟨r0.toArray⟩:ByteArray)=K0:=⟨_,rfl⟩;rw[Vt]at ck0;have hKL:K0.toList=r0:=by rw[cu,<-Vt]
 clear Vt;have hk:K0.toList=[if leaf then 1 else 2]:=by rw[hKL];exact LL
 have HR0:=xh LL;have HC:=xh (show(K0.toList=[1]/\(K0.toList==[1])=true/\(K0.toList==[2])=false)\/(¬K0.toList=[1]/\(K0.toList==[1])=false/\(K0.toList==[2])=true)from by rw[hk];cases leaf<;>decide);have H1:=xh (show(K0.toList==[1])=leaf from by rw[hk];cases leaf<;>decide);clear hKL hk
 go_upto_region 4 with fail
 go_cut [21]from 22 to 36 (λv21 wx=>v21=.bool false/\w1=wx)
 case first=>
  rcases HC.o with⟨k3,k1,k2⟩|⟨k3,k1,k2⟩
  all_goals
   go_wp2_with fail;go_meet
   case rel=>exact⟨rfl,rfl⟩
 obtain⟨rfl,rfl⟩:=hcut;have k1:=H1.o;have R0:=xh (show aF (w1.alloc (.cells #[.bool leaf,.slice none 0 0] 118)) w1.heap.size 118 #[.bool leaf,.slice none 0 0]from aF.new w1 _ _);have R2:=xh (B1.o.alloc (.cells #[.bool leaf,.slice none 0 0] 118));have RO:=xh (aC O1.o (ae (Below.refl _ _) (.cells #[.bool leaf,.slice none 0 0] 118)));have HLF:=xh (show ux [r0]=leaf from by rw[HR0.o];cases leaf<;>decide)
 have HM:=xh (show dL ([]:List E) leaf from λi hi=>absurd hi (kZ _));have HYES:=xh (show lQ [r0]from⟨by rw[HR0.o];cases leaf<;>simp,by simp,by rw[HLF.o];exact HM.o⟩)
 by_cases po:Cb=1
 all_goals
  go_wp2_with fail;generalize hW6:(w1.alloc (.cells #[.bool leaf,.slice none 0 0] 118))=W6 at *;clear hW6 f0 f1 z0 z1 ck0;have KM:=xh (yI (w:=W6) leaf none 0 0 [] (show py W6 none 0 []from⟨rfl,λk e h=>by simp at h⟩) (by omega));unfold bu at KM
  go_loopw [46] (λiv wr=>iv=.int .i64 0/\wr=W6) (λ_ _=>0)
  case atStart=>exact⟨rfl,rfl⟩
  case round=>
   obtain⟨rfl,rfl⟩:=hrel;have d0:wr.cell? ⟨w1.heap.size,0,none⟩=some (.bool leaf):=R0.o.ab (i:=0) rfl;have d1:wr.cell? ⟨w1.heap.size,1,none⟩=some (.slice none 0 0):=R0.o.ab (i:=1) rfl;go_wp2_with fail;refine KM.o.mono ?_;rintro e' w2 ⟨⟨b,rfl,hb⟩,dn⟩;obtain rfl:=hb.2 HM.o;have CW:=R2.o.below dn R2.o.lt;have CN:=R0.o.below dn R0.o.lt;have f0:w2.frozen? ⟨w.heap.size,0,none⟩=false:=CW.frozen 0 (by simp)
   have f1:w2.frozen? ⟨w.heap.size,1,none⟩=false:=CW.frozen 1 (by simp);have z0:w2.cell? ⟨w.heap.size,0,none⟩=some (.bool false):=CW.ab (i:=0) rfl;have z1:w2.cell? ⟨w.heap.size,1,none⟩=some (.slice none 0 0):=CW.ab (i:=1) rfl;have y0:w2.cell? ⟨w1.heap.size,0,none⟩=some (.bool leaf):=CN.ab (i:=0) rfl;have y1:w2.cell? ⟨w1.heap.size,1,none⟩=some (.slice none 0 0):=CN.ab (i:=1) rfl;have hwlt:=R2.o.lt;have CX:=xh ((CW.bU 0 (.bool leaf)).bU 1 (.slice none 0 0))
   have OX:=xh ((((ag.ai (S:=[]) (aC RO.o dn)).setCell (p:=⟨w.heap.size,0,none⟩) (λh=>absurd h (by simp)) (.bool leaf)).setCell (p:=⟨w.heap.size,1,none⟩) (λh=>absurd h (by simp)) (.slice none 0 0)).gD);clear CW CN dn hb d0 d1;go_wp2_with fail;exact bodyPost_ret (iS rfl rfl CX.o) rfl ⟨.inr ⟨HYES.o,none,0,0,by rw[HLF.o];rfl,aS.nil _ _ _,xh (λx hx=>by simp[ah]at hx)⟩,OX.o⟩
theorem Vu(s:ByteArray)(w:World)(hs:s.size<=1000000)(hq:cg s.data.toList=0)(r0:List UInt8)(rest:List (List UInt8))(leaf:Bool)(LL:r0=[if leaf then 1 else 2])(fc:rest≠[])(xH:cV s.data.toList=r0::rest):
  Calls prog 122 #[.string s] w (qm (r0::rest) w):=by
 have B0:=aF.new w 118 #[.bool false,.slice none 0 0];have O0:=ae (Below.refl w.heap.size w) (.cells #[.bool false,.slice none 0 0] 118);have KA:=xh (ri s (w.alloc (.cells #[.bool false,.slice none 0 0] 118)) hs);unfold qm bu;have O0:=xh O0;have B0:=xh B0;have hS:=(ff _).1 hq;have hm:=rj hS;have hsm:=xh (oP hS);have hN:=dF s.data.toList;obtain⟨N,Gt⟩:∃N,bS s.data.toList 0=N:=⟨_,rfl⟩;unfold oO at KA
 rw[hq,xH,Gt]at KA;rw[xH,Gt]at hN;rw[xH]at hm hsm;clear hS hq xH Gt;go_enter func122,ntmps122;go_wp2_with fail;refine KA.o.mono ?_;rintro e w1 ⟨v,rfl,bg,fr,hv⟩;have S1:aS w1 9 1 v N (strs (r0::rest)):=hv.elim (λh=>h.2) (λh=>absurd rfl h.1);have Og:∀x∈ah v,w.heap.size+1<=x:=λx hx=>by have:=fr x hx;rw[Ax]at this;exact this
 obtain⟨V1,Cb,rfl⟩:=ax S1;have O1:=xh (aC O0.o bg);have B1:=xh (B0.o.below bg B0.o.lt);have f0:w1.frozen? ⟨w.heap.size,0,none⟩=false:=B1.o.frozen 0 (by simp);have f1:w1.frozen? ⟨w.heap.size,1,none⟩=false:=B1.o.frozen 1 (by simp);have z0:w1.cell? ⟨w.heap.size,0,none⟩=some (.bool false):=B1.o.ab (i:=0) rfl;have z1:w1.cell? ⟨w.heap.size,1,none⟩=some (.slice none 0 0):=B1.o.ab (i:=1) rfl
 have BZ:=xh ((B1.o.bU 0 (.bool false)).bU 1 (.slice none 0 0));have OZ:=xh (((((ag.ai (S:=[]) O1.o).setCell (p:=⟨w.heap.size,0,none⟩) (λh=>absurd h (by simp)) (.bool false)).setCell (p:=⟨w.heap.size,1,none⟩) (λh=>absurd h (by simp)) (.slice none 0 0))).gD);clear fr bg hv;obtain rfl:N=rest.length+1:=by simpa using hN.symm
 obtain⟨g,rfl,ck⟩:=qg S1 0 (by simp);have hgw:w.heap.size<g:=Og g (by simp[ah]);have hgl:g<w1.heap.size:=S1.lt g (by simp[ah]);have hwl1:=B1.o.lt;have ck0:w1.cell? ⟨g,0,none⟩=some (.string ⟨r0.toArray⟩):=ck;have S1:=xh S1;have Qn:rest.length<=56:=Ez hm;have Am:rest.length+1<=Cb/\Cb<=maxLen:=by
  obtain⟨r,_,h1,_,h2⟩:=S1.o.uP;simp at h1;exact⟨by first|omega|(simp;omega),h2⟩
 clear ck Og KA hN hm;obtain⟨K0,Vt⟩:∃K0:ByteArray,(⟨r0.toArray⟩:ByteArray)=K0:=⟨_,rfl⟩;rw[Vt]at ck0;have hKL:K0.toList=r0:=by rw[cu,<-Vt]
 clear Vt;have hk:K0.toList=[if leaf then 1 else 2]:=by rw[hKL];exact LL
 have HR0:=xh LL;have HC:=xh (show(K0.toList=[1]/\(K0.toList==[1])=true/\(K0.toList==[2])=false)\/(¬K0.toList=[1]/\(K0.toList==[1])=false/\(K0.toList==[2])=true)from by rw[hk];cases leaf<;>decide);have H1:=xh (show(K0.toList==[1])=leaf from by rw[hk];cases leaf<;>decide);clear hKL hk;have n1:¬(rest.length:Int)+1=0:=by omega
 have n2:((rest.length:Int)+1==0)=false:=by simpa using n1
 have po:¬Cb=1:=λh=>by
  have:0<rest.length:=vg.2 fc;omega
 go_upto_region 4 with fail
 go_cut [21]from 22 to 36 (λv21 wx=>v21=.bool false/\w1=wx)
 case first=>
  rcases HC.o with⟨k3,k1,k2⟩|⟨k3,k1,k2⟩
  all_goals
   go_wp2_with fail;go_meet
   case rel=>exact⟨rfl,rfl⟩
 obtain⟨rfl,rfl⟩:=hcut;have k1:=H1.o;have R0:=xh (show aF (w1.alloc (.cells #[.bool leaf,.slice none 0 0] 118)) w1.heap.size 118 #[.bool leaf,.slice none 0 0]from aF.new w1 _ _);have R2:=xh (B1.o.alloc (.cells #[.bool leaf,.slice none 0 0] 118));have RS:=xh (S1.o.alloc (.cells #[.bool leaf,.slice none 0 0] 118));have RO:=xh (aC O1.o (ae (Below.refl _ _) (.cells #[.bool leaf,.slice none 0 0] 118)));go_wp2_with fail
 generalize hW6:(w1.alloc (.cells #[.bool leaf,.slice none 0 0] 118))=W6 at *;clear hW6 f0 f1 z0 z1 ck0
 go_loopw [46] (λiv wr=> ∃(i:Nat) (v':Value),i<=rest.length/\iv=.int .i64 i/\aF wr w1.heap.size 118 #[.bool leaf,v']/\aF wr w.heap.size 118 #[.bool false,.slice none 0 0]/\aS wr 111 3 v' i (aD ((rest.take i).map λr=>kH ⟨r.toArray⟩))/\aS wr 9 1 (.slice (some ⟨g,0,none⟩) (rest.length+1) Cb) (rest.length+1) (strs (r0::rest))/\Hid (∀r∈rest.take i,ke ⟨r.toArray⟩)/\Below w.heap.size w wr/\Hid (∀x∈ah v',w1.heap.size+1<=x)) (λiv _=>rest.length-(intOf iv).toNat)
 case atStart=>exact⟨0,_,bf _,rfl,R0.o,R2.o,aS.nil _ _ _,RS.o,xh (by simp),RO.o,xh (λx hx=>by simp[ah]at hx)⟩
 case round=>
  obtain⟨i,v',hi,rfl,C6,C2,S,RS,EO,O,F⟩:=hrel;obtain⟨VA,vc,rfl⟩:=ax S;have hltr:=C6.lt;have hg6:w1.heap.size∉ah (.slice VA i vc):=λhx=>by have:=F.o _ hx;omega
  have hg2:w.heap.size∉ah (.slice VA i vc):=λhx=>by have:=F.o _ hx;omega
  have Vj:g∉ah (.slice VA i vc):=λhx=>by have:=F.o _ hx;omega
  by_cases h:i<rest.length
  .obtain⟨g',hgx,ck⟩:=qg RS (i+1) (by simp;omega);simp only[Option.some.injEq,Addr.mk.injEq,and_true]at hgx;subst hgx;have hri:(r0::rest)[i+1]'(by simp;omega)=rest[i]:=List.getElem_cons_succ ..;rw[hri]at ck;have oX:rest[i].length<=232:=hsm.o _ (aw _ (kt h));have HT:=xh (gy h);obtain⟨T,hT⟩:∃T:ByteArray,(⟨rest[i].toArray⟩:ByteArray)=T:=⟨_,rfl⟩;have hTs:T.size<=232:=by rw[<-hT,Sl.size_of_list];exact oX
   rw[hT]at ck;have HTT:=xh hT;have ck2:wr.cell? ((⟨g,1,none⟩:Addr).add i)=some (.string T):=by rw[fZ,Nat.add_comm];exact ck
   have hiI:(i:Int)<(rest.length:Int):=by omega
   have ck3:wr.cell? ⟨g,1+i,none⟩=some (.string T):=by rw[Nat.add_comm];exact ck
   clear hT hri oX
   by_cases fT:ke T
   .have KE:=xh (λw=>QP w T fT (by omega));have PF:=xh fT;obtain⟨e,he⟩:∃e,kH T=e:=⟨_,rfl⟩;rw[he]at KE;have HE:=xh he;have SL:=xh S;have CL:=xh C6;have C2L:=xh C2;have RL:=xh RS;have OL:=xh O;unfold E.agg at KE;clear fT he S C6 C2 RS O;go_wp2_with fail;refine(KE.o _).mono ?_;rintro e' w2 ⟨rfl,dn⟩
    obtain⟨v2,w3,ea,S3,ow,f3⟩:=Aw (P:=prog) ((SL.o.below dn).alloc (.cells #[.string e.key,.string e.val,.int .i64 e.aQ] 111)) 108 108 (.agg #[.string .empty,.string .empty,.int .i64 0]) 40 underlying108 (by kernel_rfl) rfl e (by unfold maxLen;omega) (by omega);rw[Ax]at ea;obtain⟨V2,iP,rfl⟩:=ax S3;have EA:=xh ea;have O2:=xh ((ag.ai (S:=ah (.slice VA i vc)) dn).alloc (.cells #[.string e.key,.string e.val,.int .i64 e.aQ] 111))
    have OW:=O2.o.trans ow;have CW:=((CL.o.below dn CL.o.lt).alloc (.cells #[.string e.key,.string e.val,.int .i64 e.aQ] 111)).only ow hg6;have c61:((w2.alloc (.cells #[.string e.key,.string e.val,.int .i64 e.aQ] 111))).cell? ⟨w1.heap.size,1,none⟩=some (.slice VA i vc):=((CL.o.below dn CL.o.lt).alloc (.cells #[.string e.key,.string e.val,.int .i64 e.aQ] 111)).ab (i:=1) rfl;have fz:w3.frozen? ⟨w1.heap.size,1,none⟩=false:=CW.frozen 1 (by simp)
    have cz:w3.cell? ⟨w1.heap.size,1,none⟩=some (.slice VA i vc):=CW.ab (i:=1) rfl;have hsz2:wr.heap.size<=w2.heap.size:=dn.size;have OX:=OW.mono (S':=w1.heap.size::ah (.slice VA i vc)) (λx hx _=>aw _ hx)|>.setCell (p:=⟨w1.heap.size,1,none⟩) (λ_=>by simp) (.slice V2 (i+1) iP);have CX:=xh (CW.bU 1 (.slice V2 (i+1) iP));have C2X:=xh (C2L.o.only OX (by simp;exact⟨by omega,hg2⟩))
    have RX:=xh (RL.o.only OX (λx hx=>by simp[ah]at hx;subst hx;simp;exact⟨by omega,Vj⟩));have pB:∀x∈ah (.slice V2 (i+1) iP),w1.heap.size+1<=x:=λx hx=>(f3 x hx).elim (F.o x) (λh=>by rw[Ax]at h;omega);have FX:=xh pB;have SX:=xh (S3.only ((ag.refl [w1.heap.size] w3).setCell (p:=⟨w1.heap.size,1,none⟩) (λ_=>by simp) (.slice V2 (i+1) iP)) (λx hx=>by have:=pB x hx;simp;omega))
    have OB:=xh (OL.o.trans (OX.aJ OL.o.size (λx hx=>by
     rcases aj.1 hx with rfl|hx
     .omega
     .have:=F.o x hx;omega)))
    have HSX:=xh (show aD ((rest.take (i+1)).map λr=>kH ⟨r.toArray⟩)=aD ((rest.take i).map λr=>kH ⟨r.toArray⟩)++e.cells from by
     rw[HT.o,ez,gH,fJ,HTT.o,HE.o];simp[aD])
    have EX:=xh (show ∀r∈rest.take (i+1),ke ⟨r.toArray⟩from λr hr=>by
     rw[HT.o]at hr
     rcases aB.1 hr with hr|hr
     .exact EO.o r hr
     .simp only[aI]at hr;rw[hr,HTT.o];exact PF.o)
    clear ea S3 ow f3 OW CW OX pB dn;go_wp2_with fail;rw[EA.o];go_wp2_with fail;go_roundw
    case rel=>exact⟨i+1,_,by omega,by go_num,CX.o,C2X.o,by rw[HSX.o];exact SX.o,RX.o,EX,OB.o,FX⟩
    case measure=>simp[intOf];omega
   .have KE:=xh (λw=>Vr w T fT);have PF:=xh fT;have HNO:=xh (show ¬lQ (r0::rest)from λhx=>fT (by rw[<-HTT.o];exact hx.2.1 _ (by rw[kV];exact kt h)));have C2L:=xh C2;have OL:=xh O;unfold E.agg E.zero at KE;clear fT S C6 C2 RS O;go_wp2_with fail;refine(KE.o _).mono ?_;rintro e' w2 ⟨rfl,dn⟩;have CW:=(C2L.o.below dn C2L.o.lt).alloc (.cells #[.string .empty,.string .empty,.int .i64 0] 111)
    have f0:(w2.alloc (.cells #[.string .empty,.string .empty,.int .i64 0] 111)).frozen? ⟨w.heap.size,0,none⟩=false:=CW.frozen 0 (by simp);have f1:(w2.alloc (.cells #[.string .empty,.string .empty,.int .i64 0] 111)).frozen? ⟨w.heap.size,1,none⟩=false:=CW.frozen 1 (by simp);have z0:(w2.alloc (.cells #[.string .empty,.string .empty,.int .i64 0] 111)).cell? ⟨w.heap.size,0,none⟩=some (.bool false):=CW.ab (i:=0) rfl
    have z1:(w2.alloc (.cells #[.string .empty,.string .empty,.int .i64 0] 111)).cell? ⟨w.heap.size,1,none⟩=some (.slice none 0 0):=CW.ab (i:=1) rfl;have CX:=xh ((CW.bU 0 (.bool false)).bU 1 (.slice none 0 0))
    have OX:=xh ((((ag.ai (S:=[]) (aC OL.o (ae dn (.cells #[.string .empty,.string .empty,.int .i64 0] 111)))).setCell (p:=⟨w.heap.size,0,none⟩) (λh=>absurd h (by simp)) (.bool false)).setCell (p:=⟨w.heap.size,1,none⟩) (λh=>absurd h (by simp)) (.slice none 0 0)).gD);have hwlt:=C2L.o.lt;clear CW dn;go_wp2_with fail;exact bodyPost_ret (iS rfl rfl CX.o) rfl ⟨.inl ⟨HNO.o,rfl⟩,OX.o⟩
  .obtain rfl:i=rest.length:=by omega
   rw[fL]at S EO;have HE:=xh (show nL (r0::rest)=rest.map λr=>kH ⟨r.toArray⟩from rfl);have HLF:=xh (show ux (r0::rest)=leaf from by rw[HR0.o];cases leaf<;>simp[ux]);rw[<-HE.o]at S;obtain⟨-,EN⟩:=aS.aD S;have KM:=xh (yI (w:=wr) leaf VA rest.length vc (nL (r0::rest)) EN (by omega))
   have HF:=xh (show(dL (nL (r0::rest)) leaf->lQ (r0::rest))/\(lQ (r0::rest)->dL (nL (r0::rest)) leaf)from⟨λhm=>⟨by rw[HR0.o];cases leaf<;>simp,EO.o,by rw[HLF.o];exact hm⟩,λhx=>by have:=hx.2.2;rw[HLF.o]at this;exact this⟩);have d0:wr.cell? ⟨w1.heap.size,0,none⟩=some (.bool leaf):=C6.ab (i:=0) rfl;have d1:wr.cell? ⟨w1.heap.size,1,none⟩=some (.slice VA rest.length vc):=C6.ab (i:=1) rfl;have SL:=xh S;have CL:=xh C6
   have C2L:=xh C2;have OL:=xh O;unfold bu at KM;clear S C6 C2 RS O EN;go_wp2_with fail;refine KM.o.mono ?_;rintro e' w2 ⟨⟨b,rfl,hb⟩,dn⟩;have CW:=C2L.o.below dn C2L.o.lt;have CN:=CL.o.below dn CL.o.lt;have f0:w2.frozen? ⟨w.heap.size,0,none⟩=false:=CW.frozen 0 (by simp);have f1:w2.frozen? ⟨w.heap.size,1,none⟩=false:=CW.frozen 1 (by simp);have z0:w2.cell? ⟨w.heap.size,0,none⟩=some (.bool false):=CW.ab (i:=0) rfl
   have z1:w2.cell? ⟨w.heap.size,1,none⟩=some (.slice none 0 0):=CW.ab (i:=1) rfl;have y0:w2.cell? ⟨w1.heap.size,0,none⟩=some (.bool leaf):=CN.ab (i:=0) rfl;have y1:w2.cell? ⟨w1.heap.size,1,none⟩=some (.slice VA rest.length vc):=CN.ab (i:=1) rfl;have hwlt:=C2L.o.lt
   cases b
   .have HNO:=xh (show ¬lQ (r0::rest)from λhx=>by have:=hb.2 (HF.o.2 hx);cases this);have CX:=xh ((CW.bU 0 (.bool false)).bU 1 (.slice none 0 0));have OX:=xh ((((ag.ai (S:=[]) (aC OL.o dn)).setCell (p:=⟨w.heap.size,0,none⟩) (λh=>absurd h (by simp)) (.bool false)).setCell (p:=⟨w.heap.size,1,none⟩) (λh=>absurd h (by simp)) (.slice none 0 0)).gD);clear CW CN dn hb d0 d1;go_wp2_with fail
    exact bodyPost_ret (iS rfl rfl CX.o) rfl ⟨.inl ⟨HNO.o,rfl⟩,OX.o⟩
   .have HYES:=xh (HF.o.1 (hb.1 rfl));have CX:=xh ((CW.bU 0 (.bool leaf)).bU 1 (.slice VA rest.length vc));have OX:=xh ((((ag.ai (S:=[]) (aC OL.o dn)).setCell (p:=⟨w.heap.size,0,none⟩) (λh=>absurd h (by simp)) (.bool leaf)).setCell (p:=⟨w.heap.size,1,none⟩) (λh=>absurd h (by simp)) (.slice VA rest.length vc)).gD)
    have SX:=xh ((SL.o.below dn).only (((ag.refl [w.heap.size] w2).setCell (p:=⟨w.heap.size,0,none⟩) (λ_=>by simp) (.bool leaf)).setCell (p:=⟨w.heap.size,1,none⟩) (λ_=>by simp) (.slice VA rest.length vc)) (λx hx=>by simp;exact λhxx=>hg2 (hxx▸hx)));clear CW CN dn hb d0 d1;go_wp2_with fail;exact bodyPost_ret (iS rfl rfl CX.o) rfl ⟨.inr (⟨HYES.o,VA,rest.length,vc,by rw[HLF.o];rfl,SX.o,xh (λx hx=>by have:=F.o x hx;omega)⟩),OX.o⟩
def FL(s:ByteArray)(w:World)(e:Ending)(w':World):Prop:=
 (cg s.data.toList≠0/\e=.returned (.tuple #[bu false none 0 0,.int .i64 (cg s.data.toList)])/\Below w.heap.size w w')\/(cg s.data.toList=0/\qm (cV s.data.toList) w e w')
theorem got_any(s:ByteArray)(w:World)(hs:s.size<=1000000):
  Calls prog 122 #[.string s] w (FL s w):=by
 by_cases hq:cg s.data.toList=0
 .have lift:∀{rs},cV s.data.toList=rs->Calls prog 122 #[.string s] w (qm rs w)->Calls prog 122 #[.string s] w (FL s w):=λh k=>k.mono λe w' h2=> .inr ⟨hq,by rw[h];exact h2⟩
  match xH:cV s.data.toList with
  |[]=>exact lift xH (got_nil s w hs hq xH)
  |r0::rest=>
   refine lift xH ?_;have both:∀leaf:Bool,r0=[if leaf then 1 else 2]->Calls prog 122 #[.string s] w (qm (r0::rest) w):=λleaf h=>by
    by_cases fc:rest=[]
    .subst fc;exact got_one s w hs hq r0 leaf h xH
    .exact Vu s w hs hq r0 rest leaf h fc xH
   by_cases h1:r0=[1]
   .exact both true h1
   .by_cases h2:r0=[2]
    .exact both false h2
    .exact got_odd s w hs hq r0 rest h1 h2 xH
 .have HQ:=xh hq;have B0:=aF.new w 118 #[.bool false,.slice none 0 0];have O0:=ae (Below.refl w.heap.size w) (.cells #[.bool false,.slice none 0 0] 118);have KA:=xh (ri s (w.alloc (.cells #[.bool false,.slice none 0 0] 118)) hs);unfold FL bu;have O0:=xh O0;have B0:=xh B0;unfold oO at KA;generalize cg s.data.toList=q at *;go_enter func122,ntmps122;go_wp2_with fail;refine KA.o.mono ?_;rintro e w1 ⟨v,rfl,bg,fr,hv⟩
  rcases hv with⟨h0,-⟩|⟨-,rfl⟩
  .exact absurd h0 hq
  have O1:=xh (aC O0.o bg);have B1:=xh (B0.o.below bg B0.o.lt);have f0:w1.frozen? ⟨w.heap.size,0,none⟩=false:=B1.o.frozen 0 (by simp);have f1:w1.frozen? ⟨w.heap.size,1,none⟩=false:=B1.o.frozen 1 (by simp);have z0:w1.cell? ⟨w.heap.size,0,none⟩=some (.bool false):=B1.o.ab (i:=0) rfl;have z1:w1.cell? ⟨w.heap.size,1,none⟩=some (.slice none 0 0):=B1.o.ab (i:=1) rfl;have BZ:=xh ((B1.o.bU 0 (.bool false)).bU 1 (.slice none 0 0))
  have OZ:=xh (((((ag.ai (S:=[]) O1.o).setCell (p:=⟨w.heap.size,0,none⟩) (λh=>absurd h (by simp)) (.bool false)).setCell (p:=⟨w.heap.size,1,none⟩) (λh=>absurd h (by simp)) (.slice none 0 0))).gD);have q2:(q==0)=false:=by simpa using hq
  clear fr bg KA;go_wp2_with fail;exact bodyPost_ret (iS rfl rfl BZ.o) rfl (.inl ⟨HQ.o,rfl,OZ.o⟩)
end Nd
namespace Nd
open Go.RowKit Sl
variable{l:List E}{leaf:Bool}
theorem rk(e:E):(uw e).data.toList=qk e:=by simp[uw]
theorem QQ(e:E):(qk e).drop 1=e.key.data.toList++(eS (e.aQ+1).toNat++e.val.data.toList):=rfl
theorem Az(e:E)(h:e.key.size<=32):mE (uw e)=e.key.size:=by
 unfold mE;rw[rk];show(UInt8.ofNat e.key.size).toNat=e.key.size;rw[iN];omega
theorem Dq(e:E):(uw e).size=3+e.key.size+e.val.size:=by
 unfold uw;rw[Sl.size_of_list,ql]
theorem Iy(e:E)(h:e.key.size<=32):ke (uw e):=by
 unfold ke;rw[Az e h,Dq];omega
theorem keyL(e:E):e.key.data.toList.length=e.key.size:=by simp
theorem Mq(e:E)(h:e.key.size<=32)(h1: -1<=e.aQ)(h2:e.aQ<=511):kH (uw e)=e:=by
 obtain⟨m,hm⟩:=eT (show 0<=e.aQ+1 by omega);have hk:=keyL e;have hd:=QQ e;have d2:(qk e).drop (1+e.key.size)=eS (e.aQ+1).toNat++e.val.data.toList:=by
  rw[<-ix,hd,sq (by omega),<-hk,yU,cI]
 have d3:(qk e).drop (3+e.key.size)=e.val.data.toList:=by
  rw[show 3+e.key.size=(1+e.key.size)+2 by omega,<-ix,d2];rfl
 unfold kH;rw[Az e h];have a1:(uw e).extract 1 (1+e.key.size)=e.key:=by
  rw[oN,rk,hd,kX (by omega),<-hk,fL]
 have a2:(uw e).extract (3+e.key.size) (uw e).size=e.val:=by
  rw[Dq,oN,rk,d3,cr (by simp)]
 have a3:bS (uw e).data.toList (1+e.key.size)=m:=by
  rw[rk];have g0:(qk e).getD (1+e.key.size) 0=UInt8.ofNat (m / 256):=by
   have:=congrArg (λl=>l.getD 0 0) d2;simp only[ib,gK,kY]at this;rw[ib,this,hm];rfl
  have g1:(qk e).getD (1+e.key.size+1) 0=UInt8.ofNat m:=by
   have:=congrArg (λl=>l.getD 1 0) d2;simp only[ib,gK]at this;rw[ib,this,hm];rfl
  unfold bS;rw[g0,g1,iN,iN];omega
 rw[a1,a2,a3];obtain⟨k,v,f⟩:=e;dsimp only at *;rw[show((m:Nat):Int)-1=f by omega]
theorem AA(hm:dL l leaf)(e:E)(he:e∈l):e.key.size<=32/\e.val.size<=40/\ -1<=e.aQ/\e.aQ<=511:=by
 obtain⟨i,hi,rfl⟩:=n8 he;have h2:=(Av l[i] leaf).1 (hm i hi l[i] (aG hi)).1;exact⟨h2.1,h2.2.1,h2.2.2.1,h2.2.2.2.1⟩
theorem AB(hm:dL l leaf):nL (ir leaf l)=l:=by
 unfold nL ir;rw[kV,jR];have:l.map ((λr=>kH ⟨r.toArray⟩) ∘ qk)=l.map id:=by
  apply gx;intro e he;obtain⟨b1,b2,b3,b4⟩:=AA hm e he;exact Mq e b1 b3 b4
 rw[this,List.map_id]
theorem AE(leaf:Bool)(l:List E):ux (ir leaf l)=leaf:=by
 unfold ux ir Dp
 cases leaf<;>simp
theorem Iz(hm:dL l leaf):lQ (ir leaf l):=by
 refine⟨?_,?_,?_⟩
 .unfold ir Dp
  cases leaf<;>simp
 .intro r hr;unfold ir at hr;rw[kV]at hr;obtain⟨e,he,rfl⟩:=dm.1 hr;exact Iy e (AA hm e he).1
 .rw[AB hm,AE];exact hm
def l0:List E:=[⟨⟨#[97]⟩,⟨#[120]⟩,-1⟩,⟨⟨#[99]⟩,⟨#[]⟩,7⟩]
variable{w:World}{t g j:Nat}{u:TypeId}{l:List E}{rest:List Value}{nt R:Int}
section
open Go.RowKit Sl
attribute [local go_sem ↓] Go.wp_at_zero Go.wp_at_succ bw
def kJ(l:List E)(i:Nat):Int:=max ((ak (l.take i):Int)-((ak l:Int)-ak (l.take i))) ((ak l:Int)-ak (l.take i)-ak (l.take i))
def wi(l:List E)(m t:Nat):Prop:=1<=t/\t<m/\(∀j,1<=j->j<m->kJ l t<=kJ l j)/\∀j,1<=j->j<t->kJ l t<kJ l j
theorem wj(l:List E)(k:Nat):(aD l).take (k*3)=aD (l.take k):=by
 induction l generalizing k with
 |nil=>simp[aD]
 |cons e l ih=>
  cases k with
  |zero=>simp[aD]
  |succ k=>
   rw[kI,n9,kI,show(k+1)*3=e.cells.length+k*3 by simp[E.cells];omega,List.take_length_add_append,ih]
theorem me(l:List E)(k:Nat):(aD l).drop (k*3)=aD (l.drop k):=by
 induction l generalizing k with
 |nil=>simp[aD]
 |cons e l ih=>
  cases k with
  |zero=>simp[aD]
  |succ k=>
   rw[kI,Ef,show(k+1)*3=e.cells.length+k*3 by simp[E.cells];omega,List.drop_length_add_append,ih]
theorem lE(l:List E):∀v∈aD l,v.oneCell'=true:=by
 intro v hv;simp only[aD,mO]at hv;obtain⟨e,_,hv⟩:=hv;simp[E.cells]at hv
 rcases hv with rfl|rfl|rfl<;>rfl
theorem xI{P:Program}{t:TypeId}{v:Value}{n:Nat}{l0:List E}(S:aS w t 3 v n (aD l0))(B:aF w g u (aD l++rest).toArray)(o m c:Nat)(hom:o+m<=l.length)
 (T ty:TypeId)(z:Value)(bytes:Nat)(ht:P.underlying T=some (.slice t))(nA:(P.info? t).map (λi=>(i.zero,i.size,i.bytes))=some (some z,3,bytes))(hz:z.cells.size=3)
 (Gx:n+m<=maxLen)(hb:(n+m)*bytes<=140737488355328):
  ∃v' w',dZ P T ty w v (.slice (some ⟨g,o*3,none⟩) m c)= .ok v' w'/\aS w' t 3 v' (n+m) (aD (l0++(l.drop o).take m))/\ag (ah v) w w'/\(∀x∈ah v',x∈ah v\/w.heap.size<=x):=by
 obtain⟨i0,hi,ku,js,ki⟩:=info_parts nA;have hlen:(aD ((l.drop o).take m)).length=m*3:=by rw[ar,bK,dY];congr 1;omega
 obtain⟨v',w',h1,h2,h3,h4⟩:=dC (P:=P) S T ty i0 z bytes ht hi ku js ki hz (by omega)
  ⟨g,o*3,none⟩ m c (aD ((l.drop o).take m)) hlen (λj x hx=>by
   have hj:j<m*3:=by rw[<-hlen];exact(aM.1 hx).1
   rw[fZ];refine(B.cell _).trans ?_;rw[<-wj,<-me,sy,if_pos hj,gK]at hx;rw[dh,bE (by rw[ar];omega)];exact hx) (lE _) Gx hb
 exact⟨v',w',h1,by rw[gH];exact h2,h3,h4⟩
theorem QR(B:aF w g u (aD l++rest).toArray)(j:Nat)(e:E)(he:l[j]?=some e):py w (some ⟨g,j*3,none⟩) 1 [e]:=by
 refine⟨rfl,λk x hx=>?_⟩;have hk:k=0:=by have:=(aM.1 hx).1;simp at this;exact this
 subst hk;simp only[yW,Option.some.injEq]at hx;subst hx;have:=Iw B j e he;rw[fZ,bl]at this;exact⟨_,rfl,by rw[oo,Addr.add,if_pos rfl];exact this⟩
theorem Vv(l:List E)(i:Nat):0<=kJ l i:=by unfold kJ;omega
def rl(l:List E)(j t:Nat)(nt:Int):Prop:=(j=0/\nt= -1/\t=1)\/(0<j/\wi l (j+1) t/\nt=kJ l t)
theorem Dr(h:rl l j t nt)(hR:R=kJ l (j+1))(hb:nt<0\/R<nt):rl l (j+1) (j+1) R:=by
 have lt:∀i,1<=i->i<j+1->kJ l (j+1)<kJ l i:=λi hi1 N4=>by
  rcases h with⟨rfl,_,_⟩|⟨h0,hB,yg⟩
  .omega
  .have:=hB.2.2.1 i hi1 N4;have:=Vv l t;omega
 refine .inr ⟨by omega,⟨by omega,by omega,λi hi1 N4=>?_,lt⟩,hR⟩
 rcases dX i (j+1)with h1|h1
 .have:=lt i hi1 h1;omega
 .obtain rfl:i=j+1:=by omega
  exact jg _
theorem Ds(h:rl l j t nt)(hR:R=kJ l (j+1))(h1:¬nt<0)(h2:¬R<nt):rl l (j+1) t nt:=by
 rcases h with⟨rfl,hb,_⟩|⟨h0,hB,yg⟩
 .omega
 .refine .inr ⟨by omega,⟨hB.1,by have:=hB.2.1;omega,λi hi1 N4=>?_,hB.2.2.2⟩,yg⟩
  rcases dX i (j+1)with h3|h3
  .exact hB.2.2.1 i hi1 h3
  .obtain rfl:i=j+1:=by omega
   omega
theorem Mr(leaf:Bool)(A:Option Addr)(n c:Nat)(l:List E)(S:aS w 111 3 (.slice A n c) n (aD l))(hn:2<=n)(RU:n<=100)(hb:ak l<=100000):
  Calls prog 129 #[bu leaf A n c] w λr w'=>(∃t A1 c1 A2 c2,r=.returned (.tuple #[bu leaf A1 t c1,bu leaf A2 (n-t) c2])/\wi l n t/\aS w' 111 3 (.slice A1 t c1) t (aD (l.take t))/\aS w' 111 3 (.slice A2 (n-t) c2) (n-t) (aD (l.drop t))/\∀x∈ah (.slice A2 (n-t) c2),w.heap.size<=x)/\Below w.heap.size w w':=by
 obtain⟨g,cap,rest,hv,BG,Sc,LM⟩:=S.form (by omega) (by omega);simp only[Value.slice.injEq,true_and]at hv;obtain⟨rfl,rfl⟩:=hv;have uQ:c<=maxLen:=by obtain⟨_,_,_,_,h⟩:=S.uP;exact h
 have tC:l.length=n:=by have:=S.1;rw[ar]at this;omega
 have nz:=xh tC;have hgl:=BG.lt;have B1:=xh (((aF.new w 118 #[.bool leaf,.slice (some ⟨g,0,none⟩) n c]).alloc (.cells #[.bool false,.slice none 0 0] 118)).alloc (.cells #[.bool false,.slice none 0 0] 118));have B2:=(aF.new (w.alloc (.cells #[.bool leaf,.slice (some ⟨g,0,none⟩) n c] 118)) 118 #[.bool false,.slice none 0 0]).alloc (.cells #[.bool false,.slice none 0 0] 118)
 have B3:=aF.new ((w.alloc (.cells #[.bool leaf,.slice (some ⟨g,0,none⟩) n c] 118)).alloc (.cells #[.bool false,.slice none 0 0] 118)) 118 #[.bool false,.slice none 0 0];rw[Ax]at B2;rw[Ax,Ax]at B3;have B2:=xh B2;have B3:=xh B3;have O0:=xh (ae (ae (ae (Below.refl w.heap.size w) (.cells #[.bool leaf,.slice (some ⟨g,0,none⟩) n c] 118)) (.cells #[.bool false,.slice none 0 0] 118)) (.cells #[.bool false,.slice none 0 0] 118))
 have G0:=xh (((BG.alloc (.cells #[.bool leaf,.slice (some ⟨g,0,none⟩) n c] 118)).alloc (.cells #[.bool false,.slice none 0 0] 118)).alloc (.cells #[.bool false,.slice none 0 0] 118));have E0:=xh (((S.alloc (.cells #[.bool leaf,.slice (some ⟨g,0,none⟩) n c] 118)).alloc (.cells #[.bool false,.slice none 0 0] 118)).alloc (.cells #[.bool false,.slice none 0 0] 118));clear BG S tC;unfold bu;go_enter func129,ntmps129
 have bx1:(((w.alloc (.cells #[.bool leaf,.slice (some ⟨g,0,none⟩) n c] 118)).alloc (.cells #[.bool false,.slice none 0 0] 118)).alloc (.cells #[.bool false,.slice none 0 0] 118)).cell? ⟨w.heap.size,1,none⟩=some (.slice (some ⟨g,0,none⟩) n c):=B1.o.ab (i:=1) rfl;go_wp2_with fail;generalize hW:(((w.alloc (.cells #[.bool leaf,.slice (some ⟨g,0,none⟩) n c] 118)).alloc (.cells #[.bool false,.slice none 0 0] 118)).alloc (.cells #[.bool false,.slice none 0 0] 118))=W at *;clear hW
 refine(Dn (w:=W) (some ⟨g,0,none⟩) n c l (aS.aD E0.o).2 (by omega) (by omega)).mono ?_;rintro r w1 ⟨rfl,bg⟩;have O1:=xh (aC O0.o bg);have C1:=xh (B1.o.below bg B1.o.lt);have C2:=xh (B2.o.below bg B2.o.lt);have C3:=xh (B3.o.below bg B3.o.lt);have G1:=xh (G0.o.below bg G0.o.lt);have hwl:=C1.o.lt;have x1:w1.cell? ⟨w.heap.size,1,none⟩=some (.slice (some ⟨g,0,none⟩) n c):=C1.o.ab (i:=1) rfl
 obtain⟨all,nm⟩:∃all,ak l=all:=⟨_,rfl⟩;have HALL:=xh nm;rw[nm]at hb ⊢;have hm1:min (1:Int) (n:Int)=1:=by omega
 clear bg nm bx1;go_wp2_with fail;go_quiet (fail);go_wp2_with fail;have x0:w1.cell? ⟨w.heap.size,0,none⟩=some (.bool leaf):=C1.o.ab (i:=0) rfl
 go_loopw [5,6,7,8] (λbv av lv iv wr=> ∃(j t:Nat) (nt:Int),j+1<=n/\bv=.int .i64 nt/\av=.int .i64 (t:Nat)/\lv=.int .i64 (ak (l.take j):Nat)/\iv=.int .i64 ((j:Int)+1)/\Hid (rl l j t nt)/\Below w1.heap.size w1 wr) (λ_ _ _ iv _=>n-(intOf iv).toNat)
 case atStart=>exact⟨0,1,-1,by omega,rfl,rfl,by simp[ak],rfl,xh (.inl ⟨rfl,rfl,rfl⟩),df (Below.refl _ _) _⟩
 case round=>
  obtain⟨j,t,nt,hj,rfl,rfl,rfl,rfl,BI,O⟩:=hrel;have D1:=xh (C1.o.below O C1.o.lt);have y1:wr.cell? ⟨w.heap.size,1,none⟩=some (.slice (some ⟨g,0,none⟩) n c):=D1.o.ab (i:=1) rfl
  by_cases h:j+1<n
  .have he:=aG (show j<l.length by rw[nz.o];omega);obtain⟨e,hee⟩:∃e,l[j]'(by rw[nz.o];omega)=e:=⟨_,rfl⟩;rw[hee]at he;have hs:=lD l j e he;have ht:=qh l (j+1);have hone:ak [e]=e.key.size+e.val.size+7:=by simp[ak]
   rw[HALL.o]at ht;have KB:=xh (λcc=>Dn (w:=wr) (some ⟨g,j*3,none⟩) 1 cc [e] (QR (G1.o.below O G1.o.lt) j e he) (by omega) (by rw[hone];omega));have HRF:=xh (show kJ l (j+1)=max ((ak (l.take (j+1)):Int)-((all:Int)-ak (l.take (j+1)))) ((all:Int)-ak (l.take (j+1))-ak (l.take (j+1)))from by unfold kJ;rw[HALL.o]);obtain⟨P,hP⟩:∃P,ak (l.take j)=P:=⟨_,rfl⟩;obtain⟨q,hq⟩:∃q,ak (l.take (j+1))=q:=⟨_,rfl⟩
   obtain⟨ce,hce⟩:∃ce,ak [e]=ce:=⟨_,rfl⟩;rw[hce]at KB hone;rw[hP,hq]at hs;rw[hq]at ht HRF;rw[hP];have HQ:=xh hq;have hqP:(P:Int)+(ce:Int)=(q:Int):=by omega
   have s1:IntKind.i64.wrap ((P:Int)+(ce:Int))=(q:Int):=by rw[hqP];exact IntWalk.i64_in _ (by omega)
   have s2:IntKind.i64.wrap ((all:Int)-(q:Int))=(all:Int)-(q:Int):=IntWalk.i64_in _ (by omega);have s3:IntKind.i64.wrap ((q:Int)-((all:Int)-(q:Int)))=(q:Int)-((all:Int)-(q:Int)):=IntWalk.i64_in _ (by omega);have s4:IntKind.i64.wrap ((all:Int)-(q:Int)-(q:Int))=(all:Int)-(q:Int)-(q:Int):=IntWalk.i64_in _ (by omega);have s5:IntKind.i64.wrap (j:Int)=(j:Int):=IntWalk.i64_in _ (by omega);have s6:IntKind.i64.wrap ((j:Int)+1-1)=(j:Int):=by rw[Ec];exact s5
   have s7:IntKind.i64.wrap ((j:Int)+1+1)=(j:Int)+1+1:=IntWalk.i64_in _ (by omega);have s8:(j:Int)+1<(n:Int):=by omega
   have s9:(j:Int)<=(j:Int)+1:=by omega
   have s10:(j:Int)+1<=(c:Int):=by omega
   have s11:((j:Int)+1).toNat=j+1:=by omega
   have s12:(0:Int)<=(j:Int)+1:=by omega
   have OO:=xh O;clear he hee hs hone hP hq hce O;go_wp2_with fail;refine(KB.o _).mono ?_;rintro r w2 ⟨rfl,dn⟩;have O2:=xh (aC OO.o dn);clear dn;go_wp2_with fail
   all_goals
    have hRI:∀R:Int,R=(if((q:Int)-((all:Int)-q))<(all:Int)-q-q then(all:Int)-q-q else(q:Int)-((all:Int)-q))->R=kJ l (j+1):=λR h=>by rw[h,HRF.o];split<;>omega
    refine⟨?_,by simp[intOf];omega⟩
    first
     |exact⟨j+1,t,nt,by omega,rfl,rfl,by rw[HQ.o],by go_num,xh (Ds BI.o (hRI _ (by first|rfl|(split<;>omega))) (by first|assumption|omega) (by first|assumption|omega)),O2.o⟩
     |exact⟨j+1,j+1,_,by omega,rfl,by go_num,by rw[HQ.o],by go_num,xh (Dr BI.o (hRI _ (by first|rfl|(split<;>omega))) (by first|(left;assumption)|(right;assumption)|omega)),O2.o⟩
  .obtain rfl:n=j+1:=by omega
   have D2:=xh (C2.o.below O C2.o.lt);have D3:=xh (C3.o.below O C3.o.lt);have G2:=xh (G1.o.below O G1.o.lt);have y0:wr.cell? ⟨w.heap.size,0,none⟩=some (.bool leaf):=D1.o.ab (i:=0) rfl;have HBT:=xh (show wi l (j+1) t from by
    rcases BI.o with⟨rfl,_,_⟩|⟨_,hB,_⟩
    .omega
    .exact hB)
   have ht1:=HBT.o.1;have ht2:=HBT.o.2.1;have OO:=xh (aC O1.o O);have s8:¬(j:Int)+1<((j+1:Nat):Int):=by omega
   have t1:(t:Int)<=(c:Int):=by omega
   have t2:(t:Int)<=((j+1:Nat):Int):=by omega
   have t3:t<c:=by omega
   have t4:¬t=c:=by omega
   clear O;go_wp2_with fail;have t5:(t:Int)<=(j:Int)+1:=by omega
   have t6:¬c=t:=by omega
   have HK:=xh (show ∀W',ag [w.heap.size+1,w.heap.size+1+1] wr W'->(W'.cell? ⟨w.heap.size,0,none⟩=some (.bool leaf)/\W'.cell? ⟨w.heap.size,1,none⟩=some (.slice (some ⟨g,0,none⟩) (j+1) c))from λW' ho=>⟨(D1.o.only ho (by simp;omega)).ab (i:=0) rfl,(D1.o.only ho (by simp;omega)).ab (i:=1) rfl⟩)
   have HK0:=xh (show ∀W',ag [] wr W'->(W'.cell? ⟨w.heap.size,0,none⟩=some (.bool leaf)/\W'.cell? ⟨w.heap.size,1,none⟩=some (.slice (some ⟨g,0,none⟩) (j+1) c))from λW' ho=>HK.o W' (ho.mono (λx hx _=>absurd hx (by simp))));have OD:=xh ((ag.refl [] wr).drew);have GD:=xh (G2.o.drew);have Qt:=D2.o.lt;have hd3:=D3.o.lt
   have AP1:=xh (show ∀W' u,aF W' g u (aD l++rest).toArray->∃V1 k1 w2,dZ prog 108 108 W' (.slice none 0 0) (.slice (some ⟨g,0,none⟩) t t)= .ok (.slice V1 t k1) w2/\aS w2 111 3 (.slice V1 t k1) t (aD (l.take t))/\ag [] W' w2/\(∀x∈ah (.slice V1 t k1),W'.heap.size<=x)from λW' u B=>by
    obtain⟨v,w2,e1,S,o,f⟩:=xI (P:=prog) (l0:=[]) (aS.nil W' 111 3) B 0 t t (by rw[nz.o];omega) 108 108 (.agg #[.string .empty,.string .empty,.int .i64 0]) 40 underlying108 (by kernel_rfl) rfl (by unfold maxLen;omega) (by omega);rw[bl,cI,Eg]at S;obtain⟨V1,k1,rfl⟩:=ax S;exact⟨V1,k1,w2,e1,S,o,λx hx=>(f x hx).elim (λh=>by simp[ah]at h) id⟩)
   have AP2:=xh (show ∀W' u,aF W' g u (aD l++rest).toArray->∃V1 k1 w2,dZ prog 108 108 W' (.slice none 0 0) (.slice (some ⟨g,t*3,none⟩) (j+1-t) (c-t))= .ok (.slice V1 (j+1-t) k1) w2/\aS w2 111 3 (.slice V1 (j+1-t) k1) (j+1-t) (aD (l.drop t))/\ag [] W' w2/\(∀x∈ah (.slice V1 (j+1-t) k1),W'.heap.size<=x)from λW' u B=>by
    obtain⟨v,w2,e1,S,o,f⟩:=xI (P:=prog) (l0:=[]) (aS.nil W' 111 3) B t (j+1-t) (c-t) (by rw[nz.o];omega) 108 108 (.agg #[.string .empty,.string .empty,.int .i64 0]) 40 underlying108 (by kernel_rfl) rfl (by unfold maxLen;omega) (by omega);rw[bl,cI,cr (by rw[dY,nz.o];exact Nat.le_refl _)]at S;obtain⟨V1,k1,rfl⟩:=ax S;exact⟨V1,k1,w2,e1,S,o,λx hx=>(f x hx).elim (λh=>by simp[ah]at h) id⟩)
   refine wp_region_held_drew (S:=λW'=>W'.cell? ⟨w.heap.size,0,none⟩=some (.bool leaf)/\W'.cell? ⟨w.heap.size,1,none⟩=some (.slice (some ⟨g,0,none⟩) (j+1) c)) (by kernel_rfl) (HK0.o _ OD.o) (λau=>?_);refine cP [(0,53),(1,54),(2,55),(3,56),(4,57),(5,58),(6,59),(9,62),(10,63),(11,64),(12,65),(13,66),(14,67)] ?_
   iterate 13 refine bj ?_
   refine cQ 7 60 λK hK=>?_
   .obtain⟨Va,ka,w2,ea,Sa,oa,fa⟩:=AP1.o _ _ GD.o;have Oa:=xh (OD.o.trans oa);obtain⟨Vb,kb,w3,eb,Sb,ob,fb⟩:=AP2.o _ _ (GD.o.only oa (by simp));have Ob:=xh (Oa.o.trans ob);have E1:=xh ea;have E2:=xh eb;have Sa3:=Sa.only ob (by simp);have Fa:=xh (show ∀x∈ah _,wr.heap.size<=x from fa);have Fb:=xh (show ∀x∈ah _,wr.heap.size<=x from λx hx=>aq oa.size (fb x hx));have D23:=D2.o.only Ob.o (by simp);have D33:=D3.o.only Ob.o (by simp)
    clear ea eb;go_simp;rw[E1.o];go_simp;refine bz hK (HK0.o _ Oa.o) (λau=>?_);refine cP [(8,61)] ?_
    iterate 1 refine bj ?_
    refine cQ 15 68 λK hK=>?_;go_simp;rw[E2.o];go_simp;refine bz hK (HK0.o _ Ob.o) (λau=>?_);refine cP [(16,69)] ?_
    iterate 1 refine bj ?_
    refine zpe ?_;have p0:w3.frozen? ⟨w.heap.size+1,0,none⟩=false:=D23.frozen 0 (by simp);have p1:w3.frozen? ⟨w.heap.size+1,1,none⟩=false:=D23.frozen 1 (by simp);have p2:w3.cell? ⟨w.heap.size+1,0,none⟩=some (.bool false):=D23.ab (i:=0) rfl;have p3:w3.cell? ⟨w.heap.size+1,1,none⟩=some (.slice none 0 0):=D23.ab (i:=1) rfl;have r0:w3.frozen? ⟨w.heap.size+1+1,0,none⟩=false:=D33.frozen 0 (by simp);have r1:w3.frozen? ⟨w.heap.size+1+1,1,none⟩=false:=D33.frozen 1 (by simp)
    have r2:w3.cell? ⟨w.heap.size+1+1,0,none⟩=some (.bool false):=D33.ab (i:=0) rfl;have r3:w3.cell? ⟨w.heap.size+1+1,1,none⟩=some (.slice none 0 0):=D33.ab (i:=1) rfl;have OX1:=xh (((Ob.o.mono (S':=[w.heap.size+1,w.heap.size+1+1]) (λx hx _=>absurd hx (by simp))).setCell (p:=⟨w.heap.size+1,0,none⟩) (λ_=>by simp) (.bool leaf)).setCell (p:=⟨w.heap.size+1,1,none⟩) (λ_=>by simp) (.slice Va t ka))
    have OX2:=xh ((OX1.o.setCell (p:=⟨w.heap.size+1+1,0,none⟩) (λ_=>by simp) (.bool leaf)).setCell (p:=⟨w.heap.size+1+1,1,none⟩) (λ_=>by simp) (.slice Vb (j+1-t) kb));have BX2:=xh ((((D23.bU 0 (.bool leaf)).bU 1 (.slice Va t ka)).aQ (p:=⟨w.heap.size+1+1,0,none⟩) (by simp) (.bool leaf)).aQ (p:=⟨w.heap.size+1+1,1,none⟩) (by simp) (.slice Vb (j+1-t) kb))
    have BX3:=xh ((((D33.aQ (p:=⟨w.heap.size+1,0,none⟩) (by simp) (.bool leaf)).aQ (p:=⟨w.heap.size+1,1,none⟩) (by simp) (.slice Va t ka)).bU 0 (.bool leaf)).bU 1 (.slice Vb (j+1-t) kb))
    have OS:=xh ((((((ag.refl [w.heap.size+1,w.heap.size+1+1] w3).setCell (p:=⟨w.heap.size+1,0,none⟩) (λ_=>by simp) (.bool leaf)).setCell (p:=⟨w.heap.size+1,1,none⟩) (λ_=>by simp) (.slice Va t ka)).setCell (p:=⟨w.heap.size+1+1,0,none⟩) (λ_=>by simp) (.bool leaf)).setCell (p:=⟨w.heap.size+1+1,1,none⟩) (λ_=>by simp) (.slice Vb (j+1-t) kb)));have SX1:=xh (Sa3.only OS.o (λx hx=>by have:=Fa.o x hx;simp;omega))
    have SX2:=xh (Sb.only OS.o (λx hx=>by have:=Fb.o x hx;simp;omega));have OB:=xh (OO.o.trans (OX2.o.aJ OO.o.size (λx hx=>by simp at hx;omega)));clear Sa Sb Sa3 oa ob fa fb D23 D33;refine nB 17 λK hK=>?_;go_simp;refine bz hK (HK.o _ OX1.o) (λau=>?_);refine nB 18 λK hK=>?_;go_simp;refine bz hK (HK.o _ OX2.o) (λau=>?_);refine wpAnyH_done (by kernel_rfl) ?_ _;go_wp2_with fail
    exact bodyPost_ret (Mn rfl rfl rfl BX2.o BX3.o) rfl ⟨⟨t,_,_,_,_,rfl,HBT.o,SX1.o,SX2.o,λx hx=>aq OO.o.size (Fb.o x hx)⟩,OB.o⟩
end
section
open Go.RowKit Sl Go.Deep Go.ChangeShapes Go.WideShapes
def cost(e:E):Nat:=e.key.size+e.val.size+7
theorem Cl(l m:List E):ak (l++m)=ak l+ak m:=by simp[ak]
theorem xJ(l:List E)(t:Nat):ak l=ak (l.take t)+ak (l.drop t):=by rw[<-Cl,kW]
theorem AF(leaf:Bool)(l:List E):jl (ir leaf l)=223-(ak l:Int):=by
 unfold jl ir ak;have h:∀l:List E,((l.map qk).map λr=>4+r.length).sum=(l.map λe=>e.key.size+e.val.size+7).sum:=by
  intro l
  induction l with
  |nil=>rfl
  |cons e l ih=>simp only[fJ,kU,ih,ql];omega
 have hk:(Dp leaf).length=1:=by unfold Dp;split<;>rfl
 rw[fJ,kU,h,hk];omega
theorem Dt{m:Nat}(l:List E)(hc:∀e∈l,cost e<=m)(hn:2<=l.length):∃i,1<=i/\i<l.length/\kJ l i<=m:=by
 have step:∀k,k+1<l.length->(∃i,1<=i/\i<l.length/\kJ l i<=m)\/2*ak (l.take (k+1))<ak l:=by
  intro k
  induction k with
  |zero=>
   intro hk
   by_cases h:2*ak (l.take 1)<ak l
   .exact .inr h
   .refine .inl ⟨1,by omega,by omega,?_⟩;have he:=aG (show 0<l.length by omega);have hs:=lD l 0 _ he;have hx:=hc _ (kt (show 0<l.length by omega));unfold cost at hx;have ht:=qh l 1;rw[iL]at hs;have h0:ak ([]:List E)=0:=rfl;rw[bl]at hs;unfold kJ;omega
  |succ k ih=>
   intro hk
   rcases ih (by omega)with h|h
   .exact .inl h
   .by_cases h2:2*ak (l.take (k+1+1))<ak l
    .exact .inr h2
    .have he:=aG (show k+1<l.length by omega);have hs:=lD l (k+1) _ he;have hx:=hc _ (kt (show k+1<l.length by omega));unfold cost at hx
     by_cases h3:2*ak (l.take (k+1+1))<=ak l+m
     .refine .inl ⟨k+1+1,by omega,by omega,?_⟩;unfold kJ;omega
     .refine .inl ⟨k+1,by omega,by omega,?_⟩;unfold kJ;omega
 rcases step (l.length-2) (by omega)with h|h
 .exact h
 .refine⟨l.length-1,by omega,by omega,?_⟩;rw[show l.length-2+1=l.length-1 by omega]at h;have he:=aG (show l.length-1<l.length by omega);have hs:=lD l (l.length-1) _ he;have hx:=hc _ (kt (show l.length-1<l.length by omega));unfold cost at hx;rw[show l.length-1+1=l.length by omega,fL]at hs;unfold kJ;omega
theorem QT(hc:∀e∈l,cost e<=79)(hn:2<=l.length)(hb:ak l<=302)(h:wi l l.length t):ak (l.take t)<=223/\ak (l.drop t)<=223:=by
 obtain⟨i,h1,h2,h3⟩:=Dt l hc hn;have h4:=h.2.2.1 i h1 h2;have h5:=xJ l t;unfold kJ at h3 h4;omega
end
attribute [local go_sem ↓] Go.wp_at_zero Go.wp_at_succ
theorem Mt(a b:ByteArray)(w:World):
  Calls prog 161 #[.string a,.string b] w λe w'=>e=.returned (.int .i64 (Lib.compareBytes a.data.toList b.data.toList))/\Below w.heap.size w w':=by
 go_enter func161,ntmps161;go_wp2_with fail;rw[run_callFunc_extern func205 (by kernel_rfl) (by kernel_rfl) (by kernel_rfl) (e:=Extern.BytealgCompare.compare) (by kernel_rfl),Lib.run_compareString];simp only[Result.andThen];rw[Oper.upon_value]
 go_wp2
 go_ret;exact⟨rfl,Below.refl _ _⟩
theorem IA(a b:ByteArray)(w:World):
  Calls prog 115 #[.string a,.string b] w λe w'=>e=.returned (.int .i64 (Lib.compareBytes a.data.toList b.data.toList))/\Below w.heap.size w w':=by
 have K:=xh (Mt a b w);go_enter func115,ntmps115;go_wp2_with fail;refine K.o.mono ?_;rintro e w1 ⟨rfl,hb⟩;have HB:=xh hb;go_wp2_with fail;go_ret;exact⟨rfl,HB.o⟩
theorem qX(e:E)(k:ByteArray)(w:World):
  Calls prog 114 #[e.agg,.string k] w λr w'=>r=.returned (.int .i64 (Lib.compareBytes e.key.data.toList k.data.toList))/\Below w.heap.size w w':=by
 have O0:=xh ((Below.refl w.heap.size w).alloc (Nat.le_refl _) (.cells #[.string e.key,.string e.val,.int .i64 e.aQ] 111));have B0:=aF.new w 111 #[.string e.key,.string e.val,.int .i64 e.aQ];have c0:=B0.ab (i:=0) rfl;have K:=xh (λw=>IA e.key k w);clear B0;unfold E.agg;go_enter func114,ntmps114;go_wp2_with fail;refine(K.o _).mono ?_;rintro e w1 ⟨rfl,hb⟩;have HB:=xh (aC O0.o hb);clear hb;go_wp2_with fail;go_ret;exact⟨rfl,HB.o⟩
def rP(e:E)(k:ByteArray):Int:=Lib.compareBytes e.key.data.toList k.data.toList
def rm(l:List E)(key:ByteArray)(k:Nat):Prop:=k<=l.length/\(∀e,0<k->l[k-1]?=some e->rP e key<0)/\(∀e,l[k]?=some e->0<=rP e key)
def Du(l:List E)(key:ByteArray)(k:Nat):Prop:= ∃e,l[k]?=some e/\rP e key=0
theorem IB{w:World}(A:Option Addr)(n c:Nat)(l:List E)(key:ByteArray)(h:py w A n l)(hn:n<=1000000):
  Calls prog 113 #[.slice A n c,.string key,.func (Fn.func 114) #[] #[]] w λr w'=>(∃k b,r=.returned (.tuple #[.int .i64 (k:Nat),.bool b])/\rm l key k/\(b=true↔Du l key k))/\Below w.heap.size w w':=by
 have hl:=xh h.1;have H0:=xh h;clear h;go_enter func113,ntmps113;go_wp2_with fail
 go_loopw [9,10] (λiv jv wr=> ∃i j:Nat,i<=j/\j<=n/\iv=.int .i64 i/\jv=.int .i64 j/\Hid (∀e,0<i->l[i-1]?=some e->rP e key<0)/\Hid (∀e,l[j]?=some e->0<=rP e key)/\Below w.heap.size w wr) (λiv jv _=>(intOf jv).toNat-(intOf iv).toNat)
 case atStart=>exact⟨0,n,bf _,Nat.le_refl _,rfl,rfl,xh (λe h=>absurd h (yu _)),xh (λe h=>by have:=(aM.1 h).1;have:=hl.o;omega),Below.refl _ _⟩
 case round=>
  obtain⟨i,j,hij,hj,rfl,rfl,LO,HI,hb⟩:=hrel
  by_cases h:i<j
  .obtain⟨m,hm⟩:∃m,(i+j) / 2=m:=⟨_,rfl⟩;have hmj:m<j:=by omega
   have hmi:i<=m:=by omega
   have hmI:((i:Int)+(j:Int)) / 2=(m:Int):=by omega
   obtain⟨ad,e,rfl,he,AT⟩:=(H0.o.below hb).at m (by omega);have HB:=xh hb;have a0:=AT.c0;have a1:=AT.c1;have a2:=AT.c2;have e1:IntKind.i64.wrap ((i:Int)+(j:Int))=(i:Int)+(j:Int):=IntWalk.i64_in _ (by omega);have e2:IntKind.u64.wrap ((i:Int)+(j:Int))=(i:Int)+(j:Int):=IntWalk.u64_in _ (by omega);have e3:IntKind.i64.wrap (m:Int)=(m:Int):=IntWalk.i64_in _ (by omega);have hmn:m<n:=by omega
   have KF:=xh (qX e key wr);have HE:=xh he;unfold E.agg at KF;clear AT hb he;obtain⟨q,hq⟩:∃q,Lib.compareBytes e.key.data.toList key.data.toList=q:=⟨_,rfl⟩;have HQ:=xh (show rP e key=q from hq);rw[hq]at KF;clear hq;go_wp2_with fail;refine KF.o.mono ?_;rintro r w1 ⟨rfl,bg⟩;have GY:=xh (aC HB.o bg);clear bg
   by_cases hq:q<0
   .have HLO:=xh (show ∀x,0<m+1->l[m+1-1]?=some x->rP x key<0 from λx _ hx=>by
     rw[oe,HE.o]at hx;injection hx with hx
     rw[<-hx,HQ.o];exact hq)
    go_wp2_with fail;go_roundw
    case rel=>exact⟨m+1,j,by omega,hj,by go_num,rfl,HLO,HI,GY.o⟩
    case measure=>simp[intOf];omega
   .have HHI:=xh (show ∀x,l[m]?=some x->0<=rP x key from λx hx=>by
     rw[HE.o]at hx;injection hx with hx
     rw[<-hx,HQ.o];omega)
    go_wp2_with fail;go_roundw
    case rel=>exact⟨i,m,hmi,by omega,rfl,rfl,LO,HHI,GY.o⟩
    case measure=>simp[intOf];omega
  .obtain rfl:i=j:=by omega
   have HB:=xh hb;have uU:=xh (show rm l key i from⟨by have:=hl.o;omega,LO.o,HI.o⟩)
   by_cases rV:i<n
   .obtain⟨ad,e,rfl,he,AT⟩:=(H0.o.below hb).at i rV;have a0:=AT.c0;have a1:=AT.c1;have a2:=AT.c2;have KF:=xh (qX e key wr);have HE:=xh he;unfold E.agg at KF;clear AT hb he;obtain⟨q,hq⟩:∃q,Lib.compareBytes e.key.data.toList key.data.toList=q:=⟨_,rfl⟩;have HQ:=xh (show rP e key=q from hq);rw[hq]at KF;clear hq;have HI2:(i:Int)<(n:Int):=by omega
    go_wp2_with fail;refine KF.o.mono ?_;rintro r w1 ⟨rfl,bg⟩;have GY:=xh (aC HB.o bg);clear bg
    by_cases hq:q=0
    .subst hq;go_wp2_with fail;go_ret2;exact⟨⟨i,true,rfl,uU.o,by simp only[true_iff];exact⟨e,HE.o,HQ.o⟩⟩,GY.o⟩
    .go_wp2_with fail;go_ret2;refine⟨⟨i,false,by simp[hq],uU.o,?_⟩,GY.o⟩;simp only[oW,false_iff];rintro⟨x,hx,h0⟩;rw[HE.o]at hx;injection hx with hx
     subst hx;exact hq (HQ.o.symm.trans h0)
   .have hin2:¬(i:Int)<(n:Int):=by omega
    clear hb;go_wp2_with fail;go_ret2;refine⟨⟨i,.inl ⟨rfl,uU.o,?_⟩⟩,HB.o⟩;rintro⟨x,hx,h0⟩;have:=(aM.1 hx).1;have:=hl.o;omega
variable{w:World}
theorem iF(leaf:Bool)(A:Option Addr)(n c:Nat)(l:List E)(key:ByteArray)(h:py w A n l)(hn:n<=1000000):
  Calls prog 64 #[bu leaf A n c,.string key] w λr w'=>(∃k b,r=.returned (.tuple #[.int .i64 (k:Nat),.bool b])/\rm l key k/\(b=true↔Du l key k))/\Below w.heap.size w w':=by
 have O0:=(Below.refl w.heap.size w).alloc (Nat.le_refl _) (.cells #[.bool leaf,.slice A n c] 118);have B0:=aF.new w 118 #[.bool leaf,.slice A n c];have c1:(w.alloc (.cells #[.bool leaf,.slice A n c] 118)).cell? ⟨w.heap.size,1,none⟩=some (.slice A n c):=B0.ab (i:=1) rfl;have K:=xh (IB (w:=w.alloc (.cells #[.bool leaf,.slice A n c] 118)) A n c l key (h.below O0) hn);have O0:=xh O0;clear h B0;unfold bu;go_enter func64,ntmps64;go_wp2_with fail
 refine K.o.mono ?_;rintro r w1 ⟨⟨k,b,rfl,hp,hh⟩,bg⟩;have HP:=xh hp;have HH:=xh hh;have O1:=xh (aC O0.o bg);clear hp hh bg;go_wp2_with fail;go_ret2;exact⟨⟨k,b,rfl,HP.o,HH.o⟩,O1.o⟩
theorem QU(leaf:Bool)(A:Option Addr)(n c:Nat)(l:List E)(key:ByteArray)(h:py w A n l)(hn:n<=1000000):
  Calls prog 110 #[bu leaf A n c,.string key] w λr w'=>(∃m:Nat,r=.returned (.int .i64 (m:Nat))/\∃k,rm l key k/\((Du l key k/\m=k)\/(¬Du l key k/\m=k-1)))/\Below w.heap.size w w':=by
 have O0:=(Below.refl w.heap.size w).alloc (Nat.le_refl _) (.cells #[.bool leaf,.slice A n c] 118);have B0:=aF.new w 118 #[.bool leaf,.slice A n c];have c0:(w.alloc (.cells #[.bool leaf,.slice A n c] 118)).cell? ⟨w.heap.size,0,none⟩=some (.bool leaf):=B0.ab (i:=0) rfl;have c1:(w.alloc (.cells #[.bool leaf,.slice A n c] 118)).cell? ⟨w.heap.size,1,none⟩=some (.slice A n c):=B0.ab (i:=1) rfl
 have K:=xh (iF (w:=w.alloc (.cells #[.bool leaf,.slice A n c] 118)) leaf A n c l key (h.below O0) hn);have O0:=xh O0;have HL:=xh h.1;clear h B0;unfold bu at *;go_enter func110,ntmps110;go_wp2_with fail;refine K.o.mono ?_;rintro r w1 ⟨⟨k,b,rfl,hp,hh⟩,bg⟩;have HP:=xh hp;have HH:=xh hh;have O1:=xh (aC O0.o bg);have hk:k<=1000000:=by have:=hp.1;have:=HL.o;omega
 clear hp hh bg
 cases b
 .rcases(show k=0\/∃j,k=j+1 from by cases k;exact .inl rfl;exact .inr ⟨_,rfl⟩)with rfl|⟨j,rfl⟩
  .go_wp2_with fail;go_ret;exact⟨⟨0,rfl,0,HP.o,.inr ⟨λhx=>absurd (HH.o.2 hx) (by decide),rfl⟩⟩,O1.o⟩
  .have e1:IntKind.i64.wrap ((j:Int)+1-1)=(j:Int):=by rw[Ec];exact IntWalk.i64_in _ (by omega)
   have e2:IntKind.i64.wrap (j:Int)=(j:Int):=IntWalk.i64_in _ (by omega);have e3:max (j:Int) 0=(j:Int):=by omega
   have e4:¬(j:Int)<0:=by omega
   go_wp2_with fail;go_ret;refine⟨⟨j,?_,j+1,HP.o,.inr ⟨λhx=>absurd (HH.o.2 hx) (by decide),rfl⟩⟩,O1.o⟩
   first|rfl|simp[e3]
 .have e3:max (k:Int) 0=(k:Int):=by omega
  have e4:¬(k:Int)<0:=by omega
  go_wp2_with fail;go_ret;refine⟨⟨k,?_,k,HP.o,.inl ⟨HH.o.1 (by trivial),rfl⟩⟩,O1.o⟩
  first|rfl|simp[e3]
attribute [local go_sem ↓] bw
end Nd
namespace Nd
open Go.RowKit Sl Go.Deep Go.ChangeShapes Go.WideShapes
instance:Inhabited E:=⟨⟨.empty,.empty,0⟩⟩
open Go.RowKit Sl
variable{l:List E}{leaf:Bool}
abbrev cb:=Lib.compareBytes
theorem oQ(a:UInt8)(x:List UInt8)(b:UInt8)(y:List UInt8):cb (a::x) (b::y)=if a<b then -1 else if b<a then 1 else cb x y:=rfl
theorem Oj{a b:UInt8}(h1:¬a<b)(h2:¬b<a):a=b:=by
 rw[yy]at h1 h2;exact UInt8.toNat_inj.1 (by omega)
theorem Vx:∀(x y:List UInt8),cb x y=0↔x=y
 |[],[]=>by simp[cb,Lib.compareBytes]
 |[],_::_=>by simp[cb,Lib.compareBytes]
 |_::_,[]=>by simp[cb,Lib.compareBytes]
 |a::x,b::y=>by
  rw[oQ]
  by_cases h1:a<b
  .rw[if_pos h1];have:a≠b:=λe=>by subst e;exact absurd h1 (by rw[yy];omega)
   simp[this]
  .rw[if_neg h1]
   by_cases h2:b<a
   .rw[if_pos h2];have:a≠b:=λe=>by subst e;exact h1 h2
    simp[this]
   .rw[if_neg h2,Vx x y,Oj h1 h2];simp
theorem FM:∀(x y:List UInt8),cb y x= -cb x y
 |[],[]=>rfl
 |[],_::_=>rfl
 |_::_,[]=>rfl
 |a::x,b::y=>by
  rw[oQ,oQ]
  by_cases h1:a<b
  .have h2:¬b<a:=by rw[yy]at *;omega
   rw[if_pos h1,if_neg h2,if_pos h1];rfl
  .rw[if_neg h1,if_neg h1]
   by_cases h2:b<a
   .rw[if_pos h2,if_pos h2]
   .rw[if_neg h2,if_neg h2];exact FM x y
theorem qo:∀(x y z:List UInt8),cb x y<0->cb y z<0->cb x z<0
 |[],[],_=>λh _=>absurd h (by decide)
 |[],_::_,[]=>λ_ h=>absurd h (by simp[cb,Lib.compareBytes])
 |[],_::_,_::_=>λ_ _=>by simp[cb,Lib.compareBytes]
 |_::_,[],_=>λh _=>absurd h (by simp[cb,Lib.compareBytes])
 |_::_,_::_,[]=>λ_ h=>absurd h (by simp[cb,Lib.compareBytes])
 |a::x,b::y,c::z=>by
  rw[oQ,oQ,oQ];intro h1 h2
  by_cases p1:a<b
  .by_cases p2:b<c
   .rw[if_pos (by rw[yy]at *;omega)];decide
   .rw[if_neg p2]at h2
    by_cases p3:c<b
    .rw[if_pos p3]at h2;exact absurd h2 (by decide)
    .obtain rfl:=Oj p2 p3;rw[if_pos p1];decide
  .rw[if_neg p1]at h1
   by_cases p4:b<a
   .rw[if_pos p4]at h1;exact absurd h1 (by decide)
   .rw[if_neg p4]at h1;obtain rfl:=Oj p1 p4
    by_cases p2:a<c
    .rw[if_pos p2];decide
    .rw[if_neg p2]at h2 ⊢
     by_cases p3:c<a
     .rw[if_pos p3]at h2;exact absurd h2 (by decide)
     .rw[if_neg p3]at h2 ⊢;exact qo x y z h1 h2
theorem Ol:∀(x y:List UInt8),Op.bytesLess x y=decide (cb x y<0)
 |[],[]=>by simp[Op.bytesLess,cb,Lib.compareBytes]
 |[],_::_=>by simp[Op.bytesLess,cb,Lib.compareBytes]
 |_::_,[]=>by simp[Op.bytesLess,cb,Lib.compareBytes]
 |a::x,b::y=>by
  rw[oQ,Op.bytesLess]
  by_cases h1:a<b
  .simp[h1]
  .by_cases h2:b<a
   .have h3:¬a=b:=λe=>by subst e;exact h1 h2
    simp[h1,h2,h3]
   .have h3:=Oj h1 h2;subst h3;simp[h1,Ol x y]
theorem Vy(a b:ByteArray):leB a b=decide (cb a.data.toList b.data.toList<=0):=by
 unfold leB;rw[cu,cu,Ol];have h:=Vx a.data.toList b.data.toList
 by_cases h1:cb a.data.toList b.data.toList<0
 .rw[decide_eq_true h1,decide_eq_true (by omega)];rfl
 .rw[decide_eq_false h1]
  by_cases h2:a.data.toList=b.data.toList
  .rw[decide_eq_true (by rw[h.2 h2];omega),h2];simp
  .rw[decide_eq_false (by
    have:cb a.data.toList b.data.toList≠0:=λe=>h2 (h.1 e);omega)]
   simpa using h2
theorem IC(hm:dL l leaf){i:Nat}{p e:E}(hp:l[i]?=some p)(he:l[i+1]?=some e):cb p.key.data.toList e.key.data.toList<0:=by
 have h:=(hm (i+1) (aM.1 he).1 e he).2 (by omega) p (by rw[oe];exact hp);rw[Vy,decide_eq_false_iff_not]at h;have:=FM p.key.data.toList e.key.data.toList;omega
theorem Mu(hm:dL l leaf)(i d:Nat):∀{p e:E},l[i]?=some p->l[i+1+d]?=some e->cb p.key.data.toList e.key.data.toList<0:=by
 induction d with
 |zero=>intro p e hp he;exact IC hm hp he
 |succ d ih=>
  intro p e hp he;have dP:=(aM.1 he).1;have hq:=aG (show i+1+d<l.length by omega);exact qo _ _ _ (ih hp hq) (IC hm hq (by rw[show i+1+d+1=i+1+(d+1) by omega];exact he))
theorem Mv{key:ByteArray}{p:Nat}(hm:dL l leaf)(h:rm l key p)(j:Nat)(e:E)(he:l[j]?=some e):rP e key<0↔j<p:=by
 constructor
 .intro hc
  rcases dX j p with h1|h1
  .exact h1
  .exfalso
   rcases Nat.lt_or_eq_of_le h1 with h2|rfl
   .have hq:=aG (show p<l.length by have:=(aM.1 he).1;omega);have h3:=h.2.2 _ hq;have h4:=Mu hm p (j-p-1) hq (by rw[show p+1+(j-p-1)=j by omega];exact he);have h5:=qo _ _ _ h4 hc;unfold rP at h3;exact absurd h5 (by unfold cb;omega)
   .have:=h.2.2 _ he;omega
 .intro hj;have hp:=h.1;have hq:=aG (show p-1<l.length by omega);have h3:=h.2.1 _ (by omega) hq
  rcases dX j (p-1)with h1|h1
  .have h4:=Mu hm j (p-1-j-1) he (by rw[show j+1+(p-1-j-1)=p-1 by omega];exact hq);exact qo _ _ _ h4 h3
  .obtain rfl:j=p-1:=by omega
   rw[he]at hq;injection hq with hq
   rw[hq];exact h3
variable{leaf:Bool}{l:List E}{key:ByteArray}{k:Nat}{w:World}
def mayB(l:List E)(leaf:Bool):Bool:=(List.range l.length).all λi=>match l[i]? with
 |none=>true
 |some e=>decide (cW e leaf) && (decide (i=0) || match l[i-1]? with
  |none=>true
  |some p=> !leB e.key p.key)
theorem lF(l:List E)(leaf:Bool):mayB l leaf=true↔dL l leaf:=by
 unfold mayB dL okAt;rw[pE];refine⟨λh i hi e he=>?_,λh i hi=>?_⟩
 .have:=h i (kT.2 hi);rw[he]at this;simp only[ig,decide_eq_true_eq,wW]at this;refine⟨this.1,λh0 p hp=>?_⟩;have h2:=this.2.resolve_left (by omega);rw[hp]at h2;simpa using h2
 .have hi:=kT.1 hi;have he:=aG hi;obtain⟨a,b⟩:=h i hi _ he;rw[he];simp only[ig,decide_eq_true_eq,wW];refine⟨a,?_⟩
  by_cases h0:i=0
  .exact .inl h0
  .right;have hp:=aG (show i-1<l.length by omega);rw[hp];simpa using b (by omega) _ hp
def Vz(rs:List (List UInt8)):Bool:=(decide (rs.head?=some [1]) || decide (rs.head?=some [2])) && (rs.tail.all (λr=>decide (3+mE ⟨r.toArray⟩<=r.length)) && mayB (nL rs) (ux rs))
theorem rn(rs:List (List UInt8)):Vz rs=true↔lQ rs:=by
 unfold Vz lQ ke;simp only[ig,wW,decide_eq_true_eq,pE,lF];refine and_congr_right λ_=>and_congr_left λ_=>?_;have:∀r:List UInt8,(⟨r.toArray⟩:ByteArray).size=r.length:=λr=>by show r.toArray.size=_;simp
 simp only[this]
def aN(b:List UInt8):Bool×List E×Int:=
 if cg b≠0 then(false,[],cg b)else if Vz (cV b)=true then(ux (cV b),nL (cV b),0)else(false,[],14)
def aW(leaf:Bool)(l:List E):List UInt8×Int:=
 if mayB l leaf=true then(if 0<=jl (ir leaf l)then(ofL (ir leaf l),0)else([],11))else([],2)
theorem AG(l:List (List UInt8))(h:0<=jl l):∀k,k<=l.length->Sound (Iv l k)/\cV (Iv l k)=l.take k
 |0,_=>⟨qb.1,by rw[iL];exact qb.2.1⟩
 |k+1,hk=>by
  obtain⟨s,r⟩:=AG l h k (by omega);have e:l.getD k []=l[k]:=by rw[ib,aG (by omega)];rfl
  have h1:=Ar l k (by omega);have h2:=Au l (k+1);obtain⟨_,a,b⟩:=Oi s k l[k] (by rw[r];omega) (by rw[r,bK];omega);unfold Iv;rw[e];refine⟨a,?_⟩;rw[b,r,gy (by omega),cr (by rw[bK];omega),lK (by rw[bK];omega)]
theorem wk(l:List (List UInt8))(h:0<=jl l):Sound (ofL l)/\cV (ofL l)=l:=by
 have:=AG l h l.length (Nat.le_refl _);rw[fL]at this;exact this
theorem xK(leaf:Bool)(l:List E):(aW leaf l).1.length<=232:=by
 unfold aW
 split
 .split
  .rename_i h;exact qP (wk _ h).1.len
  .exact bf _
 .exact bf _
theorem ID(b:List UInt8):(aN b).2.1.length<=57:=by
 unfold aN
 split
 .exact bf _
 .rename_i h
  split
  .have hs:Sound b:=(ff b).1 (by simpa using h);have h1:=hs.head;have h2:=hs.heap;show(nL (cV b)).length<=57;unfold nL;rw[eM,List.length_tail,dF];omega
  .exact bf _
theorem xL{b:List UInt8}(h:(aN b).2.2=0):dL (aN b).2.1 (aN b).1:=by
 unfold aN at h ⊢
 split at h
 .rename_i h2;exact absurd h h2
 .rename_i h2;rw[if_neg h2]
  split at h
  .rename_i h3;rw[if_pos h3];exact((rn _).1 h3).2.2
  .exact absurd h (by decide)
theorem IE(h:(aW leaf l).2=0):aN (aW leaf l).1=(leaf,l,0):=by
 unfold aW at h ⊢
 split at h
 .rename_i hm;rw[if_pos hm]
  split at h
  .rename_i hr;rw[if_pos hr];obtain⟨s,r⟩:=wk _ hr;have NK:=(lF _ _).1 hm;unfold aN;rw[if_neg (by rw[(ff _).2 s];simp),r,if_pos ((rn _).2 (Iz NK)),AE,AB NK]
  .exact absurd h (by decide)
 .exact absurd h (by decide)
def aY(l:List E)(key:ByteArray):Nat:=l.findIdx λe=>decide (0<=rP e key)
def cq(l:List E)(key:ByteArray):Bool:=match l[aY l key]? with
 |none=>false
 |some e=>decide (rP e key=0)
def bA(l:List E)(key:ByteArray):Nat:=if cq l key=true then aY l key else aY l key-1
def bF(l:List E):Nat:=((List.range l.length).find? λt=>decide (1<=t) && (List.range l.length).all λj=>decide (j=0) || decide (kJ l t<=kJ l j)).getD 1
theorem Om{t:Nat}(h:wi l l.length t):bF l=t:=by
 obtain⟨h1,h2,h3,h4⟩:=h;unfold bF;have:(List.range l.length).find? (λt=>decide (1<=t) && (List.range l.length).all λj=>decide (j=0) || decide (kJ l t<=kJ l j))=some t:=by
  rw[List.find?_eq_some_iff_append];refine⟨?_,List.range t,(List.range (l.length-t-1)).map (· +(t+1)),?_,λa ha=>?_⟩
  .simp only[ig,decide_eq_true_eq,pE,wW,kT];exact⟨h1,λj hj=>by
    by_cases h0:j=0
    .exact .inl h0
    .exact .inr (h3 j (by omega) hj)⟩
  .apply uY
   .simp;omega
   .intro i hi1 N4;rw[yX,List.getElem_append];simp only[En]
    split
    .rw[yX]
    .rename_i hi;rw[List.getElem_cons]
     split
     .omega
     .simp;omega
  .have ha:=kT.1 ha
   by_cases h0:a=0
   .subst h0;simp
   .have:=h4 a (by omega) ha;simp only[Bool.not_eq_true',Bool.and_eq_false_iff];right;rw[Bool.eq_false_iff];intro hc;rw[pE]at hc;have:=hc t (kT.2 h2);simp only[wW,decide_eq_true_eq]at this;omega
 rw[this];rfl
theorem AH(hm:dL l leaf)(h:rm l key k):aY l key=k:=by
 unfold aY;obtain⟨h1,h2,h3⟩:=h;have hp:=Mv hm ⟨h1,h2,h3⟩
 rcases dX k l.length with hk|hk
 .have hkk:=aG hk;rw[List.findIdx_eq hk];refine⟨by simpa using h3 _ hkk,λj hj=>?_⟩;have:=(hp j _ (aG (by omega))).2 hj;simpa using this
 .obtain rfl:k=l.length:=by omega
  rw[List.findIdx_eq_length];intro e he;obtain⟨j,hj,rfl⟩:=n8 he;have:=(hp j _ (aG hj)).2 hj;simpa using this
theorem wo(h:aY l key=k):cq l key=true↔Du l key k:=by
 unfold cq Du;rw[h]
 cases l[k]? with
 |none=>simp
 |some e=>simp
section
open Go.RowKit
theorem VC(s:ByteArray)(w:World)(hs:s.size<=1000000):
  Calls prog 122 #[.string s] w λe w'=> ∃A c,e=.returned (.tuple #[bu (aN s.data.toList).1 A (aN s.data.toList).2.1.length c,.int .i64 (aN s.data.toList).2.2])/\
   aS w' 111 3 (.slice A (aN s.data.toList).2.1.length c) (aN s.data.toList).2.1.length (aD (aN s.data.toList).2.1)/\(∀g∈ah (.slice A (aN s.data.toList).2.1.length c),w.heap.size<=g)/\Below w.heap.size w w':=by
 refine(got_any s w hs).mono ?_;unfold aN;rintro e w' (⟨h1,rfl,hb⟩|⟨h1,h2,hb⟩)
 .rw[if_pos h1];exact⟨none,0,rfl,aS.nil _ _ _,by simp[ah],hb⟩
 .rw[if_neg (by simpa using h1)]
  rcases h2 with⟨h2,rfl⟩|⟨h2,A,n,c,rfl,S,f⟩
  .rw[if_neg (λh=>h2 ((rn _).1 h))];exact⟨none,0,rfl,aS.nil _ _ _,by simp[ah],hb⟩
  .rw[if_pos ((rn _).2 h2)];have hn:=S.1;rw[ar]at hn;obtain rfl:(nL (cV s.data.toList)).length=n:=by omega
   exact⟨A,c,rfl,S,f.o,hb⟩
theorem AJ(leaf:Bool)(A:Option Addr)(n c:Nat)(l:List E)(h:py w A n l)(hn:n<=1000):
  Calls prog 68 #[bu leaf A n c] w λe w'=>e=.returned (.tuple #[.string ⟨(aW leaf l).1.toArray⟩,.int .i64 (aW leaf l).2])/\Below w.heap.size w w':=by
 unfold aW
 by_cases hm:dL l leaf
 .rw[if_pos ((lF _ _).2 hm)];refine(put_yes leaf A n c l h hn hm).mono ?_;rintro e w' ⟨h1|h1,hb⟩
  .obtain⟨h0,b,rfl,_,_,he⟩:=h1;rw[if_pos h0];refine⟨?_,hb⟩;rw[show(⟨(ofL (ir leaf l)).toArray⟩:ByteArray)=b by rw[<-he]]
  .obtain⟨h0,rfl⟩:=h1;rw[if_neg (by omega)];exact⟨rfl,hb⟩
 .rw[if_neg (λh=>hm ((lF _ _).1 h))];exact put_no leaf A n c l h (by omega) hm
theorem wu(leaf:Bool)(A:Option Addr)(n c:Nat)(l:List E)(key:ByteArray)(h:py w A n l)(hn:n<=1000000)(hm:dL l leaf):
  Calls prog 64 #[bu leaf A n c,.string key] w λr w'=>r=.returned (.tuple #[.int .i64 (aY l key:Nat),.bool (cq l key)])/\Below w.heap.size w w':=by
 refine(iF leaf A n c l key h hn).mono ?_;rintro e w' ⟨⟨k,b,rfl,h1,h2⟩,hb⟩;have hk:=AH hm h1;refine⟨?_,hb⟩;rw[hk];have:cq l key=b:=by
  rw[Bool.eq_iff_iff,wo hk,h2]
 rw[this]
theorem AK(leaf:Bool)(A:Option Addr)(n c:Nat)(l:List E)(key:ByteArray)(h:py w A n l)(hn:n<=1000000)(hm:dL l leaf):
  Calls prog 110 #[bu leaf A n c,.string key] w λr w'=>r=.returned (.int .i64 (bA l key:Nat))/\Below w.heap.size w w':=by
 refine(QU leaf A n c l key h hn).mono ?_;rintro e w' ⟨⟨m,rfl,k,h1,h2⟩,hb⟩;have hk:=AH hm h1;refine⟨?_,hb⟩;unfold bA;rw[hk]
 rcases h2 with⟨h2,rfl⟩|⟨h2,rfl⟩
 .rw[if_pos ((wo hk).2 h2)]
 .rw[if_neg (λh=>h2 ((wo hk).1 h))]
end
end Nd
section
open Go.RowKit
noncomputable def yJ(P:Program)(T T' ty:TypeId)(w:World)(d s:Value):Result Value:=(Builtin.copy_ #[T,T'] ty #[d,s]).run P w
theorem IF(P:Program)(ρ:Operand->Value)(dst:Option Tmp)(d s:Operand)(T T' t:TypeId)(p:String)(af:Array Edge)(g:Option (Nat×Bool))(w:World):
  (execOp ρ {dst:=dst,op:= .call {callee:= .builtin .copy,args:= #[d,s],argTypes:= #[T,T']},type:=t,pos:=p,after:=af,guard:=g}).run P w=(yJ P T T' t w (ρ d) (ρ s)).andThen λv w'=> .ok (.value v) w':=by
 simp[execOp,resolve,invoke,builtin,yJ]
noncomputable def uy(P:Program)(T ty:TypeId)(w:World)(s:Value):Result Value:=(Builtin.clear_ #[T] ty #[s]).run P w
theorem VD(P:Program)(ρ:Operand->Value)(dst:Option Tmp)(s:Operand)(T t:TypeId)(p:String)(af:Array Edge)(g:Option (Nat×Bool))(w:World):
  (execOp ρ {dst:=dst,op:= .call {callee:= .builtin .clear,args:= #[s],argTypes:= #[T]},type:=t,pos:=p,after:=af,guard:=g}).run P w=(uy P T t w (ρ s)).andThen λv w'=> .ok (.value v) w':=by
 simp[execOp,resolve,invoke,builtin,uy]
theorem uz{P:Program}{w:World}{g:Nat}{t:TypeId}{cur:List Value}(B:aF w g t cur.toArray)(T ty elem:TypeId)(sz o tT y5:Nat)(a:Addr)(J0 sCap:Nat)(cs:List Value)
  (hu:P.underlying T=some (.slice elem))(hs:(P.info? elem).map (·.size)=some sz)(hn:cs.length=Nat.min J0 tT*sz)
  (Sv:∀j v,cs[j]?=some v->w.cell? (a.add j)=some v)(rK:o+cs.length<=cur.length)(h1:∀v∈cs,v.oneCell'=true):
  ∃w',yJ P T T ty w (.slice (some ⟨g,o,none⟩) tT y5) (.slice (some a) J0 sCap)= .ok (goInt (Nat.min J0 tT)) w'/\aF w' g t (putAt cur o cs).toArray/\ag [g] w w':=by
 refine⟨w.setCells g o cs,?_,B.setCells cs o rK,(ag.refl _ _).setCells cs o (by simp)⟩;have hl:=run_loadCells_list (P:=P) w a cs Sv;have uO:=run_storeCells_cells (P:=P) g o cs 0 w (by intro j hj;rw[B.cell];simp;omega) (by intro j hj;exact B.frozen _ (by simp;omega)) h1
 cases hq:P.info? elem with
 |none=>simp[hq]at hs
 |some i=>
  have hi:i.size=sz:=by simpa [hq]using hs
  simp[yJ,Builtin.copy_,run_underlying hu,Builtin.lenOf,Builtin.firstCells,sizeOf,typeInfo,hq,hi,<-hn,hl,uO]
theorem Dv{P:Program}{w:World}{g:Nat}{t:TypeId}{cur:List Value}(B:aF w g t cur.toArray)(T ty elem:TypeId)(sz n cap:Nat)(a:Addr)(m c:Nat)(cs:List Value)
  (hu:P.underlying T=some (.slice elem))(hs:(P.info? elem).map (·.size)=some sz)(hn:cs.length=m*sz)
  (Sv:∀j v,cs[j]?=some v->w.cell? (a.add j)=some v)(hr:n+m<=cap)(rK:n*sz+cs.length<=cur.length)(h1:∀v∈cs,v.oneCell'=true):
  ∃w',dZ P T ty w (.slice (some ⟨g,0,none⟩) n cap) (.slice (some a) m c)= .ok (.slice (some ⟨g,0,none⟩) (n+m) cap) w'/\aF w' g t (putAt cur (n*sz) cs).toArray/\ag [g] w w':=by
 cases hq:P.info? elem with
 |none=>simp[hq]at hs
 |some i=>
  have hi:i.size=sz:=by simpa [hq]using hs
  subst hi;have h:=run_append_room_cells (P:=P) w T ty elem i hu hq g 0 n cap a m c cs hn Sv h1 hr (λj hj=>by rw[B.cell];simp;omega) (λj hj=>B.frozen _ (by simp;omega));rw[bl]at h;exact⟨_,h,B.setCells cs _ rK,(ag.refl _ _).setCells cs _ (by simp)⟩
theorem Dw{P:Program}{w:World}{g:Nat}{t:TypeId}{cur:List Value}(B:aF w g t cur.toArray)(T ty elem:TypeId)(z:Value)(o c:Nat)
  (hu:P.underlying T=some (.slice elem))(hz:∀w,(zeroValue elem).run P w=.ok z w)(rK:o+z.cells.toList.length<=cur.length)(h1:∀v∈z.cells.toList,v.oneCell'=true):
  ∃w',uy P T ty w (.slice (some ⟨g,o,none⟩) 1 c)= .ok (.tuple #[]) w'/\aF w' g t (putAt cur o z.cells.toList).toArray/\ag [g] w w':=by
 refine⟨w.setCells g o z.cells.toList,?_,B.setCells _ o rK,(ag.refl _ _).setCells _ o (by simp)⟩;have hzc:(Builtin.zeroCells z.cells 1).toList=z.cells.toList:=by
  simp[Builtin.zeroCells];apply uY
  .simp
  .intro i h1 h2;have:i<z.cells.size:=by simpa using h2
   simp[Nat.mod_eq_of_lt this];rw[getElem!_pos z.cells i this]
 have uO:=run_storeCells_cells (P:=P) g o z.cells.toList 0 w (by intro j hj;rw[B.cell];simp at hj rK ⊢;omega) (by intro j hj;exact B.frozen _ (by simp at hj rK ⊢;omega)) h1;simp only[kY]at uO;simp[uy,Builtin.clear_,run_underlying hu,hz,hzc,uO]
namespace Nd
open Sl
section
attribute [local go_sem ↓] Go.wp_at_zero Go.wp_at_succ bw IF VD
theorem nM:(prog.info? 111).map (·.size)=some 3:=by kernel_rfl
theorem ents_cells(l:List E):∀v∈aD l,v.oneCell'=true:=lE l
theorem ents_drop1(l:List E)(k:Nat)(rest:List Value):(aD l++rest).drop (k*3)=if k<=l.length then aD (l.drop k)++rest else rest.drop ((k-l.length)*3):=by
 split
 .rw[sq (by rw[ar];omega),me]
 .rename_i h;rw[List.drop_append,lK (by rw[ar];omega),cI,ar]
  congr 1
  omega
theorem QV(l:List E)(rest:List Value)(i:Nat)(hi:i<l.length)(z:List Value)(hz:z.length=3):
  putAt (putAt (aD l++rest) (i*3) (aD (l.drop (i+1)))) ((l.length-1)*3) z=aD (l.eraseIdx i)++(z++rest):=by
 have e1:putAt (aD l++rest) (i*3) (aD (l.drop (i+1)))=aD (l.eraseIdx i)++(aD (l.drop (l.length-1))++rest):=by
  unfold putAt;rw[kX (by rw[ar];omega),wj,ar,dY,show i*3+(l.length-(i+1))*3=(l.length-1)*3 by omega,
   sq (by rw[ar];omega),me,<-gH,<-List.eraseIdx_eq_take_drop_succ]
 have e2:(aD (l.eraseIdx i)).length=(l.length-1)*3:=by rw[ar,List.length_eraseIdx];split<;>omega
 have e3:(aD (l.drop (l.length-1))).length=3:=by rw[ar,dY];omega
 rw[e1];unfold putAt;rw[hz,<-e2,qO,cy,<-ix,sr,<-e3,sr]
theorem qp{w:World}{A:Option Addr}{n c:Nat}{l:List E}(S:aS w 111 3 (.slice A n c) n (aD l))(i:Nat)(hi:i<n)(hn:n<=100000):
  Calls prog 72 #[.slice A n c,.int .i64 (i:Nat),.int .i64 ((i:Int)+1)] w λe w'=>e=.returned (.slice A (n-1) c)/\aS w' 111 3 (.slice A (n-1) c) (n-1) (aD (l.eraseIdx i))/\ag (ah (.slice A n c)) w w':=by
 obtain⟨g,cap,rest,hv,BG,Sc,LM⟩:=S.form (by omega) (by omega);simp only[Value.slice.injEq,true_and]at hv;obtain⟨rfl,rfl⟩:=hv;have uQ:c<=maxLen:=by obtain⟨_,_,_,_,h⟩:=S.uP;exact h
 have tC:l.length=n:=by have:=S.1;rw[ar]at this;omega
 have nz:=xh tC;have Se:=xh (show rest.length=c*3-n*3 by rw[ar,tC]at LM;omega);have BD:=xh BG;clear S tC LM BG;unfold maxLen at uQ;have s1:(i:Int)<=(i:Int)+1:=by omega
 have s2:(i:Int)+1<=(n:Int):=by omega
 have s3:(n:Int)<=(c:Int):=by omega
 have s4:((i:Int)+1).toNat=i+1:=by omega
 have s5:¬(i:Int)=(i:Int)+1:=by omega
 have s6:(0:Int)<=(i:Int)+1:=by omega
 have s7:(i:Int)<=(n:Int):=by omega
 have s8:(i:Int)<=(c:Int):=by omega
 have s9:(i:Int)+1<=(c:Int):=by omega
 have s10:¬c=i:=by omega
 have s12:n-(n-1)=1:=by omega
 go_enter func72,ntmps72;go_wp2_with fail;have sW:=xh (show(n-1)*3+(Value.agg #[.string ⟨#[]⟩,.string ⟨#[]⟩,.int .i64 0]).cells.toList.length<=(putAt (aD l++rest) (i*3) (aD (l.drop (i+1)))).length from by
  rw[jT (by rw[ar,dY,aO,ar,nz.o,Se.o];omega),aO,ar,nz.o,Se.o];show(n-1)*3+3<=_;omega)
 have HDC:=xh (show putAt (putAt (aD l++rest) (i*3) (aD (l.drop (i+1)))) ((n-1)*3) (Value.agg #[.string ⟨#[]⟩,.string ⟨#[]⟩,.int .i64 0]).cells.toList=aD (l.eraseIdx i)++((Value.agg #[.string ⟨#[]⟩,.string ⟨#[]⟩,.int .i64 0]).cells.toList++rest)from by
  have:=QV l rest i (by rw[nz.o];exact hi) (Value.agg #[.string ⟨#[]⟩,.string ⟨#[]⟩,.int .i64 0]).cells.toList rfl;rw[nz.o]at this;exact this)
 have BL:=xh (show(l.eraseIdx i).length=n-1 from by rw[List.length_eraseIdx,nz.o,if_pos hi]);have HRL:=xh (show(aD (l.eraseIdx i)).length+((Value.agg #[.string ⟨#[]⟩,.string ⟨#[]⟩,.int .i64 0]).cells.toList++rest).length=c*3 from by
  rw[ar,BL.o,aO,Se.o];show(n-1)*3+(3+(c*3-n*3))=c*3;omega)
 have HCM:=xh uQ;have QW:∀(a:Addr),(i+1<n->a=⟨g,(i+1)*3,none⟩)->∀j v,(aD (l.drop (i+1)))[j]?=some v->w.drew.cell? (a.add j)=some v:=λa ha j v hv=>by
  have hl:i+1<n:=by
   have:=(aM.1 hv).1;rw[ar,dY,nz.o]at this;omega
  rw[ha hl,fZ];refine(BD.o.drew.cell _).trans ?_;rw[<-me,gK]at hv;rw[dh,bE (aM.1 hv).1,hv]
 by_cases Fl:c=i+1
 .have s11:c-(i+1)=0:=by omega
  have HN:=xh (show n=i+1 by omega)
  replace Fl:=xh Fl
  refine wp_region_held_drew (S:=λ_=>True) (by kernel_rfl) (trivial) (λau=>?_);refine cP [(0,20),(1,21),(2,22),(3,23),(4,24),(5,25)] ?_
  iterate 6 refine bj ?_
  refine cQ 6 26 λK hK=>?_;go_simp;obtain⟨w2,ea,B2,oa⟩:=Dv (P:=prog) BD.o.drew 108 108 111 3 i c ⟨g,0,none⟩ (n-(i+1)) 0 (aD (l.drop (i+1))) underlying108 nM (by rw[ar,dY,nz.o]) (QW _ (λh=>by first|rfl|(have:=HN.o;omega))) (by omega) (by rw[ar,dY,nz.o];simp only[aO,ar,nz.o];have:=Se.o;omega) (lE _);rw[show i+(n-(i+1))=n-1 by omega]at ea;have EA:=xh ea
  have B2:=xh B2;have OA:=xh oa;clear ea oa;rw[if_pos Fl.o,EA.o];go_simp;refine bz hK (trivial) (λau=>?_);refine cP [(7,0)] ?_
  iterate 1 refine bj ?_
  refine wpAnyH_done (by kernel_rfl) ?_ _;have B2c:=B2.o;obtain⟨w3,ec,B3,oc⟩:=Dw (P:=prog) B2c 108 0 111 (.agg #[.string ⟨#[]⟩,.string ⟨#[]⟩,.int .i64 0]) ((n-1)*3) (c-(n-1)) underlying108 Tryz.zeroValue111 sW.o (by simp;decide);rw[HDC.o]at B3;have EC:=xh ec;have B3:=xh B3;have OC:=xh (OA.o.trans oc);clear ec oc B2c;go_wp2_with fail;rw[EC.o];go_wp2_with fail;go_ret
  exact aP ⟨⟨by rw[ar,BL.o],.inr ⟨g,c,_,rfl,B3.o,by rw[HRL.o],HCM.o⟩⟩,by simpa [ah]using (ag.refl [g] w).drew.trans OC.o⟩
 .have s11:¬c=i+1:=Fl;refine wp_region_held_drew (S:=λ_=>True) (by kernel_rfl) (trivial) (λau=>?_);refine cP [(0,20),(1,21),(2,22),(3,23),(4,24),(5,25)] ?_
  iterate 6 refine bj ?_
  refine cQ 6 26 λK hK=>?_;go_simp;obtain⟨w2,ea,B2,oa⟩:=Dv (P:=prog) BD.o.drew 108 108 111 3 i c ⟨g,(i+1)*3,none⟩ (n-(i+1)) (c-(i+1)) (aD (l.drop (i+1))) underlying108 nM (by rw[ar,dY,nz.o]) (QW _ (λh=>by first|rfl|(have:=HN.o;omega))) (by omega) (by rw[ar,dY,nz.o];simp only[aO,ar,nz.o];have:=Se.o;omega) (lE _);rw[show i+(n-(i+1))=n-1 by omega]at ea
  have EA:=xh ea;have B2:=xh B2;have OA:=xh oa;clear ea oa;rw[EA.o];go_simp;refine bz hK (trivial) (λau=>?_);refine cP [(7,0)] ?_
  iterate 1 refine bj ?_
  refine wpAnyH_done (by kernel_rfl) ?_ _;have B2c:=B2.o;obtain⟨w3,ec,B3,oc⟩:=Dw (P:=prog) B2c 108 0 111 (.agg #[.string ⟨#[]⟩,.string ⟨#[]⟩,.int .i64 0]) ((n-1)*3) (c-(n-1)) underlying108 Tryz.zeroValue111 sW.o (by simp;decide);rw[HDC.o]at B3;have EC:=xh ec;have B3:=xh B3;have OC:=xh (OA.o.trans oc);clear ec oc B2c;go_wp2_with fail;rw[EC.o];go_wp2_with fail;go_ret
  exact aP ⟨⟨by rw[ar,BL.o],.inr ⟨g,c,_,rfl,B3.o,by rw[HRL.o],HCM.o⟩⟩,by simpa [ah]using (ag.refl [g] w).drew.trans OC.o⟩
theorem rp:(prog.info? 111).map (λi=>(i.zero,i.size,i.bytes))=some (some (.agg #[.string ⟨#[]⟩,.string ⟨#[]⟩,.int .i64 0]),3,40):=by kernel_rfl
theorem wv(e:E):∀v∈e.cells,v.oneCell'=true:=λv hv=>by
 have:=lE [e] v (by simpa [aD]using hv);exact this
theorem yK{α:Type}(e:α):∀(l:List α) (i:Nat),i<=l.length->l.insertIdx i e=l.take i++e::l.drop i
 |_,0,_=>by simp
 |[],i+1,h=>absurd h (by simp)
 |a::l,i+1,h=>by
  rw[JW,yK e l i (by simpa using h)];rfl
theorem VE(l:List E)(e:E)(rest:List Value)(i:Nat)(hi:i<=l.length)(hr:3<=rest.length):
  putAt (putAt (aD l++rest) ((i+1)*3) (aD (l.drop i))) (i*3) e.cells=aD (l.insertIdx i e)++rest.drop 3:=by
 have e0:e.cells.length=3:=rfl;have e1:l.insertIdx i e=l.take i++e::l.drop i:=yK e l i hi;have e2:(aD (l.take i)).length=i*3:=by rw[ar,bK];omega
 have e3:(aD (l.drop i)).length=(l.length-i)*3:=by rw[ar,dY]
 have e5:(aD l++rest)=aD (l.take i)++(aD (l.drop i)++rest):=by rw[<-cy,<-gH,kW]
 have hlen:(aD l++rest).length=l.length*3+rest.length:=by rw[aO,ar]
 have a1:(putAt (aD l++rest) ((i+1)*3) (aD (l.drop i))).take (i*3)=aD (l.take i):=by
  unfold putAt;rw[cy,kX (by rw[bK,hlen];omega),List.take_take,qQ (by omega),e5,<-e2,qO]
 have a2:(putAt (aD l++rest) ((i+1)*3) (aD (l.drop i))).drop (i*3+3)=aD (l.drop i)++rest.drop 3:=by
  unfold putAt;rw[cy,show i*3+3=((aD l++rest).take ((i+1)*3)).length by rw[bK,hlen];omega,sr]
  congr 1
  rw[e3,List.drop_append,lK (by rw[ar];omega),cI,ar]
  congr 1
  omega
 rw[e1,gH,kI,cy,cy,<-a1,<-a2,show putAt (putAt (aD l++rest) ((i+1)*3) (aD (l.drop i))) (i*3) e.cells=(putAt (aD l++rest) ((i+1)*3) (aD (l.drop i))).take (i*3)++e.cells++(putAt (aD l++rest) ((i+1)*3) (aD (l.drop i))).drop (i*3+e.cells.length)from rfl,e0,cy]
theorem IG{w:World}{A:Option Addr}{n c:Nat}{l:List E}(S:aS w 111 3 (.slice A n c) n (aD l))(e:E){g2 cc:Nat}(B2:aF w g2 111 e.cells.toArray)(hn:n<=100000):
  Calls prog 74 #[.slice A n c,.int .i64 (n:Nat),.slice (some ⟨g2,0,none⟩) 1 cc] w λr w'=> ∃A' c',r=.returned (.slice A' (n+1) c')/\aS w' 111 3 (.slice A' (n+1) c') (n+1) (aD (l++[e]))/\ag (ah (.slice A n c)) w w'/\∀x∈ah (.slice A' (n+1) c'),x∈ah (.slice A n c)\/w.heap.size<=x:=by
 obtain⟨i0,hi,ku,js,ki⟩:=info_parts rp;have hl:=S.1;rw[ar]at hl;obtain⟨v',w',ea,S2,o2,f2⟩:=dC (P:=prog) S 108 108 i0 _ 40 underlying108 hi ku js ki rfl (by omega) ⟨g2,0,none⟩ 1 cc e.cells rfl (bq (l:=e.cells) B2 0 _ (by simp)) (wv e) (by unfold maxLen;omega) (by omega);obtain⟨A',c',rfl⟩:=ax S2;have EA:=xh (show dZ prog 108 108 w (.slice A n c) (.slice (some ⟨g2,0,none⟩) 1 cc)=_ from ea);have S2:=xh S2
 have o2:=xh o2;have f2:=xh f2;have HC:A=none/\n=0/\c=0\/∃g,A=some ⟨g,0,none⟩/\n<=c/\c<=maxLen:=by
  rcases S.2 with⟨h1,h2⟩|⟨g,cap,rest,h1,h2,h3,h4⟩
  .injection h1 with a1 a2 a3
   exact .inl ⟨a1,a2,a3⟩
  .injection h1 with a1 a2 a3
   subst a3;refine .inr ⟨g,a1,?_,h4⟩;rw[ar]at h3;omega
 have s1:(n:Int)<=(n:Int):=by omega
 clear S B2 ea hi ku js ki;have HC:A=none/\n=0/\c=0\/(∃g,A=some ⟨g,0,none⟩/\c=n/\c<=maxLen)\/∃g,A=some ⟨g,0,none⟩/\¬c=n/\n<=c/\c<=maxLen:=by
  rcases HC with h|⟨g,h1,h2,h3⟩
  .exact .inl h
  .by_cases hc:c=n
   .exact .inr (.inl ⟨g,h1,hc,h3⟩)
   .exact .inr (.inr ⟨g,h1,hc,h2,h3⟩)
 rcases HC with⟨rfl,rfl,rfl⟩|⟨g,rfl,rfl,hc2⟩|⟨g,rfl,NN,Fl,hc2⟩
 all_goals
  (try have hc1I:(n:Int)<=(c:Int):=by omega)
  go_enter func74,ntmps74;go_wp2_with fail;rw[EA.o];go_wp2_with fail;go_ret;exact⟨A',c',by first|rfl|simp,by rw[gH];simpa [aD]using S2.o,o2.o,f2.o⟩
theorem Dx{w:World}{g:Nat}{t:TypeId}{cs:Array Value}(B:aF w g t cs):w.shape? g=some (t,cs.size):=by
 obtain⟨lo,hi,h,_⟩:=B;unfold World.shape?;rw[h]
theorem sz_ent(w:World):(Go.sizeOf 111).run prog w=.ok 3 w:=by
 obtain⟨i0,hi,ku,js,ki⟩:=info_parts rp;simp[sizeOf,typeInfo,hi,js]
theorem II{w:World}{g1 g2:Nat}{t1 t2:TypeId}{c1 c2:Array Value}(B1:aF w g1 t1 c1)(B2:aF w g2 t2 c2)(fc:g1≠g2)(h0:c2.size≠0)(hc:c1.size≠0)(hz:w.frozen? ⟨g1,c1.size,none⟩=false)(o2 la ca lb cb:Nat):
  (callFunc 125 #[.slice (some ⟨g1,0,none⟩) la ca,.slice (some ⟨g2,o2,none⟩) lb cb]).run prog w=.ok (.value (.bool false)) w:=by
 rw[run_callFunc_extern func125 (by kernel_rfl) (by kernel_rfl) (by kernel_rfl) (e:=Extern.SlicesOverlaps.overlaps #[108,108] #[4]) (by kernel_rfl),
  Lib.run_overlaps_apart w 108 4 111 underlying108 3 sz_ent ⟨g1,0,none⟩ ⟨g2,o2,none⟩ la ca lb cb fc t1 t2 c1.size c2.size (Dx B1) (Dx B2) h0 (B1.frozen 0 (by omega)) hz]
 rfl
theorem FN{w:World}{A:Option Addr}{n c:Nat}{l:List E}(S:aS w 111 3 (.slice A n c) n (aD l))(e:E){g2 cc:Nat}(B2:aF w g2 111 e.cells.toArray)(hn:n<=100000)(hg:g2∉ah (.slice A n c))(i:Nat)(hi:i<n)(hf:w.frozen? ⟨g2,3,none⟩=false)(hc:n+1<=c):
  Calls prog 74 #[.slice A n c,.int .i64 (i:Nat),.slice (some ⟨g2,0,none⟩) 1 cc] w λr w'=> ∃A' c',r=.returned (.slice A' (n+1) c')/\aS w' 111 3 (.slice A' (n+1) c') (n+1) (aD (l.insertIdx i e))/\ag (ah (.slice A n c)) w w'/\∀x∈ah (.slice A' (n+1) c'),x∈ah (.slice A n c)\/w.heap.size<=x:=by
 obtain⟨g,cap,rest,hv,BG,Sc,LM⟩:=S.form (by omega) (by omega);simp only[Value.slice.injEq,true_and]at hv;obtain⟨rfl,rfl⟩:=hv;have uQ:c<=maxLen:=by obtain⟨_,_,_,_,h⟩:=S.uP;exact h
 have tC:l.length=n:=by have:=S.1;rw[ar]at this;omega
 have nz:=xh tC;have Se:=xh (show rest.length=c*3-n*3 by rw[ar,tC]at LM;omega);have BD:=xh BG;have BE:=xh B2;have fc:g2≠g:=λh=>hg (by simp[ah,h]);have HCM:=xh uQ;have BL:=xh (show(l.insertIdx i e).length=n+1 from by rw[Em,tC,if_pos (by omega)]);unfold maxLen at uQ;clear S tC LM;have s1:¬(i:Int)=(n:Int):=by omega
 have s2:(i:Int)<=(n:Int):=by omega
 have s3:(i:Int)<=(c:Int):=by omega
 have s4:¬c=i:=by omega
 have s8:IntKind.i64.wrap ((i:Int)+1)=(i:Int)+1:=IntWalk.i64_in _ (by omega);have s9:IntKind.i64.wrap ((n:Int)+1)=(n:Int)+1:=IntWalk.i64_in _ (by omega);have s10:((i:Int)+1).toNat=i+1:=by omega
 have s11:((n:Int)+1).toNat=n+1:=by omega
 have s12:(0:Int)<=(i:Int)+1:=by omega
 have s13:(0:Int)<=(n:Int)+1:=by omega
 have s14:(i:Int)+1<=(n:Int)+1:=by omega
 have s15:(i:Int)<=(n:Int)+1:=by omega
 have QW:=xh (show ∀j v,(aD (l.drop i))[j]?=some v->w.drew.cell? ((⟨g,i*3,none⟩:Addr).add j)=some v from λj v hv=>by
  rw[fZ];refine(BD.o.drew.cell _).trans ?_;rw[<-me,gK]at hv;rw[dh,bE (aM.1 hv).1,hv])
 have hov:=λla ca lb cb=>II (w:=w) B2 BG fc (by simp[ar];have:=nz.o;omega) (by show 3≠0;decide) (by rw[show e.cells.toArray.size=3 from rfl];exact hf) ((i+1)*3) la ca lb cb;have s16:(n:Int)+1<=(c:Int):=by omega
 have s17:¬(c:Int)<(n:Int)+1:=by omega
 have s18:¬c=i+1:=by omega
 have s19:(i:Int)+1<=(c:Int):=by omega
 clear B2 BG hf hg;go_enter func74,ntmps74;go_wp2_with (simp only[hov]);refine wp_region_held_drew (S:=λ_=>True) (by kernel_rfl) (trivial) (λau=>?_);refine cP [(0,69),(1,70),(2,71),(3,72),(4,73),(5,74),(6,75),(7,76)] ?_
 iterate 8 refine bj ?_
 refine cQ 8 77 λK hK=>?_;go_simp;obtain⟨w2,ea,B3,oa⟩:=uz (P:=prog) BD.o.drew 108 3 111 3 ((i+1)*3) (n-i) (c-(i+1)) ⟨g,i*3,none⟩ (n+1-i) (c-i) (aD (l.drop i)) underlying108 nM (by rw[ar,dY,nz.o,show Nat.min (n+1-i) (n-i)=n-i from by simp only[Nat.min_def];split<;>omega]) QW.o (by rw[ar,dY,aO,ar,nz.o,Se.o];omega) (lE _);have EA:=xh ea;have B3:=xh B3
 have OA:=xh oa;clear ea oa;rw[EA.o];go_simp;refine bz hK (trivial) (λau=>?_);refine wpAnyH_done (by kernel_rfl) ?_ _;have BE3:=BE.o.drew.only OA.o (by simpa using fc)
 obtain⟨w3,eb,B4,ob⟩:=uz (P:=prog) B3.o 108 3 111 3 (i*3) (n+1-i) (c-i) ⟨g2,0,none⟩ 1 cc e.cells underlying108 nM (by show 3=_;rw[show Nat.min 1 (n+1-i)=1 from by simp only[Nat.min_def];split<;>omega]) (bq (l:=e.cells) BE3 0 _ (by simp)) (by rw[jT (by rw[ar,dY,aO,ar,nz.o,Se.o];omega),aO,ar,nz.o,Se.o];show i*3+3<=_;omega) (wv e)
 rw[VE l e rest i (by rw[nz.o];omega) (by rw[Se.o];omega)]at B4;have EB:=xh eb;have B4:=xh B4;have OB:=xh (OA.o.trans ob);clear eb ob BE3;go_wp2_with fail;rw[EB.o];go_wp2_with fail;go_ret;exact⟨_,_,by first|rfl|simp,⟨by rw[ar,BL.o],.inr ⟨g,c,_,rfl,B4.o,by rw[ar,BL.o,dY,Se.o];omega,HCM.o⟩⟩,by simpa [ah]using (ag.refl [g] w).drew.trans OB.o,λx hx=> .inl (by simpa [ah]using hx)⟩
noncomputable def FP(P:Program)(T U ty:TypeId)(w:World)(s x:Value):Result Value:=(Builtin.append_ #[T,U] ty #[s,x]).run P w
theorem QX(P:Program)(ρ:Operand->Value)(dst:Option Tmp)(s x:Operand)(T U t:TypeId)(p:String)(af:Array Edge)(g:Option (Nat×Bool))(w:World):
  (execOp ρ {dst:=dst,op:= .call {callee:= .builtin .append,args:= #[s,x],argTypes:= #[T,U]},type:=t,pos:=p,after:=af,guard:=g}).run P w=(FP P T U t w (ρ s) (ρ x)).andThen λv w'=> .ok (.value v) w':=by
 simp[execOp,resolve,invoke,builtin,FP]
theorem IJ{w:World}{g c:Nat}{l:List E}{rest:List Value}(B:aF w g 111 (aD l++rest).toArray)(i k:Nat)(hi:i<=l.length)(hk:0<k)(hc:c<i+k)(hm:i+k<=1000000):
  ∃w' G zs,FP prog 108 3 108 w (.slice (some ⟨g,0,none⟩) i c) (.int .i64 (k:Nat))= .ok (.slice (some ⟨w.heap.size,0,none⟩) (i+k) G) w'/\aF w' w.heap.size 111 (aD (l.take i)++zs).toArray/\zs.length=(G-i)*3/\i+k<=G/\G<=maxLen/\Below w.heap.size w w':=by
 obtain⟨i0,Cw,ku,js,ki⟩:=info_parts rp;have hold:(Builtin.firstCells i0.size i (.slice (some ⟨g,0,none⟩) i c)).run prog w.drew=.ok (aD (l.take i)).toArray w.drew:=by
  rw[js];exact run_firstCells_some w.drew 3 i ⟨g,0,none⟩ i c (aD (l.take i)) (by rw[ar,bK];omega) (bq B.drew 0 _ (λj v hv=>by
   rw[bl,bE]
   .rw[<-wj,sy]at hv
    split at hv
    .exact hv
    .cases hv
   .have:=(aM.1 hv).1;rw[ar,bK]at this;rw[ar];omega))
 have h:=Lib.run_append_grow_zeros w 108 3 108 111 i0 _ .i64 .i64 underlying108 underlying3 Cw ku (some ⟨g,0,none⟩) i c (aD (l.take i)) hold k hk (by omega) hc (by omega) (by rw[ki];omega) (by rw[ki];exact growslice_fits (by omega) (by omega));have hG:=grownCap_ge w (i+k) c 111;have hG2:=grownCap_le_maxLen w (i+k) c 111 (by unfold maxLen;omega);have hzc:∀m,(Builtin.zeroCells (Value.agg #[.string ⟨#[]⟩,.string ⟨#[]⟩,.int .i64 0]).cells m).size=m*3:=λm=>by
  simp[Builtin.zeroCells,Value.cells]
 generalize grownCap w (i+k) c 111=G at *;have hA:∀(a b:Array Value),(aD (l.take i)).toArray++a++b=(aD (l.take i)++(a.toList++b.toList)).toArray:=λa b=>by
  apply rS.1;simp
 rw[hA]at h;have hzl:((Builtin.zeroCells (Value.agg #[.string ⟨#[]⟩,.string ⟨#[]⟩,.int .i64 0]).cells k).toList++(Builtin.zeroCells (Value.agg #[.string ⟨#[]⟩,.string ⟨#[]⟩,.int .i64 0]).cells (G-(i+k))).toList).length=(G-i)*3:=by
  rw[aO,Sk,Sk,hzc,hzc];omega
 generalize (Builtin.zeroCells (Value.agg #[.string ⟨#[]⟩,.string ⟨#[]⟩,.int .i64 0]).cells k).toList++(Builtin.zeroCells (Value.agg #[.string ⟨#[]⟩,.string ⟨#[]⟩,.int .i64 0]).cells (G-(i+k))).toList=ZS at *;refine⟨_,G,ZS,h,?_,hzl,hG,hG2,?_⟩
 .exact aF.new w.drew 111 _
 .exact(Below.refl w.heap.size w).drew.alloc (Nat.le_refl _) _
theorem VF(l:List E)(e:E)(zs:List Value)(i:Nat)(hi:i<l.length)(hz:(l.length+1-i)*3<=zs.length):
  putAt (putAt (aD (l.take i)++zs) (i*3) e.cells) ((i+1)*3) (aD (l.drop i))=aD (l.insertIdx i e)++zs.drop ((l.length+1-i)*3):=by
 have e0:e.cells.length=3:=rfl;have e2:(aD (l.take i)).length=i*3:=by rw[ar,bK];omega
 have e3:(aD (l.drop i)).length=(l.length-i)*3:=by rw[ar,dY]
 have a1:putAt (aD (l.take i)++zs) (i*3) e.cells=(aD (l.take i)++e.cells)++zs.drop 3:=by
  unfold putAt;rw[<-e2,qO,e0,<-ix,sr]
 have a2:(aD (l.take i)++e.cells).length=(i+1)*3:=by rw[aO,e2,e0];omega
 rw[a1,yK e l i (by omega),gH,kI];have e4:zs.drop ((l.length+1-i)*3)=(zs.drop 3).drop ((l.length-i)*3):=by rw[ix];congr 1;omega
 unfold putAt;rw[<-a2,qO,<-ix,sr,e3,e4];simp only[cy]
end
section
attribute [local go_sem ↓] Go.wp_at_zero Go.wp_at_succ QX IF VD
theorem FQ{w:World}{A:Option Addr}{n c:Nat}{l:List E}(S:aS w 111 3 (.slice A n c) n (aD l))(e:E){g2 cc:Nat}(B2:aF w g2 111 e.cells.toArray)(hn:n<=100000)(hg:g2∉ah (.slice A n c))(i:Nat)(hi:i<n)(hc:c<n+1):
  Calls prog 74 #[.slice A n c,.int .i64 (i:Nat),.slice (some ⟨g2,0,none⟩) 1 cc] w λr w'=> ∃A' c',r=.returned (.slice A' (n+1) c')/\aS w' 111 3 (.slice A' (n+1) c') (n+1) (aD (l.insertIdx i e))/\ag (ah (.slice A n c)) w w'/\∀x∈ah (.slice A' (n+1) c'),x∈ah (.slice A n c)\/w.heap.size<=x:=by
 obtain⟨g,cap,rest,hv,BG,Sc,LM⟩:=S.form (by omega) (by omega);simp only[Value.slice.injEq,true_and]at hv;obtain⟨rfl,rfl⟩:=hv;have uQ:c<=maxLen:=by obtain⟨_,_,_,_,h⟩:=S.uP;exact h
 have tC:l.length=n:=by have:=S.1;rw[ar]at this;omega
 have nz:=xh tC;have Se:=xh (show rest.length=c*3-n*3 by rw[ar,tC]at LM;omega);have BD:=xh BG;have BE:=xh B2;have fc:g2≠g:=λh=>hg (by simp[ah,h]);have HCM:=xh uQ;have BL:=xh (show(l.insertIdx i e).length=n+1 from by rw[Em,tC,if_pos (by omega)]);unfold maxLen at uQ;clear S tC LM;have s1:¬(i:Int)=(n:Int):=by omega
 have s2:(i:Int)<=(n:Int):=by omega
 have s3:(i:Int)<=(c:Int):=by omega
 have s4:¬c=i:=by omega
 have s8:IntKind.i64.wrap ((i:Int)+1)=(i:Int)+1:=IntWalk.i64_in _ (by omega);have s9:IntKind.i64.wrap ((n:Int)+1)=(n:Int)+1:=IntWalk.i64_in _ (by omega);have s10:((i:Int)+1).toNat=i+1:=by omega
 have s11:((n:Int)+1).toNat=n+1:=by omega
 have s12:(0:Int)<=(i:Int)+1:=by omega
 have s13:(0:Int)<=(n:Int)+1:=by omega
 have s14:(i:Int)+1<=(n:Int)+1:=by omega
 have s15:(i:Int)<=(n:Int)+1:=by omega
 have QW:=xh (show ∀W,aF W g 111 (aD l++rest).toArray->∀j v,(aD (l.drop i))[j]?=some v->W.cell? ((⟨g,i*3,none⟩:Addr).add j)=some v from λW BW j v hv=>by
  rw[fZ];refine(BW.cell _).trans ?_;rw[<-me,gK]at hv;rw[dh,bE (aM.1 hv).1,hv])
 obtain⟨w2,G,zs,ea,B3,hz,hG,hG2,dn⟩:=IJ (c:=c) BG i (n+1-i) (by rw[nz.o];omega) (by omega) (by omega) (by omega);rw[show i+(n+1-i)=n+1 by omega]at ea hG;have EA:=xh ea;have B3:=xh B3;have HZ:=xh hz;have FJ:=xh dn;have BE2:=xh (BE.o.below dn BE.o.lt);have BG2:=xh (BD.o.below dn BD.o.lt);have HGW:=xh (show g<w.heap.size/\g2<w.heap.size from⟨BD.o.lt,BE.o.lt⟩);have s17:(c:Int)<(n:Int)+1:=by omega
 have s20:(n:Int)+1-(i:Int)=((n+1-i:Nat):Int):=by omega
 have s21:IntKind.i64.wrap (((n+1-i:Nat):Int))=((n+1-i:Nat):Int):=IntWalk.i64_in _ (by omega);have s22:¬G=i:=by omega
 have s23:¬G=i+1:=by omega
 have s24:(n:Int)+1<=(G:Int):=by omega
 have s25:(i:Int)<=(G:Int):=by omega
 have s26:(i:Int)+1<=(G:Int):=by omega
 unfold maxLen at hG2;have HG2:=xh hG2;clear B2 BG hg ea hz dn;go_enter func74,ntmps74;go_wp2_with fail;rw[EA.o]
 obtain⟨w3,eb,B4,oa⟩:=uz (P:=prog) B3.o 108 3 111 3 (i*3) (n+1-i) (G-i) ⟨g2,0,none⟩ 1 cc e.cells underlying108 nM (by show 3=_;rw[show Nat.min 1 (n+1-i)=1 from by simp only[Nat.min_def];split<;>omega]) (bq (l:=e.cells) BE2.o 0 _ (by simp)) (by rw[aO,ar,bK,nz.o,HZ.o];show i*3+3<=_;omega) (wv e);have EB:=xh eb;have B4:=xh B4;have HBG:=xh (BG2.o.only oa (by simp;have:=HGW.o;omega))
 have OA:=xh oa;have HFT:=xh (show(i+1)*3+(aD (l.drop i)).length<=(putAt (aD (l.take i)++zs) (i*3) e.cells).length from by
  rw[jT (by rw[aO,ar,bK,nz.o,HZ.o];show i*3+3<=_;omega),aO,ar,ar,bK,dY,nz.o,HZ.o];omega)
 clear eb oa;go_wp2_with fail;rw[EB.o];go_wp2_with fail;refine wp_region_held_drew (S:=λ_=>True) (by kernel_rfl) (trivial) (λau=>?_);refine cP [(0,46),(1,47),(2,48),(3,49),(4,50),(5,51),(6,52),(7,53)] ?_
 iterate 8 refine bj ?_
 refine cQ 8 54 λK hK=>?_;go_simp;obtain⟨w4,eb,B5,ob⟩:=uz (P:=prog) B4.o.drew 108 3 111 3 ((i+1)*3) (n-i) (G-(i+1)) ⟨g,i*3,none⟩ (n-i) (c-i) (aD (l.drop i)) underlying108 nM (by rw[ar,dY,nz.o,show Nat.min (n-i) (n-i)=n-i from Nat.min_self _]) (QW.o _ HBG.o.drew) HFT.o (lE _);have EB:=xh eb;have B5:=xh B5;have OB:=xh ob;clear eb ob;rw[EB.o];go_simp;refine bz hK (trivial) (λau=>?_)
 refine wpAnyH_done (by kernel_rfl) ?_ _;have B6:=B5.o;rw[VF l e zs i (by rw[nz.o];omega) (by rw[nz.o,HZ.o];omega)]at B6;have B6:=xh B6;have OC:=xh (FJ.o.mono (Nat.le_refl _));go_wp2_with fail;go_ret;refine⟨_,_,by first|rfl|simp,⟨by rw[ar,BL.o],.inr ⟨w.heap.size,G,_,rfl,B6.o,by rw[ar,BL.o,dY,HZ.o,nz.o];omega,HG2.o⟩⟩,?_,λx hx=> .inr (by simp[ah]at hx;omega)⟩
 have o4:=((ag.refl [w.heap.size] w3).drew).trans OB.o;exact((ag.ai (S:=[]) FJ.o).aL (OA.o.trans o4) (λx hx dP=>by simp at hx;omega)).mono (λx hx _=>by simp at hx)
end
attribute [local go_sem ↓] Go.wp_at_zero Go.wp_at_succ bw IF VD
theorem xM{w:World}{A:Option Addr}{n c:Nat}{l:List E}(S:aS w 111 3 (.slice A n c) n (aD l))(e:E){g2 cc:Nat}(B2:aF w g2 111 e.cells.toArray)(hn:n<=100000)(hg:g2∉ah (.slice A n c))(i:Nat)(hi:i<=n)(hf:w.frozen? ⟨g2,3,none⟩=false):
  Calls prog 74 #[.slice A n c,.int .i64 (i:Nat),.slice (some ⟨g2,0,none⟩) 1 cc] w λr w'=> ∃A' c',r=.returned (.slice A' (n+1) c')/\aS w' 111 3 (.slice A' (n+1) c') (n+1) (aD (l.insertIdx i e))/\ag (ah (.slice A n c)) w w'/\∀x∈ah (.slice A' (n+1) c'),x∈ah (.slice A n c)\/w.heap.size<=x:=by
 have hl:=S.1;rw[ar]at hl
 rcases dX i n with h|h
 .rcases dX c (n+1)with h1|h1
  .exact FQ S e B2 hn hg i h h1
  .exact FN S e B2 hn hg i h hf h1
 .obtain rfl:i=n:=by omega
  have:=IG S e (cc:=cc) B2 hn
  rwa [show l++[e]=l.insertIdx i e from by rw[yK e l i (by omega),cr (by omega),lK (by omega)]]at this
theorem Mw{w:World}{A:Option Addr}{n c:Nat}{l:List E}(S:aS w 111 3 (.slice A n c) n (aD l))(hn:n<=100000)(h0:0<n):
  Calls prog 217 #[.slice A n c] w λr w'=> ∃g c',r=.returned (.slice (some ⟨g,0,none⟩) n c')/\aS w' 111 3 (.slice (some ⟨g,0,none⟩) n c') n (aD l)/\Below w.heap.size w w'/\w.heap.size<=g:=by
 obtain⟨g,cap,rest,hv,BG,Sc,LM⟩:=S.form h0 (by omega);simp only[Value.slice.injEq,true_and]at hv;obtain⟨rfl,rfl⟩:=hv;obtain⟨i0,hi,ku,js,ki⟩:=info_parts rp;have hl:=S.1;rw[ar]at hl;have BN:=aF.new w 111 #[];have S0:aS (w.alloc (.cells #[] 111)) 111 3 (.slice (some ⟨w.heap.size,0,none⟩) 0 0) 0 []:=⟨rfl,.inr ⟨w.heap.size,0,[],rfl,BN,rfl,by unfold maxLen;omega⟩⟩;have BG2:=BG.alloc (.cells #[] 111)
 obtain⟨v',w',ea,S2,o2,f2⟩:=dC (P:=prog) S0 108 108 i0 _ 40 underlying108 hi ku js ki rfl (by omega) ⟨g,0,none⟩ n c (aD l) (by rw[ar];exact hl) (bq BG2 0 _ (λj v hj=>by rw[bl,bE (aM.1 hj).1];exact hj)) (lE l) (by unfold maxLen;omega) (by omega);rw[cI,bl]at S2;obtain⟨gg,cc,_,rfl,_,_⟩:=S2.form h0 (by omega)
 have EA:=xh (show dZ prog 108 108 (w.alloc (.cells #[] 111)) (.slice (some ⟨w.heap.size,0,none⟩) 0 0) (.slice (some ⟨g,0,none⟩) n c)=_ from ea);have Vj:w.heap.size<=gg:=by
  rcases f2 gg (by simp[ah])with h|h
  .simp[ah]at h;omega
  .simp at h;omega
 have hb:Below w.heap.size w w':=((Below.refl w.heap.size w).alloc (Nat.le_refl _) _).trans (o2.aJ (by simp) (λx hx=>by simp[ah]at hx;omega));have S2:=xh S2;have hb:=xh hb;have Vj:=xh Vj;have HE:=Lib.run_eql_slice_nil (P:=prog) w 108 111 (some ⟨g,0,none⟩) n c 0 0 underlying108;clear BG BG2 BN S0 S ea o2 f2 hi ku js ki hl LM;go_enter func217,ntmps217;go_wp2_with fail;rw[EA.o];go_wp2_with fail;go_ret
 exact⟨gg,cc,by first|rfl|simp,S2.o,hb.o,Vj.o⟩
end Nd
end
end Go.Proofs.YtmonobkginiajaaGreat
