/- packed. -/
import Derived.Test.YtmonobkginiajaaGreatB13
set_option linter.all false
set_option maxRecDepth 100000
set_option maxHeartbeats 8000000
namespace Go.Proofs.YtmonobkginiajaaGreat
open Go.Proofs.Tryz
namespace Sh
open Go.RowKit Pk Dk Pg
attribute [local go_sem ↓] Go.wp_at_zero Go.wp_at_succ bz
theorem Ru:∀y:List UInt8,Nd.cb [] y<=0
 |[]=>by decide
 |_::_=>by show(-1:Int)<=0;omega
theorem ON:∀(a b:List UInt8),Nd.cb (a++[0]) b<=0↔Nd.cb a b<0
 |[],[]=>by decide
 |[],b::y=>by
  have h1:Nd.cb [] (b::y)= -1:=rfl;rw[cW,Nd.kZ,h1];refine⟨λ_=>by omega,λ_=>?_⟩
  split
  .omega
  .rw[if_neg (by simp)];exact Ru y
 |a::x,[]=>by
  have h1:∀z:List UInt8,Nd.cb (a::z) []=1:=λ_=>rfl;rw[lI,h1,h1];omega
 |a::x,b::y=>by
  rw[lI,Nd.kZ,Nd.kZ];have ih:=ON x y
  split
  .omega
  .split
   .omega
   .exact ih
theorem Wx(k x:ByteArray):nY (k++⟨#[0]⟩) x↔fR k x:=by
 have h:(k++⟨#[0]⟩:ByteArray).data.toList=k.data.toList++[0]:=by simp[Jx]
 unfold nY fR kc;rw[h];exact ON _ _
def Nc(l:List PR)(p:Nat):ByteArray:=if p=0 then⟨#[]⟩else(l.getD (p-1) (⟨#[]⟩,⟨#[]⟩)).1++⟨#[0]⟩
theorem Gd(l:List PR)(hs:l.Pairwise λa b=>fR a.1 b.1)(p:Nat)(hp:p<=l.length):l.filter (rZ (Nc l p) ⟨#[]⟩)=l.drop p:=by
 by_cases h0:p=0
 .subst h0;exact uT l
 .have dH:p-1<l.length:=by omega
  have hk:Nc l p=l[p-1].1++⟨#[0]⟩:=by unfold Nc;rw[if_neg h0,gH,aL dH];rfl
  have pH:∀x:PR,rZ (Nc l p) ⟨#[]⟩ x=true↔fR l[p-1].1 x.1:=λx=>by
   unfold rZ Bb;rw[hk];simp only[im,decide_eq_true_eq];rw[Wx];exact⟨λh=>h.1,λh=>⟨h,by simp[ByteArray.size]⟩⟩
  rw[yi]at hs;clear hk;generalize Nc l p=f at pH ⊢
  conv=>lhs;rw[<-kT p l]
  rw[sq,filter_none (l:=l.take p),filter_all (l:=l.drop p)]
  .rfl
  .intro x hx;obtain⟨j,hj,rfl⟩:=yg.1 hx;rw[cO]at hj;rw[List.getElem_drop];exact(pH _).2 (hs (p-1) (p+j) dH (by omega) (by omega))
  .intro x hx;obtain⟨j,hj,rfl⟩:=yg.1 hx;rw[bm]at hj;rw[JO]
   cases hb:rZ f ⟨#[]⟩ l[j]
   .rfl
   .exfalso;have h1:=(pH _).1 hb
    by_cases hjp:j=p-1
    .subst hjp;exact iH h1
    .exact iH (ij h1 (hs j (p-1) (by omega) dH (by omega)))
theorem Ng(l:List PR)(hs:l.Pairwise λa b=>fR a.1 b.1)(p c:Nat)(hp:p<=l.length):iZ (Nc l p) ⟨#[]⟩ (c:Nat) l=(l.drop p).take c:=by
 rw[FZ,Gd l hs p hp,gG]
theorem Bo(l:List PR)(p c:Nat)(hp:p<=l.length)(hc:0<c)(h:((l.drop p).take c).length≠0):l.take p++(l.drop p).take c=l.take (p+((l.drop p).take c).length)/\p+((l.drop p).take c).length<=l.length/\∃x,((l.drop p).take c)[((l.drop p).take c).length-1]?=some x/\Nc l (p+((l.drop p).take c).length)=x.1++⟨#[0]⟩:=by
 have hl:((l.drop p).take c).length=min c (l.length-p):=by rw[bm,cO]
 refine⟨?_,by omega,?_⟩
 .rw[List.take_add,hl]
  congr 1
  rcases Nat.le_total c (l.length-p)with h1|h1
  .rw[oC h1]
  .rw[Nat.min_eq_right h1,cy (by rw[cO];omega),cy (by rw[cO];omega)]
 .have dH:((l.drop p).take c).length-1<((l.drop p).take c).length:=by omega
  obtain⟨x,hx⟩:∃x,((l.drop p).take c)[((l.drop p).take c).length-1]?=some x:=⟨_,aL dH⟩;refine⟨x,hx,?_⟩;have ff:¬p+((l.drop p).take c).length=0:=by omega
  have Rw:l[p+(((l.drop p).take c).length-1)]?=some x:=by
   have Jo:=hx;rw[pM]at Jo
   split at Jo
   .rw[gI]at Jo;exact Jo
   .cases Jo
  unfold Nc;rw[if_neg ff,gH,show p+((l.drop p).take c).length-1=p+(((l.drop p).take c).length-1) by omega,Rw];rfl
theorem Bp(l:List PR)(p c:Nat)(hc:0<c)(h:((l.drop p).take c).length=0):l.take p=l:=by
 rw[bm,cO]at h;exact cy (by omega)
def TP(w wr:World)(wb tb mb:Nat)(I:Ix)(F:List Nat)(vl vo:Value)(n k:Nat)(l o:List PR):Prop:= ∃q,TW wr wb tb mb I F vl vo q n (50+40000000*50+300000*k) l o/\TI q l o 300 50/\Below w.heap.size w wr
section
variable{w wr:World}{wb tb mb n k:Nat}{I:Ix}{F:List Nat}{vl vo:Value}{l o:List PR}
theorem TP.b(h:TP w wr wb tb mb I F vl vo n k l o):Below w.heap.size w wr:=by obtain⟨q,_,_,b⟩:=h;exact b
theorem TP.cells(h:TP w wr wb tb mb I F vl vo n k l o):wr.cell? ⟨wb,2,none⟩=some (.pointer (some ⟨tb,0,none⟩))/\wr.cell? ⟨wb,3,none⟩=some (.pointer (some ⟨mb,0,none⟩)):=by obtain⟨q,T,_,_⟩:=h;exact⟨T.cells.2.1,T.cells.2.2.1⟩
theorem TP.m(h:TP w wr wb tb mb I F vl vo n k l o):Mp wr mb vl l:=by obtain⟨q,T,_,_⟩:=h;exact T.m
theorem TP.only{w':World}{S:List Nat}(h:TP w wr wb tb mb I F vl vo n k l o)(ho:ag S wr w')(h1:∀x∈S,w.heap.size<=x)(hd:∀g∈wb::mb::tb::F,g∉S)(h2:∀g∈ai vl,g∉S)(h3:∀g∈ai vo,g∉S):TP w w' wb tb mb I F vl vo n k l o:=by
 obtain⟨q,T,t,b⟩:=h;exact⟨q,T.only ho hd h2 h3,t,b.trans (ho.aI b.size h1)⟩
theorem TP.lt(h:TP w wr wb tb mb I F vl vo n k l o):(∀g∈wb::mb::tb::F,g<wr.heap.size)/\(∀g∈ai vl,g<wr.heap.size)/\∀g∈ai vo,g<wr.heap.size:=by obtain⟨q,T,_,_⟩:=h;exact⟨T.lt,T.m.s.lt,T.s.lt⟩
theorem TP.scan(h:TP w wr wb tb mb I F vl vo n k l o)(hk:k<=100)(hF:∀g∈F,w.heap.size<=g)(p c:Nat)(hp:p<=l.length):
  Calls prog 17 #[.pointer (some ⟨tb,0,none⟩),.string (Nc l p),.string ⟨#[]⟩,.int .i64 (c:Nat)] wr λe w'=> ∃A cc L r,e=.returned (.tuple #[.slice A L.length cc,.int .i64 r])/\TP w w' wb tb mb I F vl vo n (k+1) l o/\ag F wr w'/\aT w' 42 2 (.slice A L.length cc) L.length (ku L)/\(∀g∈ai (.slice A L.length cc),wr.heap.size<=g)/\(r=11\/(r=0/\Hid (L=(l.drop p).take c))):=by
 obtain⟨q,T,t,b⟩:=h;obtain⟨g1,g2⟩:=t.Wt (Nc l p) ⟨#[]⟩ (c:Nat);rw[Ng l t.sorted.1 p c hp]at g2;refine(rz T.t (by omega) (Nc l p) ⟨#[]⟩ (c:Nat)).mono λe w' ⟨v,r,S,P,ho,f⟩=>?_;obtain⟨A,cc,hv⟩:=au S;subst hv;refine⟨A,cc,_,_,r,⟨_,(T.next ho P).le (by omega),g1,b.trans (ho.aI b.size hF)⟩,ho,S,f,?_⟩
 rcases g2 with g2|g2
 .exact .inl g2
 .rw[g2];exact .inr ⟨rfl,rfl⟩
end
theorem Ch(Np:Nat)(h2:Np<256){w:World}(A:Option Addr)(m cc:Nat)(F:Nat->RH)(hm:m<=9223372036854775807)(hA:wV w A m F):
  Calls prog 4 #[.slice A m cc,.int .u8 (Np:Nat)] w λe w'=>e=.returned (.bool true)/\Below w.heap.size w w':=by
 obtain⟨r,hr⟩:∃r:Nat,Np % 5=r:=⟨_,rfl⟩;obtain⟨c,hc⟩:∃c:Nat,c=r+1:=⟨_,rfl⟩;have e0:(Np:Int) % 5=(r:Int):=by omega
 have e1:IntKind.u8.wrap (r:Int)=(r:Int):=IntWalk.u8_in _ (by omega);have e2:IntKind.i64.wrap (r:Int)=(r:Int):=IntWalk.i64_in _ (by omega);have e3:IntKind.i64.wrap ((r:Int)+1)=(c:Int):=by rw[show(r:Int)+1=(c:Int) by omega];exact IntWalk.i64_in _ (by omega)
 have EL:=xh (show 0<c/\c<=5 by omega);have KB:=xh (Bn w 6 300 (by omega) (by omega) (by omega) (by omega));rw[show 2+4*300=1202 from rfl]at KB;have KA:=xh xV;have HA:=xh (λ(W:World) (hb:Below w.heap.size w W)=>hA.below hb);have KS:=xh xW;clear hA hr hc;go_enter func4,ntmps4;go_wp2_with fail;refine KB.o.mono ?_;rintro e w1 ⟨wb,I,rfl,P1⟩;have P1:=xh P1;go_wp2_with fail;refine(KA.o w1).mono ?_;rintro e w2 ⟨rfl,cA⟩
 have P2:=xh (P1.o.below cA);clear cA;go_wp2_with fail
 go_loopw [6] (λiv wr=> ∃i:Nat,i<=50/\iv=.int .i64 i/\Hid (Jv w wr wb 1202 300 I i)) (λiv _=>50-(intOf iv).toNat)
 case atStart=>exact⟨0,aY _,rfl,P2⟩
 case round=>
  obtain⟨i,hi,rfl,HP⟩:=hrel
  by_cases h1:i<m
  .have Wh:(i:Int)<(m:Int):=by omega
   by_cases h2:i<50
   .have Te:(i:Int)<50:=by omega
    obtain⟨ad,rfl,hSa⟩:=HA.o wr HP.o.b i h1;obtain⟨c0,c1,c2,c3,c4⟩:=hSa;have HC:=xh (show ∀W,Below w.heap.size w W->Jl W (ad.add (i*5)) (F i)from λW hb=>by
     obtain⟨ad',e,h⟩:=HA.o W hb i h1;injection e with e
     rw[e];exact h)
    generalize F i=sa at c0 c1 c2 c3 c4 HC;obtain⟨kd,nn,key,az,val⟩:=sa;dsimp only at c0 c1 c2 c3 c4;obtain⟨bb,ue⟩:∃bb,decide (key.size<200/\az.size<200/\val.size<3000)=bb:=⟨_,rfl⟩;have KS2:=xh (λ(W:World)=>KS.o kd nn key az val W bb ue.symm);have ei:IntKind.i64.wrap ((i:Int)+1)=((i+1:Nat):Int):=IntWalk.i64_in _ (by omega);have HBB:=xh ue;clear ue;go_wp2_with fail;refine(KS2.o _).mono ?_;rintro e w3 ⟨rfl,gh⟩;have P3:=xh (HP.o.below gh);clear gh c0 c1 c2 c3 c4
    cases bb
    .have P4:=xh P3.o.succ;go_wp2_with fail;go_roundw
     case rel=>exact⟨i+1,by omega,by go_num,P4⟩
     case measure=>simp[intOf];omega
    .have KD:=xh (P3.o.do_ (by omega) kd nn key az val (of_decide_eq_true HBB.o));obtain⟨c0,c1,c2,c3,c4⟩:=HC.o w3 P3.o.b;dsimp only at c0 c1 c2 c3 c4;go_wp2_with fail;refine KD.o.mono ?_;rintro e w4 ⟨rfl,P4⟩;have P4:=xh P4;clear c0 c1 c2 c3 c4;go_wp2_with fail;go_roundw
     case rel=>exact⟨i+1,by omega,by go_num,P4⟩
     case measure=>simp[intOf];omega
   .have Te:¬(i:Int)<50:=by omega
    obtain⟨tb,mb,F,vl,vo,q,l,o,T,ti,b,f⟩:=HP.o;have HL:=xh (And.intro ti.sorted.1 (show l.length<=50 by have:=ti.sorted.2;omega));have HKY:=xh ti.keys;have P0:=xh (show TP w wr wb tb mb I F vl vo 1202 0 l o from⟨q,T.le (by omega),ti.le hi,b⟩);have FF:=xh f;obtain⟨z,hz⟩:∃z,wr.heap.size=z:=⟨_,rfl⟩
    have HD:=xh (show(∀g∈wb::mb::tb::F,g<z)/\(∀g∈ai vl,g<z)/\(∀g∈ai vo,g<z)/\w.heap.size<=z from⟨by rw[<-hz];exact P0.o.lt.1,by rw[<-hz];exact P0.o.lt.2.1,by rw[<-hz];exact P0.o.lt.2.2,by rw[<-hz];exact b.size⟩);have HZ0:=xh (show z<=wr.heap.size by omega);clear T ti b f hz HP;go_wp2_with fail
    go_loopw [7,8,9] (λav fv kv wx=> ∃k p:Nat,k<=70/\kv=.int .i64 k/\fv=.string (Nc l p)/\Hid (p<=l.length/\min k l.length<=p)/\aT wx 42 2 av p (ku (l.take p))/\Hid (TP w wx wb tb mb I F vl vo 1202 k l o)/\Hid (∀g∈ai av,z<=g)/\Hid (z<=wx.heap.size)) (λ_ _ kv _=>70-(intOf kv).toNat)
    case atStart=>exact⟨0,0,aY _,rfl,rfl,xh ⟨aY _,by omega⟩,aT.nil _ _ _,P0,xh (by simp[ai]),HZ0⟩
    case round=>
     obtain⟨k,p,hk,rfl,rfl,mf,S,HT,FA,HZ⟩:=hrel;obtain⟨Aa,ca,rfl⟩:=au S;obtain⟨x2,x3⟩:=HT.o.cells
     by_cases h70:k<70
     .have h70I:(k:Int)<70:=by omega
      have KC:=xh (HT.o.scan (by omega) (λg hg=>FF.o g (by simp[hg])) p c mf.o.1);have ek:IntKind.i64.wrap ((k:Int)+1)=((k+1:Nat):Int):=IntWalk.i64_in _ (by omega);obtain⟨fk,hfk⟩:∃fk,Nc l p=fk:=⟨_,rfl⟩;rw[hfk]at KC ⊢;have S:=xh S;clear hfk;go_wp2_with fail;refine KC.o.mono ?_;rintro e w5 ⟨Am,cm,Lm,rr,rfl,T5,o5,Sm,fm,hr⟩;have T5:=xh T5;have S5:=S.o.only o5 (λg hg hm=>by
       obtain⟨q',T',_,_⟩:=HT.o;exact T'.t.2.Ga S.o g hg hm)
      have hd5:∀g∈ai (.slice Am Lm.length cm),g∉ai (.slice Aa p ca):=λg hg hm=>by have:=fm g hg;have:=S.o.lt g hm;omega
      have HZ5:=xh (show z<=w5.heap.size by have:=HZ.o;have:=o5.size;omega);clear x2 x3
      rcases hr with rfl|⟨rfl,hL⟩
      .have O5:=xh T5.o.b;clear S5 hd5 o5 Sm fm;go_wp2_with fail;refine(dU _).mono ?_;rintro e _ ⟨rfl,rfl⟩;go_wp2_with fail;go_ret;exact aE O5.o
      .have hLl:Lm.length<=5:=by rw[hL.o,bm];have:=EL.o;omega
       obtain⟨v6,w6,ea,S6,o6,f6⟩:=wX (P:=prog) S5 Sm 30 30 (.agg #[.string ⟨#[]⟩,.string ⟨#[]⟩]) 32 underlying30 pk rfl (by omega) (rD _) (by have:=HL.o.2;have:=mf.o;unfold maxLen;omega) (by have:=HL.o.2;have:=mf.o;omega);rw[<-ng]at S6;obtain⟨A6,c6,rfl⟩:=au S6;have Nh:∀g∈ai (.slice Aa p ca),z<=g:=FA.o
       have T6:=xh (T5.o.only o6 (λx hx=>by have:=Nh x hx;have:=HD.o.2.2.2;omega) (λg hg hm=>by have:=Nh g hm;have:=HD.o.1 g hg;omega) (λg hg hm=>by have:=Nh g hm;have:=HD.o.2.1 g hg;omega) (λg hg hm=>by have:=Nh g hm;have:=HD.o.2.2.1 g hg;omega));have Sm6:=Sm.only o6 hd5;have HZ6:=xh (show z<=w6.heap.size by have:=HZ5.o;have:=o6.size;omega)
       have FA6:=xh (show ∀g∈ai (.slice A6 (p+Lm.length) c6),z<=g from λg hg=>(f6 g hg).elim (Nh g) (λh=>by have:=HZ5.o;omega));have EA:=xh ea
       by_cases Ck:Lm.length=0
       .have Jt:=Bp l p c EL.o.1 (by rw[<-hL.o];exact Ck);have nG:Lm=[]:=lK Ck;rw[nG,iJ,Jt,iq,iw]at S6;rw[nG,iq,iw]at EA;obtain rfl:p=l.length:=by have:=congrArg List.length Jt;rw[bm]at this;have:=mf.o.1;omega
        have KE:=xh (λ(Al:Option Addr) (cl:Nat) (hM:Mp w6 mb (.slice Al l.length cl) l)=>mP (n:=l.length) S6 hM.s (by have:=HL.o.2;omega) (by have:=HL.o.2;omega) true (by simp));subst nG;obtain⟨Al,cl,rfl⟩:=au T6.o.m.s;have KE:=xh (KE.o Al cl T6.o.m);obtain⟨x2,x3⟩:=T6.o.cells;have m0:=T6.o.m.b.ab (i:=0) rfl;clear ea S5 hd5 o5 Sm fm S6 o6 f6 Nh Sm6 Jt Ck hLl;go_wp2_with fail;rw[EA.o];go_wp2_with fail;refine KE.o.mono ?_
        rintro e w7 ⟨rfl,gD⟩;have O7:=xh (aB T6.o.b gD);clear gD;go_wp2_with fail;go_ret;exact aE O7.o
       .obtain⟨n1,n2,x,n3,n4⟩:=Bo l p c mf.o.1 EL.o.1 (by rw[<-hL.o];exact Ck);rw[<-hL.o]at n1 n2 n3 n4;rw[n1]at S6;obtain⟨ga,xa,rfl,OJ,hca,tC,c0,c1⟩:=aT.pr Sm6 (i:=Lm.length-1) (by omega);rw[n3]at OJ;injection OJ with OJ
        subst OJ;obtain⟨xk,xv⟩:=x;dsimp only at c0 c1 n4;have hxs:xk.size<=32:=by
         have h1:=ay n3;rw[hL.o]at h1;exact HKY.o _ (mV (fZ h1))
        have s0:0<Lm.length:=by omega
        have s1:IntKind.i64.wrap ((Lm.length:Int)-1)=((Lm.length-1:Nat):Int):=by rw[show((Lm.length:Int)-1)=((Lm.length-1:Nat):Int) by omega];exact IntWalk.i64_in _ (by omega)
        have s2:Lm.length-1<Lm.length:=by omega
        have s3:((Lm.length-1:Nat):Int)<(Lm.length:Int):=by omega
        have s4:(0:Int)<=((Lm.length-1:Nat):Int):=by omega
        have s5:¬(Lm.length:Int)=0:=by omega
        have s6:¬9223372036854775807<xk.size+1:=by omega
        have s7:xk.size+1<=9223372036854775807:=by omega
        have s8:¬Lm.length=0:=Ck;have N4:=xh n4;have N2:=xh (And.intro n2 (show min (k+1) l.length<=p+Lm.length by have:=mf.o;omega));have S6:=xh S6;generalize US:Lm.length=lm at *;generalize hlj:lm-1=lj at *
        replace US:=xh US
        replace hlj:=xh hlj
        clear ea S5 hd5 o5 Sm fm o6 f6 Nh Sm6 n1 n2 n3 n4 hLl hxs;go_wp2_with fail;rw[EA.o];go_wp2_with fail;go_roundw
        case rel=>exact⟨k+1,p+lm,by omega,by go_num,by rw[N4.o],xh ⟨N2.o.1,N2.o.2⟩,S6.o,T6,FA6,HZ6⟩
        case measure=>simp[intOf];omega
     .obtain rfl:k=70:=by omega
      have hp:p=l.length:=by have:=mf.o;have:=HL.o.2;omega
      subst hp;rw[fw]at S;obtain⟨Al,cl,rfl⟩:=au HT.o.m.s;have KE:=xh (mP S HT.o.m.s (by have:=HL.o.2;omega) (by have:=HL.o.2;omega) true (by simp));have m0:=HT.o.m.b.ab (i:=0) rfl;clear S;go_wp2_with fail;refine KE.o.mono ?_;rintro e w7 ⟨rfl,gD⟩;have O7:=xh (aB HT.o.b gD);clear gD;go_wp2_with fail;go_ret;exact aE O7.o
  .have Wh:¬(i:Int)<(m:Int):=by omega
   obtain⟨tb,mb,F,vl,vo,q,l,o,T,ti,b,f⟩:=HP.o;have HL:=xh (And.intro ti.sorted.1 (show l.length<=50 by have:=ti.sorted.2;omega));have HKY:=xh ti.keys;have P0:=xh (show TP w wr wb tb mb I F vl vo 1202 0 l o from⟨q,T.le (by omega),ti.le hi,b⟩);have FF:=xh f;obtain⟨z,hz⟩:∃z,wr.heap.size=z:=⟨_,rfl⟩
   have HD:=xh (show(∀g∈wb::mb::tb::F,g<z)/\(∀g∈ai vl,g<z)/\(∀g∈ai vo,g<z)/\w.heap.size<=z from⟨by rw[<-hz];exact P0.o.lt.1,by rw[<-hz];exact P0.o.lt.2.1,by rw[<-hz];exact P0.o.lt.2.2,by rw[<-hz];exact b.size⟩);have HZ0:=xh (show z<=wr.heap.size by omega);clear T ti b f hz HP;go_wp2_with fail
   go_loopw [7,8,9] (λav fv kv wx=> ∃k p:Nat,k<=70/\kv=.int .i64 k/\fv=.string (Nc l p)/\Hid (p<=l.length/\min k l.length<=p)/\aT wx 42 2 av p (ku (l.take p))/\Hid (TP w wx wb tb mb I F vl vo 1202 k l o)/\Hid (∀g∈ai av,z<=g)/\Hid (z<=wx.heap.size)) (λ_ _ kv _=>70-(intOf kv).toNat)
   case atStart=>exact⟨0,0,aY _,rfl,rfl,xh ⟨aY _,by omega⟩,aT.nil _ _ _,P0,xh (by simp[ai]),HZ0⟩
   case round=>
    obtain⟨k,p,hk,rfl,rfl,mf,S,HT,FA,HZ⟩:=hrel;obtain⟨Aa,ca,rfl⟩:=au S;obtain⟨x2,x3⟩:=HT.o.cells
    by_cases h70:k<70
    .have h70I:(k:Int)<70:=by omega
     have KC:=xh (HT.o.scan (by omega) (λg hg=>FF.o g (by simp[hg])) p c mf.o.1);have ek:IntKind.i64.wrap ((k:Int)+1)=((k+1:Nat):Int):=IntWalk.i64_in _ (by omega);obtain⟨fk,hfk⟩:∃fk,Nc l p=fk:=⟨_,rfl⟩;rw[hfk]at KC ⊢;have S:=xh S;clear hfk;go_wp2_with fail;refine KC.o.mono ?_;rintro e w5 ⟨Am,cm,Lm,rr,rfl,T5,o5,Sm,fm,hr⟩;have T5:=xh T5;have S5:=S.o.only o5 (λg hg hm=>by
      obtain⟨q',T',_,_⟩:=HT.o;exact T'.t.2.Ga S.o g hg hm)
     have hd5:∀g∈ai (.slice Am Lm.length cm),g∉ai (.slice Aa p ca):=λg hg hm=>by have:=fm g hg;have:=S.o.lt g hm;omega
     have HZ5:=xh (show z<=w5.heap.size by have:=HZ.o;have:=o5.size;omega);clear x2 x3
     rcases hr with rfl|⟨rfl,hL⟩
     .have O5:=xh T5.o.b;clear S5 hd5 o5 Sm fm;go_wp2_with fail;refine(dU _).mono ?_;rintro e _ ⟨rfl,rfl⟩;go_wp2_with fail;go_ret;exact aE O5.o
     .have hLl:Lm.length<=5:=by rw[hL.o,bm];have:=EL.o;omega
      obtain⟨v6,w6,ea,S6,o6,f6⟩:=wX (P:=prog) S5 Sm 30 30 (.agg #[.string ⟨#[]⟩,.string ⟨#[]⟩]) 32 underlying30 pk rfl (by omega) (rD _) (by have:=HL.o.2;have:=mf.o;unfold maxLen;omega) (by have:=HL.o.2;have:=mf.o;omega);rw[<-ng]at S6;obtain⟨A6,c6,rfl⟩:=au S6;have Nh:∀g∈ai (.slice Aa p ca),z<=g:=FA.o
      have T6:=xh (T5.o.only o6 (λx hx=>by have:=Nh x hx;have:=HD.o.2.2.2;omega) (λg hg hm=>by have:=Nh g hm;have:=HD.o.1 g hg;omega) (λg hg hm=>by have:=Nh g hm;have:=HD.o.2.1 g hg;omega) (λg hg hm=>by have:=Nh g hm;have:=HD.o.2.2.1 g hg;omega));have Sm6:=Sm.only o6 hd5;have HZ6:=xh (show z<=w6.heap.size by have:=HZ5.o;have:=o6.size;omega)
      have FA6:=xh (show ∀g∈ai (.slice A6 (p+Lm.length) c6),z<=g from λg hg=>(f6 g hg).elim (Nh g) (λh=>by have:=HZ5.o;omega));have EA:=xh ea
      by_cases Ck:Lm.length=0
      .have Jt:=Bp l p c EL.o.1 (by rw[<-hL.o];exact Ck);have nG:Lm=[]:=lK Ck;rw[nG,iJ,Jt,iq,iw]at S6;rw[nG,iq,iw]at EA;obtain rfl:p=l.length:=by have:=congrArg List.length Jt;rw[bm]at this;have:=mf.o.1;omega
       have KE:=xh (λ(Al:Option Addr) (cl:Nat) (hM:Mp w6 mb (.slice Al l.length cl) l)=>mP (n:=l.length) S6 hM.s (by have:=HL.o.2;omega) (by have:=HL.o.2;omega) true (by simp));subst nG;obtain⟨Al,cl,rfl⟩:=au T6.o.m.s;have KE:=xh (KE.o Al cl T6.o.m);obtain⟨x2,x3⟩:=T6.o.cells;have m0:=T6.o.m.b.ab (i:=0) rfl;clear ea S5 hd5 o5 Sm fm S6 o6 f6 Nh Sm6 Jt Ck hLl;go_wp2_with fail;rw[EA.o];go_wp2_with fail;refine KE.o.mono ?_
       rintro e w7 ⟨rfl,gD⟩;have O7:=xh (aB T6.o.b gD);clear gD;go_wp2_with fail;go_ret;exact aE O7.o
      .obtain⟨n1,n2,x,n3,n4⟩:=Bo l p c mf.o.1 EL.o.1 (by rw[<-hL.o];exact Ck);rw[<-hL.o]at n1 n2 n3 n4;rw[n1]at S6;obtain⟨ga,xa,rfl,OJ,hca,tC,c0,c1⟩:=aT.pr Sm6 (i:=Lm.length-1) (by omega);rw[n3]at OJ;injection OJ with OJ
       subst OJ;obtain⟨xk,xv⟩:=x;dsimp only at c0 c1 n4;have hxs:xk.size<=32:=by
        have h1:=ay n3;rw[hL.o]at h1;exact HKY.o _ (mV (fZ h1))
       have s0:0<Lm.length:=by omega
       have s1:IntKind.i64.wrap ((Lm.length:Int)-1)=((Lm.length-1:Nat):Int):=by rw[show((Lm.length:Int)-1)=((Lm.length-1:Nat):Int) by omega];exact IntWalk.i64_in _ (by omega)
       have s2:Lm.length-1<Lm.length:=by omega
       have s3:((Lm.length-1:Nat):Int)<(Lm.length:Int):=by omega
       have s4:(0:Int)<=((Lm.length-1:Nat):Int):=by omega
       have s5:¬(Lm.length:Int)=0:=by omega
       have s6:¬9223372036854775807<xk.size+1:=by omega
       have s7:xk.size+1<=9223372036854775807:=by omega
       have s8:¬Lm.length=0:=Ck;have N4:=xh n4;have N2:=xh (And.intro n2 (show min (k+1) l.length<=p+Lm.length by have:=mf.o;omega));have S6:=xh S6;generalize US:Lm.length=lm at *;generalize hlj:lm-1=lj at *
       replace US:=xh US
       replace hlj:=xh hlj
       clear ea S5 hd5 o5 Sm fm o6 f6 Nh Sm6 n1 n2 n3 n4 hLl hxs;go_wp2_with fail;rw[EA.o];go_wp2_with fail;go_roundw
       case rel=>exact⟨k+1,p+lm,by omega,by go_num,by rw[N4.o],xh ⟨N2.o.1,N2.o.2⟩,S6.o,T6,FA6,HZ6⟩
       case measure=>simp[intOf];omega
    .obtain rfl:k=70:=by omega
     have hp:p=l.length:=by have:=mf.o;have:=HL.o.2;omega
     subst hp;rw[fw]at S;obtain⟨Al,cl,rfl⟩:=au HT.o.m.s;have KE:=xh (mP S HT.o.m.s (by have:=HL.o.2;omega) (by have:=HL.o.2;omega) true (by simp));have m0:=HT.o.m.b.ab (i:=0) rfl;clear S;go_wp2_with fail;refine KE.o.mono ?_;rintro e w7 ⟨rfl,gD⟩;have O7:=xh (aB HT.o.b gD);clear gD;go_wp2_with fail;go_ret;exact aE O7.o
end Sh
end Go.Proofs.YtmonobkginiajaaGreat
