/- packed. -/
import Derived.Test.YtmonobkginiajaaGreatAs14
set_option linter.all false
set_option maxRecDepth 100000
set_option maxHeartbeats 8000000
namespace Go.Proofs.YtmonobkginiajaaGreat
open Go.Proofs.Tryz
open Value renaming string→U2,slice→U3,int→U5,bool→U6,pointer→U7,tuple→U8
open Ending renaming returned→BY
open IntKind renaming i64→By
open Obj renaming cells→WF
open Go renaming World→YB,Value→YO,Calls→eq,maxLen→it
open And renaming intro→io
namespace Sh
open Go.RowKit Pk Dk Pg
attribute [local go_sem ↓] bA
variable{w:YB}{mb:Nat}{v:YO}{l:List PR}
def cV(l:List PR)(key:rd):rd×Int:=if um l key=true then(((l[pY l key]?).getD (⟨#[]⟩,⟨#[]⟩)).2,0)else(⟨#[]⟩,9)
def fE(fr til:rd)(n:Int)(l:List PR):List PR:=l.foldl (λo x=>if zA fr til x.1=true/\(o.length:Int)<n then o++[x]else o) []
def lZ(fr til:rd)(l:List PR):List PR:=l.filter λx=> !zA fr til x.1
theorem DP(fr til:rd)(n:Int)(l:List PR)(i:Nat)(x:PR)(h:l[i]?=some x):fE fr til n (l.take (i+1))=if zA fr til x.1=true/\((fE fr til n (l.take i)).length:Int)<n then fE fr til n (l.take i)++[x]else fE fr til n (l.take i):=by
 unfold fE;rw[kQ,h,List.foldl_append];rfl
theorem nK(fr til:rd)(n:Int)(l:List PR):∀i,(fE fr til n (l.take i)).length<=i
 |0=>by simp[fE]
 |i+1=>by
  have ih:=nK fr til n l i
  cases h:l[i]? with
  |none=>
   have e:l.take (i+1)=l.take i:=by rw[kQ,h];simp
   rw[e];omega
  |some x=>
   rw[DP fr til n l i x h]
   split
   .rw[aT];simp;omega
   .omega
theorem UZ(fr til:rd)(l:List PR)(i:Nat)(x:PR)(h:l[i]?=some x):lZ fr til (l.take (i+1))=if zA fr til x.1=true then lZ fr til (l.take i)else lZ fr til (l.take i)++[x]:=by
 unfold lZ;rw[kQ,h,ri]
 cases hx:zA fr til x.1<;>simp[hx]
theorem ZD(fr til:rd)(l:List PR)(i:Nat):(lZ fr til (l.take i)).length<=i:=by
 unfold lZ;exact aq (oC _ _) (by rw[bC];omega)
theorem DQ(h:Mp w mb v l)(key:rd):
  eq prog 107 #[lc mb,U2 key] w λe w'=>e=BY (U8 #[U2 (cV l key).1,U5 By (cV l key).2])/\i7 w w':=by
 have KA:=xh<|I2 h key;unfold cV
 cases hb:um l key with
 |false=>
  rw[hb]at KA;rw[i8];clear h hb;go_in;go_wp2_with fail;go_call KA.o as e w1 ⟨rfl,aO⟩;have O1:=xh aO;clear aO;go_wp2;go_ret2;exact aI O1.o
 |true=>
  rw[hb]at KA;rw[if_pos rfl];obtain⟨x,hx⟩:∃x,l[pY l key]?=some x:=by
   cases hx:l[pY l key]? with
   |none=>unfold um at hb;rw[hx]at hb;cases hb
   |some x=>exact⟨x,rfl⟩
  rw[hx];have ef:=(aR.1 hx).1;have hn:=h.n;have HM:=xh h;have HX:=xh hx;obtain⟨k,hk⟩:∃k,pY l key=k:=⟨_,rfl⟩;obtain⟨ln,oy⟩:∃ln,l.length=ln:=⟨_,rfl⟩;have Ep:=xh oy;rw[hk]at KA HX ef;rw[oy]at ef hn;have hltI:(k:Int)<(ln:Int):=by omega
  dsimp only[Option.getD];clear h hb hx hk oy;go_in;go_wp2_with fail;go_call KA.o as e w1 ⟨rfl,aO⟩;have O1:=xh aO;have M1:=HM.o.below aO;have x0:=M1.b.bi 0;obtain⟨g,c,rfl,d0,d1⟩:=M1.at k x HX.o;rw[Ep.o]at x0;clear aO M1;go_wp2;go_ret2;exact aI O1.o
theorem Gn(h:Mp w mb v l)(fr til:rd)(n:Int):
  eq prog 108 #[lc mb,U2 fr,U2 til,n] w λe w'=> ∃v',e=BY v'/\aM w' 42 2 v' (fE fr til n l).length (iQ (fE fr til n l))/\i7 w w'/\(∀g∈ah v',w.heap.size<=g):=by
 obtain⟨A,c,rfl⟩:=ax h.s;have hn:=h.n;have HM:=xh h;obtain⟨ln,oy⟩:∃ln,l.length=ln:=⟨_,rfl⟩;have Ep:=xh oy;rw[oy]at hn;have x0:=h.b.bi 0;rw[oy]at x0;have KW:=xh zD;have HSU:=xh<|DP fr til n l;have VJ:=xh<|nK fr til n l;have HF:=g9 (fE fr til n l=fE fr til n (l.take ln)) (by rw[<-oy,fX]);have HO0:=g9 (fE fr til n (l.take 0)=[]) rfl;clear h oy
 go_in;go_wp2_with fail
 go_loopw [9,10] (λov iv wr=> ∃(i:Nat) (out:List PR),i<=ln/\iv=U5 By i/\Hid (fE fr til n (l.take i)=out)/\aM wr 42 2 ov out.length (iQ out)/\Hid (i7 w wr)/\Hid (∀g∈ah ov,w.heap.size<=g)) (λ_ iv _=>ln-(intOf iv).toNat)
 case atStart=>exact⟨0,[],aW _,rfl,HO0,aM.nil _ _ _,xh (Below.refl _ _),xh (by simp[ah])⟩
 case round=>
  obtain⟨i,out,hi,rfl,HO,S,O,FO⟩:=hrel;clear x0;have x0:=(HM.o.below O.o).b.ab (i:=0) rfl;rw[Ep.o]at x0;obtain⟨VO,co,rfl⟩:=ax S;have hol:=VJ.o i;rw[HO.o]at hol
  by_cases h1:i<ln
  .have ZA:(i:Int)<(ln:Int):=by omega
   obtain⟨x,HX⟩:∃x,Hid (l[i]?=some x):=⟨_,xh (aH (by rw[Ep.o];exact h1))⟩;obtain⟨g,c',hv,d0,d1⟩:=(HM.o.below O.o).at i x HX.o;injection hv with qV re Jl
   subst qV;clear re Jl;have ei:IntKind.i64.wrap ((i:Int)+1)=((i+1:Nat):Int):=dl;have hs:=HSU.o i x HX.o;rw[HO.o]at hs
   by_cases h2:zA fr til x.1=true
   .by_cases h3:(out.length:Int)<n
    .rw[if_pos ⟨h2,h3⟩]at hs;have HO7:=xh hs;have JK:=xh<|KW.o x.1 fr til wr;rw[h2]at JK;clear hs h2;go_wp2_with fail;go_call JK.o as e _ ⟨rfl,rfl⟩;obtain⟨v',w7,ea,S7,o7,f7⟩:=yD S x.1 x.2 (by omega);obtain⟨V7,c7,rfl⟩:=ax S7;have hpr:iQ out++[Value.string x.1,Value.string x.2]=iQ (out++[x]):=by rw[tN];rfl
     rw[hpr]at S7;have S7:=g9 (aM w7 42 2 (U3 V7 (out.length+1) c7) (out++[x]).length (iQ (out++[x]))) (by rw[aT];exact S7);have O7:=xh<|O.o.trans (o7.aK O.o.size FO.o);have F7:=g9 (∀g'∈ah (U3 V7 (out.length+1) c7),w.heap.size<=g') (λg' hg=>(f7 g' hg).elim (FO.o g') (λh=>aq O.o.size h));have EA:=xh ea;clear ea o7 f7 hpr S;generalize out.length=ol at *;go_wp2_with fail;rw[EA.o];go_wp2_with fail
     go_roundw
     case rel=>exact⟨i+1,out++[x],by omega,by go_num,HO7,S7.o,O7,F7⟩
     case measure=>simp[intOf];omega
    .rw[if_neg (λh=>h3 h.2)]at hs;have HO7:=xh hs;have JK:=xh<|KW.o x.1 fr til wr;rw[h2]at JK;have S7:=xh S;clear hs h2 S;go_wp2_with fail;go_call JK.o as e _ ⟨rfl,rfl⟩;go_wp2_with fail;go_roundw
     case rel=>exact⟨i+1,out,by omega,by go_num,HO7,S7.o,O,FO⟩
     case measure=>simp[intOf];omega
   .rw[if_neg (λh=>h2 h.1)]at hs;have HO7:=xh hs;have JK:=xh<|KW.o x.1 fr til wr;rw[GG]at h2;rw[h2]at JK;have S7:=xh S;clear hs h2 S;go_wp2_with fail;go_call JK.o as e _ ⟨rfl,rfl⟩;go_wp2_with fail;go_roundw
    case rel=>exact⟨i+1,out,by omega,by go_num,HO7,S7.o,O,FO⟩
    case measure=>simp[intOf];omega
  .have ZA:¬(i:Int)<(ln:Int):=by omega
   obtain rfl:i=ln:=by omega
   have S7:=xh S;have hf:=HF.o;rw[HO.o]at hf;have HF7:=xh hf;clear S hf;go_wp2;go_ret;rw[HF7.o];exact⟨_,by first|rfl|simp,S7.o,O.o,FO.o⟩
theorem l5(h:Mp w mb v l)(fr til:rd):
  eq prog 56 #[lc mb,U2 fr,U2 til] w λe w'=>e=BY (U5 By ((l.length:Int)-(lZ fr til l).length))/\∃v',Mp w' mb v' (lZ fr til l)/\ag [mb] w w'/\(∀g∈ah v',w.heap.size<=g):=by
 obtain⟨A,c,rfl⟩:=ax h.s;have hn:=h.n;have HM:=xh h;obtain⟨ln,oy⟩:∃ln,l.length=ln:=⟨_,rfl⟩;have Ep:=xh oy;rw[oy]at hn;have x0:=h.b.bi 0;rw[oy]at x0;have KW:=xh zD;have HMB:=xh h.b.lt;have HSU:=xh<|UZ fr til l;have VJ:=xh<|ZD fr til l;have HF:=g9 (lZ fr til l=lZ fr til (l.take ln)) (by rw[<-oy,fX]);have HO0:=g9 (lZ fr til (l.take 0)=[]) rfl;clear h oy
 go_in;go_wp2_with fail
 go_loopw [7,8] (λov iv wr=> ∃(i:Nat) (out:List PR),i<=ln/\iv=U5 By i/\Hid (lZ fr til (l.take i)=out)/\aM wr 42 2 ov out.length (iQ out)/\Hid (i7 w wr)/\Hid (∀g∈ah ov,w.heap.size<=g)) (λ_ iv _=>ln-(intOf iv).toNat)
 case atStart=>exact⟨0,[],aW _,rfl,HO0,aM.nil _ _ _,xh (Below.refl _ _),xh (by simp[ah])⟩
 case round=>
  obtain⟨i,out,hi,rfl,HO,S,O,FO⟩:=hrel;clear x0;have BB:=(HM.o.below O.o).b;have x0:=BB.bi 0;have f0:=BB.frozen 0 (by simp);rw[Ep.o]at x0;obtain⟨VO,co,rfl⟩:=ax S;have hol:=VJ.o i;rw[HO.o]at hol
  by_cases h1:i<ln
  .have ZA:(i:Int)<(ln:Int):=by omega
   clear f0 BB;obtain⟨x,HX⟩:∃x,Hid (l[i]?=some x):=⟨_,xh (aH (by rw[Ep.o];exact h1))⟩;obtain⟨g,c',hv,d0,d1⟩:=(HM.o.below O.o).at i x HX.o;injection hv with qV re Jl
   subst qV;clear re Jl;have ei:IntKind.i64.wrap ((i:Int)+1)=((i+1:Nat):Int):=dl;have hs:=HSU.o i x HX.o;rw[HO.o]at hs
   by_cases h2:zA fr til x.1=true
   .rw[if_pos h2]at hs;have HO7:=xh hs;have JK:=xh<|KW.o x.1 fr til wr;rw[h2]at JK;have S7:=xh S;clear hs h2 S;go_wp2_with fail;go_call JK.o as e _ ⟨rfl,rfl⟩;go_wp2_with fail;go_roundw
    case rel=>exact⟨i+1,out,by omega,by go_num,HO7,S7.o,O,FO⟩
    case measure=>simp[intOf];omega
   .rw[if_neg h2]at hs;have HO7:=xh hs;have JK:=xh<|KW.o x.1 fr til wr;rw[GG]at h2;rw[h2]at JK;clear hs h2;go_wp2_with fail;go_call JK.o as e _ ⟨rfl,rfl⟩;obtain⟨v',w7,ea,S7,o7,f7⟩:=yD S x.1 x.2 (by omega);obtain⟨V7,c7,rfl⟩:=ax S7;have hpr:iQ out++[Value.string x.1,Value.string x.2]=iQ (out++[x]):=by rw[tN];rfl
    rw[hpr]at S7;have S7:=g9 (aM w7 42 2 (U3 V7 (out.length+1) c7) (out++[x]).length (iQ (out++[x]))) (by rw[aT];exact S7);have O7:=xh<|O.o.trans (o7.aK O.o.size FO.o);have F7:=g9 (∀g'∈ah (U3 V7 (out.length+1) c7),w.heap.size<=g') (λg' hg=>(f7 g' hg).elim (FO.o g') (λh=>aq O.o.size h));have EA:=xh ea;clear ea o7 f7 hpr S;generalize out.length=ol at *;go_wp2_with fail;rw[EA.o];go_wp2_with fail
    go_roundw
    case rel=>exact⟨i+1,out++[x],by omega,by go_num,HO7,S7.o,O7,F7⟩
    case measure=>simp[intOf];omega
  .have ZA:¬(i:Int)<(ln:Int):=by omega
   obtain rfl:i=ln:=by omega
   have hf:=HF.o;rw[HO.o]at hf;have e1:IntKind.i64.wrap ((i:Int)-(out.length:Int))=(i:Int)-(out.length:Int):=dl;have fF:=dL S BB (by decide);have o1:ag [mb] wr (wr.setCell ⟨mb,0,none⟩ (U3 VO out.length co)):=(ag.refl _ _).setCell (by simp) _;have M7:=g9 (Mp (wr.setCell ⟨mb,0,none⟩ (U3 VO out.length co)) mb (U3 VO out.length co) out) ⟨BB.cw 0 _,S.only o1 (λg hg hm=>fF (by rw[<-az.1 hm];exact hg)),by omega⟩
   have O7:=xh<|(ag.aj (S:=[mb]) O.o).trans o1;have HF7:=xh hf;clear S hf fF o1 BB;obtain⟨ol,hol2⟩:∃ol,out.length=ol:=⟨_,rfl⟩;have HOL:=xh hol2;rw[hol2]at e1 M7 O7 FO ⊢;clear hol2 hol;go_wp2;go_ret;rw[HF7.o,Ep.o,HOL.o];exact aI ⟨_,M7.o,O7.o,FO.o⟩
end Sh
namespace Sh
open Go.RowKit Pk Dk Pg
variable{k':Nat}
def Vc(i:Nat):Nat:=if i<=15 then 3 ^ i*2 ^ (15-i)else 0
theorem I3:Qi Vc 0:=λi=>by
 unfold Vc
 by_cases h:i+1<=15
 .rw[if_pos h,g8,show 15-i=(15-(i+1))+1 by omega,Af,Af];generalize 3 ^ i=a;generalize 2 ^ (15-(i+1))=b;have e1:a*3*b=3*(a*b):=by rw[vF a 3,G8]
  have e2:a*(b*2)=2*(a*b):=by rw[<-G8,vF]
  omega
 .rw[if_neg h];omega
theorem RQ:Vc 0=32768:=by decide+kernel
theorem ZE:Vc 15=14348907:=by decide+kernel
def TL(v:Vw)(l:List PR)(k:Nat):Prop:= ∃H M,Tree v H M/\jy M=l/\H<=15/\eU Vc (aL v H 0)<=k*2588672/\l.length<=k/\∀x∈l,x.1.size<=32
theorem TL.le{v:Vw}{l:List PR}{k:Nat}(h:TL v l k)(hk:k<=k'):TL v l k':=by
 obtain⟨H,M,a,b,c,d,e⟩:=h;exact⟨H,M,a,b,c,aq d (G9 _ hk),by omega,e.2⟩
def TI(q:QS)(l o:List PR)(mm k:Nat):Prop:= ∃v vo u,Rd q v vo u mm/\TL v l k/\TL vo o k
def TJ(q:QS)(o:List PR)(mm k:Nat):Prop:= ∃v vo u,Rd q v vo u mm/\TL vo o k
theorem filt2{α:Type}{p r:α->Bool}(h:∀x,p x=true->r x=false):∀l:List α,(l.filter p).length+(l.filter r).length<=l.length
 |[]=>ai _
 |x::l=>by
  have ih:=filt2 h l;rw[gG,gG]
  by_cases hp:p x=true
  .rw[if_pos hp,h x hp,i8];simp only[fT];omega
  .rw[if_neg hp]
   split<;>simp only[fT]<;>omega
theorem DR(l:List PR)(key:rd):(qZ l key).length+(kL l key).length<=l.length:=filt2 (λx hx=>decide_eq_false λh=>gC (fc (of_decide_eq_true hx) h)) l
section
variable{q:QS}{l o:List PR}{mm k:Nat}
theorem TJ.le(h:TJ q o mm k)(hk:k<=k'):TJ q o mm k':=by
 obtain⟨v,vo,u,R,To⟩:=h;exact⟨v,vo,u,R,To.le hk⟩
theorem TI.le(h:TI q l o mm k)(hk:k<=k'):TI q l o mm k':=by
 obtain⟨v,vo,u,R,Tl,To⟩:=h;exact⟨v,vo,u,R,Tl.le hk,To.le hk⟩
theorem TI.set(h:TI q l o mm k)(key value:rd)(hk:key.size<=32)(hv:value.size<=1024)(hn:k<100):
  ((q.gE key value).2=11/\TJ (q.gE key value).1 o mm k)\/((q.gE key value).2=0/\TI (q.gE key value).1 (pQ l key value) o mm (k+1)):=by
 obtain⟨v,vo,u,R,⟨H,M,T,rfl,hH,hp,hl⟩,To⟩:=h;have hl1:=hl.1
 rcases yE R T hH key value hk hv with⟨a,v',u',b,_⟩|⟨a,v',H',M',new,A,C,B,hh,c,b,S,hm⟩
 .exact .inl ⟨a,v',vo,u',b,To⟩
 .have hx:(if value.size<=40 then value.size else 0)<=40:=by split<;>omega
  have p1:=S.FZ Vc 0 I3;rw[RQ,qh,show(if H'=H then 0 else 0)=0 by split<;>rfl]at p1;refine .inr ⟨a,v',vo,u+new,b,⟨H',M',S.t,hm,?_,by omega,?_,?_⟩,To.le (by omega)⟩
  .rcases S.h with e|⟨e,f⟩
   .omega
   .by_cases h15:H=15
    .have p2:=f Vc 0 I3;rw[h15,ZE,RQ]at p2;rw[h15]at hp;omega
    .omega
  .have:=DR (jy M) key;unfold pQ;simp only[aT,fT];omega
  .intro x hx;unfold pQ at hx
   rcases ay.1 hx with hx|hx
   .exact hl.2 x (eA.1 hx).1
   .rcases ar.1 hx with rfl|hx
    .exact hk
    .exact hl.2 x (eA.1 hx).1
end
theorem T0_pot:eU Vc (aL I0 0 0)<=0:=by
 have EK:iX I0 0=(true,[],0):=by unfold I0;rw[hJ lay0,if_pos rfl];rfl
 unfold aL;rw[EK];decide
theorem tQ(key:rd):∀l:List PR,l.Pairwise (λa b=>fw a.1 b.1)->
  l.take (pY l key)=qZ l key/\l.drop (if um l key=true then pY l key+1 else pY l key)=kL l key/\(um l key=true↔oZ l key≠[])/\cV l key=LR (oZ l key)
 |[],_=>⟨rfl,by simp[kL],by simp[um,oZ],by simp[cV,um,oZ,LR]⟩
 |x::l,hs=>by
  obtain⟨h1,h2⟩:=eC.1 hs
  by_cases hx:fw x.1 key
  .obtain⟨a,b,c,d⟩:=tQ key l h2;have e1:pY (x::l) key=pY l key+1:=by show(if fw x.1 key then _ else _)=_;rw[if_pos hx]
   have e2:um (x::l) key=um l key:=by unfold um;rw[e1,rk]
   have e3:oZ (x::l) key=oZ l key:=by unfold oZ;rw[gG,if_neg (by simpa using lY hx)]
   refine⟨?_,?_,by rw[e2,e3];exact c,?_⟩
   .rw[e1,qe,a];unfold qZ;rw[gG,if_pos (by simpa using hx)]
   .have e4:(if um l key=true then pY l key+1+1 else pY l key+1)=(if um l key=true then pY l key+1 else pY l key)+1:=by split<;>rfl
    rw[e2,e1,e4,GL,b];unfold kL;rw[gG,if_neg (by simpa using λh=>gC (fc hx h))]
   .rw[e3,<-d];unfold cV;rw[e2,e1,rk]
  .have e1:pY (x::l) key=0:=by show(if fw x.1 key then _ else _)=_;rw[if_neg hx]
   have hy:∀y∈l,fw key y.1:=λy hy=>jH (kz hx) (h1 y hy);have e2:um (x::l) key=decide (x.1=key):=by unfold um;rw[e1];rfl
   have l1:qZ (x::l) key=[]:=by
    unfold qZ;refine filter_none λy hm=>decide_eq_false ?_
    rcases ar.1 hm with rfl|hm
    .exact hx
    .exact λh=>gC (fc h (hy y hm))
   have l2:kL l key=l:=filter_all λy hm=>decide_eq_true (hy y hm);have l3:oZ l key=[]:=filter_none λy hm=>decide_eq_false λe=>lY (hy y hm) e.symm;refine⟨by rw[e1,l1];rfl,?_⟩
   by_cases hk:x.1=key
   .have e3:oZ (x::l) key=[x]:=by
     have l3':=l3;unfold oZ at l3' ⊢;rw[gG,if_pos (by simpa using hk),l3']
    rw[e1,e2,e3,decide_eq_true hk,if_pos rfl];refine⟨?_,by simp,?_⟩
    .show l=_;unfold kL;rw[gG,if_neg (by simpa using λh=>lY h hk.symm)];exact l2.symm
    .unfold cV;rw[e2,decide_eq_true hk,if_pos rfl,e1];rfl
   .have hkx:fw key x.1:=(pM (kz hx)).resolve_right λe=>hk e.symm;have e3:oZ (x::l) key=[]:=by
     have l3':=l3;unfold oZ at l3' ⊢;rw[gG,if_neg (by simpa using hk),l3']
    rw[e1,e2,e3,decide_eq_false hk,i8];refine⟨?_,by simp,?_⟩
    .show x::l=_;have l2':=l2;unfold kL at l2' ⊢;rw[gG,if_pos (by simpa using hkx),l2']
    .unfold cV;rw[e2,decide_eq_false hk,i8];rfl
theorem RT(fr til:rd)(n:Int)(l:List PR):fE fr til n l=(l.filter (k9 fr til)).take n.toNat:=by
 have h:∀(l o:List PR),l.foldl (λo x=>if zA fr til x.1=true/\(o.length:Int)<n then o++[x]else o) o=o++(l.filter (k9 fr til)).take (n-(o.length:Nat)).toNat:=by
  intro l
  induction l with
  |nil=>intro o;simp
  |cons x l ih=>
   intro o;rw[AM,ih,gG];have hi:k9 fr til x=zA fr til x.1:=rfl
   by_cases h1:zA fr til x.1=true
   .rw[hi,if_pos h1]
    by_cases h2:(o.length:Int)<n
    .rw[if_pos ⟨h1,h2⟩,cK,aT]
     congr 1
     rw[show(n-((o.length:Nat):Int)).toNat=(n-((o.length+[x].length:Nat):Int)).toNat+1 by simp;omega];rfl
    .rw[if_neg (λh=>h2 h.2),show(n-((o.length:Nat):Int)).toNat=0 by omega];simp
   .rw[hi,if_neg (λh=>h1 h.1),if_neg h1]
 unfold fE;rw[h l []];simp
theorem out_eq(fr til:rd)(l:List PR):lZ fr til l=l.filter (λx=> !k9 fr til x):=rfl
theorem Vd(fr til:rd)(l:List PR):(l.length:Int)-(lZ fr til l).length=((l.filter (k9 fr til)).length:Nat):=by
 have h:∀l:List PR,(lZ fr til l).length+(l.filter (k9 fr til)).length=l.length:=by
  intro l
  induction l with
  |nil=>rfl
  |cons x l ih=>
   unfold lZ at ih ⊢;have hi:k9 fr til x=zA fr til x.1:=rfl;rw[gG,gG,hi]
   cases zA fr til x.1<;>simp<;>omega
 have:=h l;omega
theorem ZF(fr til:rd)(l:List PR)(hl:l.length<=1000000){n:Int}(hn:1000000<=n):fE fr til n l=l.filter (k9 fr til):=by
 rw[RT,cm];have:=oC (k9 fr til) l;omega
attribute [local go_sem ↓] bA
variable{w:YB}{v:YO}{n mb c:Nat}{l:List PR}{A V:Option Addr}
theorem sy{l:List YO}(S:aM w 42 2 v n l)(B:Option Addr)(m c:Nat)(lx:List YO)(hl:lx.length=m*2)
 (hs:m=0\/∃a,B=some a/\∀j u,lx[j]?=some u->w.cell? (a.add j)=some u)(h1:∀u∈lx,u.oneCell'=true)(hn:n+m<=4000000):
  ∃v' w',dF prog 30 30 w v (U3 B m c)= .ok v' w'/\aM w' 42 2 v' (n+m) (l++lx)/\ag (ah v) w w'/\(∀g∈ah v',g∈ah v\/w.heap.size<=g):=by
 obtain⟨i0,hi,lz,jK,kl⟩:=info_parts DF;have ht:prog.underlying 30=some (.slice 42):=underlying30
 cases B with
 |some a=>
  have Jn:∀j u,lx[j]?=some u->w.cell? (a.add j)=some u:=by
   rcases hs with rfl|⟨a',e,h⟩
   .intro j u hj;have:lx=[]:=oO (by omega);rw[this]at hj;simp at hj
   .injection e with e;subst e;exact h
  exact dE (P:=prog) S 30 30 i0 _ 32 ht hi lz jK kl rfl (by omega) a m c lx hl Jn h1 (by unfold it;omega) (by omega)
 |none=>
  have hm:m=0:=hs.elim id λ⟨a,e,_⟩=>by cases e
  subst hm;have hlx:lx=[]:=oO (by omega);subst hlx;refine⟨v,w,?_,by rw[jR];exact S,ag.refl _ _,λx hx=> .inl hx⟩;unfold dF
  rcases S.2 with⟨rfl,h0⟩|⟨g,cap,rest,rfl,BB,hc,hm⟩
  .simp[Builtin.append_,run_underlying ht,sizeOf,typeInfo,hi,Builtin.lenOf,Builtin.firstCells]
  .have hl:=S.1;have Ha:n<=cap:=by omega
   simp[Builtin.append_,run_underlying ht,sizeOf,typeInfo,hi,Builtin.lenOf,Builtin.firstCells,Ha,storeCells]
theorem Mp.len(h:Mp w mb (U3 A n c) l):l.length=n:=by
 obtain⟨A',c',e⟩:=ax h.s;injection e with _ e _
 exact e.symm
theorem AB(l:List PR):∀u∈iQ l,u.oneCell'=true:=λu hu=>by
 unfold iQ at hu;obtain⟨x,_,hx⟩:=mZ.1 hu;simp only[ar,ij,or_false]at hx
 rcases hx with rfl|rfl<;>rfl
theorem Ml(l:List PR)(i:Nat):iQ (l.take i)=(iQ l).take (i*2):=by
 induction l generalizing i with
 |nil=>simp[iQ]
 |cons x l ih=>
  cases i with
  |zero=>simp[iQ]
  |succ i=>
   have:=ih i;unfold iQ at this ⊢;rw[qe,im,im,this,show(i+1)*2=i*2+1+1 by omega];rfl
theorem Mm(l:List PR)(i:Nat):iQ (l.drop i)=(iQ l).drop (i*2):=by
 induction l generalizing i with
 |nil=>simp[iQ]
 |cons x l ih=>
  cases i with
  |zero=>simp
  |succ i=>
   have:=ih i;unfold iQ at this ⊢;rw[GL,im,this,show(i+1)*2=i*2+1+1 by omega];rfl
def qT(l:List PR)(key value:rd):List PR:=if 32<key.size\/1024<value.size then l else l.take (pY l key)++(key,value)::l.drop (if um l key=true then pY l key+1 else pY l key)
def uo(l:List PR)(key:rd):List PR:=if um l key=true then l.take (pY l key)++l.drop (pY l key+1)else l
theorem pU(h:Mp w mb v l)(key:rd):
  eq prog 55 #[lc mb,U2 key] w λe w'=>e=BY (U5 By (if um l key=true then 0 else 9))/\∃v',Mp w' mb v' (uo l key)/\ag [mb] w w':=by
 have KA:=xh<|I2 h key;unfold uo
 cases hb:um l key with
 |false=>
  rw[hb]at KA;rw[i8,i8];have HM:=xh h;clear h hb;go_in;go_wp2_with fail;go_call KA.o as e w1 ⟨rfl,aO⟩;have O1:=xh aO;clear aO;go_wp2;go_ret;exact aI ⟨v,HM.o.below O1.o,.aj O1.o⟩
 |true=>
  rw[hb]at KA;rw[if_pos rfl,if_pos rfl];obtain⟨x,hx⟩:∃x,l[pY l key]?=some x:=by
   cases hx:l[pY l key]? with
   |none=>unfold um at hb;rw[hx]at hb;cases hb
   |some x=>exact⟨x,rfl⟩
  obtain⟨k,hk⟩:∃k,pY l key=k:=⟨_,rfl⟩;rw[hk]at KA hx ⊢;have ef:=(aR.1 hx).1;have hn:=h.n;obtain⟨g,c,hv,_,_⟩:=h.at k x hx;subst hv;have HM:=xh h;obtain⟨rest,BB,hc,_,vr⟩:=h.s.uD;rw[ez]at hc;obtain⟨ln,oy⟩:∃ln,l.length=ln:=⟨_,rfl⟩;have Ep:=xh oy;rw[oy]at ef hn hc;have Pe:ln<=c:=by omega
  have s1:k<=c:=by omega
  have s2:(k:Int)<=(c:Int):=by omega
  have s3:(k:Int)+1<=(ln:Int):=by omega
  have s4:(ln:Int)<=(c:Int):=by omega
  have s5:(k:Int)+1<=(c:Int):=by omega
  have s6:(0:Int)<=(k:Int)+1:=by omega
  have s7:((k:Int)+1).toNat=k+1:=by omega
  have s8:IntKind.i64.wrap ((k:Int)+1)=(k:Int)+1:=dl;have s9:k+1<=ln:=ef;have s10:k+1<=c:=by omega
  rw[oy]at HM;have HHL:=xh ef;have HHC:=xh Pe;have HHN:=xh hn;have BB:=xh BB
  replace hc:=xh hc
  have T1:=xh (show(l.take k).length=k from by rw[bC,oy];omega);have T2:=xh (show(l.drop (k+1)).length=ln-(k+1)from by rw[ev,oy]);clear h hb hx hk oy;obtain⟨b9,Vv⟩:∃b:Prop,b=(c=k+1):=⟨_,rfl⟩;go_in;go_wp2_with fail;go_call KA.o as e w1 ⟨rfl,aO⟩;have O1:=xh aO;have x0:=(HM.o.below aO).b.ab (i:=0) rfl;clear aO;go_wp2_with fail
  have HR:=g9 (∃B':Option Addr,∃m',(if c=k+1 then some (⟨g,0,none⟩:Addr)else some ⟨g,(k+1)*2,none⟩)=B'/\True) ⟨_,0,rfl,trivial⟩;refine nV (S:=λW=>W.cell? (lc mb)=some (U3 (lc g) ln c)) [19] (by kernel_rfl) (x0) (λau=>?_);refine dP [(0,15),(2,17),(3,18),(4,19),(5,20),(6,21),(7,22),(9,24),(10,25),(11,26),(12,27),(13,28),(14,29),(15,30)] ?_
  iterate 14 refine gY ?_
  refine cJ 1 λK hK=>?_;go_simp;have hh:=O1.o.size;have N0:=aF.new w1 42 #[];have S0:aM (w1.alloc (WF #[] 42)).drew 42 2 (U3 (lc w1.heap.size) 0 0) 0 []:=⟨rfl,.inr ⟨w1.heap.size,0,[],rfl,N0.drew,rfl,by unfold it;omega⟩⟩;have B1:=xh<|((BB.o.below O1.o BB.o.lt).alloc (WF #[] 42)).drew;have M1:=xh<|(((HM.o.below O1.o).b).alloc (WF #[] 42)).drew;have OA:=xh<|((ag.aj (S:=[mb]) O1.o).alloc (WF #[] 42)).drew
  have y0:=M1.ap 0;obtain⟨v2,w2,ea,S2,o2,f2⟩:=sy S0 (some ⟨g,0,none⟩) k c (iQ (l.take k)) (by rw[ez,T1.o])
   (.inr ⟨_,rfl,bm B1.o 0 _ (λj u hj=>by
    rw[Ml,uA]at hj
    split at hj
    .rw[bq,bE (aR.1 hj).1];exact hj
    .cases hj)⟩) (AB _) (by have:=HHL.o;have:=HHN.o;omega)
  rw[bq,cQ]at S2;obtain⟨V2,c2,rfl⟩:=ax S2;have hg2:g∉ah (U3 (lc w1.heap.size) 0 0):=by
   have:=(BB.o.below O1.o BB.o.lt).lt;simp[ah];omega
  have Bp:mb∉ah (U3 (lc w1.heap.size) 0 0):=by
   have:=(HM.o.below O1.o).b.lt;simp[ah];omega
  have B2:=xh<|B1.o.only o2 hg2;have M2:=xh<|M1.o.only o2 Bp;have O2:=xh<|OA.o.aU o2 (λx hx ef=>by have:=O1.o.size;simp[ah]at hx;omega);have hgB:=BB.o.lt;have hmB:=HM.o.b.lt;have F2:=g9 (∀x∈ah (U3 V2 k c2),w.heap.size<=x) (λx hx=>(f2 x hx).elim (λh=>by simp[ah]at h;omega) (λh=>by have e:(w1.alloc (WF #[] 42)).drew.heap.size=w1.heap.size+1:=(by simp);omega));have EA:=xh ea;have y2:=M2.ap 0
  obtain⟨v3,w3,ea3,S3,o3,f3⟩:=sy S2 (if c=k+1 then some ⟨g,0,none⟩else some ⟨g,(k+1)*2,none⟩) (ln-(k+1)) (c-(k+1)) (iQ (l.drop (k+1))) (by rw[ez,T2.o])
   (by
    by_cases Ib:c=k+1
    .left;have:=HHL.o;have:=HHC.o;omega
    .right;rw[if_neg Ib];refine⟨_,rfl,bm B2.o _ _ (λj u hj=>?_)⟩;rw[Mm,iK]at hj;rw[bE (aR.1 hj).1];exact hj) (AB _) (by have:=HHL.o;have:=HHN.o;omega)
  obtain⟨m3,VQ⟩:∃m3,(l.take k++l.drop (k+1)).length=m3:=⟨_,rfl⟩;rw[show k+(ln-(k+1))=(l.take k++l.drop (k+1)).length by rw[aT,T1.o,T2.o],<-tN,VQ]at S3;have HM3:=xh VQ;clear VQ;obtain⟨V3,c3,rfl⟩:=ax S3;have VQ:mb∉ah (U3 V2 k c2):=λh=>by have:=F2.o _ h;omega
  have M3:=xh<|M2.o.only o3 VQ;have O3:=xh<|O2.o.aU o3 (λx hx ef=>by have:=F2.o _ hx;omega);have EA3:=xh ea3;have S3:=xh S3;have F3:=g9 (∀x∈ah (U3 V3 m3 c3),w.heap.size<=x) (λx hx=>(f3 x hx).elim (F2.o x) (λh=>by have:=O2.o.size;omega));have y3:=M3.ap 0;have z3:=M3.o.frozen 0 (by simp);clear ea ea3 S2 S0 N0 o2 o3 f2 f3 hg2 Bp VQ hgB hmB hh;refine bn hK (λ_=>y0) (λau=>?_)
  refine cJ 8 λK hK=>?_;go_simp;rw[EA.o];go_simp;refine bn hK (λ_=>y2) (λau=>?_);refine cJ 16 λK hK=>?_;go_simp;rw[EA3.o];go_simp;refine bn hK (λ_=>y3) (λau=>?_);refine cJ 17 λK hK=>?_;go_simp;refine bn hK (λ_=>y3) (λau=>?_);refine dP [(18,33)] ?_
  iterate 1 refine gY ?_
  refine cJ 19 λK hK=>?_;go_simp;refine bn hK (λh=>absurd (by simp) h) (λau=>?_);refine nU (by kernel_rfl) ?_ _;generalize (if c=k+1 then some (⟨g,0,none⟩:Addr)else some ⟨g,(k+1)*2,none⟩)=B9;have MF:=xh<|M3.o.cw 0 (U3 V3 m3 c3);have OF:=xh<|O3.o.setCell (p:=⟨mb,0,none⟩) (λ_=>by simp) (U3 V3 m3 c3)
  have SF:=xh<|S3.o.only (S:=[mb]) ((ag.refl _ _).setCell (p:=⟨mb,0,none⟩) (λ_=>by simp) (U3 V3 m3 c3)) (λx hx hm=>by have:=F3.o x hx;have:=HM.o.b.lt;simp at hm;omega);go_wp2;go_ret;have HN:=HM.o.n;exact aI ⟨_,⟨MF.o,by rw[HM3.o];exact SF.o,by rw[aT,T1.o,T2.o];have:=HHL.o;have:=HHN.o;omega⟩,OF.o⟩
structure MS(w W:YB)(mb:Nat)(A:Option Addr)(ln c:Nat)(l:List PR)(key value:rd)(k:Nat)(ze pe:Option Nat)(ve:Option YO):Prop where
 h:Mp W mb (U3 A ln c) l
 o:ag [mb] w W
 s:∀g∈ah (U3 A ln c),g<w.heap.size
 b:mb<w.heap.size
 z:∀b,ze=some b->aM W 42 2 (U3 (lc b) 0 0) 0 []/\w.heap.size<=b/\∀p,pe=some p->b≠p
 p:∀p,pe=some p->aF W p 42 #[U2 key,U2 value]/\w.heap.size<=p
 v:∀V,ve=some V->aM W 42 2 V k (iQ (l.take k))/\∀g∈ah V,w.heap.size<=g
section
variable{w W:YB}{mb:Nat}{A:Option Addr}{ln c:Nat}{l:List PR}{key value:rd}{k:Nat}{ze pe:Option Nat}{ve:Option YO}
theorem MS.m0(H:MS w W mb A ln c l key value k ze pe ve):W.cell? (lc mb)=some (U3 A ln c):=H.h.b.bi 0
theorem MS.below(H:MS w W mb A ln c l key value k ze pe ve){W':YB}(hb:i7 W W'):MS w W' mb A ln c l key value k ze pe ve:=
 ⟨H.h.below hb,H.o.trans (.aj hb),H.s,H.b,λb h=>⟨(H.z b h).1.below hb,(H.z b h).2⟩,λp h=>⟨(H.p p h).1.below hb (H.p p h).1.lt,(H.p p h).2⟩,λV h=>⟨(H.v V h).1.below hb,(H.v V h).2⟩⟩
theorem MS.drew(H:MS w W mb A ln c l key value k ze pe ve):MS w W.drew mb A ln c l key value k ze pe ve:=H.below (Below.refl _ _).drew
theorem MS.zero(H:MS w W mb A ln c l key value k none pe ve):MS w (W.alloc (WF #[] 42)) mb A ln c l key value k (some W.heap.size) pe ve:=by
 have H':=H.below (i6 _ (WF #[] 42));refine⟨H'.h,H'.o,H'.s,H'.b,λb hb=>?_,H'.p,H'.v⟩;injection hb with hb
 subst hb;exact⟨⟨rfl,.inr ⟨_,0,[],rfl,aF.new W _ #[],rfl,by unfold it;omega⟩⟩,H.o.size,λp hp e=>by have:=(H.p p hp).1.lt;omega⟩
theorem MS.one(H:MS w W mb A ln c l key value k ze none ve):MS w (W.alloc (WF #[U2 key,U2 value] 42)) mb A ln c l key value k ze (some W.heap.size) ve:=by
 have H':=H.below (i6 _ (WF #[U2 key,U2 value] 42));refine⟨H'.h,H'.o,H'.s,H'.b,λb hb=>⟨(H'.z b hb).1,(H'.z b hb).2.1,λp hp e=>?_⟩,λp hp=>?_,H'.v⟩
 .injection hp with hp
  have:=(H.z b hb).1.lt b (by simp[ah]);omega
 .injection hp with hp
  subst hp;exact⟨aF.new W _ _,H.o.size⟩
theorem MS.app{b:Nat}(H:MS w W mb A ln c l key value k (some b) pe none)(hk:k<=ln)(hn:ln<=1000000):
  ∃V c2 W',dF prog 30 30 W (U3 (lc b) 0 0) (U3 A k c)= .ok (U3 V k c2) W'/\MS w W' mb A ln c l key value k none pe (some (U3 V k c2)):=by
 obtain⟨S0,hb,hbp⟩:=H.z b rfl;have hl:l.length=ln:=by have:=H.h.s.1;rw[ez]at this;have:=H.h.len;omega
 have ht:(l.take k).length=k:=by rw[bC];omega
 obtain⟨v2,w2,ea,S2,o2,f2⟩:=sy S0 A k c (iQ (l.take k)) (by rw[ez,ht]) (by
  rcases H.h.s.2 with⟨hv,h0⟩|⟨g,cap,rest,hv,B,_⟩
  .left;omega
  .right;simp only[Value.slice.injEq]at hv;refine⟨_,hv.1,bm B 0 _ (λj u hj=>?_)⟩;rw[Ml,uA]at hj
   split at hj
   .rw[bq,bE (aR.1 hj).1];exact hj
   .cases hj) (AB _) (by omega)
 rw[bq,cQ]at S2;obtain⟨V2,c2,rfl⟩:=ax S2;have hd:∀x∈ah (U3 (lc b) 0 0),x=b:=λx hx=>by simpa [ah]using hx
 have hs:∀g∈ah (U3 A ln c),g∉ah (U3 (lc b) 0 0):=λg hg hx=>by have:=hd g hx;have:=H.s g hg;omega
 refine⟨V2,c2,w2,ea,⟨⟨H.h.b.only o2 (λhx=>by have:=hd _ hx;have:=H.b;omega),H.h.s.only o2 hs,H.h.n⟩,H.o.aU o2 (λx hx ef=>by have:=hd x hx;omega),H.s,H.b,(λ_ h=>by cases h),λp hp=>⟨(H.p p hp).1.only o2 (λhx=>hbp p hp (hd p hx).symm),(H.p p hp).2⟩,λV hV=>?_⟩⟩;injection hV with hV
 subst hV;exact⟨S2,λg hg=>(f2 g hg).elim (λh=>by have:=hd g h;omega) (λh=>aq H.o.size h)⟩
theorem MS.ZG{c2 p:Nat}(H:MS w W mb A ln c l key value k none (some p) (some (U3 V k c2)))(hk:k<=1000000):
  ∃V' c' W',dF prog 30 30 W (U3 V k c2) (U3 (lc p) 1 1)= .ok (U3 V' (k+1) c') W'/\Mp W' mb (U3 A ln c) l/\ag [mb] w W'/\aM W' 42 2 (U3 V' (k+1) c') (k+1) (iQ (l.take k++[(key,value)]))/\∀g∈ah (U3 V' (k+1) c'),w.heap.size<=g:=by
 obtain⟨S2,f2⟩:=H.v _ rfl;obtain⟨v3,w3,ea,S3,o3,f3⟩:=sy S2 (some ⟨p,0,none⟩) 1 1 [U2 key,U2 value] rfl (.inr ⟨_,rfl,bm (H.p p rfl).1 0 _ (λj u hj=>by rw[bq];exact hj)⟩) (by simp;exact⟨rfl,rfl⟩) (by omega);obtain⟨V3,c3,rfl⟩:=ax S3
 refine⟨V3,c3,w3,ea,⟨H.h.b.only o3 (λhx=>by have:=f2 _ hx;have:=H.b;omega),H.h.s.only o3 (λg hg hx=>by have:=f2 g hx;have:=H.s g hg;omega),H.h.n⟩,H.o.aU o3 (λx hx ef=>by have:=f2 x hx;omega),?_,λg hg=>(f3 g hg).elim (f2 g) (λh=>aq H.o.size h)⟩;rw[tN];exact S3
end
theorem ms_app3{W:YB}{ln:Nat}{k c':Nat}{L:List PR}(M:Mp W mb (U3 A ln c) l)(S:aM W 42 2 (U3 V k c') k (iQ L))(f:∀g∈ah (U3 V k c'),w.heap.size<=g)(o:ag [mb] w W)
 (hs:∀g∈ah (U3 A ln c),g<w.heap.size)(hb:mb<w.heap.size)(e:Nat)(he:e<=ln)(hn:ln<=1000000)(hk:k<=1000001)(B:Option Addr)(hB:e<c->∀g,A=some ⟨g,0,none⟩->B=some ⟨g,e*2,none⟩):
  ∃V' m c2 W',dF prog 30 30 W (U3 V k c') (U3 B (ln-e) (c-e))= .ok (U3 V' m c2) W'/\Mp W' mb (U3 A ln c) l/\ag [mb] w W'/\aM W' 42 2 (U3 V' m c2) (L++l.drop e).length (iQ (L++l.drop e))/\∀g∈ah (U3 V' m c2),w.heap.size<=g:=by
 have hl:l.length=ln:=M.len;have hL:L.length=k:=by have:=S.1;rw[ez]at this;omega
 obtain⟨v3,w3,ea,S3,o3,f3⟩:=sy S B (ln-e) (c-e) (iQ (l.drop e)) (by rw[ez,ev,hl]) (by
  rcases M.s.2 with⟨hv,h0⟩|⟨g,cap,rest,hv,BB,hc,_⟩
  .left;omega
  .simp only[Value.slice.injEq]at hv;obtain⟨h1,_,h3⟩:=hv;rw[ez]at hc
   by_cases hec:e<c
   .right;refine⟨_,hB hec g h1,bm BB _ _ (λj u hj=>?_)⟩;rw[Mm,iK]at hj;rw[bE (aR.1 hj).1];exact hj
   .left;omega) (AB _) (by omega)
 obtain⟨V3,c3,rfl⟩:=ax S3;refine⟨V3,_,c3,w3,ea,⟨M.b.only o3 (λhx=>by have:=f _ hx;omega),M.s.only o3 (λg hg hx=>by have:=f g hx;have:=hs g hg;omega),M.n⟩,o.aU o3 (λx hx ef=>by have:=f x hx;omega),?_,λg hg=>(f3 g hg).elim (f g) (λh=>aq o.size h)⟩;rw[tN,show(L++l.drop e).length=k+(ln-e) by rw[aT,hL,ev,hl]];exact S3
theorem mG(h:Mp w mb v l)(key value:rd)(hl:l.length<1000000)(h1:key.size<=1000000)(h2:value.size<=1000000):
  eq prog 54 #[lc mb,U2 key,U2 value] w λe w'=>e=BY (U5 By (if 32<key.size\/1024<value.size then 4 else 0))/\∃v',Mp w' mb v' (qT l key value)/\ag [mb] w w':=by
 unfold qT;have HM:=xh h
 by_cases hk:32<key.size
 .rw[if_pos (.inl hk),if_pos (.inl hk)];have Q4:(32:Int)<(key.size:Int):=by omega
  clear h;go_in;go_wp2;go_ret
  first|exact aI ⟨v,HM.o,ag.refl _ _⟩|exact aI ⟨⟨v,HM.o⟩,ag.refl _ _⟩
 have Q4:¬(32:Int)<(key.size:Int):=by omega
 by_cases hv:1024<value.size
 .rw[if_pos (.inr hv),if_pos (.inr hv)];have hvI:(1024:Int)<(value.size:Int):=by omega
  clear h;go_in;go_wp2;go_ret
  first|exact aI ⟨v,HM.o,ag.refl _ _⟩|exact aI ⟨⟨v,HM.o⟩,ag.refl _ _⟩
 have hvI:¬(1024:Int)<(value.size:Int):=by omega
 rw[gc,gc];have KA:=xh<|I2 h key;obtain⟨A,c,rfl⟩:=ax h.s;have hle:=QA key l;have hlen:=h.len;obtain⟨ln,oy⟩:∃ln,l.length=ln:=⟨_,rfl⟩;rw[oy]at hle hl HM;have Ep:=xh oy;have hcc:ln<=c:=by
  rcases h.s.2 with⟨hv,h0⟩|⟨g,cap,rest,hv,_,hc,_⟩
  .omega
  .simp only[Value.slice.injEq]at hv;rw[ez]at hc;omega
 obtain⟨ee,he⟩:∃ee,(if um l key=true then pY l key+1 else pY l key)=ee:=⟨_,rfl⟩;have hel:ee<=ln:=by
  rw[<-he]
  split
  .rename_i hb;unfold um at hb
   cases hx:l[pY l key]? with
   |none=>rw[hx]at hb;cases hb
   |some x=>have:=(aR.1 hx).1;omega
  .exact hle
 rw[he];obtain⟨k,hk'⟩:∃k,pY l key=k:=⟨_,rfl⟩;rw[hk']at KA hle he ⊢;have s1:k<=c:=by omega
 have s2:(k:Int)<=(c:Int):=by omega
 have s3:(ee:Int)<=(ln:Int):=by omega
 have s4:(ln:Int)<=(c:Int):=by omega
 have s5:(ee:Int)<=(c:Int):=by omega
 have s9:ee<=ln:=hel;have s10:ee<=c:=by omega
 have HH:=g9 (k<=ln/\ee<=ln/\ln<1000000) ⟨hle,hel,hl⟩;have HHC:=xh hcc;have VJ:=xh h.s.lt;have HBL:=xh h.b.lt;rw[oy]at VJ;have HKE:=g9 (k<=ee) (by rw[<-he];split<;>omega);generalize um l key=b at *;have HE:=xh (show(b=false->k=ee)/\(b=true->k+1=ee)from⟨λh=>by rw[<-he,h,i8],λh=>by rw[<-he,if_pos h]⟩);have s8:IntKind.i64.wrap ((k:Int)+1)=(k:Int)+1:=dl;clear h he hk' oy hlen hle hel hcc hl hk hv
 go_in;go_wp2_with fail;go_call KA.o as e w1 ⟨rfl,aO⟩;have H0:=g9 (MS w w1 mb A ln c l key value k none none none) ⟨HM.o.below aO,.aj aO,VJ.o,HBL.o,(λ_ h=>by cases h),(λ_ h=>by cases h),(λ_ h=>by cases h)⟩;clear aO
 go_upto_if 25 with(fail)
 go_cut [9]from 26 to 27 (λv9 wx=>v9=U5 By (ee:Int)/\w1=wx)
 case first=>
  cases b
  .obtain rfl:=HE.o.1 rfl;go_wp2_with fail;go_meet
   case rel=>exact⟨rfl,rfl⟩
  .obtain rfl:=HE.o.2 rfl;go_wp2_with fail;go_meet
   case rel=>exact⟨by push_cast;rfl,rfl⟩
 obtain⟨rfl,rfl⟩:=hcut;go_wp2_with fail;refine nV (S:=λW=>W.cell? (lc mb)=some (U3 A ln c)) [23] (by kernel_rfl) (H0.o.drew.m0) (λau=>?_);refine dP [(0,28),(2,30),(3,31),(4,32),(5,33),(6,34),(7,35),(9,37),(10,38),(11,39),(14,42),(15,43),(16,44),(17,45),(18,46),(19,47)] ?_
 iterate 16 refine gY ?_
 refine pz (rs:=[1,12]) (by kernel_rfl) (by simp) ?_;refine iz.cons (λK hK=>?_) (iz.cons (λK hK=>?_) iz.nil);have H1:=xh H0.o.zero;go_simp;refine bn hK (λ_=>H1.o.drew.m0) (λau=>?_);refine pz (rs:=[8,12]) (by kernel_rfl) (by simp) ?_;refine iz.cons (λK hK=>?_) (iz.cons (λK hK=>?_) iz.nil);obtain⟨V2,c2,w2,ea,hq⟩:=H1.o.drew.app HH.o.1 (by have:=HH.o;omega)
 try simp only[gf]at ea
 have H2:=xh hq;clear hq;go_simp;clear ea;refine bn hK (λ_=>H2.o.m0) (λau=>?_);refine cJ 12 λK hK=>?_;have H3:=xh H2.o.one;go_simp;refine bn hK (λ_=>H3.o.m0) (λau=>?_);rotate_left;have H2:=xh H1.o.one;go_simp;refine bn hK (λ_=>H2.o.drew.m0) (λau=>?_);refine cJ 8 λK hK=>?_;obtain⟨V2,c2,w2,ea,hq⟩:=H2.o.drew.app HH.o.1 (by have:=HH.o;omega)
 try simp only[gf]at ea
 have H3:=xh hq;clear hq;go_simp;clear ea;refine bn hK (λ_=>H3.o.m0) (λau=>?_);rotate_left;have H1:=xh H0.o.one;go_simp;refine bn hK (λ_=>H1.o.drew.m0) (λau=>?_);refine cJ 1 λK hK=>?_;have H2:=xh H1.o.zero;go_simp;refine bn hK (λ_=>H2.o.drew.m0) (λau=>?_);refine cJ 8 λK hK=>?_;obtain⟨V2,c2,w2,ea,hq⟩:=H2.o.drew.app HH.o.1 (by have:=HH.o;omega)
 try simp only[gf]at ea
 have H3:=xh hq;clear hq;go_simp;clear ea;refine bn hK (λ_=>H3.o.m0) (λau=>?_);rotate_left
 all_goals
  obtain⟨V3,c3,w3,ea3,M3,o3,S3,f3⟩:=H3.o.ZG (by have:=HH.o;omega)
  try simp only[gf]at ea3
  have y3:=M3.b.bi 0;obtain⟨V4,m4,c4,w4,ea4,M4,o4,S4,f4⟩:=ms_app3 M3 S3 f3 o3 VJ.o HBL.o ee HH.o.2.1 (by have:=HH.o;omega) (by have:=HH.o;omega) (if c=ee then A else Option.map (λx=>x.add (ee*2)) A) (λhc g hg=>by rw[gc,hg];exact congrArg some (show(⟨g,0,none⟩:Addr).add (ee*2)=_ from by rw[Nd.iN,bq]));have y4:=M4.b.bi 0;have z4:=M4.b.frozen 0 (by simp);have M4:=xh M4;have o4:=xh o4;have S4:=xh S4
  have f4:=xh f4;clear M3 S3 f3 o3;refine cJ 13 λK hK=>?_;go_simp;refine bn hK (λ_=>y3) (λau=>?_);refine cJ 20 λK hK=>?_;go_simp;refine bn hK (λ_=>y4) (λau=>?_);refine cJ 21 λK hK=>?_;go_simp;refine bn hK (λ_=>y4) (λau=>?_);refine dP [(22,50)] ?_
  iterate 1 refine gY ?_
  refine cJ 23 λK hK=>?_;go_simp;refine bn hK (λh=>absurd (by simp) h) (λau=>?_);refine nU (by kernel_rfl) ?_ _;have MF:=xh<|M4.o.b.cw 0 (U3 V4 m4 c4);have OF:=xh<|o4.o.setCell (p:=⟨mb,0,none⟩) (λ_=>by simp) (U3 V4 m4 c4);have SF:=xh<|S4.o.only (S:=[mb]) ((ag.refl _ _).setCell (p:=⟨mb,0,none⟩) (λ_=>by simp) (U3 V4 m4 c4)) (λx hx hm=>by have:=f4.o x hx;have:=HBL.o;simp at hm;omega)
  generalize (if c=ee then A else Option.map (λx=>x.add (ee*2)) A)=B9;go_wp2;go_ret;have HN:=HM.o.n;have hq:=io MF.o (io SF.o OF.o);rw[cK]at hq;exact aI ⟨_,⟨hq.1,hq.2.1,by simp only[aT,bC,ev,fT,vv,Ep.o];have:=HH.o;have:=HKE.o;omega⟩,hq.2.2⟩
end Sh
namespace Sh
open Go.RowKit Pk Dk Pg
variable{w:YB}{v:YO}{m:Nat}{L:List YO}
structure TW(w:YB)(wb tb mb:Nat)(I:Ix)(F:List Nat)(vl vo:YO)(q:QS)(n K:Nat)(l o:List PR):Prop where
 b:aF w wb 38 #[lc I.L.b,lc I.pb,lc tb,lc mb,vo]
 m:Mp w mb vl l
 s:aM w 42 2 vo o.length (iQ o)
 t:TQ w tb I F q n K
 no:o.length<=1000000
theorem PQ.slcA{I:Ix}{F:List Nat}{q:QS}{n K:Nat}(h:PQ w I F q n K)(S:aM w 42 2 v m L):∀g∈ah v,g∉F:=by
 rcases S.2 with⟨rfl,_⟩|⟨g,cap,rest,rfl,B,_⟩
 .intro g hg;simp[ah]at hg
 .intro g' hg;simp only[ah,az]at hg;subst hg;exact h.fI B
theorem ZH(S:aM w 42 2 v m L){b:Nat}{t:TypeId}{cs:Array YO}(B:aF w b t cs)(h:t≠42):∀g∈ah v,g≠b:=by
 rcases S.2 with⟨rfl,_⟩|⟨g,cap,rest,rfl,BB,_⟩
 .intro g hg;simp[ah]at hg
 .intro g' hg;simp only[ah,az]at hg;subst hg;exact λe=>h ((e▸BB).inj B).1.symm
section
variable{w w':YB}{wb tb mb:Nat}{I:Ix}{F S:List Nat}{vl vo:YO}{q q':QS}{n K K':Nat}{l o:List PR}
theorem TW.mF(h:TW w wb tb mb I F vl vo q n K l o):mb∉F:=h.t.2.fI h.m.b
theorem TW.wm(h:TW w wb tb mb I F vl vo q n K l o):wb≠mb:=h.b.jJ h.m.b (by decide)
theorem TW.mt(h:TW w wb tb mb I F vl vo q n K l o):mb≠tb:=h.m.b.jJ h.t.1 (by decide)
theorem TW.le(h:TW w wb tb mb I F vl vo q n K l o)(hk:K<=K'):TW w wb tb mb I F vl vo q n K' l o:=⟨h.b,h.m,h.s,h.t.le hk,h.no⟩
theorem TW.map{vl':YO}{l':List PR}(h:TW w wb tb mb I F vl vo q n K l o)(ho:ag [mb] w w')(M:Mp w' mb vl' l'):TW w' wb tb mb I F vl' vo q n K l' o:=
 ⟨h.b.only ho (by simpa using h.wm),M,h.s.only ho (λg hg hm=>ZH h.s h.m.b (by decide) g hg (az.1 hm)),h.t.only ho (λg hg hm=>by
  have e:=az.1 hm;subst e;exact(ar.1 hg).elim h.mt h.mF),h.no⟩
end
variable{w:YB}{sb tb n Kz:Nat}{I:Ix}{F:List Nat}{q:QS}{fr:Bool}
def iI(s l:Nat)(til:rd):rd:=if til=⟨#[]⟩then aD s (l+1)else aD s l++til
theorem sA(s l:Nat)(hs:s<=7)(hl:l<=5)(fr til:rd)(h1:fr.size<=30)(h2:til.size<=30)(w:YB):
  eq prog 96 #[.agg #[(s:Nat),(l:Nat)],U2 fr,U2 til] w λe w'=>e=BY (U8 #[U2 (aD s l++fr),U2 (iI s l til)])/\i7 w w':=by
 have O0:=xh<|i6 w (WF #[(s:Nat),(l:Nat)] 177);have P0:=aF.new w 177 #[(s:Nat),(l:Nat)];obtain⟨z,hz⟩:∃z,w.heap.size=z:=⟨_,rfl⟩;rw[hz]at P0;have x0:=P0.bi 0;have x1:=P0.bi 1;have P0:=xh P0;have KH:=xh (λ(W:YB)=>pR s l hs (by omega) W);have KN:=xh (λ(W:YB)=>UY s l hs hl W)
 have Ib:¬9223372036854775807<(aD s l).size+fr.size:=by show ¬9223372036854775807<2+fr.size;omega
 have hc2:¬9223372036854775807<(aD s l).size+til.size:=by show ¬9223372036854775807<2+til.size;omega
 unfold iI
 by_cases h:til=⟨#[]⟩
 .subst h;rw[if_pos rfl];go_in;go_wp2_with fail;refine kw (λW=>W.cell? (lc z)=some ((s:Nat):li)/\W.cell? ⟨z,1,none⟩=some ((l:Nat):li)) (⟨x0,x1⟩) (λau=>?_);refine dP [(0,10),(2,12),(4,14)] ?_
  iterate 3 refine bJ ?_
  refine dI 1 11 λK hK=>?_;go_simp
  go_at_call 97
  go_call (KH.o _) as e w1 ⟨rfl,aO⟩;have P1:=xh<|P0.o.drew.below aO P0.o.drew.lt;have O1:=xh<|aC O0.o.drew aO;clear aO;go_simp;refine bn hK (⟨P1.ap 0,P1.ap 1⟩) (λau=>?_);refine dP [(3,13)] ?_
  iterate 1 refine bJ ?_
  refine dI 5 15 λK hK=>?_;go_simp
  go_at_call 145
  go_call (KN.o _) as e w2 ⟨rfl,cf⟩;have P2:=xh<|P1.o.below cf P1.o.lt;have O2:=xh<|aC O1.o cf;clear cf;go_simp;refine bn hK (⟨P2.ap 0,P2.ap 1⟩) (λau=>?_);refine dP [(6,6),(7,7)] ?_
  iterate 2 refine bJ ?_
  refine jp ?_ _;go_wp2;go_ret2;exact aI O2.o
 .rw[if_neg h];have fF:=Zx h;have Ud:¬til.toList=[]:=λe=>by
   have:=beq_eq_false_iff_ne.1 fF;exact this (by rw[e,bQ])
  have Qb:(til.toList==[])=false:=by simpa using Ud
  have hni:til.toList.isEmpty=false:=by simpa using Ud
  go_in;go_wp2_with fail;refine kw (λW=>W.cell? (lc z)=some ((s:Nat):li)/\W.cell? ⟨z,1,none⟩=some ((l:Nat):li)) (⟨x0,x1⟩) (λau=>?_);refine dP [(0,16),(2,18),(4,20),(6,22)] ?_
  iterate 4 refine bJ ?_
  refine dI 1 17 λK hK=>?_;go_simp
  go_at_call 97
  go_call (KH.o _) as e w1 ⟨rfl,aO⟩;have P1:=xh<|P0.o.drew.below aO P0.o.drew.lt;have O1:=xh<|aC O0.o.drew aO;clear aO;go_simp;refine bn hK (⟨P1.ap 0,P1.ap 1⟩) (λau=>?_);refine dP [(3,19)] ?_
  iterate 1 refine bJ ?_
  refine dI 5 21 λK hK=>?_;go_simp
  go_at_call 97
  go_call (KH.o _) as e w2 ⟨rfl,cf⟩;have P2:=xh<|P1.o.below cf P1.o.lt;have O2:=xh<|aC O1.o cf;clear cf;go_simp;refine bn hK (⟨P2.ap 0,P2.ap 1⟩) (λau=>?_);refine dP [(7,23),(8,6),(9,7)] ?_
  iterate 3 refine bJ ?_
  refine jp ?_ _;go_wp2;go_ret2;exact aI O2.o
theorem DS(B:aF w sb 182 #[tp tb,pp I.pb,U6 fr])(T:TQ w tb I F q n Kz)(hK:Kz<=999900000000)(s l:Nat)(hs:s<=7)(hl:l<=5)(ra rb:rd)(h1:ra.size<=30)(h2:rb.size<=30):
  eq prog 44 #[lc sb,(s:Nat),(l:Nat),U2 ra,U2 rb] w λe w'=>e=BY (U8 #[U5 By (q.iD (aD s l++ra) (iI s l rb)).2.1,U5 By (q.iD (aD s l++ra) (iI s l rb)).2.2])/\PT w w' I F (q.iD (aD s l++ra) (iI s l rb)).1 n (Kz+30000000):=by
 obtain⟨z,hz⟩:∃z,w.heap.size=z:=⟨_,rfl⟩;have aO:=i6 w (WF #[(s:Nat),(l:Nat)] 177);have P0:=aF.new w 177 #[(s:Nat),(l:Nat)];obtain⟨w1,lD⟩:∃w1,w.alloc (WF #[(s:Nat),(l:Nat)] 177)=w1:=⟨_,rfl⟩;rw[lD]at aO P0;rw[hz]at P0;have Ap:w1.heap.size=z+1:=by rw[<-lD,gf,hz]
 have SR:aM (w1.alloc (WF #[U2 ra,U2 rb] 9)) 9 1 (U3 (lc w1.heap.size) 2 2) 2 (pS [ra,rb]):=⟨rfl,.inr ⟨w1.heap.size,2,[],rfl,aF.new _ _ _,rfl,by decide⟩⟩;have cf:=aC aO (i6 w1 (WF #[U2 ra,U2 rb] 9));have P2:=P0.alloc (WF #[U2 ra,U2 rb] 9)
 have KM:=xh<|tP (w:=w1.alloc (WF #[U2 ra,U2 rb] 9)) sb (s:Nat) (l:Nat) ⟨by omega,by omega⟩ ⟨by omega,by omega⟩ SR (by omega) (by simpa using ⟨h1,h2⟩);rw[Ap]at KM;have KW:=xh (λ(W:YB)=>sA s l hs hl ra rb h1 h2 W);have KT:=xh (λ(W:YB) (hW:TQ W tb I F q n Kz)=>Qt hW (by omega) (aD s l++ra) (iI s l rb));have x0:=P0.bi 0;have x1:=P0.bi 1
 have H0:=xh<|io B (io T (io P2 cf));clear B T P0 P2 SR aO cf;subst lD;unfold tp at KT;go_in;go_wp2_with fail;go_call KM.o as e w3 ⟨rfl,dk⟩;have T3:=xh<|(H0.o.2.1.below H0.o.2.2.2).below dk;have B3:=xh<|(H0.o.1.below H0.o.2.2.2 H0.o.1.lt).below dk (H0.o.1.below H0.o.2.2.2 H0.o.1.lt).lt;have P3:=xh<|H0.o.2.2.1.below dk H0.o.2.2.1.lt;have O3:=xh<|aC H0.o.2.2.2 dk
 clear dk x0 x1;have x0:=P3.ap 0;have x1:=P3.ap 1;go_wp2_with fail;go_call (KW.o _) as e w4 ⟨rfl,fo⟩;have T4:=xh<|T3.o.below fo;have B4:=xh<|B3.o.below fo B3.o.lt;have O4:=xh<|aC O3.o fo;clear fo x0 x1;have x0:=B4.ap 0;unfold tp at x0;go_wp2_with fail;go_call (KT.o w4 T4.o) as e w5 ⟨rfl,F5,p5,o5,f5⟩
 have H5:=g9 (PT w w5 I F (q.iD (aD s l++ra) (iI s l rb)).1 n (Kz+30000000)) ⟨F5,p5,(ag.aj O4.o).trans o5,λg hg=>(f5 g hg).imp id (λh=>aq O4.o.size h)⟩;clear p5 o5 f5;go_wp2;go_ret2;exact aI H5.o
def mW(x:PR):PR:=(x.1.extract 2 x.1.size,x.2)
theorem RU(k v:rd):∀(l:List PR) (i:Nat),(∃x,l[i]?=some x/\x.2=v)->iQ (l.set i (k,v))=(iQ l).set (i*2) (U2 k)
 |[],i,⟨x,h,_⟩=>by simp at h
 |y::l,0,⟨x,h,hv⟩=>by
  simp only[uz,Option.some.injEq]at h;subst h;subst hv;rfl
 |y::l,i+1,⟨x,h,hv⟩=>by
  rw[rk]at h;have ih:=RU k v l i ⟨x,h,hv⟩;have e:∀z:PR,∀m:List PR,iQ (z::m)=U2 z.1::U2 z.2::iQ m:=λ_ _=>rfl;rw[List.set_cons_succ,e,e,ih,show(i+1)*2=i*2+1+1 by omega];rfl
theorem slc_key{g c:Nat}{l:List PR}(S:aM w 42 2 (U3 (lc g) n c) n (iQ l)){i:Nat}{x:PR}(hx:l[i]?=some x)(k:rd):
  aM (w.setCell ⟨g,i*2,none⟩ (U2 k)) 42 2 (U3 (lc g) n c) n (iQ (l.set i (k,x.2))):=by
 obtain⟨rest,B,hc,_,hm⟩:=S.uD;have h1:=S.1;have hi:=(aR.1 hx).1;have hp:iQ (l.set i (k,x.2))=(iQ l).set (i*2) (U2 k):=RU k x.2 l i ⟨x,hx,rfl⟩;have B2:=B.cw (i*2) (U2 k);rw[sJ,vC _ _ (by rw[ez];omega),<-hp]at B2;refine⟨by rw[hp,bV];exact h1,.inr ⟨g,c,rest,rfl,B2,by rw[hp,bV];exact hc,hm⟩⟩
theorem ZJ(L:List PR)(i:Nat)(x:PR)(hx:L[i]?=some x):((L.take i).map mW++L.drop i)[i]?=some x/\((L.take i).map mW++L.drop i).set i (x.1.extract 2 x.1.size,x.2)=(L.take (i+1)).map mW++L.drop (i+1):=by
 have hi:=(aR.1 hx).1;have hl:((L.take i).map mW).length=i:=by rw[bM,bC];omega
 have hd:L.drop i=x::L.drop (i+1):=by rw[rh hi];congr 1;have:=aH hi;rw[hx]at this;injection this with h;exact h.symm
 constructor
 .rw[dQ (by omega),hl,fM,hd];rfl
 .rw[qc _ _ (by omega),hl,fM,hd,kQ,hx,cX];show _++_::_=(_++[_])++_;rw[cK];rfl
theorem yF(B:aF w sb 182 #[tp tb,pp I.pb,U6 fr])(T:TQ w tb I F q n Kz)(hK:Kz<=999900000000)(s l:Nat)(hs:s<=7)(hl:l<=5)(ra rb:rd)(h1:ra.size<=30)(h2:rb.size<=30)(m:Int)(hky:∀x∈(q.fS (aD s l++ra) (iI s l rb) m).2.1,2<=x.1.size/\x.1.size<=1000000)(hlen:(q.fS (aD s l++ra) (iI s l rb) m).2.1.length<=1000000):
  eq prog 41 #[lc sb,(s:Nat),(l:Nat),U2 ra,U2 rb,m] w λe w'=> ∃v,e=BY (U8 #[v,U5 By (q.fS (aD s l++ra) (iI s l rb) m).2.2])/\aM w' 42 2 v ((q.fS (aD s l++ra) (iI s l rb) m).2.1.map mW).length (iQ ((q.fS (aD s l++ra) (iI s l rb) m).2.1.map mW))/\PQ w' I F (q.fS (aD s l++ra) (iI s l rb) m).1 n (Kz+300000)/\ag F w w'/\(∀g∈ah v,w.heap.size<=g):=by
 obtain⟨z,hz⟩:∃z,w.heap.size=z:=⟨_,rfl⟩;have aO:=i6 w (WF #[(s:Nat),(l:Nat)] 177);have P0:=aF.new w 177 #[(s:Nat),(l:Nat)];obtain⟨w1,lD⟩:∃w1,w.alloc (WF #[(s:Nat),(l:Nat)] 177)=w1:=⟨_,rfl⟩;rw[lD]at aO P0;rw[hz]at P0;have Ap:w1.heap.size=z+1:=by rw[<-lD,gf,hz]
 have SR:aM (w1.alloc (WF #[U2 ra,U2 rb] 9)) 9 1 (U3 (lc w1.heap.size) 2 2) 2 (pS [ra,rb]):=⟨rfl,.inr ⟨w1.heap.size,2,[],rfl,aF.new _ _ _,rfl,by decide⟩⟩;have cf:=aC aO (i6 w1 (WF #[U2 ra,U2 rb] 9));have P2:=P0.alloc (WF #[U2 ra,U2 rb] 9)
 have KM:=xh<|tP (w:=w1.alloc (WF #[U2 ra,U2 rb] 9)) sb (s:Nat) (l:Nat) ⟨by omega,by omega⟩ ⟨by omega,by omega⟩ SR (by omega) (by simpa using ⟨h1,h2⟩);rw[Ap]at KM;have KW:=xh (λ(W:YB)=>sA s l hs hl ra rb h1 h2 W);have KT:=xh (λ(W:YB) (hW:TQ W tb I F q n Kz)=>US hW (by omega) (aD s l++ra) (iI s l rb) m);have x0:=P0.bi 0;have x1:=P0.bi 1
 have H0:=xh<|io B (io T (io P2 cf));clear B T P0 P2 SR aO cf;subst lD;unfold tp at KT;obtain⟨q1,L,er,hq1⟩:∃q1 L er,q.fS (aD s l++ra) (iI s l rb) m=(q1,L,er):=⟨_,_,_,rfl⟩;rw[hq1]at KT hky hlen ⊢;dsimp only at KT hky hlen ⊢;have HKY:=xh<|io hky hlen;clear hky hlen hq1;go_in;go_wp2_with fail;go_call KM.o as e w3 ⟨rfl,dk⟩;have T3:=xh<|(H0.o.2.1.below H0.o.2.2.2).below dk
 have B3:=xh<|(H0.o.1.below H0.o.2.2.2 H0.o.1.lt).below dk (H0.o.1.below H0.o.2.2.2 H0.o.1.lt).lt;have P3:=xh<|H0.o.2.2.1.below dk H0.o.2.2.1.lt;have O3:=xh<|aC H0.o.2.2.2 dk;clear dk x0 x1;have x0:=P3.ap 0;have x1:=P3.ap 1;go_wp2_with fail;go_call (KW.o _) as e w4 ⟨rfl,fo⟩;have T4:=xh<|T3.o.below fo;have B4:=xh<|B3.o.below fo B3.o.lt;have O4:=xh<|aC O3.o fo
 clear fo x0 x1;have x0:=B4.ap 0;unfold tp at x0;go_wp2_with fail;go_call (KT.o w4 T4.o) as e w5 ⟨v,rfl,S5,p5,o5,f5⟩;obtain⟨A,c,rfl⟩:=ax S5;obtain⟨lm,Yp⟩:∃lm,L.length=lm:=⟨_,rfl⟩;have YR:=xh Yp;rw[Yp]at S5 f5;have P5:=xh p5;have O5:=xh<|(ag.aj O4.o).trans o5;have F5:=g9 (∀g∈ah (U3 A lm c),w4.heap.size<=g) f5
 have S0:=g9 (aM w5 42 2 (U3 A lm c) lm (iQ ((L.take 0).map mW++L.drop 0))) (by simpa using S5);have HW4:=g9 (w.heap.size<=w4.heap.size) O4.o.size;have mK:=P5.o.slcA S5;have HB5:=xh mK;have hlm3:lm<=1000000:=by rw[<-Yp];exact HKY.o.2
 rw[Yp];clear S5 p5 o5 f5 mK x0 Yp;go_wp2_with fail
 go_loopw [53] (λiv wr=> ∃i:Nat,i<=lm/\iv=U5 By (i:Nat)/\Hid (aM wr 42 2 (U3 A lm c) lm (iQ ((L.take i).map mW++L.drop i)))/\Hid (ag (ah (U3 A lm c)) w5 wr)) (λiv _=>lm-(intOf iv).toNat)
 case atStart=>exact⟨0,aW _,rfl,S0,xh (ag.refl _ _)⟩
 case round=>
  obtain⟨i,hi,rfl,HS,HO⟩:=hrel
  by_cases h:i<lm
  .have hI:(i:Int)<(lm:Int):=by omega
   obtain⟨x,hx⟩:∃x,L[i]?=some x:=⟨_,aH (by rw[YR.o];exact h)⟩;obtain⟨g,y,rfl,hy,hc,vr,c0,c1⟩:=aM.pr HS.o (i:=i) h;obtain⟨k1,k2⟩:=ZJ L i x hx;rw[k1]at hy;injection hy with hy
   subst hy;obtain⟨h2,h3⟩:=HKY.o.1 x (aA hx);have S6:=slc_key HS.o k1 (x.1.extract 2 x.1.size);rw[k2]at S6;have S6:=xh S6;have O6:=xh<|HO.o.setCell (p:=⟨g,i*2,none⟩) (λ_=>by simp[ah]) (U2 (x.1.extract 2 x.1.size));have z0:wr.frozen? ⟨g,i*2,none⟩=false:=by
    obtain⟨rest,B,hc,_,hm⟩:=HS.o.uD;exact B.frozen _ (by have:=HS.o.1;rw[j9,aT,this];omega)
   obtain⟨xk,xv⟩:=x;dsimp only at c0 c1 h2 h3 S6 O6;have s1:(2:Int)<=(xk.size:Int):=by omega
   have ei:IntKind.i64.wrap ((i:Int)+1)=((i+1:Nat):Int):=dl;clear hx k1 k2;go_wp2_with fail;go_roundw
   case rel=>exact⟨i+1,by omega,by go_num,S6,O6⟩
   case measure=>simp[intOf];omega
  .have hI:¬(i:Int)<(lm:Int):=by omega
   obtain rfl:i=lm:=by omega
   have hf:=HS.o;rw[cm (by rw[YR.o];exact ai _),lJ (by rw[YR.o];exact ai _),jR]at hf;have H9:=xh (show aM wr 42 2 (U3 A i c) L.length (iQ (L.map mW))/\PQ wr I F q1 n (Kz+300000)/\ag F w wr/\∀g∈ah (U3 A i c),z<=g from
    ⟨by rw[YR.o];exact hf,P5.o.only HO.o (λg hg hm=>HB5.o g hm hg),O5.o.aU HO.o (λy hy hl=>by have:=F5.o y hy;have:=HW4.o;omega),λg hg=>by have:=F5.o g hg;have:=HW4.o;omega⟩)
   clear hf;go_wp2;go_ret2;exact⟨U3 A i c,by first|rfl|simp,H9.o⟩
def RY(r:PR×Int):PR:=if r.2=0 then mW r.1 else(⟨#[]⟩,⟨#[]⟩)
theorem Gp{w:YB}{sb tb:Nat}{I:Ix}{F:List Nat}{q:QS}{n Kz:Nat}{fr:Bool}(B:aF w sb 182 #[tp tb,pp I.pb,U6 fr])(T:TQ w tb I F q n Kz)(hK:Kz<=999900000000)(s l:Nat)(hs:s<=7)(hl:l<=5)(ra rb:rd)(h1:ra.size<=30)(h2:rb.size<=30)(hky:(q.gF (aD s l++ra) (iI s l rb)).2.2=0->2<=(q.gF (aD s l++ra) (iI s l rb)).2.1.1.size/\(q.gF (aD s l++ra) (iI s l rb)).2.1.1.size<=1000000):
  eq prog 43 #[lc sb,(s:Nat),(l:Nat),U2 ra,U2 rb] w λe w'=>e=BY (U8 #[prV (RY (q.gF (aD s l++ra) (iI s l rb)).2),U5 By (q.gF (aD s l++ra) (iI s l rb)).2.2])/\PQ w' I F (q.gF (aD s l++ra) (iI s l rb)).1 n (Kz+600)/\ag F w w':=by
 obtain⟨z,hz⟩:∃z,w.heap.size=z:=⟨_,rfl⟩;have KT:=xh (λ(W:YB) (hW:TQ W tb I F q n Kz)=>UT hW (by omega) (aD s l++ra) (iI s l rb));obtain⟨q1,x3,er,hq1⟩:∃q1 x3 er,(q.gF (aD s l++ra) (iI s l rb))=(q1,x3,er):=⟨_,_,_,rfl⟩;rw[hq1]at KT hky ⊢;dsimp only at KT hky ⊢;have HKY:=xh hky;obtain⟨lr,ZK⟩:∃lr,RY (x3,er)=lr:=⟨_,rfl⟩;rw[ZK];have HLR:=xh ZK;clear ZK;have qX:=i6 w (WF #[U2 ⟨#[]⟩,U2 ⟨#[]⟩] 42)
 have c0:=aF.new w 42 #[U2 ⟨#[]⟩,U2 ⟨#[]⟩];have aO:=ae qX (WF #[(s:Nat),(l:Nat)] 177);have c1:=c0.alloc (WF #[(s:Nat),(l:Nat)] 177);obtain⟨w1,lD⟩:∃w1,(w.alloc (WF #[U2 ⟨#[]⟩,U2 ⟨#[]⟩] 42)).alloc (WF #[(s:Nat),(l:Nat)] 177)=w1:=⟨_,rfl⟩;have P0:=aF.new (w.alloc (WF #[U2 ⟨#[]⟩,U2 ⟨#[]⟩] 42)) 177 #[(s:Nat),(l:Nat)];rw[lD]at aO c1 P0;rw[gf,hz]at P0
 rw[hz]at c1;have Ap:w1.heap.size=z+2:=by rw[<-lD,gf,gf,hz]
 have SR:aM (w1.alloc (WF #[U2 ra,U2 rb] 9)) 9 1 (U3 (lc w1.heap.size) 2 2) 2 (pS [ra,rb]):=⟨rfl,.inr ⟨w1.heap.size,2,[],rfl,aF.new _ _ _,rfl,by decide⟩⟩;have cf:=aC aO (i6 w1 (WF #[U2 ra,U2 rb] 9));have P2:=P0.alloc (WF #[U2 ra,U2 rb] 9);have c2:=c1.alloc (WF #[U2 ra,U2 rb] 9)
 have KM:=xh<|tP (w:=w1.alloc (WF #[U2 ra,U2 rb] 9)) sb (s:Nat) (l:Nat) ⟨by omega,by omega⟩ ⟨by omega,by omega⟩ SR (by omega) (by simpa using ⟨h1,h2⟩);rw[Ap]at KM;have KW:=xh (λ(W:YB)=>sA s l hs hl ra rb h1 h2 W);have x0:=P0.bi 0;have x1:=P0.bi 1;have H0:=xh<|io B (io T (io P2 (io cf c2)));have HZ:=xh hz;clear B T P0 P2 SR qX aO cf c0 c1 c2 hky hq1;subst lD;unfold tp at KT
 unfold prV at KT;go_in;go_wp2_with fail;go_call KM.o as e w3 ⟨rfl,dk⟩;have T3:=xh<|(H0.o.2.1.below H0.o.2.2.2.1).below dk;have B3:=xh<|(H0.o.1.below H0.o.2.2.2.1 H0.o.1.lt).below dk (H0.o.1.below H0.o.2.2.2.1 H0.o.1.lt).lt;have P3:=xh<|H0.o.2.2.1.below dk H0.o.2.2.1.lt;have C3:=xh<|H0.o.2.2.2.2.below dk H0.o.2.2.2.2.lt;have O3:=xh<|aC H0.o.2.2.2.1 dk;clear dk x0 x1
 have x0:=P3.ap 0;have x1:=P3.ap 1;go_wp2_with fail;go_call (KW.o _) as e w4 ⟨rfl,fo⟩;have T4:=xh<|T3.o.below fo;have B4:=xh<|B3.o.below fo B3.o.lt;have C4:=xh<|C3.o.below fo C3.o.lt;have O4:=xh<|aC O3.o fo;have NZ:=g9 (z∉F) (λhm=>by have:=H0.o.2.1.2.lt _ hm;have:=HZ.o;omega);clear fo x0 x1;have x0:=B4.ap 0;unfold tp at x0;go_wp2_with fail
 go_call (KT.o w4 T4.o) as e w5 ⟨rfl,p5,o5⟩;have C5:=C4.o.only o5 NZ.o;have HP5:=xh<|io p5 ((ag.aj (S:=F) O4.o).trans o5);have fF:¬z=w5.heap.size:=λe=>by have:=(C4.o.only o5 NZ.o).lt;omega
 have ef:z<w5.heap.size:=(C4.o.only o5 NZ.o).lt;clear p5 o5 x0;have ZK:=HLR.o;unfold RY at ZK
 by_cases he:er=0
 .subst he;rw[if_pos rfl]at ZK;obtain⟨k2,k3⟩:=HKY.o rfl;obtain⟨xk,xv⟩:=x3;dsimp only at k2 k3 ZK;subst ZK;have s1:(2:Int)<=(xk.size:Int):=by omega
  obtain⟨B8,o8,d0,d1,z0,z1⟩:=ko (a':=xk.extract 2 xk.size) (b':=xv) C5;have H8:=xh<|io (B8.alloc (WF #[U2 (xk.extract 2 xk.size),U2 xv] 42)) (o8.alloc (WF #[U2 (xk.extract 2 xk.size),U2 xv] 42));clear B8 o8 C5;go_wp2_with fail
  exact bodyPost_ret (pP rfl rfl H8.o.1) rfl ⟨rfl,HP5.o.1.only H8.o.2 (λg hg hm=>NZ.o ((az.1 hm)▸hg)),HP5.o.2.aU H8.o.2 (λg hg hl=>by have:=HZ.o;have:=az.1 hg;omega)⟩
 .dsimp only at ZK;rw[if_neg he]at ZK;subst ZK;obtain⟨B8,o8,d0,d1,z0,z1⟩:=ko (a':=⟨#[]⟩) (b':=⟨#[]⟩) C5;have hq:(er != 0)=true:=ls he
  have my:(er==0)=false:=i4 he
  have H8:=xh<|io (B8.alloc (WF #[U2 x3.1,U2 x3.2] 42)) (o8.alloc (WF #[U2 x3.1,U2 x3.2] 42));clear B8 o8 C5;go_wp2_with fail;exact bodyPost_ret (pP rfl rfl H8.o.1) rfl ⟨rfl,HP5.o.1.only H8.o.2 (λg hg hm=>NZ.o ((az.1 hm)▸hg)),HP5.o.2.aU H8.o.2 (λg hg hl=>by have:=HZ.o;have:=az.1 hg;omega)⟩
theorem I4(sb:Nat)(sp lp:Int)(r:rd)(tY:ED sp lp [r]≠0)(w:YB):eq prog 42 #[lc sb,sp,lp,U2 r] w λe w'=>e=BY (U8 #[U2 ⟨#[]⟩,U5 By 2])/\i7 w w':=by
 have h2:=(DN sp lp [r]).resolve_left tY;obtain⟨z,hz⟩:∃z,w.heap.size=z:=⟨_,rfl⟩;have aO:=i6 w (WF #[sp,lp] 177);have p0:=aF.new w 177 #[sp,lp];obtain⟨w1,lD⟩:∃w1,w.alloc (WF #[sp,lp] 177)=w1:=⟨_,rfl⟩;rw[lD]at aO p0;rw[hz]at p0;have Ap:w1.heap.size=z+1:=by rw[<-lD,gf,hz]
 have SR:aM (w1.alloc (WF #[U2 r] 9)) 9 1 (U3 (lc w1.heap.size) 1 1) 1 (pS [r]):=⟨rfl,.inr ⟨w1.heap.size,1,[],rfl,aF.new _ _ _,rfl,by decide⟩⟩;have HB:=xh<|aC aO (i6 w1 (WF #[U2 r] 9));have KM:=xh<|Mi (w:=w1.alloc (WF #[U2 r] 9)) sb sp lp SR (by omega);rw[Ap,h2]at KM;have x0:=p0.bi 0;have x1:=p0.bi 1;clear aO p0 SR h2 tY;subst lD
 go_in;go_wp2_with fail;go_call KM.o as e w4 ⟨rfl,hb⟩;have O4:=xh<|aC HB.o hb;clear hb x0 x1;go_wp2;go_ret2;exact aI O4.o
theorem Mn(sb:Nat)(sp lp:Int)(a b:rd)(m:Int)(tY:ED sp lp [a,b]≠0)(w:YB):eq prog 41 #[lc sb,sp,lp,U2 a,U2 b,m] w λe w'=>e=BY (U8 #[U3 none 0 0,U5 By 2])/\i7 w w':=by
 have h2:=(DN sp lp [a,b]).resolve_left tY;obtain⟨z,hz⟩:∃z,w.heap.size=z:=⟨_,rfl⟩;have aO:=i6 w (WF #[sp,lp] 177);have p0:=aF.new w 177 #[sp,lp];obtain⟨w1,lD⟩:∃w1,w.alloc (WF #[sp,lp] 177)=w1:=⟨_,rfl⟩;rw[lD]at aO p0;rw[hz]at p0;have Ap:w1.heap.size=z+1:=by rw[<-lD,gf,hz]
 have SR:aM (w1.alloc (WF #[U2 a,U2 b] 9)) 9 1 (U3 (lc w1.heap.size) 2 2) 2 (pS [a,b]):=⟨rfl,.inr ⟨w1.heap.size,2,[],rfl,aF.new _ _ _,rfl,by decide⟩⟩;have HB:=xh<|aC aO (i6 w1 (WF #[U2 a,U2 b] 9));have KM:=xh<|Mi (w:=w1.alloc (WF #[U2 a,U2 b] 9)) sb sp lp SR (by omega);rw[Ap,h2]at KM;have x0:=p0.bi 0;have x1:=p0.bi 1;clear aO p0 SR h2 tY
 subst lD;go_in;go_wp2_with fail;go_call KM.o as e w4 ⟨rfl,hb⟩;have O4:=xh<|aC HB.o hb;clear hb x0 x1;go_wp2;go_ret2;exact aI O4.o
theorem sC(sb:Nat)(r:rd)(hr:30<r.size)(w:YB):eq prog 38 #[lc sb,U2 r] w λe w'=>e=BY (U8 #[U5 By 0,U5 By 2])/\i7 w w':=by
 have KC:=xh<|I4 sb 7 0 r (by unfold ED;rw[gc,if_neg (by simp;omega)];simp) w;go_in;go_wp2_with fail;go_call KC.o as e w1 ⟨rfl,hb⟩;have HB:=xh hb;clear hb;go_wp2;go_ret2;exact aI HB.o
theorem RZ(sb:Nat)(r:rd)(m:Int)(hr:30<r.size)(w:YB):eq prog 37 #[lc sb,U2 r,m] w λe w'=>e=BY (U8 #[U5 By 0,U5 By 2])/\i7 w w':=by
 have KC:=xh<|sC sb r hr w;go_in;go_wp2_with fail;go_call KC.o as e w1 ⟨rfl,hb⟩;have HB:=xh hb;clear hb;go_wp2;go_ret2;exact aI HB.o
variable{w:YB}{sb tb n K:Nat}{I:Ix}{F:List Nat}{fr:Bool}
def is8(g:rd×Int):Prop:=g.2=0->g.1.size=8
instance(g:rd×Int):Decidable (is8 g):=by unfold is8;exact inferInstance
def I5(g:rd×Int):Int×Int:=if is8 g then zQ g else(0,14)
def QS.lj(q:QS)(name:rd):QS×Int×Int:=((q.fm (eZ name)).1,I5 (q.fm (eZ name)).2)
def QS.I6(q:QS)(name:rd)(n:Int):QS×Int×Int:=if is8 (q.fm (eZ name)).2 then q.q8 name n else((q.fm (eZ name)).1,0,14)
theorem left_no(s:rd)(w:YB)(h:s.size<8):eq prog 186 #[U2 s,U5 By 0,U5 By 8] w λe w'=>e=BY (U5 By 5)/\i7 w w':=by
 have a2:¬(s.size:Int)<0:=by omega
 have a3:IntKind.i64.wrap ((s.size:Int)-0)=(s.size:Int):=by rw[Int.sub_zero];exact dl
 have a5:IntKind.i64.wrap (s.size:Int)=(s.size:Int):=dl;have a4:(s.size:Int)<8:=by omega
 go_in;go_wp2;go_ret;exact⟨rfl,Below.refl _ _⟩
theorem ZL(s:rd)(w:YB)(h:s.size<8):eq prog 142 #[U2 s,U5 By 0] w λe w'=>e=BY (U8 #[U5 .u64 0,U5 By 0,U5 By 5])/\i7 w w':=by
 have KL:=xh<|left_no s w h;go_in;go_wp2_with fail;go_call KL.o as e w1 ⟨rfl,aO⟩;have O1:=xh aO;clear aO;go_wp2_with fail
 go_ret3
 exact⟨rfl,O1.o⟩
theorem ZM(s:rd)(w:YB)(h:s.size<8):eq prog 89 #[U2 s,U5 By 0] w λe w'=>e=BY (U8 #[U5 By 0,U5 By 0,U5 By 5])/\i7 w w':=by
 have KL:=xh<|ZL s w h;go_in;go_wp2_with fail;go_call KL.o as e w1 ⟨rfl,aO⟩;have O1:=xh aO;clear aO;go_wp2_with fail
 go_ret3
 exact⟨rfl,O1.o⟩
theorem oX{q:QS}(B:aF w sb 182 #[tp tb,pp I.pb,U6 fr])(T:TQ w tb I F q n K)(hK:K<=999998000000)(r:rd)(hr:r.size<=30)(oq:(q.fm (eZ r)).2.1.size<=1000000):
  eq prog 38 #[lc sb,U2 r] w λe w'=>e=BY (U8 #[U5 By (q.lj r).2.1,U5 By (q.lj r).2.2])/\PQ w' I F (q.lj r).1 n (K+21)/\ag F w w':=by
 by_cases h8:is8 (q.fm (eZ r)).2
 .have e:q.lj r=q.dg r:=by unfold QS.lj QS.dg I5;rw[if_pos h8]
  rw[e];exact nt B T (by omega) r hr h8
 have KG:=pT B T (by omega) 7 0 (by omega) (by omega) r hr;unfold QS.lj I5;rw[if_neg h8];rw[show aD 7 0++r=eZ r from rfl]at KG;obtain⟨R,hR⟩:∃R,q.fm (eZ r)=R:=⟨_,rfl⟩;rw[hR]at KG h8 oq ⊢;obtain⟨q1,b,e1⟩:=R;dsimp only at KG h8 oq ⊢;have VL:e1=0:=Classical.byContradiction λh=>h8 λh'=>absurd h' h;subst VL;have Ai:b.size≠8:=λh=>h8 λ_=>h;have KG:=xh KG;clear hR B T h8
 by_cases ef:b.size<8
 .have KR:=xh (λ(W:YB)=>ZM b W ef);go_in;go_wp2_with fail;go_call KG.o as e w1 ⟨rfl,H1⟩;have H1:=xh H1;go_wp2_with fail;go_call (KR.o _) as e w2 ⟨rfl,hb⟩;have H2:=g9 (PQ w2 I F q1 n (K+21)/\ag F w w2) ⟨H1.o.1.below hb,H1.o.2.trans (.aj hb)⟩;clear hb;go_wp2;go_ret2;exact aI H2.o
 .have KR:=xh (λ(W:YB)=>sR b 0 W (by omega) oq);have hgt:(8:Int)<((b.size:Nat):Int):=by omega
  generalize (mI (b.extract 0 (0+8)).data.toList:Int)-9223372036854775808=cv at *;go_in;go_wp2_with fail;go_call KG.o as e w1 ⟨rfl,H1⟩;have H1:=xh H1;go_wp2_with fail;go_call (KR.o _) as e w2 ⟨rfl,hb⟩;have H2:=g9 (PQ w2 I F q1 n (K+21)/\ag F w w2) ⟨H1.o.1.below hb,H1.o.2.trans (.aj hb)⟩;clear hb;go_wp2;go_ret2;exact aI H2.o
theorem Gq{q:QS}(B:aF w sb 182 #[tp tb,pp I.pb,U6 fr])(T:TQ w tb I F q n K)(hK:K<=999998000000)(r:rd)(hr:r.size<=30)(oq:(q.fm (eZ r)).2.1.size<=1000000)(m:Int):
  eq prog 37 #[lc sb,U2 r,m] w λe w'=>e=BY (U8 #[U5 By (q.I6 r m).2.1,U5 By (q.I6 r m).2.2])/\PT w w' I F (q.I6 r m).1 n (K+200):=by
 unfold QS.I6
 by_cases h8:is8 (q.fm (eZ r)).2
 .rw[if_pos h8];exact DH B T hK r hr h8 m
 rw[if_neg h8];have KC:=oX B T hK r hr oq;unfold QS.lj I5 at KC;rw[if_neg h8]at KC;dsimp only at KC ⊢;have KC:=xh KC;clear B T h8;go_in;go_wp2_with fail;go_call KC.o as e w1 ⟨rfl,p1,o1⟩;have H1:=g9 (PT w w1 I F (q.fm (eZ r)).1 n (K+200)) (.self (p1.le (by omega)) o1);clear p1 o1;go_wp2;go_ret2;exact aI H1.o
end Sh
namespace Sh
open Go.RowKit Pk Dk Pg
open Nd (E aS aZ et bI bg cG bR)
theorem QC{q q':QS}(h:q'.mes=q.mes):q'.a.bj=q.a.bj:=congrArg (λx=>x.2.1) h
theorem QD(q:QS)(p:Int):(q.dN p).1.a.bj=q.a.bj:=QC (Rx q p)
theorem put_ao(q:QS)(p:Int)(b:rd):(q.eg p b).1.a.bj=q.a.bj:=QC (IK q p b)
theorem qL(q:QS)(p:Int):(q.aV p).1.a.bj=q.a.bj:=QC (Di q p)
theorem QE(q:QS)(p:pu):(q.bZ p).1.a.bj=q.a.bj:=(Ry q p).2.1
theorem sD(q:QS)(l:Int):(q.eX l).1.a.bj=q.a.bj:=by
 unfold QS.eX
 split
 .exact QD q l
 .split<;>exact QD q l
theorem Mo:∀(m:Nat) (q:QS) (p:Int) (l:List Int) (b:pu),(q.kZ m p l b).1.a.bj=q.a.bj
 |0,_,_,_,_=>rfl
 |m+1,q,p,l,b=>by
  unfold QS.kZ
  split
  .exact sD q p
  .split
   .exact sD q p
   .split
    .exact sD q p
    .split
     .exact sD q p
     .exact(Mo m _ _ _ _).trans (sD q p)
theorem DT(q:QS)(p:Int):(q.eS p).1.a.bj=q.a.bj:=Mo 5 q p [] []
theorem Mq:∀(l:List Int) (q:QS),(q.rN l).1.a.bj=q.a.bj
 |[],_=>rfl
 |p::l,q=>by
  unfold QS.rN
  split
  .exact qL q p
  .exact(Mq l _).trans (qL q p)
theorem ZN(q:QS)(p:Int):(q.oV p).1.a.bj=q.a.bj:=by
 unfold QS.oV
 split
 .exact DT q p
 .exact(Mq _ _).trans (DT q p)
theorem DU:∀(l:List Int) (q:QS),(q.ni l).a.bj=q.a.bj
 |[],_=>rfl
 |p::l,q=>by rw[QS.qB];exact(DU l _).trans (qL q p)
theorem R4(v:pu):∀(i:Nat) (q:QS) (next:Int) (made:List Int),(QS.rO v i q next made).1.a.bj=q.a.bj
 |0,_,_,_=>rfl
 |i+1,q,next,made=>by
  unfold QS.rO
  split
  .exact(DU _ _).trans (QE q _)
  .exact(R4 v i _ _ _).trans (QE q _)
theorem cput_ao(q:QS)(v:pu):(q.pB v).1.a.bj=q.a.bj:=by
 unfold QS.pB
 split
 .rfl
 .exact R4 v _ q _ _
theorem lu(q:QS)(p:Int):(q.bF p).1.a.bj=q.a.bj:=by
 unfold QS.bF
 split<;>exact QD q p
theorem gQ(q:QS)(p:Int)(leaf:Bool)(l:List E):(q.db p leaf l).1.a.bj=q.a.bj:=by
 unfold QS.db
 split
 .rfl
 .exact put_ao q p _
theorem mH(q:QS)(leaf:Bool)(l:List E):(q.eK leaf l).1.a.bj=q.a.bj:=by
 unfold QS.eK
 split
 .rfl
 .exact QE q _
theorem Mr(key:rd):∀(m:Nat) (q:QS) (p:Int) (out:List Step),(nZ key m q p out).1.a.bj=q.a.bj
 |0,_,_,_=>rfl
 |m+1,q,p,out=>by
  unfold nZ
  split
  .exact lu q p
  .split
   .exact lu q p
   .split
    .exact lu q p
    .exact(Mr key m _ _ _).trans (lu q p)
theorem oY(q:QS)(key:rd):(q.eP key).1.a.bj=q.a.bj:=Mr key 16 q 0 []
theorem wU(q:QS)(x:E):(q.eH x).1.a.bj=q.a.bj:=by
 unfold QS.eH
 split
 .rfl
 .exact DT q _
theorem away_ao(q:QS)(x:E):(q.pI x).1.a.bj=q.a.bj:=by
 unfold QS.pI
 split
 .rfl
 .exact ZN q _
theorem R5(q:QS)(key value:rd):(q.jt key value).1.a.bj=q.a.bj:=by
 unfold QS.jt
 split
 .rfl
 .exact cput_ao q _
theorem tR(q:QS)(key:rd):(q.fm key).1.a.bj=q.a.bj:=by
 unfold QS.fm
 split
 .exact oY q key
 .split
  .exact(wU _ _).trans (oY q key)
  .exact oY q key
theorem grow_ao(q:QS)(leaf:Bool)(la lb:List E):(q.wH leaf la lb).1.a.bj=q.a.bj:=by
 unfold QS.wH
 split
 .exact mH q leaf la
 .split
  .exact(mH _ _ _).trans (mH q leaf la)
  .exact((gQ _ _ _ _).trans (mH _ _ _)).trans (mH q leaf la)
theorem Gr:∀(m:Nat) (l:List Step) (q:QS),(fL m l q).1.a.bj=q.a.bj
 |0,_,_=>by unfold fL;rfl
 |_+1,[],_=>rfl
 |m+1,[x],q=>by
  unfold fL
  split
  .exact gQ q _ _ _
  .exact(grow_ao _ _ _ _).trans (gQ q _ _ _)
 |m+1,x::y::up,q=>by
  unfold fL
  split
  .exact gQ q _ _ _
  .dsimp only
   split
   .exact(mH _ _ _).trans (gQ q _ _ _)
   .split
    .exact((gQ _ _ _ _).trans (mH _ _ _)).trans (gQ q _ _ _)
    .exact(Gr m _ _).trans (((gQ _ _ _ _).trans (mH _ _ _)).trans (gQ q _ _ _))
theorem I8(q:QS)(l:List E)(key:rd):(q.lC l key).1.a.bj=q.a.bj:=by
 unfold QS.lC
 split
 .exact away_ao q _
 .rfl
theorem lay_ao(q:QS)(key value:rd)(x:Step)(i:Nat)(up:List Step):(q.Uv key value x i up).1.a.bj=q.a.bj:=by
 unfold QS.Uv
 split
 .exact R5 q key value
 .exact(Gr _ _ _).trans (R5 q key value)
theorem R6(q:QS)(key value:rd):(q.gE key value).1.a.bj=q.a.bj:=by
 unfold QS.gE
 split
 .rfl
 .split
  .exact oY q key
  .split
   .exact(I8 _ _ _).trans (oY q key)
   .exact((lay_ao _ _ _ _ _ _).trans (I8 _ _ _)).trans (oY q key)
theorem Mu:∀(m:Nat) (q:QS) (leaf:Bool) (l:List E),(mV m q leaf l).1.a.bj=q.a.bj
 |0,_,_,_=>rfl
 |m+1,q,leaf,l=>by
  unfold mV
  split
  .split
   .exact lu q _
   .split
    .exact(qL _ _).trans (lu q _)
    .exact((Mu m _ _ _).trans (qL _ _)).trans (lu q _)
  .split<;>exact gQ q _ _ _
theorem Gs:∀(k:Nat) (l:List Step) (q:QS),l.length<=k->(gy l q).1.a.bj=q.a.bj
 |_,[],q,_=>by unfold gy;rfl
 |_,[x],q,_=>by
  rw[r9]
  split
  .exact gQ q _ _ _
  .exact Mu 600 q _ _
 |0,_::_::_,_,h=>by simp at h
 |k+1,x::y::up,q,h=>by
  rw[sg]
  split
  .split
   .exact qL q _
   .exact(Gs k _ _ (by simpa using h)).trans (qL q _)
  .exact gQ q _ _ _
theorem I9(q:QS)(key:rd):(q.jV key).1.a.bj=q.a.bj:=by
 unfold QS.jV
 split
 .exact oY q key
 .split
  .exact oY q key
  .split
   .exact(I8 _ _ _).trans (oY q key)
   .exact((Gs _ _ _ (ai _)).trans (I8 _ _ _)).trans (oY q key)
section
variable{σ:Type}
theorem AE(rec:QS->Nat->σ->Int->Wk σ)(step:E->σ->σ×Bool)(fr til:rd)(leaf:Bool)(first:Nat)(hr:∀q n s p,(rec q n s p).q.a.bj=q.a.bj):∀(l:List E) (i:Nat) (q:QS) (seen:Nat) (s:σ),(gr rec step fr til leaf first i l q seen s).q.a.bj=q.a.bj
 |[],_,_,_,_=>rfl
 |x::l,i,q,seen,s=>by
  unfold gr
  split
  .exact AE rec step fr til leaf first hr l _ _ _ _
  .split
   .rfl
   .split
    .split
     .exact AE rec step fr til leaf first hr l _ _ _ _
     .rfl
    .split
     .exact(AE rec step fr til leaf first hr l _ _ _ _).trans (hr _ _ _ _)
     .exact hr _ _ _ _
theorem Mw(step:E->σ->σ×Bool)(fr til:rd):∀(d:Nat) (q:QS) (seen:Nat) (s:σ) (p:Int),(fJ step fr til d q seen s p).q.a.bj=q.a.bj
 |0,_,_,_,_=>rfl
 |d+1,q,seen,s,p=>by
  unfold fJ
  split
  .rfl
  .split
   .exact lu q p
   .exact(AE _ step fr til _ _ (Mw step fr til d) _ _ _ _ _).trans (lu q p)
theorem qM(q:QS)(step:E->σ->σ×Bool)(fr til:rd)(s:σ):(q.dW step fr til s).q.a.bj=q.a.bj:=Mw step fr til 16 q 0 s 0
end
theorem R8:∀(l:List E) (q:QS) (out:List PR),(kK l q out).1.a.bj=q.a.bj
 |[],_,_=>rfl
 |x::l,q,out=>by
  unfold kK
  split
  .exact wU q x
  .exact(R8 l _ _).trans (wU q x)
theorem ZQ(q:QS)(fr til:rd)(n:Int):(q.fS fr til n).1.a.bj=q.a.bj:=by
 unfold QS.fS
 split
 .exact qM q _ _ _ _
 .exact(R8 _ _ _).trans (qM q _ _ _ _)
theorem ZR(q:QS)(fr til:rd):(q.gF fr til).1.a.bj=q.a.bj:=by
 unfold QS.gF
 split
 .exact qM q _ _ _ _
 .split
  .exact qM q _ _ _ _
  .split<;>exact(wU _ _).trans (qM q _ _ _ _)
theorem R9:∀(l:List rd) (q:QS),(mY l q).1.a.bj=q.a.bj
 |[],_=>rfl
 |k::l,q=>by
  unfold mY
  split
  .exact I9 q k
  .exact(R9 l _).trans (I9 q k)
theorem Ve(q:QS)(fr til:rd):(q.iD fr til).1.a.bj=q.a.bj:=by
 unfold QS.iD
 split
 .exact qM q _ _ _ _
 .split<;>exact(R9 _ _).trans (qM q _ _ _ _)
attribute [local go_sem ↓] bA
variable{w:YB}{xb n c:Nat}{A:Option Addr}
abbrev Pt:=Int×Int×Nat
def Gt(l:List Pt):List YO:=l.flatMap λx=>[U5 By x.1,U5 By x.2.1,lc x.2.2]
theorem om:∀l:List Pt,(Gt l).length=l.length*3
 |[]=>rfl
 |x::l=>by unfold Gt;rw[im,aT];have:=om l;unfold Gt at this;rw[this];simp;omega
theorem Sc(a b:List Pt):Gt (a++b)=Gt a++Gt b:=by simp[Gt]
theorem Ja(l:List Pt):∀u∈Gt l,u.oneCell'=true:=λu hu=>by
 unfold Gt at hu;obtain⟨x,_,hx⟩:=mZ.1 hu;simp only[ar,ij,or_false]at hx
 rcases hx with rfl|rfl|rfl<;>rfl
theorem ZT:∀(l:List Pt) (i:Nat) (x:Pt),l[i]?=some x->(Gt l)[i*3]?=some (U5 By x.1)/\(Gt l)[i*3+1]?=some (U5 By x.2.1)/\(Gt l)[i*3+1+1]?=some (U7 (some ⟨x.2.2,0,none⟩))
 |[],_,_,h=>by simp at h
 |y::l,0,x,h=>by
  simp only[uz,Option.some.injEq]at h;subst h;exact⟨rfl,rfl,rfl⟩
 |y::l,i+1,x,h=>by
  rw[rk]at h;have:=ZT l i x h;have e:Gt (y::l)=[U5 By y.1,U5 By y.2.1,U7 (some ⟨y.2.2,0,none⟩)]++Gt l:=rfl;rw[e,dQ (by simp;omega),dQ (by simp;omega),dQ (by simp;omega)]
  rw[show(i+1)*3-[Value.int By y.1,U5 By y.2.1,U7 (some ⟨y.2.2,0,none⟩)].length=i*3 by simp;omega,show(i+1)*3+1-[Value.int By y.1,U5 By y.2.1,U7 (some ⟨y.2.2,0,none⟩)].length=i*3+1 by simp;omega,show(i+1)*3+1+1-[Value.int By y.1,U5 By y.2.1,U7 (some ⟨y.2.2,0,none⟩)].length=i*3+1+1 by simp;omega];exact this
structure RX(w:YB)(xb:Nat)(A:Option Addr)(n c:Nat)(ps:List Pt):Prop where
 b:aF w xb 88 #[U3 A n c]
 s:aM w 103 3 (U3 A n c) n (Gt ps)
theorem RX.len{ps:List Pt}(h:RX w xb A n c ps):ps.length=n:=by
 have:=h.s.1;rw[om]at this;omega
theorem RX.below{w':YB}{ps:List Pt}(h:RX w xb A n c ps)(hb:i7 w w'):RX w' xb A n c ps:=⟨h.b.below hb h.b.lt,h.s.below hb⟩
theorem RX.at{ps:List Pt}(h:RX w xb A n c ps){i:Nat}(hi:i<n):∃g x,A=some ⟨g,0,none⟩/\ps[i]?=some x/\n<=c/\c<=it/\w.cell? ⟨g,i*3,none⟩=some (x.1:li)/\w.cell? ⟨g,i*3+1,none⟩=some (x.2.1:li)/\w.cell? ⟨g,i*3+1+1,none⟩=some (lc x.2.2:li):=by
 have hl:=h.len;obtain⟨g,cap,rest,hv,B,hc,hr⟩:=h.s.form (by omega) (by omega);injection hv with e1 e2 e3
 subst e1;obtain⟨x,hx⟩:∃x,ps[i]?=some x:=⟨_,aH (by omega)⟩;obtain⟨p1,p2,p3⟩:=ZT _ _ _ hx;have vr:c<=it:=by obtain⟨_,_,_,_,h⟩:=h.s.uD;exact h
 refine⟨g,x,rfl,hx,by omega,vr,?_,?_,?_⟩
 .exact B.ab (by rw[cN,bE (by rw[om];omega)];exact p1)
 .exact B.ab (by rw[cN,bE (by rw[om];omega)];exact p2)
 .exact B.ab (by rw[cN,bE (by rw[om];omega)];exact p3)
theorem Jb:(prog.info? 103).map (λi=>(i.zero,i.size,i.bytes))=some (some (.agg #[U5 By 0,U5 By 0,U7 none]),3,24):=by kernel_rfl
structure MO(w W:YB)(xb:Nat)(A:Option Addr)(n c:Nat)(ps:List Pt)(y:Pt)(ze pe:Option Nat)(ve:Option YO):Prop where
 h:RX W xb A n c ps
 o:ag [xb] w W
 s:∀g∈ah (U3 A n c),g<w.heap.size
 b:xb<w.heap.size
 z:∀b,ze=some b->aM W 103 3 (U3 (lc b) 0 0) 0 []/\w.heap.size<=b/\∀p,pe=some p->b≠p
 p:∀p,pe=some p->aM W 103 3 (U3 (lc p) 1 1) 1 (Gt [y])/\w.heap.size<=p
 v:∀V,ve=some V->aM W 103 3 V n (Gt ps)/\∀g∈ah V,w.heap.size<=g
section
variable{w W:YB}{xb:Nat}{A:Option Addr}{n c:Nat}{ps:List Pt}{y:Pt}{ze pe:Option Nat}{ve:Option YO}
theorem MO.m0(H:MO w W xb A n c ps y ze pe ve):W.cell? (lc xb)=some (U3 A n c):=H.h.b.bi 0
theorem MO.below(H:MO w W xb A n c ps y ze pe ve){W':YB}(hb:i7 W W'):MO w W' xb A n c ps y ze pe ve:=
 ⟨H.h.below hb,H.o.trans (.aj hb),H.s,H.b,λb h=>⟨(H.z b h).1.below hb,(H.z b h).2⟩,λp h=>⟨(H.p p h).1.below hb,(H.p p h).2⟩,λV h=>⟨(H.v V h).1.below hb,(H.v V h).2⟩⟩
theorem MO.drew(H:MO w W xb A n c ps y ze pe ve):MO w W.drew xb A n c ps y ze pe ve:=H.below (Below.refl _ _).drew
theorem MO.zero(H:MO w W xb A n c ps y none pe ve):MO w (W.alloc (WF #[] 103)) xb A n c ps y (some W.heap.size) pe ve:=by
 have H':=H.below (i6 _ (WF #[] 103));refine⟨H'.h,H'.o,H'.s,H'.b,λb hb=>?_,H'.p,H'.v⟩;injection hb with hb
 subst hb;exact⟨⟨rfl,.inr ⟨_,0,[],rfl,aF.new W _ #[],rfl,by unfold it;omega⟩⟩,H.o.size,λp hp e=>by have:=(H.p p hp).1.lt p (by simp[ah]);omega⟩
theorem MO.one(H:MO w W xb A n c ps y ze none ve):MO w (W.alloc (WF #[y.1,y.2.1,lc y.2.2] 103)) xb A n c ps y ze (some W.heap.size) ve:=by
 have H':=H.below (i6 _ (WF #[y.1,y.2.1,lc y.2.2] 103));refine⟨H'.h,H'.o,H'.s,H'.b,λb hb=>⟨(H'.z b hb).1,(H'.z b hb).2.1,λp hp e=>?_⟩,λp hp=>?_,H'.v⟩
 .injection hp with hp
  have:=(H.z b hb).1.lt b (by simp[ah]);omega
 .injection hp with hp
  subst hp;exact⟨⟨rfl,.inr ⟨_,1,[],rfl,aF.new W _ _,rfl,by decide⟩⟩,H.o.size⟩
theorem MO.app{b:Nat}(H:MO w W xb A n c ps y (some b) pe none)(hn:n<=1000000):
  ∃V c2 W',dF prog 86 86 W (U3 (lc b) 0 0) (U3 A n c)= .ok (U3 V n c2) W'/\MO w W' xb A n c ps y none pe (some (U3 V n c2)):=by
 obtain⟨S0,hb,hbp⟩:=H.z b rfl;obtain⟨v2,w2,ea,S2,o2,f2⟩:=oG (P:=prog) S0 H.h.s 86 86 _ 24 underlying86 Jb rfl (by omega) (Ja _) (by unfold it;omega) (by omega);rw[bq,cQ]at S2;obtain⟨V2,c2,rfl⟩:=ax S2;have hd:∀x∈ah (U3 (lc b) 0 0),x=b:=λx hx=>by simpa [ah]using hx
 have hs:∀g∈ah (U3 A n c),g∉ah (U3 (lc b) 0 0):=λg hg hx=>by have:=hd g hx;have:=H.s g hg;omega
 refine⟨V2,c2,w2,ea,⟨⟨H.h.b.only o2 (λhx=>by have:=hd _ hx;have:=H.b;omega),H.h.s.only o2 hs⟩,H.o.aU o2 (λx hx ef=>by have:=hd x hx;omega),H.s,H.b,(λ_ h=>by cases h),λp hp=>⟨(H.p p hp).1.only o2 (λg hg hx=>by have h1:=hd g hx;have h2:=hbp p hp;simp[ah]at hg;omega),(H.p p hp).2⟩,λV hV=>?_⟩⟩;injection hV with hV
 subst hV;exact⟨S2,λg hg=>(f2 g hg).elim (λh=>by have:=hd g h;omega) (λh=>aq H.o.size h)⟩
theorem MO.ZG{V:Option Addr}{c2 p:Nat}(H:MO w W xb A n c ps y none (some p) (some (U3 V n c2)))(hn:n<=1000000):
  ∃V' c' W',dF prog 86 86 W (U3 V n c2) (U3 (lc p) 1 1)= .ok (U3 V' (n+1) c') W'/\RX W' xb A n c ps/\ag [xb] w W'/\aM W' 103 3 (U3 V' (n+1) c') (n+1) (Gt (ps++[y]))/\∀g∈ah (U3 V' (n+1) c'),w.heap.size<=g:=by
 obtain⟨S2,f2⟩:=H.v _ rfl;obtain⟨v3,w3,ea,S3,o3,f3⟩:=oG (P:=prog) S2 (H.p p rfl).1 86 86 _ 24 underlying86 Jb rfl (by omega) (Ja _) (by unfold it;omega) (by omega);obtain⟨V3,c3,rfl⟩:=ax S3
 refine⟨V3,c3,w3,ea,⟨H.h.b.only o3 (λhx=>by have:=f2 _ hx;have:=H.b;omega),H.h.s.only o3 (λg hg hx=>by have:=f2 g hx;have:=H.s g hg;omega)⟩,H.o.aU o3 (λx hx ef=>by have:=f2 x hx;omega),?_,λg hg=>(f3 g hg).elim (f2 g) (λh=>aq H.o.size h)⟩;rw[Sc];exact S3
end
theorem kN(s l:Int){rs:List rd}(S:aM w 9 1 (U3 A n c) n (pS rs))(hn:n<=100):
  eq prog 92 #[s,l,U3 A n c] w λe w'=>e=BY (U6 (decide (0<=s/\s<=7/\0<=l/\l<=5/\∀r∈rs,r.size<=30)))/\i7 w w':=by
 have qQ:rs.length=n:=by have:=S.1;simp[pS]at this;omega
 have HL:=xh qQ;have H0:=xh S;obtain⟨res,Eo⟩:∃res,decide (0<=s/\s<=7/\0<=l/\l<=5/\∀r∈rs,r.size<=30)=res:=⟨_,rfl⟩;have HR:=xh Eo;rw[Eo];clear S qQ Eo;go_in;go_wp2_with fail
 go_loopw [7] (λiv wr=> ∃i:Nat,i<=n/\iv=U5 By (i:Nat)/\Hid (∀r∈rs.take i,r.size<=30)/\i7 w wr) (λiv _=>n-(intOf iv).toNat)
 case atStart=>exact⟨0,aW _,rfl,xh (by simp),Below.refl _ _⟩
 case round=>
  obtain⟨i,hi,rfl,HS,O⟩:=hrel
  by_cases h:i<n
  .have hI:(i:Int)<(n:Int):=by omega
   have S2:=H0.o.below O;obtain⟨g,cap,rest,hv,B,hc,kO⟩:=S2.form (by omega) (by omega);injection hv with e1 e2 e3
   subst e1 e3;obtain⟨r,hx⟩:∃r,rs[i]?=some r:=⟨_,aH (by rw[HL.o];exact h)⟩;have xc:wr.cell? ⟨g,i,none⟩=some (U2 r):=B.ab (by
    rw[cN,bE (by simp[pS];rw[HL.o];exact h)];simp[pS,hx])
   by_cases gZ:r.size<=30
   .have VP:¬(30:Int)<(r.size:Int):=by omega
    have HO:=xh O;have ei:IntKind.i64.wrap ((i:Int)+1)=((i+1:Nat):Int):=dl;have Bu:=xh (show ∀r∈rs.take (i+1),r.size<=30 from λy hy=>by
     rw[kQ,hx]at hy
     rcases ay.1 hy with hy|hy
     .exact HS.o y hy
     .simp at hy;rw[hy];exact gZ)
    clear S2 B kO O hx gZ;go_wp2_with fail;go_roundw
    case rel=>exact⟨i+1,by omega,by go_num,Bu,HO.o⟩
    case measure=>simp[intOf];omega
   .have VP:(30:Int)<(r.size:Int):=by omega
    have h2:res=false:=by
     rw[<-HR.o];exact decide_eq_false λjU=>gZ (jU.2.2.2.2 r (aA hx))
    subst h2;have HO:=xh O;clear S2 B kO O hx gZ;go_wp2;go_ret;exact aI HO.o
  .have hI:¬(i:Int)<(n:Int):=by omega
   have jU:∀r∈rs,r.size<=30:=by
    have hs:=HS.o
    rwa [cm (by rw[HL.o];omega)]at hs
   have HO:=xh O;clear O
   by_cases n1:0<=s
   .by_cases n2:s<=7
    .by_cases n3:0<=l
     .by_cases n4:l<=5
      .have h2:res=true:=by rw[<-HR.o];exact decide_eq_true ⟨n1,n2,n3,n4,jU⟩
       subst h2;clear jU;go_wp2;go_ret;exact aI HO.o
      .have h2:res=false:=by rw[<-HR.o];exact decide_eq_false λh=>n4 h.2.2.2.1
       subst h2;clear jU;go_wp2;go_ret;exact aI HO.o
     .have h2:res=false:=by rw[<-HR.o];exact decide_eq_false λh=>n3 h.2.2.1
      subst h2;clear jU;go_wp2;go_ret;exact aI HO.o
    .have h2:res=false:=by rw[<-HR.o];exact decide_eq_false λh=>n2 h.2.1
     subst h2;clear jU;go_wp2;go_ret;exact aI HO.o
   .have h2:res=false:=by rw[<-HR.o];exact decide_eq_false λh=>n1 h.1
    subst h2;clear jU;go_wp2;go_ret;exact aI HO.o
def OfP(w w':YB)(xb:Nat)(ps:List Pt)(sp lp:Int)(mb:Nat):Prop:=
 ((sp,lp,mb)∈ps/\i7 w w')\/((∀p∈ps,¬(p.1=sp/\p.2.1=lp))/\w.heap.size<=mb/\aF w' mb 45 #[U3 none 0 0]/\ag [xb] w w'/\∃A n c,RX w' xb A n c (ps++[(sp,lp,mb)])/\∀g∈ah (U3 A n c),w.heap.size<=g)
theorem Mx{ps:List Pt}(h:RX w xb A n c ps)(hn:n<=100000)(sp lp:Int):
  eq prog 93 #[lc xb,sp,lp] w λe w'=> ∃mb,e=BY (lc mb)/\OfP w w' xb ps sp lp mb:=by
 have x0:=h.b.bi 0;have HX:=xh h;have HN:=xh hn;clear h;go_in;go_wp2_with fail
 go_loopw [7] (λiv wr=> ∃i:Nat,i<=n/\iv=U5 By (i:Nat)/\wr=w/\Hid (∀p∈ps.take i,¬(p.1=sp/\p.2.1=lp))) (λiv _=>n-(intOf iv).toNat)
 case atStart=>exact⟨0,aW _,rfl,rfl,xh (by simp)⟩
 case round=>
  obtain⟨i,hi,rfl,rfl,HS⟩:=hrel
  by_cases h:i<n
  .have hI:(i:Int)<(n:Int):=by omega
   obtain⟨g,x,rfl,hx,hc,vr,c0,c1,c2⟩:=HX.o.at h;have ei:IntKind.i64.wrap ((i:Int)+1)=((i+1:Nat):Int):=dl;obtain⟨xs,xl,xm⟩:=x;dsimp only at c0 c1 c2
   by_cases h1:xs=sp
   .by_cases h2:xl=lp
    .subst h1;subst h2;have H9:=g9 (OfP wr wr xb ps xs xl xm) (.inl ⟨aA hx,Below.refl _ _⟩);clear hx;go_wp2;go_ret;exact⟨xm,by first|rfl|simp,H9.o⟩
    .have Bu:=xh (show ∀p∈ps.take (i+1),¬(p.1=sp/\p.2.1=lp)from λp hp=>by
      rw[kQ,hx]at hp
      rcases ay.1 hp with hp|hp
      .exact HS.o p hp
      .simp at hp;subst hp;exact λh=>h2 h.2)
     clear hx;go_wp2_with fail;go_roundw
     case rel=>exact⟨i+1,by omega,by go_num,by first|rfl|trivial,Bu⟩
     case measure=>simp[intOf];omega
   .have Bu:=xh (show ∀p∈ps.take (i+1),¬(p.1=sp/\p.2.1=lp)from λp hp=>by
     rw[kQ,hx]at hp
     rcases ay.1 hp with hp|hp
     .exact HS.o p hp
     .simp at hp;subst hp;exact λh=>h1 h.1)
    clear hx;go_wp2_with fail;go_roundw
    case rel=>exact⟨i+1,by omega,by go_num,by first|rfl|trivial,Bu⟩
    case measure=>simp[intOf];omega
  .have hI:¬(i:Int)<(n:Int):=by omega
   have tY:∀p∈ps,¬(p.1=sp/\p.2.1=lp):=by
    have hs:=HS.o
    rwa [cm (by rw[HX.o.len];omega)]at hs
   have HNO:=xh tY;clear tY
   go_upto_region 7 with fail
   obtain⟨w1,lD⟩:∃w1,wr.alloc (WF #[U3 none 0 0] 45)=w1:=⟨_,rfl⟩;obtain⟨mb,hmb⟩:∃mb,wr.heap.size=mb:=⟨_,rfl⟩;have Ap:w1.heap.size=mb+1:=by rw[<-lD,gf,hmb]
   have hbw:=i6 wr (WF #[U3 none 0 0] 45);have M1:=aF.new wr 45 #[U3 none 0 0];rw[lD]at hbw M1 ⊢;rw[hmb]at M1 ⊢;obtain⟨w2,Ee⟩:∃w2,w1.alloc (WF #[sp,lp,lc mb] 103)=w2:=⟨_,rfl⟩;have ZU:=aC hbw (i6 w1 (WF #[sp,lp,lc mb] 103));have M2:=M1.alloc (WF #[sp,lp,lc mb] 103)
   have B8:=aF.new w1 103 #[sp,lp,lc mb];rw[Ap]at B8;rw[Ee]at ZU M2 B8 ⊢;have hxb:=HX.o.b.lt;have zL:=HX.o.s.lt;have hbs:=ZU.size;have H0:=g9 (MO w2 w2 xb A n c ps (sp,lp,mb) none none none) ⟨HX.o.below ZU,ag.refl _ _,λg hg=>by have:=zL g hg;omega,by omega,(λ_ h=>by cases h),(λ_ h=>by cases h),(λ_ h=>by cases h)⟩;have B8:=xh B8
   have KP:=xh (show ∀(W:YB) (ze pe:Option Nat) (ve:Option YO),MO w2 W xb A n c ps (sp,lp,mb) ze pe ve->W.cell? (lc xb)=some (U3 A n c)/\W.cell? ⟨mb+1,0,none⟩=some (sp:li)/\W.cell? ⟨mb+1,1,none⟩=some (lp:li)/\W.cell? ⟨mb+1,2,none⟩=some (lc mb:li)from λW ze pe ve H=>by
    have B:=B8.o.only H.o (by simp;omega);exact⟨H.m0,B.bi 0,B.bi 1,B.bi 2⟩)
   have KQ:=xh (show ∀(W:YB),RX W xb A n c ps->ag [xb] w2 W->W.cell? (lc xb)=some (U3 A n c)/\W.cell? ⟨mb+1,0,none⟩=some (sp:li)/\W.cell? ⟨mb+1,1,none⟩=some (lp:li)/\W.cell? ⟨mb+1,2,none⟩=some (lc mb:li)from λW X ho=>by
    have B:=B8.o.only ho (by simp;omega);exact⟨X.b.bi 0,B.bi 0,B.bi 1,B.bi 2⟩)
   have M2:=xh M2;have HW:=xh<|io ZU (io hxb hmb);clear lD hbw ZU M1 hxb zL hbs Ee x0;refine nV (S:=λW=>W.cell? (lc xb)=some (U3 A n c)/\W.cell? ⟨mb+1,0,none⟩=some (sp:li)/\W.cell? ⟨mb+1,1,none⟩=some (lp:li)/\W.cell? ⟨mb+1,2,none⟩=some (lc mb:li)) [12] (by kernel_rfl) (KP.o _ _ _ _ H0.o.drew) (λau=>?_);refine dP [(0,53),(2,55),(3,56),(4,57),(5,58),(7,60)] ?_
   iterate 6 refine gY ?_
   refine pz (rs:=[1,8]) (by kernel_rfl) (by simp) ?_;refine iz.cons (λK hK=>?_) (iz.cons (λK hK=>?_) iz.nil)
   .skip
    have H1:=xh H0.o.zero;go_simp;refine bn hK (λ_=>KP.o _ _ _ _ H1.o.drew) (λau=>?_);refine pz (rs:=[6,8]) (by kernel_rfl) (by simp) ?_;refine iz.cons (λK hK=>?_) (iz.cons (λK hK=>?_) iz.nil)
    .skip
     obtain⟨V2,c2,w3,ea,hq⟩:=H1.o.drew.app (by have:=HN.o;omega)
     try simp only[gf]at ea
     have H2:=xh hq;clear hq;go_simp;clear ea;refine bn hK (λ_=>KP.o _ _ _ _ H2.o) (λau=>?_);refine cJ 8 λK hK=>?_;have H3:=xh H2.o.one;go_simp;refine bn hK (λ_=>KP.o _ _ _ _ H3.o) (λau=>?_);obtain⟨V3,c3,w4,ea3,M3,o3,S3,f3⟩:=H3.o.ZG (by have:=HN.o;omega)
     try simp only[gf]at ea3
     have y3:=KQ.o w4 M3 o3;have z3:=M3.b.frozen 0 (by simp);have M3:=xh M3;have o3:=xh o3;have S3:=xh S3;have f3:=xh f3;refine cJ 9 λK hK=>?_;go_simp;refine bn hK (λ_=>y3) (λau=>?_);refine cJ 10 λK hK=>?_;go_simp;refine bn hK (λ_=>y3) (λau=>?_);refine dP [(11,64)] ?_
     iterate 1 refine gY ?_
     refine cJ 12 λK hK=>?_;go_simp;refine bn hK (λh=>absurd (by simp) h) (λau=>?_);refine nU (by kernel_rfl) ?_ _;have B9:=xh<|M3.o.b.cw 0 (U3 V3 (n+1) c3);have U9:=(ag.refl [xb] w4).setCell (p:=⟨xb,0,none⟩) (λ_=>by simp) (U3 V3 (n+1) c3);have O9:=xh<|o3.o.trans U9;have S9:=xh<|S3.o.only U9 (λg hg hm=>by have:=f3.o g hg;have:=HW.o.2.1;have:=HW.o.1.size;have:=az.1 hm;omega)
     have K9:=KQ.o w4 M3.o o3.o;have q2:=(B8.o.only O9.o (by have:=HW.o.2;simp;omega)).ab (i:=2) rfl;have HF:=g9 (OfP wr _ xb ps sp lp mb) (.inr ⟨HNO.o,by rw[<-HW.o.2.2];exact ai _,M2.o.only O9.o (by have:=HW.o.2;simp;omega),(ag.aj HW.o.1).trans O9.o,V3,n+1,c3,⟨B9.o,S9.o⟩,λg hg=>aq HW.o.1.size (f3.o g hg)⟩);clear U9 K9;go_wp2;go_ret;exact⟨mb,by first|rfl|simp,HF.o⟩
    .skip
     have H2:=xh H1.o.one;go_simp;refine bn hK (λ_=>KP.o _ _ _ _ H2.o.drew) (λau=>?_);refine cJ 6 λK hK=>?_;obtain⟨V2,c2,w3,ea,hq⟩:=H2.o.drew.app (by have:=HN.o;omega)
     try simp only[gf]at ea
     have H3:=xh hq;clear hq;go_simp;clear ea;refine bn hK (λ_=>KP.o _ _ _ _ H3.o) (λau=>?_);obtain⟨V3,c3,w4,ea3,M3,o3,S3,f3⟩:=H3.o.ZG (by have:=HN.o;omega)
     try simp only[gf]at ea3
     have y3:=KQ.o w4 M3 o3;have z3:=M3.b.frozen 0 (by simp);have M3:=xh M3;have o3:=xh o3;have S3:=xh S3;have f3:=xh f3;refine cJ 9 λK hK=>?_;go_simp;refine bn hK (λ_=>y3) (λau=>?_);refine cJ 10 λK hK=>?_;go_simp;refine bn hK (λ_=>y3) (λau=>?_);refine dP [(11,64)] ?_
     iterate 1 refine gY ?_
     refine cJ 12 λK hK=>?_;go_simp;refine bn hK (λh=>absurd (by simp) h) (λau=>?_);refine nU (by kernel_rfl) ?_ _;have B9:=xh<|M3.o.b.cw 0 (U3 V3 (n+1) c3);have U9:=(ag.refl [xb] w4).setCell (p:=⟨xb,0,none⟩) (λ_=>by simp) (U3 V3 (n+1) c3);have O9:=xh<|o3.o.trans U9;have S9:=xh<|S3.o.only U9 (λg hg hm=>by have:=f3.o g hg;have:=HW.o.2.1;have:=HW.o.1.size;have:=az.1 hm;omega)
     have K9:=KQ.o w4 M3.o o3.o;have q2:=(B8.o.only O9.o (by have:=HW.o.2;simp;omega)).ab (i:=2) rfl;have HF:=g9 (OfP wr _ xb ps sp lp mb) (.inr ⟨HNO.o,by rw[<-HW.o.2.2];exact ai _,M2.o.only O9.o (by have:=HW.o.2;simp;omega),(ag.aj HW.o.1).trans O9.o,V3,n+1,c3,⟨B9.o,S9.o⟩,λg hg=>aq HW.o.1.size (f3.o g hg)⟩);clear U9 K9;go_wp2;go_ret;exact⟨mb,by first|rfl|simp,HF.o⟩
   .skip
    have H1:=xh H0.o.one;go_simp;refine bn hK (λ_=>KP.o _ _ _ _ H1.o.drew) (λau=>?_);refine cJ 1 λK hK=>?_;have H2:=xh H1.o.zero;go_simp;refine bn hK (λ_=>KP.o _ _ _ _ H2.o.drew) (λau=>?_);refine cJ 6 λK hK=>?_;obtain⟨V2,c2,w3,ea,hq⟩:=H2.o.drew.app (by have:=HN.o;omega)
    try simp only[gf]at ea
    have H3:=xh hq;clear hq;go_simp;clear ea;refine bn hK (λ_=>KP.o _ _ _ _ H3.o) (λau=>?_);obtain⟨V3,c3,w4,ea3,M3,o3,S3,f3⟩:=H3.o.ZG (by have:=HN.o;omega)
    try simp only[gf]at ea3
    have y3:=KQ.o w4 M3 o3;have z3:=M3.b.frozen 0 (by simp);have M3:=xh M3;have o3:=xh o3;have S3:=xh S3;have f3:=xh f3;refine cJ 9 λK hK=>?_;go_simp;refine bn hK (λ_=>y3) (λau=>?_);refine cJ 10 λK hK=>?_;go_simp;refine bn hK (λ_=>y3) (λau=>?_);refine dP [(11,64)] ?_
    iterate 1 refine gY ?_
    refine cJ 12 λK hK=>?_;go_simp;refine bn hK (λh=>absurd (by simp) h) (λau=>?_);refine nU (by kernel_rfl) ?_ _;have B9:=xh<|M3.o.b.cw 0 (U3 V3 (n+1) c3);have U9:=(ag.refl [xb] w4).setCell (p:=⟨xb,0,none⟩) (λ_=>by simp) (U3 V3 (n+1) c3);have O9:=xh<|o3.o.trans U9;have S9:=xh<|S3.o.only U9 (λg hg hm=>by have:=f3.o g hg;have:=HW.o.2.1;have:=HW.o.1.size;have:=az.1 hm;omega)
    have K9:=KQ.o w4 M3.o o3.o;have q2:=(B8.o.only O9.o (by have:=HW.o.2;simp;omega)).ab (i:=2) rfl;have HF:=g9 (OfP wr _ xb ps sp lp mb) (.inr ⟨HNO.o,by rw[<-HW.o.2.2];exact ai _,M2.o.only O9.o (by have:=HW.o.2;simp;omega),(ag.aj HW.o.1).trans O9.o,V3,n+1,c3,⟨B9.o,S9.o⟩,λg hg=>aq HW.o.1.size (f3.o g hg)⟩);clear U9 K9;go_wp2;go_ret;exact⟨mb,by first|rfl|simp,HF.o⟩
end Sh
namespace Sh
open Go.RowKit Pk Dk Pg
variable{w:YB}{t:TypeId}{sz m:Nat}{v:YO}{L:List YO}
theorem PQ.slcT{I:Ix}{F:List Nat}{q:QS}{n K:Nat}(h:PQ w I F q n K)(S:aM w t sz v m L)(ha:t≠143)(hb:t≠167)(h1:t≠146)(h2:t≠218)(h3:t≠3)(h4:t≠149)(h5:t≠152)(h6:t≠4)(h7:t≠231):∀g∈ah v,g∉F:=by
 rcases S.2 with⟨rfl,_⟩|⟨g,cap,rest,rfl,B,_⟩
 .intro g hg;simp[ah]at hg
 .intro g' hg;simp only[ah,az]at hg;subst hg;exact h.fI B ha hb h1 h2 h3 h4 h5 h6 h7
theorem kh{t':TypeId}(S:aM w t sz v m L){b:Nat}{cs:Array YO}(B:aF w b t' cs)(h:t'≠t):∀g∈ah v,g≠b:=by
 rcases S.2 with⟨rfl,_⟩|⟨g,cap,rest,rfl,BB,_⟩
 .intro g hg;simp[ah]at hg
 .intro g' hg;simp only[ah,az]at hg;subst hg;exact λe=>h ((e▸BB).inj B).1.symm
abbrev De:=Pt×List PR
structure DX(w:YB)(z xb:Nat)(L:List De):Prop where
 x:∃A n c,RX w xb A n c (L.map λe=>e.1)
 m:∀e∈L,∃v,Mp w e.1.2.2 v e.2
 nd:(L.map λe=>e.1.2.2).Nodup
 ku:∀e∈L,∀e'∈L,e.1.1=e'.1.1->e.1.2.1=e'.1.2.1->e=e'
 k:L.length<=10000
 f:z<=xb/\∀e∈L,z<=e.1.2.2
section
variable{w w':YB}{z xb:Nat}{L:List De}{I:Ix}{F:List Nat}{q:QS}{n K:Nat}
theorem DX.below(h:DX w z xb L)(hb:i7 w w'):DX w' z xb L:=by
 obtain⟨A,n,c,X⟩:=h.x;exact⟨⟨A,n,c,X.below hb⟩,λe he=>(h.m e he).imp λv M=>M.below hb,h.nd,h.ku,h.k,h.f⟩
theorem DX.drew(h:DX w z xb L):DX w.drew z xb L:=h.below (Below.refl _ _).drew
theorem DX.pq(h:DX w z xb L)(P:PQ w I F q n K)(o:ag F w w'):DX w' z xb L:=by
 obtain⟨A,n,c,X⟩:=h.x;refine⟨⟨A,n,c,X.b.only o (P.fI X.b),X.s.only o (P.slcT X.s (by decide) (by decide) (by decide) (by decide) (by decide) (by decide) (by decide) (by decide) (by decide))⟩,λe he=>?_,h.nd,h.ku,h.k,h.f⟩;obtain⟨v,M⟩:=h.m e he;exact⟨v,M.b.only o (P.fI M.b),M.s.only o (P.slcT M.s (by decide) (by decide) (by decide) (by decide) (by decide) (by decide) (by decide) (by decide) (by decide)),M.n⟩
def oA(L:List De)(mb:Nat)(l:List PR):List De:=L.map λe=>if e.1.2.2=mb then(e.1,l)else e
theorem My(L:List De)(mb:Nat)(l:List PR):(oA L mb l).map (λe=>e.1)=L.map λe=>e.1:=by
 unfold oA;rw[gR];apply fW;intro e _;show(if e.1.2.2=mb then(e.1,l)else e).1=e.1
 split<;>rfl
theorem updL_mb(L:List De)(mb:Nat)(l:List PR):(oA L mb l).map (λe=>e.1.2.2)=L.map λe=>e.1.2.2:=by
 have:=congrArg (List.map λp:Pt=>p.2.2) (My L mb l);rw[gR,gR]at this;exact this
theorem DX.map(h:DX w z xb L){mb:Nat}{v':YO}{l l':List PR}{sp lp:Int}(he:((sp,lp,mb),l)∈L)(o:ag [mb] w w')(M:Mp w' mb v' l'):DX w' z xb (oA L mb l'):=by
 obtain⟨A,n,c,X⟩:=h.x;obtain⟨v0,M0⟩:=h.m _ he;refine⟨⟨A,n,c,?_,?_⟩,λe hm=>?_,by rw[updL_mb];exact h.nd,?_,by unfold oA;rw[bM];exact h.k,h.f.1,λe hm=>?_⟩
 .exact X.b.only o (λhx=>(X.b.jJ M0.b (by decide)) (az.1 hx))
 .rw[My];exact X.s.only o (λg hg hx=>kh X.s M0.b (by decide) g hg (az.1 hx))
 .unfold oA at hm;obtain⟨e0,h0,rfl⟩:=cr.1 hm
  by_cases hmb:e0.1.2.2=mb
  .rw[if_pos hmb];exact⟨v',by show Mp w' e0.1.2.2 v' l';rw[hmb];exact M⟩
  .rw[if_neg hmb];obtain⟨v,M1⟩:=h.m e0 h0;exact⟨v,M1.b.only o (by simpa using hmb),M1.s.only o (λg hg hx=>kh M1.s M0.b (by decide) g hg (az.1 hx)),M1.n⟩
 .intro e hm e' hm' h1 h2;unfold oA at hm hm';obtain⟨e0,h0,rfl⟩:=cr.1 hm;obtain⟨e1,h3,rfl⟩:=cr.1 hm';have k0:(if e0.1.2.2=mb then(e0.1,l')else e0).1=e0.1:=by split<;>rfl
  have k1:(if e1.1.2.2=mb then(e1.1,l')else e1).1=e1.1:=by split<;>rfl
  rw[k0,k1]at h1 h2;rw[h.ku e0 h0 e1 h3 h1 h2]
 .unfold oA at hm;obtain⟨e0,h0,rfl⟩:=cr.1 hm;have k0:(if e0.1.2.2=mb then(e0.1,l')else e0).1=e0.1:=by split<;>rfl
  rw[k0];exact h.f.2 e0 h0
def DOf(w w':YB)(z xb:Nat)(L:List De)(sp lp:Int)(mb:Nat):Prop:=
 ∃l L',DX w' z xb L'/\((sp,lp,mb),l)∈L'/\(L'=L\/(L'=L++[((sp,lp,mb),[])]/\l=[]))/\ag [xb] w w'
theorem DX.of(h:DX w z xb L)(hk:L.length<10000)(hz:z<=w.heap.size)(sp lp:Int):
  eq prog 93 #[lc xb,sp,lp] w λe w'=> ∃mb,e=BY (lc mb)/\DOf w w' z xb L sp lp mb:=by
 obtain⟨A,n,c,X⟩:=h.x;have hl:=X.len;rw[bM]at hl;refine(Mx X (by omega) sp lp).mono λe w' ⟨mb,r,hO⟩=>⟨mb,r,?_⟩
 rcases hO with⟨h1,h2⟩|⟨h1,h2,h3,h4,A',n',c',X',h5⟩
 .obtain⟨e0,h0,he⟩:=cr.1 h1;exact⟨e0.2,L,h.below h2,by rw[<-he];exact h0,.inl rfl,.aj h2⟩
 .have JM:∀e∈L,e.1.2.2<w.heap.size:=λe he=>by obtain⟨v,M⟩:=h.m e he;exact M.b.lt
  refine⟨[],L++[((sp,lp,mb),[])],⟨⟨A',n',c',by rw[cX];exact X'⟩,λe he=>?_,?_,?_,by rw[aT];simp;omega,h.f.1,λe he=>?_⟩,bP _ (by simp),.inr ⟨rfl,rfl⟩,h4⟩
  .rcases ay.1 he with he|he
   .obtain⟨v,M⟩:=h.m e he;exact⟨v,M.b.only h4 (λhx=>(M.b.jJ X.b (by decide)) (az.1 hx)),M.s.only h4 (λg hg hx=>kh M.s X.b (by decide) g hg (az.1 hx)),M.n⟩
   .have:=az.1 he;subst this;exact⟨U3 none 0 0,h3,aM.nil _ _ _,by simp⟩
  .rw[cX,gU];refine⟨h.nd,by simp,λa ha b hb=>?_⟩;obtain⟨e,he,rfl⟩:=cr.1 ha;have hb:=az.1 hb;have ef:=JM e he;have cf:b=mb:=hb;rw[cf];show e.1.2.2≠mb;omega
  .intro e he e' nj k1 k2
   rcases ay.1 he with he|he
   .rcases ay.1 nj with nj|nj
    .exact h.ku e he e' nj k1 k2
    .have:=az.1 nj;subst this;exact absurd ⟨k1,k2⟩ (h1 e.1 (j8 he))
   .have:=az.1 he;subst this
    rcases ay.1 nj with nj|nj
    .exact absurd ⟨k1.symm,k2.symm⟩ (h1 e'.1 (j8 nj))
    .exact(az.1 nj).symm
  .rcases ay.1 he with he|he
   .exact h.f.2 e he
   .have:=az.1 he;subst this;show z<=mb;omega
end
def j7(g:rd×Int):Int×Int:=if g.2≠0 then(0,0)else if g.1.size≠8 then(0,14)else((mI g.1.data.toList:Int)-9223372036854775808,0)
theorem tT(l:List PR)(k:rd):(cV l k).2=0\/(cV l k).2=9:=by
 unfold cV
 split
 .exact .inl rfl
 .exact .inr rfl
theorem ib{w:YB}{z xb:Nat}{L:List De}(h:DX w z xb L)(hk:L.length<10000)(hz:z<=w.heap.size)(name:rd)(hs:∀e∈L,∀x∈e.2,x.2.size<=1000000):
  eq prog 91 #[lc xb,U2 name] w λe w'=> ∃mb l L',e=BY (U8 #[U5 By (j7 (cV l name)).1,U5 By (j7 (cV l name)).2])/\DX w' z xb L'/\((7,0,mb),l)∈L'/\(L'=L\/(L'=L++[((7,0,mb),[])]/\l=[]))/\ag [xb] w w':=by
 have KO:=xh<|h.of hk hz 7 0;have HS:=xh hs;clear h hk hz hs;go_in;go_wp2_with fail;go_call KO.o as e w1 ⟨mb,rfl,l,L',D1,hm,hL,o1⟩;obtain⟨v,M1⟩:=D1.m _ hm;have oq:(cV l name).1.size<=1000000:=by
  rcases tT l name with h0|h9
  .have Bp:=hm;unfold cV
   split
   .cases hx:l[pY l name]? with
    |none=>show(⟨#[]⟩:rd).size<=_;decide
    |some x=>
     have EM:=aA hx
     rcases hL with rfl|⟨rfl,rfl⟩
     .exact HS.o _ hm x EM
     .simp at EM
   .show(⟨#[]⟩:rd).size<=_;decide
  .unfold cV at h9 ⊢
   split at h9
   .cases h9
   .rename_i hb;rw[if_neg hb];show(⟨#[]⟩:rd).size<=_;decide
 have he:=tT l name;have KG:=DQ M1 name;obtain⟨b,e1,hg⟩:∃b e1,cV l name=(b,e1):=⟨_,_,rfl⟩;have HG:=xh hg;rw[hg]at KG oq he;dsimp only at KG oq he;have KG:=xh KG;have H1:=xh<|io D1 (io hm (io hL o1));clear D1 hm hL o1 M1 hg;go_wp2_with fail;go_call KG.o as e w2 ⟨rfl,cf⟩
 have H2:=g9 (DX w2 z xb L'/\((7,0,mb),l)∈L'/\(L'=L\/(L'=L++[((7,0,mb),[])]/\l=[]))/\ag [xb] w w2) ⟨H1.o.1.below cf,H1.o.2.1,H1.o.2.2.1,H1.o.2.2.2.trans (.aj cf)⟩;clear cf
 rcases he with rfl|rfl
 .by_cases h8:b.size=8
  .have KR:=xh (λ(W:YB)=>Bc b 0 (by omega) oq W);have hc:j7 (cV l name)=((mI b.data.toList:Int)-9223372036854775808,0):=by unfold j7;rw[HG.o,i8,if_neg (by simpa using h8)]
   have ht:(b.data.toList.drop 0).take 8=b.data.toList:=by
    have hl:b.data.toList.length=8:=by simpa using h8
    simp[cm,hl]
   rw[ht]at KR;have HC:=xh hc;clear hc ht;generalize (mI b.data.toList:Int)-9223372036854775808=cv at *;have h8I:(b.size:Int)=8:=by omega
   go_wp2_with fail;go_call (KR.o _) as e w3 ⟨rfl,dk⟩;have H3:=g9 (DX w3 z xb L'/\((7,0,mb),l)∈L'/\(L'=L\/(L'=L++[((7,0,mb),[])]/\l=[]))/\ag [xb] w w3) ⟨H2.o.1.below dk,H2.o.2.1,H2.o.2.2.1,H2.o.2.2.2.trans (.aj dk)⟩;clear dk;go_wp2;go_ret2;exact⟨mb,l,L',(by rw[HC.o];first|rfl|simp),H3.o⟩
  .have hc:j7 (cV l name)=(0,14):=by unfold j7;rw[HG.o,i8,if_pos h8]
   have h8I:¬(b.size:Int)=8:=by omega
   have HC:=xh hc;clear hc;go_wp2;go_ret2;exact⟨mb,l,L',(by rw[HC.o];first|rfl|simp),H2.o⟩
 .have hc:j7 (cV l name)=(0,0):=by unfold j7;rw[HG.o,i9]
  have HC:=xh hc;clear hc;go_wp2;go_ret2;exact⟨mb,l,L',(by rw[HC.o];first|rfl|simp),H2.o⟩
end Sh
namespace Sh
open Go.RowKit Pk Dk Pg
section
variable{q:QS}{l o:List PR}{mm k:Nat}
end
variable{a b r:rd}{s s' l l':Nat}
theorem pV(s l:Nat)(a:rd):(aD s l++a).data.toList=UInt8.ofNat (65+s)::UInt8.ofNat l::a.data.toList:=by
 rw[GH,VW];rfl
theorem Sd{a b:Nat}(ha:a<256)(hb:b<256):UInt8.ofNat a<UInt8.ofNat b↔a<b:=by
 rw[sP,il,il,G7 ha,G7 hb]
theorem Mz(hs:s<=7)(Jn:s'<=7)(hl:l<=6)(DO:l'<=6)(a b:rd):
  kc (aD s l++a) (aD s' l'++b)=if s<s' then -1 else if s'<s then 1 else if l<l' then -1 else if l'<l then 1 else kc a b:=by
 unfold kc;rw[pV,pV,Nd.mo,Nd.mo];simp only[Sd (show 65+s<256 by omega) (show 65+s'<256 by omega),Sd (show 65+s'<256 by omega) (show 65+s<256 by omega),Sd (show l<256 by omega) (show l'<256 by omega),Sd (show l'<256 by omega) (show l<256 by omega)];have e1:(65+s<65+s')↔s<s':=by omega
 have e2:(65+s'<65+s)↔s'<s:=by omega
 simp only[e1,e2]
theorem DW(s l:Nat):aD s l++⟨#[]⟩=aD s l:=by apply jQ;simp[GH]
theorem wV(s l:Nat)(r:rd):(aD s l++r).extract 2 (aD s l++r).size=r:=by
 apply jQ;apply qP.1;rw[exl',pV,iY];have:r.data.toList.length=r.size:=by simp
 simp[cm,this]
def ZV(k:rd)(s l:Nat)(r:rd):Prop:=s<=7/\l<=5/\r.size<=30/\k=aD s l++r
def iE(M:List PR):Prop:= ∀x∈M,∃s l r,ZV x.1 s l r
theorem key_low(hs:s<=7)(hl:l<=5)(h:s'<=7/\l'<=5):ox (aD s l++a) (aD s' l'++r)↔s<s'\/(s=s'/\(l<l'\/(l=l'/\ox a r))):=by
 show kc _ _<=0↔_;rw[Mz hs h.1 (by omega) (by omega)];unfold ox
 split
 .constructor<;>intro<;>omega
 .split
  .constructor<;>intro<;>omega
  .split
   .constructor<;>intro<;>omega
   .split
    .constructor<;>intro<;>omega
    .constructor
     .intro h;exact .inr ⟨by omega,.inr ⟨by omega,h⟩⟩
     .rintro(h|⟨_,h|⟨_,h⟩⟩)
      .omega
      .omega
      .exact h
theorem DY(hs:s<=7)(hl:l<=6)(h:s'<=7/\l'<=5):fw (aD s' l'++r) (aD s l++b)↔s'<s\/(s'=s/\(l'<l\/(l'=l/\fw r b))):=by
 show kc _ _<0↔_;rw[Mz h.1 hs (by omega) hl];unfold fw
 split
 .constructor<;>intro<;>omega
 .split
  .constructor<;>intro<;>omega
  .split
   .constructor<;>intro<;>omega
   .split
    .constructor<;>intro<;>omega
    .constructor
     .intro h;exact .inr ⟨by omega,.inr ⟨by omega,h⟩⟩
     .rintro(h|⟨_,h|⟨_,h⟩⟩)
      .omega
      .omega
      .exact h
theorem klt_nil(r:rd):¬fw r ⟨#[]⟩:=λh=>tL h (tM r)
theorem sE(hs:s<=7)(hl:l<=5)(h:s'<=7/\l'<=5):zA (aD s l++a) (iI s l b) (aD s' l'++r)=true↔s'=s/\l'=l/\zA a b r=true:=by
 have hz:(iI s l b).size≠0:=by
  unfold iI
  split
  .show(2:Nat)≠0;decide
  .rw[iY];omega
 unfold zA;simp only[iG,pZ,decide_eq_true_eq];rw[key_low hs hl h];have hup:fw (aD s' l'++r) (iI s l b)↔s'<s\/(s'=s/\(l'<l\/(l'=l/\(b.size=0\/fw r b)))):=by
  unfold iI
  by_cases hb:b=⟨#[]⟩
  .rw[if_pos hb,<-DW s (l+1),DY hs (by omega) h];have:b.size=0:=by rw[hb];rfl
   constructor
   .rintro(h1|⟨h1,h2|⟨h2,h3⟩⟩)
    .exact .inl h1
    .exact .inr ⟨h1,by omega⟩
    .exact absurd h3 (klt_nil r)
   .rintro(h1|⟨h1,h2|⟨h2,h3⟩⟩)
    .exact .inl h1
    .exact .inr ⟨h1,.inl (by omega)⟩
    .exact .inr ⟨h1,.inl (by omega)⟩
  .rw[if_neg hb,DY hs (by omega) h];have:¬b.size=0:=λe=>hb (jQ (VS e));simp only[this,false_or]
 rw[hup]
 constructor
 .rintro⟨h1,h2⟩
  rcases h2 with h2|h2
  .exact absurd h2 hz
  .have e1:s'=s:=by omega
   subst e1;have h1':l<l'\/(l=l'/\ox a r):=by rcases h1 with h1|⟨_,h1⟩;omega;exact h1
   have h2':l'<l\/(l'=l/\(b.size=0\/fw r b)):=by rcases h2 with h2|⟨_,h2⟩;omega;exact h2
   have e2:l'=l:=by omega
   subst e2;exact⟨rfl,rfl,(h1'.resolve_left (by omega)).2,(h2'.resolve_left (by omega)).2⟩
 .rintro⟨rfl,rfl,h3,h4⟩;exact⟨.inr ⟨rfl,.inr ⟨rfl,h3⟩⟩,.inr (.inr ⟨rfl,.inr ⟨rfl,h4⟩⟩)⟩
def aE(s l:Nat)(M:List PR):List PR:=(M.filter (k9 (aD s l) (aD s (l+1)))).map mW
theorem qN(hs:s<=7)(hl:l<=5)(h:s'<=7/\l'<=5):zA (aD s l) (aD s (l+1)) (aD s' l'++r)=true↔s'=s/\l'=l:=by
 have:=sE (a:=⟨#[]⟩) (b:=⟨#[]⟩) (r:=r) hs hl h;rw[DW,show iI s l ⟨#[]⟩=aD s (l+1)from if_pos rfl]at this;rw[this]
 constructor
 .rintro⟨h1,h2,_⟩;exact⟨h1,h2⟩
 .rintro⟨h1,h2⟩;refine⟨h1,h2,?_⟩;unfold zA;rw[decide_eq_true (tM r)];rfl
theorem jw(s l:Nat)(hs:s<=7)(hl:l<=5)(f:PR->Bool)(g:PR->Bool):∀M:List PR,iE M->(∀x∈M,∀r,ZV x.1 s l r->f x=g (r,x.2))->(M.filter (λx=>f x && k9 (aD s l) (aD s (l+1)) x)).map mW=(aE s l M).filter g
 |[],_,_=>rfl
 |x::M,hM,hf=>by
  have ih:=jw s l hs hl f g M (λy hy=>hM y (bK _ hy)) (λy hy=>hf y (bK _ hy));obtain⟨s',l',r,k1,k2,k3,k4⟩:=hM x (by simp);have hp:k9 (aD s l) (aD s (l+1)) x=true↔s'=s/\l'=l:=by unfold k9;rw[k4];exact qN hs hl ⟨k1,k2⟩
  unfold aE at ih ⊢;rw[gG,gG]
  by_cases hx:k9 (aD s l) (aD s (l+1)) x=true
  .obtain⟨rfl,rfl⟩:=hp.1 hx;have YC:=hf x (by simp) r ⟨k1,k2,k3,k4⟩;have hc:mW x=(r,x.2):=by unfold mW;rw[k4,wV]
   rw[hx,Bool.and_true,if_pos rfl,fA,gG,hc]
   cases hfb:f x
   .rw[<-YC,hfb,i8,i8];exact ih
   .rw[<-YC,hfb,if_pos rfl,if_pos rfl,fA,hc,ih]
  .rw[GG]at hx;rw[hx,Bool.and_false,i8,i8];exact ih
end Sh
end Go.Proofs.YtmonobkginiajaaGreat
