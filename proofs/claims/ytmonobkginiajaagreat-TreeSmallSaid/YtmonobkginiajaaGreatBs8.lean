/- packed. -/
import Derived.Deep.Slices
import Derived.Deep.Grids
import Derived.Lib.SmallJoins
import Derived.Test.YtmonobkginiajaaGreatBs7
set_option linter.all false
set_option maxRecDepth 100000
set_option maxHeartbeats 8000000
namespace Go.Proofs.YtmonobkginiajaaGreat
open Go.Proofs.Tryz
namespace Sl
open Go.RowKit
def mD(l:List Slot)(k:Nat):Int:=228-((((l.take k).map λx=>4+x.2).sum:Nat):Int)
theorem Il(l:List Slot)(k:Nat)(h:k<l.length):mD l (k+1)=mD l k-(4+(l[k].2:Int)):=by
 unfold mD;rw[gy h,ez,tM];simp;omega
theorem Mi(b:List UInt8):mD (bM b) (bM b).length=iq b:=by unfold mD iq;rw[fL]
def ur(b:List UInt8):Int:=if cg b=0 then iq b else 0
theorem Im(s:ByteArray)(w:World)(hs:s.size<=1000000):
  Calls prog 209 #[.string s] w λe w'=>e=.returned (.int .i64 (ur s.data.toList))/\Below w.heap.size w w':=by
 have KC:=xh (rh s w hs)
 by_cases h:cg s.data.toList=0
 .have e1:ur s.data.toList=iq s.data.toList:=by unfold ur;rw[if_pos h]
  have hS:=(ff _).1 h;have Gr:s.size=232:=by have:=hS.len;simpa using this
  have h4:=hS.head;have h5:=hS.heap;rw[e1];rw[h]at KC;have KL:=xh (λw'=>jX s w' (by omega) hs);have HN:=xh (cM s.data.toList);have HA:=xh (Mi s.data.toList);have HX:=xh (show ∀k,(mD (bM s.data.toList) k<=228/\∀h:k<(bM s.data.toList).length,(bM s.data.toList)[k].2<65536)from λk=>⟨by unfold mD;omega,λh=>by rw[k9];exact Ah _ _⟩)
  have HLO:=xh (show ∀k,k<=bS s.data.toList 0-> -1000000<=mD (bM s.data.toList) k from λk hk=>by
   have hsum:=Dg _ _ hS.fit hS.heap;have:((((bM s.data.toList).take k).map λx=>4+x.2).sum)<=4*(bM s.data.toList).length+vT (bM s.data.toList):=by
    generalize bM s.data.toList=l;unfold vT
    induction l generalizing k with
    |nil=>simp
    |cons x l ih=>
     cases k with
     |zero=>simp
     |succ k=>
      have:=ih k;simp only[n9,fJ,kU,fo];omega
   rw[cM]at this;unfold mD;omega)
  clear e1 h hS;generalize iq s.data.toList=q at *;generalize bS s.data.toList 0=n at *;go_enter func209,ntmps209;go_wp2_with fail;refine KC.o.mono ?_;rintro e w1 ⟨rfl,bg⟩;have bg:=xh bg;go_wp2_with fail;refine(KL.o _).mono ?_;rintro e w3 ⟨v,rfl,S,gr,fr⟩;obtain⟨A,c,rfl⟩:=ax S;have S:=xh S;have O3:=xh (aC bg.o gr);clear gr fr KL bg;go_wp2_with fail
  go_loopw [3,12] (λrv iv wr=> ∃k:Nat,k<=n/\iv=.int .i64 k/\rv=.int .i64 (mD (bM s.data.toList) k)/\aS wr 271 2 (.slice A n c) n (sc (bM s.data.toList))/\Below w.heap.size w wr) (λ_ iv _=>n-(intOf iv).toNat)
  case atStart=>exact⟨0,bf _,rfl,rfl,S.o,O3.o⟩
  case round=>
   obtain⟨k,hk,rfl,rfl,S,O⟩:=hrel;have Vh:=(HX.o k).1;have LL:=HLO.o k hk
   by_cases h:k<n
   .obtain⟨g,cap,rest,hv,-,Am,-⟩:=S.form (by omega) (by omega);simp only[Value.slice.injEq,true_and]at hv;obtain⟨rfl,rfl⟩:=hv;have kE:k<(bM s.data.toList).length:=by rw[HN.o];exact h
    obtain⟨c0,c1⟩:=oM S k kE;have hb:=(HX.o k).2 kE;have HST:=xh (Il _ k kE);generalize (bM s.data.toList)[k]=x at *;obtain⟨x0,x1⟩:=x;simp only at hb c0 c1 HST;have S8:=xh (S.alloc (.cells #[.int .i64 x0,.int .i64 x1] 271));have O8:=xh (O.alloc O.size (.cells #[.int .i64 x0,.int .i64 x1] 271));clear S O kE;generalize mD (bM s.data.toList) k=r at *;go_wp2_with fail;go_roundw
    case rel=>exact⟨k+1,by omega,by go_num,by rw[HST.o],S8.o,O8.o⟩
    case measure=>simp[intOf];omega
   .have Cd:=xh (show k=n by omega);have OO:=xh O;clear S O;go_wp2_with fail;go_ret;refine⟨?_,OO.o⟩;rw[<-HA.o,HN.o,<-Cd.o];rfl
 .have e1:ur s.data.toList=0:=by unfold ur;rw[if_neg h]
  have hb:(cg s.data.toList==0)=false:=by simpa using h
  rw[e1];clear e1 h;generalize cg s.data.toList=q at *;go_enter func209,ntmps209;go_wp2_with fail;refine KC.o.mono ?_;rintro e w1 ⟨rfl,bg⟩;have bg:=xh bg;go_wp2_with fail;go_ret;exact⟨rfl,bg.o⟩
theorem oN(s:ByteArray)(a b:Nat):s.extract a (a+b)=⟨((s.data.toList.drop a).take b).toArray⟩:=by
 apply mo;apply rS.1;rw[JI,Sm,JQ];simp
theorem Mj(s:ByteArray)(x:Slot)(w:World)(hx:x.1+x.2<=s.size)(hs:s.size<=1000000):
  Calls prog 215 #[.string s,.agg #[.int .i64 x.1,.int .i64 x.2]] w λe w'=>e=.returned (.string ⟨(lN s.data.toList x).toArray⟩)/\Below w.heap.size w w':=by
 obtain⟨a,b⟩:=x;simp only at hx;have HE:=xh (oN s a b);go_enter func215,ntmps215
 go_wp2
 go_ret;refine⟨?_,(Below.refl _ _).alloc (Nat.le_refl _) _⟩;show Ending.returned (.string (s.extract a (a+b)))=_;rw[HE.o];rfl
def cU(b:List UInt8)(i:Int):List UInt8×Int:=if cg b=0 then(if 0<=i/\i<(bS b 0:Int)then(lN b (slot b i.toNat),0)else([],3))else([],cg b)
attribute [local go_sem ↓] bw
variable{w:World}{e:TypeId}{size n:Nat}{v:Value}{l:List Value}
theorem vW(h:aS w e size v n l):∀g∈ah v,∃cs,aF w g e cs:=by
 rcases h.2 with⟨rfl,_⟩|⟨g,cap,rest,rfl,B,_⟩
 .simp[ah]
 .intro x hx;simp[ah]at hx;subst hx;exact⟨_,B⟩
theorem dk{e':TypeId}{size' n':Nat}{v':Value}{l':List Value}(h:aS w e size v n l)(h':aS w e' size' v' n' l')(fc:e≠e'):∀g∈ah v,g∉ah v':=by
 intro g hg hg';obtain⟨_,B⟩:=vW h g hg;obtain⟨_,B'⟩:=vW h' g hg';exact B.kl B' fc rfl
def strs(l:List (List UInt8)):List Value:=l.map λr=> .string ⟨r.toArray⟩
theorem Dj(l:List (List UInt8))(r:List UInt8):strs l++[.string ⟨r.toArray⟩]=strs (l++[r]):=by simp[strs]
@[simp] theorem xC(l:List (List UInt8)):(strs l).length=l.length:=by simp[strs]
theorem xD:(prog.info? 9).map (λi=>(i.zero,i.size,i.bytes))=some (some (.string .empty),1,16):=by kernel_rfl
theorem vX(b:List UInt8)(k:Nat)(h:k<bS b 0):(cV b).take (k+1)=(cV b).take k++[lN b (slot b k)]:=by
 unfold cV;rw[<-lU,sU b k h,ez,lU];rfl
def oO(s:ByteArray)(w:World)(e:Ending)(w':World):Prop:=
 ∃v,e=.returned (.tuple #[v,.int .i64 (cg s.data.toList)])/\Below w.heap.size w w'/\(∀g∈ah v,w.heap.size<=g)/\
  ((cg s.data.toList=0/\aS w' 9 1 v (bS s.data.toList 0) (strs (cV s.data.toList)))\/(cg s.data.toList≠0/\v=.slice none 0 0))
theorem ri(s:ByteArray)(w:World)(hs:s.size<=1000000):
  Calls prog 169 #[.string s] w (oO s w):=by
 have KC:=xh (rh s w hs)
 by_cases h:cg s.data.toList=0
 .have hS:=(ff _).1 h;have Gr:s.size=232:=by have:=hS.len;simpa using this
  have h4:=hS.head;have h5:=hS.heap;rw[h]at KC;have HC:=xh h;have KL:=xh (λw'=>jX s w' (by omega) hs);have HN:=xh (cM s.data.toList);have HG:=xh (k9 s.data.toList);have HT:=xh (vX s.data.toList);have HF:=xh (λk (hk:k<bS s.data.toList 0)=>hS.fit.px _ (ay (Df s.data.toList k hk)))
  have HA:=xh (show(cV s.data.toList).take (bS s.data.toList 0)=cV s.data.toList from cr (by rw[dF];exact Nat.le_refl _));clear hS h;generalize hn:bS s.data.toList 0=n at *;have HN0:=xh hn;clear hn;go_enter func169,ntmps169;go_wp2_with fail;refine KC.o.mono ?_;rintro e w1 ⟨rfl,bg⟩;have bg:=xh bg;go_wp2_with fail;refine(KL.o _).mono ?_;rintro e w3 ⟨v,rfl,S,gr,fr⟩;obtain⟨A,c,rfl⟩:=ax S;have S:=xh S
  have O3:=xh (aC bg.o gr);have FR:=xh (show ∀x∈ah (.slice A n c),w.heap.size<=x from λx hx=>aq bg.o.size (fr x hx));clear gr fr KL bg;go_wp2_with fail
  go_loopw [5,16] (λv iv wr=> ∃k:Nat,k<=n/\iv=.int .i64 k/\aS wr 9 1 v k (strs ((cV s.data.toList).take k))/\aS wr 271 2 (.slice A n c) n (sc (bM s.data.toList))/\Below w.heap.size w wr/\Hid (∀g∈ah v,w.heap.size<=g)) (λ_ iv _=>n-(intOf iv).toNat)
  case atStart=>exact⟨0,bf _,rfl,by rw[iL];exact aS.nil _ _ _,S.o,O3.o,xh (by simp[ah])⟩
  case round=>
   obtain⟨k,hk,rfl,T,S,O,F⟩:=hrel;obtain⟨TA,tc,rfl⟩:=ax T
   by_cases h:k<n
   .obtain⟨g,cap,rest,hv,-,Am,-⟩:=S.form (by omega) (by omega);simp only[Value.slice.injEq,true_and]at hv;obtain⟨rfl,rfl⟩:=hv;have kE:k<(bM s.data.toList).length:=by rw[HN.o];exact h
    obtain⟨c0,c1⟩:=oM S k kE;rw[HG.o k kE]at c0 c1;have hf:=HF.o k h;have KR:=xh (λw'=>Mj s (slot s.data.toList k) w' (by omega) hs);have HTk:=xh (HT.o k (HN0.o▸h));generalize slot s.data.toList k=x at *;obtain⟨x0,x1⟩:=x;simp only at hf c0 c1 KR;have O8:=xh (((Below.refl wr.heap.size wr).alloc (Nat.le_refl _) (.cells #[.int .i64 x0,.int .i64 x1] 271)));have OO:=xh O;have SS:=xh S;have TT:=xh T;clear S T O;go_wp2_with fail
    refine(KR.o _).mono ?_;rintro e w4 ⟨rfl,jk⟩;have jk:=aC O8.o jk;have T4:=TT.o.below jk;have S4:=SS.o.below jk;have O4:=xh (aC OO.o jk);generalize lN s.data.toList (x0,x1)=r at *;obtain⟨v',w5,ea,T5,o5,F5⟩:=dj (P:=prog) T4 123 123 (.string .empty) 16 underlying123 xD rfl (.string ⟨r.toArray⟩) rfl (by unfold maxLen;omega) (by omega);rw[Dj,<-HTk.o]at T5;have S5:=xh (S4.only o5 (dk S4 T4 (by decide)))
    have F6:=xh (show ∀g∈ah v',w.heap.size<=g from λg hg=>(F5 g hg).elim (F.o g) (λh=>aq O4.o.size h));have O5:=xh (O4.o.trans (o5.aJ O4.o.size F.o));obtain⟨VA,vc,rfl⟩:=ax T5;have T5:=xh T5;clear jk T4 S4 o5 F5 SS TT OO;go_wp2_with fail;go_roundw
    case rel=>exact⟨k+1,by omega,by go_num,T5.o,S5.o,O5.o,F6⟩
    case measure=>simp[intOf];omega
   .have Cd:=xh (show k=n by omega);have OO:=xh O;have TT:=xh T;clear S O T;go_wp2_with fail;go_ret2;refine⟨_,by rw[HC.o];rfl,OO.o,F.o,.inl ⟨HC.o,?_⟩⟩;have h1:=TT.o
    cases Cd.o
    rw[HA.o]at h1;rw[HN0.o];exact h1
 .have HC:=xh h;have hb:(cg s.data.toList==0)=false:=by simpa using h
  clear h;generalize hq:cg s.data.toList=q at *;have HQ:=xh hq;clear hq;go_enter func169,ntmps169;go_wp2_with fail;refine KC.o.mono ?_;rintro e w1 ⟨rfl,bg⟩;have bg:=xh bg;go_wp2_with fail;go_ret2;exact⟨_,by rw[HQ.o];rfl,bg.o,by simp[ah],.inr ⟨by rw[HQ.o];exact HC.o,rfl⟩⟩
end Sl
namespace Sl
open Go.RowKit
variable{w w':World}{v:Value}{n:Nat}{l:List Slot}{F:List UInt8}
def sV(w:World)(v:Value)(l:List Slot):Prop:=
 ∃A c,v=.slice A l.length c/\(0<l.length->∃g cs,A=some ⟨g,0,none⟩/\aF w g 271 cs/\∀(j:Nat) (u:Value),(sc l)[j]?=some u->cs[j]?=some u)
theorem sV.of(S:aS w 271 2 v n (sc l)):sV w v l:=by
 have hl:=S.1;rw[jN]at hl;obtain rfl:n=l.length:=by omega
 obtain⟨A,c,rfl⟩:=ax S;refine⟨A,c,rfl,λh=>?_⟩;obtain⟨g,cap,rest,hv,B,_,_⟩:=S.form h (by omega);simp only[Value.slice.injEq,true_and]at hv;obtain⟨rfl,rfl⟩:=hv;exact⟨g,_,rfl,B,λj u hu=>by rw[dh,bE (aM.1 hu).1];exact hu⟩
theorem sV.only{S:List Nat}(h:sV w v l)(ho:ag S w w')(hd:∀g cs,aF w g 271 cs->g∉S):sV w' v l:=by
 obtain⟨A,c,rfl,h⟩:=h;refine⟨A,c,rfl,λhl=>?_⟩;obtain⟨g,cs,rfl,B,hc⟩:=h hl;exact⟨g,cs,rfl,B.only ho (hd g cs B),hc⟩
theorem sV.below(h:sV w v l)(hb:Below w.heap.size w w'):sV w' v l:=h.only (S:=[]) (.ai hb) (by simp)
theorem QL(B:mS w v F):∀g cs,aF w g 271 cs->g∉ah v:=by
 intro g cs hg hm;obtain⟨_,B'⟩:=vW B g hm;exact hg.kl B' (by decide) rfl
theorem sV.cells{A:Option Addr}{c:Nat}(h:sV w (.slice A n c) l)(k:Nat)(hk:k<l.length):∃g,A=some ⟨g,0,none⟩/\w.cell? ⟨g,k*2,none⟩=some (.int .i64 l[k].1)/\w.cell? ⟨g,k*2+1,none⟩=some (.int .i64 l[k].2):=by
 obtain⟨A',c',hv,h⟩:=h;simp only[Value.slice.injEq]at hv;obtain⟨rfl,rfl,rfl⟩:=hv;obtain⟨g,cs,rfl,B,hc⟩:=h (by omega);obtain⟨h0,h1⟩:=Vd l k hk;exact⟨g,rfl,B.ab (hc _ _ h0),B.ab (hc _ _ h1)⟩
theorem Ao{vb vl:Value}(B:mS w vb F)(S:sV w vl l)(heap:Int)(hF:F.length=232)(hl:4+4*l.length<=232)(hh0:0<=heap)(hh:heap<65536)(hx:∀x∈l,x.1<65536/\x.2<65536):
  Calls prog 212 #[vb,vl,.int .i64 heap] w λe w'=>e=.returned (.string ⟨(ko F l heap.toNat).toArray⟩)/\ag (ah vb) w w':=by
 obtain⟨h,rfl⟩:=eT hh0;rw[gI];obtain⟨A,c,rfl,-⟩:=id S;have SS:=xh S;have PM:=xh (k8 F l h);have HX:=xh (show ∀k (hk:k<l.length),l[k].1<65536/\l[k].2<65536 from λk hk=>hx _ (kt hk));have HST:=xh (show ∀k (hk:k<l.length),gR F l h (k+1)=mC (mC (gR F l h k) (4+4*k) l[k].1) (6+4*k) l[k].2 from λk hk=>by
  rw[gR];simp[List.getD,aG hk])
 have H0:=xh (show gR F l h 0=mC (mC F 0 l.length) 2 h from rfl);have HW:=xh (show ko F l h=gR F l h l.length from rfl);have K0:=xh (iO B 0 l.length (by omega) (by omega) (by omega) (by omega) (by omega));have AP:=xh (λ(w':World) (F':List UInt8) (B':mS w' vb F')=>QL B');have BB:=xh B;have HFF:=xh hF;clear S B hx hF;go_enter func212,ntmps212;go_wp2_with fail;refine K0.o.mono ?_;rintro e w1 ⟨rfl,B1,o1⟩
 have S1:=xh (SS.o.only o1 (AP.o _ _ BB.o));have O1:=xh o1;have K2:=xh (iO B1 2 h (by omega) (by rw[eK,HFF.o];omega) (by rw[eK,HFF.o];omega) (by omega) (by omega));have BB1:=xh B1;clear B1 o1 K0 SS;go_wp2_with fail;refine K2.o.mono ?_;rintro e w2 ⟨rfl,B2,o2⟩;have S2:=xh (S1.o.only o2 (AP.o _ _ BB1.o));have O2:=xh (O1.o.trans o2)
 rw[show(2:Int).toNat=2 from rfl,show(0:Int).toNat=0 from rfl,gI,gI,<-H0.o]at B2;have BB2:=xh B2;clear B2 o2 K2 O1 S1 BB1;go_wp2_with fail
 go_loopw [18] (λiv wr=> ∃k:Nat,k<=l.length/\iv=.int .i64 k/\mS wr vb (gR F l h k)/\sV wr (.slice A l.length c) l/\ag (ah vb) w wr) (λiv _=>l.length-(intOf iv).toNat)
 case atStart=>exact⟨0,bf _,rfl,BB2.o,S2.o,O2.o⟩
 case round=>
  obtain⟨k,hk,rfl,B,S,O⟩:=hrel
  by_cases kE:k<l.length
  .obtain⟨g,rfl,c0,c1⟩:=S.cells k kE;have hx:=HX.o k kE;have HSTk:=xh (HST.o k kE);have hkl2:(k:Int)<(l.length:Int):=by omega
   generalize l[k]=x at *;obtain⟨x0,x1⟩:=x;simp only at hx c0 c1 HSTk;have b8:=(Below.refl wr.heap.size wr).alloc (Nat.le_refl _) (.cells #[.int .i64 x0,.int .i64 x1] 271);have B8:=xh (B.below b8);have S8:=xh (S.below b8);have O8:=xh (O.trans (.ai b8));have Z8:=xh (aF.new wr 271 #[.int .i64 x0,.int .i64 x1]);have K3:=xh (iO B8.o (4+4*k) x0 (by omega) (by rw[PM.o,HFF.o];omega) (by rw[PM.o,HFF.o];omega) (by omega) (by omega));clear b8 B S O
   go_wp2_with fail;generalize wr.alloc (.cells #[.int .i64 x0,.int .i64 x1] 271)=W at *;generalize wr.heap.size=z at *;refine K3.o.mono ?_;rintro e w3 ⟨rfl,B3,o3⟩;have S3:=xh (S8.o.only o3 (AP.o _ _ B8.o));have O3:=xh (O8.o.trans o3);have Z3:=xh (Z8.o.only o3 (AP.o _ _ B8.o _ _ Z8.o));have z1:=Z3.o.ab (i:=1) rfl
   have K4:=xh (iO B3 (4+4*k+2) x1 (by omega) (by rw[eK,PM.o,HFF.o];omega) (by rw[eK,PM.o,HFF.o];omega) (by omega) (by omega));have B3:=xh B3;clear o3 K3 B8 S8 O8 Z8 c0 c1;go_wp2_with fail;refine K4.o.mono ?_;rintro e w4 ⟨rfl,B4,o4⟩;have S4:=xh (S3.o.only o4 (AP.o _ _ B3.o));have O4:=xh (O3.o.trans o4)
   rw[show(4+4*(k:Int)).toNat=4+4*k by omega,show(4+4*(k:Int)+2).toNat=6+4*k by omega,gI,gI,<-HSTk.o]at B4;have B4:=xh B4;clear o4 K4 S3 O3 Z3 z1;go_wp2_with fail;go_roundw
   case rel=>exact⟨k+1,by omega,by go_num,B4.o,S4.o,O4.o⟩
   case measure=>simp[intOf];omega
  .have Cd:=xh (show k=l.length by omega);have KS:=xh (B.string (by rw[PM.o,HFF.o];omega));have OO:=xh O;clear B S O;go_wp2_with fail;rw[KS.o];go_wp2_with fail;go_ret;refine⟨?_,OO.o⟩;rw[HW.o,<-Cd.o];rfl
attribute [local go_sem ↓] bw
variable{l:List Value}{w:World}{g n:Nat}{F b:List UInt8}{v:Value}
theorem ou:(prog.info? 5).map (·.size)=some 1:=by kernel_rfl
theorem Oe(F:List UInt8)(o:Nat):lay F o []=F:=by simp[lay]
theorem Mk{r c:List Value}{o:Nat}(h:o+c.length<=l.length):putAt (l++r) o c=putAt l o c++r:=by
 unfold putAt;rw[kX (by omega),sq h];simp
theorem qe{cap:Nat}(B:mS w (.slice (some ⟨g,0,none⟩) F.length cap) F)(o oa y5:Nat)(s:ByteArray)(ho:o+s.size<=F.length)(hoa:oa=o\/(s.size=0/\oa<=F.length))(tT:Nat)(hd:tT=F.length-o):
  ∃w',(Builtin.copy_ #[150,9] 3 #[.slice (some ⟨g,oa,none⟩) tT y5,.string s]).run prog w=.ok (goInt s.size) w'/\mS w' (.slice (some ⟨g,0,none⟩) F.length cap) (lay F o s.data.toList)/\ag [g] w w':=by
 obtain⟨rest,BB,hc,_,hm⟩:=aS.uP B;have hl:(dN F).length=F.length:=jy F;have BH:s.data.toList.length=s.size:=by simp
 obtain⟨w',e,B',o'⟩:=mR (P:=prog) BB 150 9 3 5 oa tT y5 s s.size underlying150 ou (by rw[hd];exact(qQ (by omega)).symm) (by simp;omega);refine⟨w',e,?_,o'⟩;rw[cr (by omega),Mk (by simp;omega),tX]at B';have el:lay F oa s.data.toList=lay F o s.data.toList:=by
  rcases hoa with rfl|⟨h0,_⟩
  .rfl
  .have:s.data.toList=[]:=nc (by omega);rw[this,Oe,Oe]
 rw[el]at B';have tC:(lay F o s.data.toList).length=F.length:=iA (by omega);unfold mS;rw[tC];exact⟨by simp[tC],.inr ⟨g,cap,rest,rfl,B',by simp[tC];simpa using hc,hm⟩⟩
theorem Io{l:List Slot}(S:aS w 271 2 v n (sc l))(a b:Nat)(hn:n<=1000000):
  ∃v' w',dZ prog 266 266 (w.alloc (.cells #[.int .i64 a,.int .i64 b] 271)) v (.slice (some ⟨w.heap.size,0,none⟩) 1 1)= .ok v' w'/\aS w' 271 2 v' (n+1) (sc (l++[(a,b)]))/\ag (ah v) w w'/\(∀g∈ah v',g∈ah v\/w.heap.size<=g):=by
 obtain⟨i0,hi,ku,js,ki⟩:=info_parts vU;obtain⟨v',w',ea,S',O',F'⟩:=dC (P:=prog) (S.alloc (.cells #[.int .i64 a,.int .i64 b] 271)) 266 266 i0 (.agg #[.int .i64 0,.int .i64 0]) 16 underlying266 hi ku js ki rfl (by omega)
  ⟨w.heap.size,0,none⟩ 1 1 [.int .i64 a,.int .i64 b] rfl (bq (l:=[_,_]) (aF.new _ _ _) 0 _ (by simp)) (by intro u hu;simp at hu;rcases hu with rfl|rfl<;>rfl) (by unfold maxLen;omega) (by omega)
 rw[show sc l++[.int .i64 (a:Int),.int .i64 (b:Int)]=sc (l++[(a,b)])from by rw[nJ];rfl]at S';exact⟨v',w',ea,S',((ag.refl _ _).alloc _).aL O' (λx hx _=>hx),λg hg=>(F' g hg).imp id (λh=>by simp at h;omega)⟩
theorem uu{c:Nat}{e:TypeId}{size m:Nat}(h:aS w e size v m l)(B:mS w (.slice (some ⟨g,0,none⟩) n c) F)(fc:e≠5):∀x∈ah v,x∉[g]:=by
 have:=dk h B fc;simpa [ah]using this
def fy(b:List UInt8)(k:Nat):rO:=((cV b).take k).foldl rO.add Di
theorem Ip(b:List UInt8)(k:Nat)(h:k<bS b 0):fy b (k+1)=(fy b k).add (lN b (slot b k)):=by
 unfold fy;rw[vX b k h,List.foldl_append];rfl
theorem Ap(b:List UInt8):fy b (bS b 0)=rZ (cV b):=by
 unfold fy rZ;rw[cr (by rw[dF];exact Nat.le_refl _)]
theorem xE(l:List Nat):∀k,(l.take k).sum<=l.sum:=by
 induction l with
 |nil=>intro k;simp
 |cons x l ih=>
  intro k
  cases k with
  |zero=>simp
  |succ k=>simp only[n9,kU];have:=ih k;omega
theorem vY(h:Sound b)(k:Nat):(fy b k).Ok ((cV b).take k):=by
 refine Ak _ ?_;rw[lU];have:=xE ((cV b).map List.length) k;have:=h.sum;omega
theorem Iq(h:Sound b)(k:Nat)(hk:k<bS b 0):(lN b (slot b k)).length<=(fy b k).heap:=by
 have h1:=(vY h k).heap;have h2:=(vY h (k+1)).heap;rw[vX b k hk,ez,tM]at h2;simp only[fJ,qK,kU,List.sum_nil]at h2;omega
def lC(b:List UInt8):List UInt8×Int:=if cg b=0 then(gF b,0)else([],cg b)
theorem Ir(s:ByteArray)(w:World)(hs:s.size<=1000000):
  Calls prog 211 #[.string s] w λe w'=>e=.returned (.tuple #[.string ⟨(lC s.data.toList).1.toArray⟩,.int .i64 (lC s.data.toList).2])/\Below w.heap.size w w':=by
 have KA:=xh (ri s w hs)
 by_cases h:cg s.data.toList=0
 .have hS:=(ff _).1 h;have e1:lC s.data.toList=(gF s.data.toList,0):=by unfold lC;rw[if_pos h]
  rw[e1];clear e1;have Gr:s.size=232:=by have:=hS.len;simpa using this
  have h4:=hS.head;have h5:=hS.heap;have HC:=xh h;have hlist:(cV s.data.toList).length=bS s.data.toList 0:=dF _;have HGET:=xh (show ∀k,k<bS s.data.toList 0->(strs (cV s.data.toList))[k]?=some (.string ⟨(lN s.data.toList (slot s.data.toList k)).toArray⟩)from λk hk=>by
   simp[strs,cV,bM,hk])
  have HSU:=xh (Ip s.data.toList);have PF:=xh (λk=>vY hS k);have HRM:=xh (λk hk=>Iq hS k hk);have HCF:=xh (show gF s.data.toList=ko (fy s.data.toList (bS s.data.toList 0)).o (fy s.data.toList (bS s.data.toList 0)).ts (fy s.data.toList (bS s.data.toList 0)).heap from by rw[Ap];rfl);have HLA:=xh hS.comp;have HAL:=xh (Ap s.data.toList)
  have H0:=xh (show fy s.data.toList 0=Di from rfl);clear h hS hlist Gr;generalize hn:bS s.data.toList 0=n at *;have HN0:=xh hn;clear hn;have hmk:Hid (∀w':World,(Instr.makeSlice 150 (.int .i64 232) (.int .i64 232)).run prog w'= .ok (.slice (some ⟨w'.heap.size,0,none⟩) 232 232) (w'.alloc (.cells (dN (List.replicate 232 0)).toArray 5))):=xh (λw':World=>ox 232 (by omega) w');have HZ:=xh (show Di=⟨List.replicate 232 0,[],232⟩from rfl)
  have HZL:=xh (show(List.replicate 232 (0:UInt8)).length=232 from ev);generalize List.replicate 232 (0:UInt8)=Z at *;go_enter func211,ntmps211;go_wp2_with fail;refine KA.o.mono ?_;rintro e w1 ⟨v,rfl,bg,fr,hv⟩
  rcases hv with⟨-,T⟩|⟨fc,-⟩
  .rw[HC.o];rw[HN0.o]at T;obtain⟨A,c,rfl⟩:=ax T;have hm:=hmk.o;have B0:=xh (mS.new w1 Z (by rw[HZL.o];unfold maxLen;omega));rw[HZL.o]at B0;have b0:=(Below.refl w1.heap.size w1).alloc (Nat.le_refl _) (.cells (dN Z).toArray 5);have T0:=xh (T.below b0);have O0:=xh (aC bg b0);have hg:=bg.size;clear b0 T bg fr hmk KA;go_wp2_with fail;generalize w1.alloc (.cells (dN Z).toArray 5)=W at *;generalize w1.heap.size=g at *;clear hm
   go_loopw [7,8,22] (λv hv iv wr=> ∃k:Nat,k<=n/\iv=.int .i64 k/\hv=.int .i64 (fy s.data.toList k).heap/\mS wr (.slice (some ⟨g,0,none⟩) 232 232) (fy s.data.toList k).o/\aS wr 271 2 v k (sc (fy s.data.toList k).ts)/\aS wr 9 1 (.slice A n c) n (strs (cV s.data.toList))/\Below w.heap.size w wr/\Hid (∀g∈ah v,w.heap.size<=g)) (λ_ _ iv _=>n-(intOf iv).toNat)
   case atStart=>exact⟨0,bf _,rfl,by rw[H0.o];rfl,by rw[H0.o,HZ.o];exact B0.o,by rw[H0.o];exact aS.nil _ _ _,T0.o,O0.o,xh (by simp[ah])⟩
   case round=>
    obtain⟨k,hk,rfl,rfl,B,S,T,O,F⟩:=hrel;obtain⟨SA,cS,rfl⟩:=ax S;have Cj:=(PF.o k).len;have hsum:=(PF.o k).heap
    by_cases h:k<n
    .obtain⟨gT,cT,restT,hv,BT,Am,-⟩:=T.form (by omega) (by omega);simp only[Value.slice.injEq,true_and]at hv;obtain⟨rfl,rfl⟩:=hv;have ck:wr.cell? ⟨gT,k,none⟩=some (.string ⟨(lN s.data.toList (slot s.data.toList k)).toArray⟩):=BT.ab (by
      have h1:=HGET.o k h;rw[dh,bE (aM.1 h1).1];exact h1)
     have hrm:=HRM.o k h;have HS:=xh (HSU.o k h);have TT:=xh T;have OO:=xh O;have SS:=xh S;clear T O S BT;generalize lN s.data.toList (slot s.data.toList k)=r at *;have HCk:=xh (show fy s.data.toList (k+1)=⟨lay (fy s.data.toList k).o ((fy s.data.toList k).heap-r.length) r,(fy s.data.toList k).ts++[((fy s.data.toList k).heap-r.length,r.length)],(fy s.data.toList k).heap-r.length⟩from HS.o);generalize fy s.data.toList k=C at *
     obtain⟨out,ts,heap⟩:=C;simp only at hrm B HCk SS Cj hsum;have hhp:heap<=232:=by omega
     clear hsum;obtain⟨R,rfl⟩:∃R:ByteArray,R.data.toList=r:=⟨⟨r.toArray⟩,by simp⟩;have bG:(⟨R.data.toList.toArray⟩:ByteArray)=R:=by simp
     have hRl:R.data.toList.length=R.size:=by simp
     rw[bG]at ck;rw[hRl]at hrm HCk;obtain⟨h',rfl⟩:∃h',heap=h'+R.size:=⟨heap-R.size,by omega⟩;rw[oe]at HCk;have HB:=xh B;rw[<-Cj]at B;have KCP:=xh (λ(oa:Nat) (hoa:oa=h'\/(R.size=0/\oa<=232)) (y5:Nat)=>qe B h' oa y5 R (by omega) (by rw[Cj];exact hoa) (232-h') (by omega));rw[Cj]at KCP;clear B Cj bG hRl HS;have NS:=xh (uu SS.o HB.o (by decide));have NT:=xh (uu TT.o HB.o (by decide))
     have KX:=xh (show ∃(oa dc:Nat) (w5:World),((h'=232/\oa=0/\dc=0)\/(h'≠232/\oa=h'/\dc=232-h'))/\(Builtin.copy_ #[150,9] 3 #[.slice (some ⟨g,oa,none⟩) (232-h') dc,.string R]).run prog wr=.ok (goInt R.size) w5/\mS w5 (.slice (some ⟨g,0,none⟩) 232 232) (lay out h' R.data.toList)/\ag [g] wr w5 from by
      by_cases hz:h'=232
      .obtain⟨w5,h1,h2,h3⟩:=KCP.o 0 (.inr ⟨by omega,by omega⟩) 0;exact⟨0,0,w5,.inl ⟨hz,rfl,rfl⟩,h1,h2,h3⟩
      .obtain⟨w5,h1,h2,h3⟩:=KCP.o h' (.inl rfl) (232-h');exact⟨h',232-h',w5,.inr ⟨hz,rfl,rfl⟩,h1,h2,h3⟩)
     obtain⟨oa,dc,w5,hoa,cp,B5,o5⟩:=KX.o;have S5:=SS.o.only o5 NS.o;have T5:=TT.o.only o5 NT.o;have O5:=xh (OO.o.trans (o5.aJ OO.o.size (by simp;exact hg)));obtain⟨v6,w6,ea,S6,o6,F6⟩:=Io S5 h' R.size (by omega);obtain⟨VA,vc,rfl⟩:=ax S6;have B6:=xh (B5.only o6 (λx hx hx'=>dk S5 B5 (by decide) x hx' hx));have T6:=xh (T5.only o6 (dk T5 S5 (by decide)));have O6:=xh (O5.o.trans (o6.aJ O5.o.size F.o))
     have F7:=xh (show ∀g∈ah (.slice VA (k+1) vc),w.heap.size<=g from λg hg=>(F6 g hg).elim (F.o g) (λh=>aq O5.o.size h));have S6:=xh S6;clear KX B5 o5 S5 T5 o6 F6 KCP NS NT HB
     rcases hoa with⟨rfl,rfl,rfl⟩|⟨hz,rfl,rfl⟩
     all_goals
      try simp only[show((232:Nat):Int)=232 from rfl]at ea
      go_wp2_with fail;go_roundw
      case rel=>exact⟨k+1,by omega,by go_num,by rw[HCk.o]<;>rfl,by rw[HCk.o];exact B6.o,by rw[HCk.o];exact S6.o,T6.o,O6.o,F7⟩
      case measure=>simp[intOf];omega
    .have Cd:=xh (show k=n by omega);obtain rfl:k=n:=Cd.o;have HL:=xh HLA.o;have HTL:=xh (PF.o k).Vc;rw[<-HAL.o]at HL;have KW:=xh (Ao B (sV.of S) (fy s.data.toList k).heap Cj (by have h1:=HL.o.head;have h2:=HL.o.hh;omega) (by omega) (by have:=HL.o.hh;omega) HL.o.small);rw[gI,<-HCF.o]at KW;have Vj:=hg;have OO:=xh O;have hlt2:(fy s.data.toList k).heap<=232:=HL.o.hh;clear B S T O HL
     generalize fy s.data.toList k=C at *;go_wp2_with fail;refine KW.o.mono ?_;rintro e w5 ⟨rfl,o5⟩;have O6:=xh (OO.o.trans (o5.aJ OO.o.size (by simpa [ah]using Vj)));clear o5;go_wp2_with fail;go_ret2;exact⟨rfl,O6.o⟩
  .exact absurd HC.o fc
 .have HC:=xh h;have hb:(cg s.data.toList==0)=false:=by simpa using h
  have e1:lC s.data.toList=([],cg s.data.toList):=by unfold lC;rw[if_neg h]
  rw[e1];clear h e1;unfold oO at KA;generalize cg s.data.toList=q at *;go_enter func211,ntmps211;go_wp2_with fail;refine KA.o.mono ?_;rintro e w1 ⟨v,rfl,bg,fr,hv⟩
  rcases hv with⟨h0,-⟩|⟨-,rfl⟩
  .exact absurd h0 HC.o
  .have O:=xh bg;clear bg fr;go_wp2_with fail;go_ret2;exact⟨rfl,O.o⟩
variable{w:World}{A:Option Addr}{n c:Nat}{l:List Slot}
theorem lP:∃i:TypeInfo,prog.info? 271=some i/\i.zero=some (.agg #[.int .i64 0,.int .i64 0])/\i.size=2/\i.bytes=16:=info_parts vU
theorem Vk{cc:Nat}(h:n<=c):dZ prog 266 266 w (.slice A n c) (.slice none 0 cc)= .ok (.slice A n c) w:=by
 obtain⟨i0,Cw,ku,js,ki⟩:=lP;unfold dZ
 cases A with
 |none=>simp[Builtin.append_,run_underlying underlying266,sizeOf,typeInfo,Cw,Builtin.lenOf,Builtin.firstCells,yx.2 h,h]
 |some a=>simp[Builtin.append_,run_underlying underlying266,sizeOf,typeInfo,Cw,Builtin.lenOf,Builtin.firstCells,h,storeCells]
theorem Is(l:List Slot)(i:Nat):sc l=sc (l.take i)++sc (l.drop i):=by rw[<-nJ,kW]
theorem It(S:aS w 271 2 (.slice A n c) n (sc l))(i:Nat)(hi:i<=n)(hn:n<=1000000)(a:Addr)(cc:Nat)(lx:List Slot)(hm0:0<lx.length)(hm1:lx.length<=1000000)(hx:∀j u,(sc lx)[j]?=some u->w.cell? (a.add j)=some u):
  ∃v' w',dZ prog 266 266 w (.slice A i i) (.slice (some a) lx.length cc)= .ok v' w'/\aS w' 271 2 v' (i+lx.length) (sc (l.take i++lx))/\Below w.heap.size w w'/\(∀g∈ah v',w.heap.size<=g):=by
 obtain⟨i0,Cw,ku,js,ki⟩:=lP;have hl:=S.1;rw[jN]at hl;have hnl:(sc lx).length=lx.length*2:=by rw[jN];omega
 rcases S.2 with⟨hv,h0⟩|⟨g,cap,rest,hv,B,hc,_⟩
 .simp only[Value.slice.injEq]at hv;obtain⟨rfl,-,rfl⟩:=hv;subst h0;obtain rfl:i=0:=by omega
  obtain⟨v',w',e,S',o,F⟩:=dC (P:=prog) (aS.nil w 271 2) 266 266 i0 (.agg #[.int .i64 0,.int .i64 0]) 16 underlying266 Cw ku js ki rfl (by omega) a lx.length cc (sc lx) hnl hx (Ve lx) (by unfold maxLen;omega) (by omega);exact⟨v',w',e,by rw[iL,cI];simpa using S',o.below (by simp[ah]),λx hx=>(F x hx).elim (by simp[ah]) id⟩
 .simp only[Value.slice.injEq]at hv;obtain⟨rfl,-,rfl⟩:=hv;have hli:(sc (l.take i)).length=i*2:=by rw[jN,bK];omega
  obtain⟨v',w',y8,h2,h3⟩:=run_append_arg_grows (P:=prog) w 266 266 271 i0 (.agg #[.int .i64 0,.int .i64 0]) 2 16 underlying266 Cw ku js ki rfl (by omega) ⟨g,0,none⟩ i i (sc (l.take i)) hli
   (bq B 0 _ (by
    intro j u hu;rw[bl];have hj:j<(sc (l.take i)).length:=(aM.1 hu).1;rw[Is l i,cy,bE hj];exact hu)) a lx.length cc (sc lx) hnl hx (by omega) (by unfold maxLen;omega) (by omega)
  rw[<-nJ]at h2;refine⟨v',w',y8,.y6 h2,((ag.refl [] w).grown h3 (by simp)).gD,?_⟩;intro g' hg
  rcases h2.2 with⟨rfl,_⟩|⟨g'',Gw,cur,rfl,hb,_⟩
  .simp[ah]at hg
  .simp[ah]at hg;subst hg;exact hb
theorem Aq(S:aS w 271 2 (.slice A n c) n (sc l))(i:Nat)(hi:i<=n)(hn:n<=1000000)(a b:Nat):
  ∃v' w',dZ prog 266 266 (w.alloc (.cells #[.int .i64 a,.int .i64 b] 271)) (.slice A i i) (.slice (some ⟨w.heap.size,0,none⟩) 1 1)= .ok v' w'/\aS w' 271 2 v' (i+1) (sc (l.take i++[(a,b)]))/\Below w.heap.size w w'/\(∀g∈ah v',w.heap.size<=g):=by
 have b0:=(Below.refl w.heap.size w).alloc (Nat.le_refl _) (.cells #[.int .i64 (a:Int),.int .i64 (b:Int)] 271);obtain⟨v',w',e,S',o,F⟩:=It (S.below b0) i hi hn ⟨w.heap.size,0,none⟩ 1 [(a,b)] (by simp) (by simp) (bq (l:=[.int .i64 (a:Int),.int .i64 (b:Int)]) (aF.new _ _ _) 0 _ (by intro j u hu;rw[bl];exact hu));exact⟨v',w',e,S',aC b0 o,λg hg=>aq (by simp) (F g hg)⟩
theorem xF{vt:Value}{m:Nat}{lt:List Slot}(T:aS w 271 2 vt m (sc lt))(S:aS w 271 2 (.slice A n c) n (sc l))(i:Nat)(hi:i<=n)(hn:n<=1000000)(hm:m<=1000000)(hmp:0<m):
  ∃A' cc v' w',((A=none/\n=0/\i=0/\c=0/\A'=none/\cc=0)\/(∃g,A=some ⟨g,0,none⟩/\c=i/\n=i/\A'=some ⟨g,0,none⟩/\cc=0)\/(∃g,A=some ⟨g,0,none⟩/\c≠i/\i<c/\n<=c/\A'=some ⟨g,i*2,none⟩/\cc=c-i))/\
   dZ prog 266 266 w vt (.slice A' (n-i) cc)= .ok v' w'/\aS w' 271 2 v' (m+(n-i)) (sc (lt++l.drop i))/\ag (ah vt) w w'/\(∀g∈ah v',g∈ah vt\/w.heap.size<=g):=by
 obtain⟨i0,Cw,ku,js,ki⟩:=lP;have hl:=S.1;rw[jN]at hl
 rcases S.2 with⟨hv,h0⟩|⟨g,cap,rest,hv,B,hc,_⟩
 .simp only[Value.slice.injEq]at hv;obtain⟨rfl,-,rfl⟩:=hv;subst h0;obtain rfl:i=0:=by omega
  have GQ:l=[]:=nc (by omega);subst GQ;obtain⟨g,cap,rest,rfl,_,Am,_⟩:=T.form hmp (by omega);exact⟨none,0,_,w,.inl ⟨rfl,rfl,rfl,rfl,rfl,rfl⟩,Vk Am,by simpa using T,ag.refl _ _,λx hx=> .inl hx⟩
 .simp only[Value.slice.injEq]at hv;obtain⟨rfl,-,rfl⟩:=hv;have J1:n<=c:=by
   have:=S.1;omega
  have hdl:(sc (l.drop i)).length=(n-i)*2:=by rw[jN,dY];omega
  have hcells:∀(o:Nat),o=i*2\/n-i=0->∀j u,(sc (l.drop i))[j]?=some u->w.cell? ((⟨g,o,none⟩:Addr).add j)=some u:=λo ho=>bq B o _ (by
   intro j u hu;have hj:j<(sc (l.drop i)).length:=(aM.1 hu).1
   rcases ho with rfl|h0
   .have hti:(sc (l.take i)).length=i*2:=by rw[jN,bK];omega
    rw[Is l i,cy,dR (by omega),hti,Nat.add_sub_cancel_left,bE hj];exact hu
   .omega)
  have key:∀(o cc:Nat),o=i*2\/n-i=0->∃v' w',dZ prog 266 266 w vt (.slice (some ⟨g,o,none⟩) (n-i) cc)= .ok v' w'/\aS w' 271 2 v' (m+(n-i)) (sc (lt++l.drop i))/\ag (ah vt) w w'/\(∀g∈ah v',g∈ah vt\/w.heap.size<=g):=by
   intro o cc ho;obtain⟨v',w',e,S',o',F⟩:=dC (P:=prog) T 266 266 i0 (.agg #[.int .i64 0,.int .i64 0]) 16 underlying266 Cw ku js ki rfl (by omega) ⟨g,o,none⟩ (n-i) cc (sc (l.drop i)) hdl (hcells o ho) (Ve _) (by unfold maxLen;omega) (by omega);rw[<-nJ]at S';exact⟨v',w',e,S',o',F⟩
  by_cases hci:c=i
  .have hni:n=i:=by omega
   obtain⟨v',w',h1,h2,h3,h4⟩:=key 0 0 (.inr (by omega));exact⟨_,0,v',w',.inr (.inl ⟨g,rfl,hci,hni,rfl,rfl⟩),h1,h2,h3,h4⟩
  .obtain⟨v',w',h1,h2,h3,h4⟩:=key (i*2) (c-i) (.inl rfl);exact⟨_,c-i,v',w',.inr (.inr ⟨g,rfl,hci,by omega,J1,rfl,rfl⟩),h1,h2,h3,h4⟩
variable{b r:List UInt8}
def uv(b:List UInt8)(i:Int)(r:List UInt8):List UInt8×Int:=
 if cg b=0 then(if 0<=i/\i<=(bS b 0:Int)then(if(r.length:Int)<=iq b-4 then(sS b i.toNat r,0)else([],11))else([],3))else([],cg b)
theorem Vl(h:¬4+4*(bS b 0+1)+r.length>bS b 2):jM b r=b:=by unfold jM;rw[if_neg h]
theorem QM(h:4+4*(bS b 0+1)+r.length>bS b 2):jM b r=gF b:=by unfold jM;rw[if_pos h]
theorem r5(s:ByteArray)(w:World)(hs:s.size<=1000000):
  ∃cap w',(convert 9 150 (.string s)).run prog w=.ok (.slice (some ⟨w.heap.size,0,none⟩) s.size cap) w'/\mS w' (.slice (some ⟨w.heap.size,0,none⟩) s.size cap) s.data.toList/\Below w.heap.size w w':=by
 obtain⟨cap,w1,e1,S1,bg⟩:=yc (P:=prog) w 9 150 5 s underlying9 underlying150 underlying5 (by unfold maxLen;omega);refine⟨cap,w1,e1,?_,bg⟩;unfold mS;rw[show s.data.toList.length=s.size from by simp];exact S1
theorem Iu(h:Sound b)(i:Nat)(hr:(r.length:Int)<=iq b-4)(hi:i<=bS b 0):
  ∃t:List UInt8,t=jM b r/\Sound t/\bS t 0=bS b 0/\4+4*(bS b 0+1)+r.length<=bS t 2/\
   sS b i r=ko (lay t (bS t 2-r.length) r) (((bM t).take i++[(bS t 2-r.length,r.length)])++(bM t).drop i) (bS t 2-r.length)/\
   Laid (lay t (bS t 2-r.length) r) (((bM t).take i++[(bS t 2-r.length,r.length)])++(bM t).drop i) (bS t 2-r.length):=by
 obtain⟨hs,he,h0,hh⟩:=h.base r hr;refine⟨_,rfl,hs,h0,hh,?_,?_⟩
 .unfold sS;simp
 .rw[cy];exact Laid.insert hs i r (by rw[h0];exact hh) (by rw[h0];exact hi)
theorem QN(s r:ByteArray)(i:Nat)(w:World)(hs:Sound s.data.toList)(hr:(r.size:Int)<=iq s.data.toList-4)(hi:i<=bS s.data.toList 0):
  Calls prog 164 #[.string s,.int .i64 i,.string r] w λe w'=>e=.returned (.tuple #[.string ⟨(sS s.data.toList i r.data.toList).toArray⟩,.int .i64 0])/\Below w.heap.size w w':=by
 have Gr:s.size=232:=by have:=hs.len;simpa using this
 have h4:=hs.head;have h5:=hs.heap;have Qn:r.data.toList.length=r.size:=by simp
 obtain⟨t,ht,tS,t0,t2,hF,Of⟩:=Iu hs i (r:=r.data.toList) (by rw[Qn];exact hr) hi;rw[Qn]at t2 hF Of;rw[hF];have NN:=(ff _).2 hs;have Ul:ur s.data.toList=iq s.data.toList:=by unfold ur;rw[if_pos NN]
 have hrle:iq s.data.toList<=228:=by unfold iq;omega
 have KC:=xh (λw'=>rh s w' (by omega));have KL:=xh (λw'=>jX s w' (by omega) (by omega));have KR:=xh (λw'=>Im s w' (by omega));have K2:=xh (λw'=>fe s 2 w' (by omega) (by omega) (by omega));have KM:=xh (λw'=>Ir s w' (by omega));have hcg:lC s.data.toList=(gF s.data.toList,0):=by unfold lC;rw[if_pos NN]
 rw[hcg]at KM;rw[NN]at KC;rw[Ul]at KR;simp only[show(2:Int).toNat=2 from rfl]at K2;obtain⟨T,rfl⟩:∃T:ByteArray,T.data.toList=t:=⟨⟨t.toArray⟩,by simp⟩;have JD:T.size=232:=by have:=tS.len;simpa using this
 have tH:=tS.heap;have KLT:=xh (λw'=>jX T w' (by rw[t0];omega) (by omega));have K2T:=xh (λw'=>fe T 2 w' (by omega) (by omega) (by omega));simp only[show(2:Int).toNat=2 from rfl]at K2T;rw[t0]at KLT;have Sd:=xh (cM T.data.toList);rw[t0]at Sd;obtain⟨h',hh'⟩:∃h',bS T.data.toList 2=h'+r.size:=⟨bS T.data.toList 2-r.size,by omega⟩;rw[hh',oe]at Of;rw[hh',oe];rw[hh']at tH t2 K2T
 have Od:bS s.data.toList 0<65536:=Ah _ _;have xG:=xh Of;have HT:=xh ht;have HCB:=xh (show 4+4*(bS s.data.toList 0+1)+r.size>bS s.data.toList 2->(⟨(gF s.data.toList).toArray⟩:ByteArray)=T from λhg=>by
  rw[QM (by rw[Qn];exact hg)]at ht;rw[<-ht])
 have UL:=xh (show ¬4+4*(bS s.data.toList 0+1)+r.size>bS s.data.toList 2->s=T from λhg=>by
  rw[Vl (by rw[Qn];exact hg)]at ht;apply mo;apply rS.1;exact ht.symm)
 have HTL:=xh JD;have hTl1:T.size<=1000000:=by omega
 clear ht tS hF Of NN Ul hcg Gr Qn hh' JD t0 hs;generalize bS s.data.toList 0=n at *;generalize bS s.data.toList 2=heap at *;generalize iq s.data.toList=room at *;go_enter func164,ntmps164;go_wp2_with fail;refine(KC.o _).mono ?_;rintro e w1 ⟨rfl,bg⟩;have O1:=xh bg;clear bg;go_wp2_with fail;refine(KL.o _).mono ?_;rintro e w2 ⟨v,rfl,S2,dn,CQ⟩;have O2:=xh (aC O1.o dn);have hS2:=xh S2;obtain⟨A2,c2,rfl⟩:=ax S2
 have FR2:=xh (show ∀g∈ah (.slice A2 n c2),w.heap.size<=g from λg hg=>aq O1.o.size (CQ g hg));clear S2 dn CQ;go_wp2_with fail;refine(KR.o _).mono ?_;rintro e w3 ⟨rfl,gr⟩;have O3:=xh (aC O2.o gr);have S3:=xh (hS2.o.below gr);clear gr hS2;go_wp2_with fail;refine(K2.o _).mono ?_;rintro e w4 ⟨rfl,jk⟩;have O4:=xh (aC O3.o jk);have S4:=xh (S3.o.below jk);clear jk S3 O3 O2 O1
 by_cases hg:4+4*(n+1)+r.size>heap
 .have e1:=HCB.o hg;rw[e1]at KM;clear e1;have Og:heap<4+4*(n+1)+r.size:=hg;clear hg HCB UL;go_wp2_with fail;refine(KM.o _).mono ?_;rintro e w5 ⟨rfl,oF⟩;have O5:=xh (aC O4.o oF);clear oF O4;go_wp2_with fail;refine(KLT.o _).mono ?_;rintro e w6 ⟨v,rfl,S6,sE,fr6⟩;have O6:=xh (aC O5.o sE);obtain⟨A,c,rfl⟩:=ax S6;have S:=xh S6;have FR:=xh (show ∀g∈ah (.slice A n c),w.heap.size<=g from λg hg=>aq O5.o.size (fr6 g hg))
  clear S6 sE fr6 O5 S4;go_wp2_with fail;refine(K2T.o _).mono ?_;rintro e w7 ⟨rfl,rU⟩;have O7:=xh (aC O6.o rU);have S7:=xh (S.o.below rU);clear rU S O6 Og KM K2 KC KL KR K2T KLT;obtain⟨cap,w8,e8,B8,yd⟩:=r5 T w7 (by omega);rw[HTL.o]at e8 B8;have E8:=xh e8;have O8:=xh (aC O7.o yd);have S8:=S7.o.below yd;have hgw:=aq O7.o.size (Nat.le_refl w7.heap.size);have qf:T.data.toList.length=232:=by have:=HTL.o;simpa using this
  have NS:=xh (uu S8 B8 (by decide));have Am:232<=cap:=by obtain⟨rest,_,h2,_⟩:=aS.uP B8;rw[jy,qf]at h2;omega
  obtain⟨oa,dc,w9,hoa,cp,B9,o9⟩:∃(oa dc:Nat) (w9:World),((h'=232/\cap=232/\oa=0/\dc=0)\/(h'≠cap/\h'<cap/\oa=h'/\dc=cap-h'))/\(Builtin.copy_ #[150,9] 3 #[.slice (some ⟨w7.heap.size,oa,none⟩) (232-h') dc,.string r]).run prog w8=.ok (goInt r.size) w9/\mS w9 (.slice (some ⟨w7.heap.size,0,none⟩) 232 cap) (lay T.data.toList h' r.data.toList)/\ag [w7.heap.size] w8 w9:=by
   rw[<-qf]at B8
   by_cases hz:h'=cap
   .obtain⟨w9,h1,h2,h3⟩:=qe B8 h' 0 0 r (by omega) (.inr ⟨by omega,by omega⟩) (232-h') (by omega);rw[qf]at h2;exact⟨0,0,w9,.inl ⟨by omega,by omega,rfl,rfl⟩,h1,h2,h3⟩
   .obtain⟨w9,h1,h2,h3⟩:=qe B8 h' h' (cap-h') r (by omega) (.inl rfl) (232-h') (by omega);rw[qf]at h2;exact⟨h',cap-h',w9,.inr ⟨hz,by omega,rfl,rfl⟩,h1,h2,h3⟩
  have S9:=S8.only o9 NS.o;have O9:=xh (O8.o.trans (o9.aJ O8.o.size (by simpa using hgw)));obtain⟨v10,yj,ea,T10,yk,Vm⟩:=Aq S9 i hi (by omega) h' r.size;obtain⟨V10,c10,rfl⟩:=ax T10;have O10:=xh (aC O9.o yk);have B10:=B9.below yk;have Ck:=S9.below yk;obtain⟨A',cc,v11,w11,hd,eb,T11,o11,-⟩:=xF T10 Ck i hi (by omega) (by omega) (by omega);obtain⟨V11,c11,rfl⟩:=ax T11
  have B11:=B10.only o11 (λx hx hx'=>dk T10 B10 (by decide) x hx' hx);have FI:=xh (O10.o.trans (o11.aJ O10.o.size (λx hx=>aq O9.o.size (Vm x hx))));have KW:=xh (Ao B11 (sV.of T11) h' xG.o.len (by have h1:=xG.o.head;have h2:=xG.o.hh;omega) (by omega) (by omega) xG.o.small);rw[gI]at KW;have Vj:=xh (show ∀x∈ah (.slice (some ⟨w7.heap.size,0,none⟩) 232 cap),w.heap.size<=x from by simpa [ah]using hgw)
  generalize Vn:ko (lay T.data.toList h' r.data.toList) (List.take i (bM T.data.toList)++[(h',r.size)]++List.drop i (bM T.data.toList)) h'=RES at *;have Tz:=xh Vn;clear Vn;clear e8 B8 yd S8 NS B9 o9 S9 T10 yk Vm B10 Ck T11 o11 B11 O7 S7 O8 O9 O10 qf;go_wp2_with fail;rw[E8.o]
  rcases hoa with⟨rfl,rfl,rfl,rfl⟩|⟨hz,ki,rfl,rfl⟩
  all_goals
   rcases hd with⟨rfl,rfl,rfl,rfl,rfl,rfl⟩|⟨gA,rfl,rfl,rfl,rfl,rfl⟩|⟨gA,rfl,hci,hci2,J1,rfl,rfl⟩
  all_goals
   try simp only[show((232:Nat):Int)=232 from rfl,show((0:Nat):Int)=0 from rfl]at ea
   try simp only[fM,kY]at eb KW
   go_wp2_with fail;refine KW.o.mono ?_;rintro e w12 ⟨rfl,o12⟩;have O12:=xh (FI.o.trans (o12.aJ FI.o.size Vj.o));clear o12;go_wp2_with fail;go_ret2;refine⟨?_,O12.o⟩
   first|rfl|(rw[Tz.o];rfl)
 .have e1:=UL.o hg;have Og:4+4*(n+1)+r.size<=heap:=by omega
  clear hg HCB UL;subst e1;have A2':=FR2;go_wp2_with fail;refine(K2T.o _).mono ?_;rintro e w7 ⟨rfl,rU⟩;have O7:=xh (aC O4.o rU);have S7:=xh (S4.o.below rU);clear rU S4 O4 Og KM K2 KC KL KR K2T KLT;obtain⟨cap,w8,e8,B8,yd⟩:=r5 s w7 (by omega);rw[HTL.o]at e8 B8;have E8:=xh e8;have O8:=xh (aC O7.o yd);have S8:=S7.o.below yd;have hgw:=aq O7.o.size (Nat.le_refl w7.heap.size)
  have qf:s.data.toList.length=232:=by have:=HTL.o;simpa using this
  have NS:=xh (uu S8 B8 (by decide));have Am:232<=cap:=by obtain⟨rest,_,h2,_⟩:=aS.uP B8;rw[jy,qf]at h2;omega
  obtain⟨oa,dc,w9,hoa,cp,B9,o9⟩:∃(oa dc:Nat) (w9:World),((h'=232/\cap=232/\oa=0/\dc=0)\/(h'≠cap/\h'<cap/\oa=h'/\dc=cap-h'))/\(Builtin.copy_ #[150,9] 3 #[.slice (some ⟨w7.heap.size,oa,none⟩) (232-h') dc,.string r]).run prog w8=.ok (goInt r.size) w9/\mS w9 (.slice (some ⟨w7.heap.size,0,none⟩) 232 cap) (lay s.data.toList h' r.data.toList)/\ag [w7.heap.size] w8 w9:=by
   rw[<-qf]at B8
   by_cases hz:h'=cap
   .obtain⟨w9,h1,h2,h3⟩:=qe B8 h' 0 0 r (by omega) (.inr ⟨by omega,by omega⟩) (232-h') (by omega);rw[qf]at h2;exact⟨0,0,w9,.inl ⟨by omega,by omega,rfl,rfl⟩,h1,h2,h3⟩
   .obtain⟨w9,h1,h2,h3⟩:=qe B8 h' h' (cap-h') r (by omega) (.inl rfl) (232-h') (by omega);rw[qf]at h2;exact⟨h',cap-h',w9,.inr ⟨hz,by omega,rfl,rfl⟩,h1,h2,h3⟩
  have S9:=S8.only o9 NS.o;have O9:=xh (O8.o.trans (o9.aJ O8.o.size (by simpa using hgw)));obtain⟨v10,yj,ea,T10,yk,Vm⟩:=Aq S9 i hi (by omega) h' r.size;obtain⟨V10,c10,rfl⟩:=ax T10;have O10:=xh (aC O9.o yk);have B10:=B9.below yk;have Ck:=S9.below yk;obtain⟨A',cc,v11,w11,hd,eb,T11,o11,-⟩:=xF T10 Ck i hi (by omega) (by omega) (by omega);obtain⟨V11,c11,rfl⟩:=ax T11
  have B11:=B10.only o11 (λx hx hx'=>dk T10 B10 (by decide) x hx' hx);have FI:=xh (O10.o.trans (o11.aJ O10.o.size (λx hx=>aq O9.o.size (Vm x hx))));have KW:=xh (Ao B11 (sV.of T11) h' xG.o.len (by have h1:=xG.o.head;have h2:=xG.o.hh;omega) (by omega) (by omega) xG.o.small);rw[gI]at KW;have Vj:=xh (show ∀x∈ah (.slice (some ⟨w7.heap.size,0,none⟩) 232 cap),w.heap.size<=x from by simpa [ah]using hgw)
  generalize Vn:ko (lay s.data.toList h' r.data.toList) (List.take i (bM s.data.toList)++[(h',r.size)]++List.drop i (bM s.data.toList)) h'=RES at *;have Tz:=xh Vn;clear Vn;clear e8 B8 yd S8 NS B9 o9 S9 T10 yk Vm B10 Ck T11 o11 B11 O7 S7 O8 O9 O10 qf;go_wp2_with fail;rw[E8.o]
  rcases hoa with⟨rfl,rfl,rfl,rfl⟩|⟨hz,ki,rfl,rfl⟩
  all_goals
   rcases hd with⟨rfl,rfl,rfl,rfl,rfl,rfl⟩|⟨gA,rfl,rfl,rfl,rfl,rfl⟩|⟨gA,rfl,hci,hci2,J1,rfl,rfl⟩
  all_goals
   try simp only[show((232:Nat):Int)=232 from rfl,show((0:Nat):Int)=0 from rfl]at ea
   try simp only[fM,kY]at eb KW
   go_wp2_with fail;refine KW.o.mono ?_;rintro e w12 ⟨rfl,o12⟩;have O12:=xh (FI.o.trans (o12.aJ FI.o.size Vj.o));clear o12;go_wp2_with fail;go_ret2;refine⟨?_,O12.o⟩
   first|rfl|(rw[Tz.o];rfl)
attribute [local go_sem ↓] Go.wp_at_zero Go.wp_at_succ
theorem Ml(s r:ByteArray)(i:Int)(w:World)(hs:s.size<=1000000)(hr:r.size<=9223372036854775807):
  Calls prog 164 #[.string s,.int .i64 i,.string r] w λe w'=>e=.returned (.tuple #[.string ⟨(uv s.data.toList i r.data.toList).1.toArray⟩,.int .i64 (uv s.data.toList i r.data.toList).2])/\Below w.heap.size w w':=by
 have Qn:r.data.toList.length=r.size:=by simp
 have KC:=xh (λw'=>rh s w' hs)
 by_cases h:cg s.data.toList=0
 .have hS:=(ff _).1 h;have Gr:s.size=232:=by have:=hS.len;simpa using this
  have h4:=hS.head;have h5:=hS.heap
  by_cases hi:0<=i/\i<=(bS s.data.toList 0:Int)
  .by_cases hg:(r.size:Int)<=iq s.data.toList-4
   .have e1:uv s.data.toList i r.data.toList=(sS s.data.toList i.toNat r.data.toList,0):=by unfold uv;rw[if_pos h,if_pos hi,Qn,if_pos hg]
    rw[e1];obtain⟨k,rfl⟩:=eT hi.1;rw[gI];exact QN s r k w hS hg (by omega)
   .have e1:uv s.data.toList i r.data.toList=([],11):=by unfold uv;rw[if_pos h,if_pos hi,Qn,if_neg hg]
    rw[e1];have Ul:ur s.data.toList=iq s.data.toList:=by unfold ur;rw[if_pos h]
    have JE: -1000000<=iq s.data.toList:=by
     rw[Al hS];have:=hS.sum;omega
    have QO:iq s.data.toList<=228:=by unfold iq;omega
    have KL:=xh (λw'=>jX s w' (by omega) hs);have KR:=xh (λw'=>Im s w' hs);rw[Ul]at KR;rw[h]at KC;have Og:iq s.data.toList-4<(r.size:Int):=by omega
    clear e1 h hS Ul hg;generalize iq s.data.toList=room at *;generalize bS s.data.toList 0=n at *;obtain⟨hi1,N4⟩:=hi;go_enter func164,ntmps164;go_wp2_with fail;refine(KC.o _).mono ?_;rintro e w1 ⟨rfl,bg⟩;have O1:=xh bg;clear bg;go_wp2_with fail;refine(KL.o _).mono ?_;rintro e w2 ⟨v,rfl,S2,dn,-⟩;have O2:=xh (aC O1.o dn);obtain⟨A2,c2,rfl⟩:=ax S2;clear S2 dn;go_wp2_with fail;refine(KR.o _).mono ?_;rintro e w3 ⟨rfl,gr⟩
    have O3:=xh (aC O2.o gr);clear gr;go_wp2_with fail;go_ret2;exact⟨rfl,O3.o⟩
  .have e1:uv s.data.toList i r.data.toList=([],3):=by unfold uv;rw[if_pos h,if_neg hi]
   rw[e1];have KL:=xh (λw'=>jX s w' (by omega) hs);rw[h]at KC;generalize bS s.data.toList 0=n at *;have hx:i<0\/(¬i<0/\(n:Int)<i):=by omega
   clear e1 h hi hS
   rcases hx with h1|⟨h1,h2⟩
   all_goals
    go_enter func164,ntmps164;go_wp2_with fail;refine(KC.o _).mono ?_;rintro e w1 ⟨rfl,bg⟩;have O1:=xh bg;clear bg;go_wp2_with fail;refine(KL.o _).mono ?_;rintro e w2 ⟨v,rfl,S2,dn,-⟩;have O2:=xh (aC O1.o dn);obtain⟨A2,c2,rfl⟩:=ax S2;clear S2 dn;go_wp2_with fail;go_ret2;exact⟨rfl,O2.o⟩
 .have e1:uv s.data.toList i r.data.toList=([],cg s.data.toList):=by unfold uv;rw[if_neg h]
  have hb:(cg s.data.toList==0)=false:=by simpa using h
  rw[e1];clear e1 h;generalize cg s.data.toList=q at *;go_enter func164,ntmps164;go_wp2_with fail;refine(KC.o _).mono ?_;rintro e w1 ⟨rfl,bg⟩;have O1:=xh bg;clear bg;go_wp2_with fail;go_ret2;exact⟨rfl,O1.o⟩
end Sl
namespace Sl
open Go.RowKit
attribute [local go_sem ↓] bw
theorem qg{w:World}{A:Option Addr}{n c:Nat}{l:List (List UInt8)}(S:aS w 9 1 (.slice A n c) n (strs l))(k:Nat)(hk:k<l.length):∃g,A=some ⟨g,0,none⟩/\w.cell? ⟨g,k,none⟩=some (.string ⟨l[k].toArray⟩):=by
 have hl:=S.1;rw[xC]at hl;obtain⟨g,cap,rest,hv,B,_,_⟩:=S.form (by omega) (by omega);simp only[Value.slice.injEq,true_and]at hv;obtain⟨rfl,rfl⟩:=hv;exact⟨g,rfl,B.ab (by rw[dh,bE (by rw[xC];exact hk)];simp[strs,aG hk])⟩
theorem size_of_list(l:List UInt8):(⟨l.toArray⟩:ByteArray).size=l.length:=by
 show l.toArray.size=l.length;simp
attribute [local go_sem ↓] Go.wp_at_zero Go.wp_at_succ
section
variable{w:World}{A:Option Addr}{n c i:Nat}{l:List (List UInt8)}{A3:Option Addr}{cc:Nat}
end
section
variable{W:World}{A:Option Addr}{n c i:Nat}{l:List (List UInt8)}{A3:Option Addr}{cc:Nat}{r:ByteArray}
end
end Sl
namespace Sl
open Go.RowKit
attribute [local go_sem ↓] bw
variable{b:List UInt8}
theorem Oh(T:ByteArray):(⟨T.data.toList.toArray⟩:ByteArray)=T:=by simp
theorem Vo(b:List UInt8):∃T:ByteArray,T.data.toList=b:=⟨⟨b.toArray⟩,by simp⟩
theorem oP(h:Sound b):∀r∈cV b,r.length<=232:=by
 intro r hr;simp only[cV,dm]at hr;obtain⟨x,hx,rfl⟩:=hr;have:=(h.fit.px x hx).2;rw[xB (by rw[h.len];omega)];omega
theorem rj(h:Sound b):(cV b).length<=57:=by
 rw[dF];have:=h.head;have:=h.heap;omega
theorem Oi(h:Sound b)(i:Nat)(r:List UInt8)(hr:(r.length:Int)<=jl (cV b)-4)(hi:i<=(cV b).length):
  uv b i r=(sS b i r,0)/\Sound (sS b i r)/\cV (sS b i r)=(cV b).take i++r::(cV b).drop i:=by
 rw[dF]at hi;rw[<-Oc h]at hr;refine⟨?_,h.insert i r hr hi⟩;unfold uv;rw[if_pos ((ff b).2 h),if_pos ⟨by omega,by omega⟩,if_pos hr,gI]
open Go.RowKit Go.Deep Go.ChangeShapes Go.WideShapes
theorem Mm{b:List UInt8}(h:Sound b)(i:Nat)(r:List UInt8)(hr:jl (cV b)-4<(r.length:Int))(hi:i<=(cV b).length):uv b i r=([],11):=by
 rw[dF]at hi;rw[<-Oc h]at hr;unfold uv;rw[if_pos ((ff b).2 h),if_pos ⟨by omega,by omega⟩,if_neg (by omega)]
end Sl
namespace Sl
open Go.RowKit Go.Deep Go.ChangeShapes Go.WideShapes
structure Ac where
 kind:Int
 i:Int
 r:ByteArray
instance:Inhabited Ac:=⟨⟨0,0,.empty⟩⟩
open Go.RowKit
attribute [local go_sem ↓] bw
theorem Ar(l:List (List UInt8))(k:Nat)(h:k<l.length):jl (l.take (k+1))=jl (l.take k)-4-(l[k].length:Int):=by
 unfold jl;rw[gy h,ez,tM];simp;omega
theorem Au(l:List (List UInt8))(k:Nat):jl l<=jl (l.take k):=by
 unfold jl;have:((l.take k).map λr=>4+r.length).sum<=(l.map λr=>4+r.length).sum:=by
  rw[lU];exact xE _ k
 omega
def Iv(l:List (List UInt8)):Nat->List UInt8
 |0=>lO
 |k+1=>sS (Iv l k) k (l.getD k [])
def ofL(l:List (List UInt8)):List UInt8:=Iv l l.length
def Vp(l:List (List UInt8))(w:World)(e:Ending)(w':World):Prop:=
 ((0<=jl l/\∃b:ByteArray,e=.returned (.tuple #[.string b,.int .i64 0])/\Sound b.data.toList/\cV b.data.toList=l/\b.data.toList=ofL l)\/(jl l<0/\e=.returned (.tuple #[.string ⟨#[]⟩,.int .i64 11])))/\Below w.heap.size w w'
theorem Vq{w:World}{v:Value}{l:List (List UInt8)}(S:aS w 9 1 v l.length (strs l))(hl:l.length<=1000000)(hm:∀r∈l,r.length<=1000000):
  Calls prog 119 #[v] w (Vp l w):=by
 obtain⟨A,c,rfl⟩:=ax S;have SS:=xh S;obtain⟨s0,r0,-,-⟩:=qb;obtain⟨T0,h0⟩:=Vo lO;have KE:=xh (l7 w);rw[<-h0,Oh]at KE;rw[<-h0]at s0 r0;have HS:=xh (show Sound T0.data.toList/\cV T0.data.toList=l.take 0/\T0.data.toList=Iv l 0 from⟨s0,r0,h0⟩);have HM:=xh (show ∀k (h:k<l.length),l[k].length<=1000000 from λk h=>hm _ (kt h));have HR:=xh (λk h=>Ar l k h);have HMO:=xh (λk=>Au l k)
 have HAL:=xh (show l.take l.length=l from fL);have HZ:=xh (show 0<=jl (l.take 0)from by rw[iL];decide);clear S s0 r0 h0 hm;go_enter func119,ntmps119;go_wp2_with fail;refine KE.o.mono ?_;rintro e w1 ⟨rfl,bg⟩;have S1:=xh (SS.o.below bg);have O1:=xh bg;clear bg SS;go_wp2_with fail
 go_loopw [4,12] (λbv iv wr=> ∃(k:Nat) (b:ByteArray),k<=l.length/\bv=.string b/\iv=.int .i64 k/\Hid (Sound b.data.toList/\cV b.data.toList=l.take k/\b.data.toList=Iv l k)/\Hid (0<=jl (l.take k))/\aS wr 9 1 (.slice A l.length c) l.length (strs l)/\Below w.heap.size w wr) (λ_ iv _=>l.length-(intOf iv).toNat)
 case atStart=>exact⟨0,T0,bf _,rfl,rfl,HS,HZ,S1.o,O1.o⟩
 case round=>
  obtain⟨k,b,hk,rfl,rfl,HB,HP,S,O⟩:=hrel;have OO:=xh O;have SS:=xh S;clear S O
  by_cases h:k<l.length
  .obtain⟨g,rfl,ck⟩:=qg SS.o k h;have hrk:=HM.o k h;have HRk:=xh (HR.o k h);have HMk:=xh (HMO.o (k+1));obtain⟨R,hR⟩:=Vo l[k];have HST:=xh (show l.take (k+1)=l.take k++[R.data.toList]from by rw[gy h,hR]);rw[<-hR]at ck hrk HRk;rw[Oh]at ck;have hRl:R.data.toList.length=R.size:=by simp
   rw[hRl]at hrk HRk;have hs:=HB.o.1;have oX:b.size=232:=by have:=hs.len;simpa using this
   have KI:=xh (λw'=>Ml b R k w' (by omega) (by omega));have hlen:(cV b.data.toList).length=k:=by rw[HB.o.2.1,bK];omega
   have hki:(k:Int)<(l.length:Int):=by omega
   by_cases hf:0<=jl (l.take (k+1))
   .obtain⟨i1,s1,r1⟩:=Oi hs k R.data.toList (by rw[HB.o.2.1,hRl];have:=HRk.o;omega) (by omega);obtain⟨T,hT⟩:=Vo (sS b.data.toList k R.data.toList);rw[<-hT]at i1 s1 r1;rw[i1,Oh]at KI;have FJ:=xh (show Sound T.data.toList/\cV T.data.toList=l.take (k+1)/\T.data.toList=Iv l (k+1)from⟨s1,by
     rw[r1,HST.o,HB.o.2.1];rw[cr (by rw[bK];omega),lK (by rw[bK];omega)],by
     rw[hT,hR,HB.o.2.2];show sS _ k l[k]=sS _ k (l.getD k []);rw[ib,aG h];rfl⟩)
    have HF:=xh hf;clear i1 s1 r1 hT hs oX hlen hf hR hRl;go_wp2_with fail;refine(KI.o _).mono ?_;rintro e w2 ⟨rfl,dn⟩;have S2:=xh (SS.o.below dn);have O2:=xh (aC OO.o dn);clear dn;go_wp2_with fail;go_roundw
    case rel=>exact⟨k+1,T,by omega,rfl,by go_num,FJ,HF,S2.o,O2.o⟩
    case measure=>simp[intOf];omega
   .have i1:=Mm hs k R.data.toList (by rw[HB.o.2.1,hRl];have:=HRk.o;omega) (by omega);rw[i1]at KI;have HF:=xh (show jl l<0 from by have:=HMk.o;omega);clear i1 hs oX hlen hf hR hRl;go_wp2_with fail;refine(KI.o _).mono ?_;rintro e w2 ⟨rfl,dn⟩;have O2:=xh (aC OO.o dn);clear dn;go_wp2_with fail;go_ret2;exact⟨.inr ⟨HF.o,rfl⟩,O2.o⟩
  .have Cd:=xh (show k=l.length by omega);go_wp2_with fail;go_ret2;refine⟨.inl ⟨?_,b,rfl,HB.o.1,?_,by rw[HB.o.2.2,Cd.o];rfl⟩,OO.o⟩
   .have:=HP.o;rw[Cd.o,HAL.o]at this;exact this
   .rw[HB.o.2.1,Cd.o,HAL.o]
end Sl
namespace Nd
open Go.RowKit Sl
variable{s:ByteArray}
structure E where
 key:ByteArray
 val:ByteArray
 aQ:Int
def E.agg(e:E):Value:= .agg #[.string e.key,.string e.val,.int .i64 e.aQ]
def E.cells(e:E):List Value:=[.string e.key,.string e.val,.int .i64 e.aQ]
def cW(e:E)(leaf:Bool):Prop:=e.key.size<=32/\e.val.size<=40/\(if leaf=true then -1 else 0)<=e.aQ/\e.aQ<512/\(e.aQ<0\/e.val.size=0)
instance(e:E)(leaf:Bool):Decidable (cW e leaf):=by unfold cW;exact inferInstance
theorem Dl(h:s.size=0):s= .empty:=by
 apply mo;exact zal0q h
theorem vZ(h:s.size≠0):s.toList.isEmpty=false:=by
 cases e:s.toList with
 |nil=>
  refine absurd ?_ h;rw[cu]at e;show s.data.size=0;rw[<-Sk,e];rfl
 |cons a l=>rfl
theorem vz(w:World)(e:E)(leaf:Bool):
  Calls prog 162 #[e.agg,.bool leaf] w λr w'=>r=.returned (.bool (decide (cW e leaf)))/\Below w.heap.size w w':=by
 have O0:=xh ((Below.refl w.heap.size w).alloc (Nat.le_refl _) (.cells #[.string e.key,.string e.val,.int .i64 e.aQ] 111));have B0:=aF.new w 111 #[.string e.key,.string e.val,.int .i64 e.aQ];have c0:=B0.ab (i:=0) rfl;have c1:=B0.ab (i:=1) rfl;have c2:=B0.ab (i:=2) rfl;clear B0;obtain⟨b,hb⟩:∃b,b=decide (cW e leaf):=⟨_,rfl⟩;rw[<-hb]
 replace hb:=xh hb
 unfold E.agg;obtain⟨key,val,aQ⟩:=e;dsimp only at *
 by_cases hv:val.size=0
 .have pB:=xh hv;obtain rfl:=Dl hv
  cases leaf
  all_goals
   go_enter func162,ntmps162;go_wp2_with fail
  all_goals
   go_ret;refine⟨?_,O0.o⟩;have h:=hb.o;have Gp:=pB.o
   first
    |(rw[decide_eq_true (by unfold cW;dsimp only;simp only[oW,if_false,if_true];omega)]at h;subst h;rfl)
    |(rw[decide_eq_false (by unfold cW;dsimp only;simp only[oW,if_false,if_true];omega)]at h;subst h;rfl)
 .have pB:=vZ hv;have Gp:=xh hv;clear hv
  by_cases hf:aQ<0
  all_goals
   cases leaf
  all_goals
   go_enter func162,ntmps162;go_wp2_with fail
  all_goals
   go_ret;refine⟨?_,O0.o⟩;have h:=hb.o;have hv4:=Gp.o
   first
    |(rw[decide_eq_true (by unfold cW;dsimp only;simp only[oW,if_false,if_true];omega)]at h;subst h;rfl)
    |(rw[decide_eq_false (by unfold cW;dsimp only;simp only[oW,if_false,if_true];omega)]at h;subst h;rfl)
attribute [local go_sem ↓] Go.wp_at_zero Go.wp_at_succ
variable{w w':World}{A:Option Addr}{n:Nat}{l:List E}
theorem ae{W w1:World}(h:Below W.heap.size W w1)(o:Obj):Below W.heap.size W (w1.alloc o):=h.alloc h.size o
structure Dm(w:World)(ad:Addr)(e:E):Prop where
 c0:w.cell? ad=some (.string e.key)
 c1:w.cell? ⟨ad.block,ad.off+1,none⟩=some (.string e.val)
 c2:w.cell? ⟨ad.block,ad.off+2,none⟩=some (.int .i64 e.aQ)
def py(w:World)(A:Option Addr)(n:Nat)(l:List E):Prop:=l.length=n/\∀k e,l[k]?=some e->∃ad,A=some ad/\Dm w (ad.add (k*3)) e
theorem Dm.below{ad:Addr}{e:E}(h:Dm w ad e)(hb:Below w.heap.size w w'):Dm w' ad e:=by
 have dP:=eg h.c0;exact⟨(hb.cell dP).trans h.c0,(hb.cell (p:=⟨ad.block,ad.off+1,none⟩) dP).trans h.c1,(hb.cell (p:=⟨ad.block,ad.off+2,none⟩) dP).trans h.c2⟩
theorem py.below(h:py w A n l)(hb:Below w.heap.size w w'):py w' A n l:=by
 refine⟨h.1,λk e he=>?_⟩;obtain⟨ad,e1,h1⟩:=h.2 k e he;exact⟨ad,e1,h1.below hb⟩
theorem py.at(h:py w A n l)(k:Nat)(hk:k<n):∃ad e,A=some ad/\l[k]?=some e/\Dm w (ad.add (k*3)) e:=by
 have hl:=h.1;obtain⟨ad,e1,h1⟩:=h.2 k l[k] (aG (by omega));exact⟨ad,l[k],e1,aG (by omega),h1⟩
def leB(a b:ByteArray):Bool:=Op.bytesLess a.toList b.toList || a.toList==b.toList
def okAt(l:List E)(leaf:Bool)(i:Nat):Prop:= ∀e,l[i]?=some e->cW e leaf/\(0<i->∀p,l[i-1]?=some p->leB e.key p.key=false)
def dL(l:List E)(leaf:Bool):Prop:= ∀i,i<l.length->okAt l leaf i
def bu(leaf:Bool)(A:Option Addr)(n c:Nat):Value:= .agg #[.bool leaf,.slice A n c]
theorem yI(leaf:Bool)(A:Option Addr)(n c:Nat)(l:List E)(h:py w A n l)(hn:n<=9223372036854775807):
  Calls prog 117 #[bu leaf A n c] w λr w'=>(∃b,r=.returned (.bool b)/\(b=true↔dL l leaf))/\Below w.heap.size w w':=by
 have O0:=(Below.refl w.heap.size w).alloc (Nat.le_refl _) (.cells #[.bool leaf,.slice A n c] 118);have B0:=xh (aF.new w 118 #[.bool leaf,.slice A n c]);have hl:=xh h.1;have H0:=xh (h.below O0);have O0:=xh O0;clear h;have c1:=B0.o.ab (i:=1) rfl;unfold bu;go_enter func117,ntmps117;go_wp2_with fail;generalize (w.alloc (.cells #[.bool leaf,.slice A n c] 118))=W at *;clear c1
 go_loopw [8] (λiv wr=> ∃i:Nat,i<=n/\iv=.int .i64 i/\(∀j,j<i->okAt l leaf j)/\Below W.heap.size W wr) (λiv _=>n-(intOf iv).toNat)
 case atStart=>exact⟨0,by omega,rfl,λj hj=>absurd hj (kZ j),Below.refl _ _⟩
 case round=>
  obtain⟨i,hi,rfl,fT,hb⟩:=hrel
  by_cases h:i<n
  .obtain⟨ad,e,rfl,he,AT⟩:=(H0.o.below hb).at i h;have HB:=xh hb;have PF:=xh fT;have b0:=(B0.o.below hb B0.o.lt).ab (i:=0) rfl;have b1:=(B0.o.below hb B0.o.lt).ab (i:=1) rfl;have a0:=AT.c0;have a1:=AT.c1;have a2:=AT.c2;clear hb fT;have fi:=ae (Below.refl wr.heap.size wr) (.cells #[.string e.key,.string e.val,.int .i64 e.aQ] 111);have BE:=xh (aF.new wr 111 #[.string e.key,.string e.val,.int .i64 e.aQ]);have FJ:=xh (aC HB.o fi)
   have HE:=xh ((H0.o.below HB.o).below fi);have HN:=xh ((B0.o.below HB.o B0.o.lt).below fi (B0.o.below HB.o B0.o.lt).lt);clear fi AT;have hnn:(i:Int)<(n:Int):=by omega
   go_wp2_with fail;generalize hwA:(wr.alloc (.cells #[.string e.key,.string e.val,.int .i64 e.aQ] 111))=wA at *;clear hwA a0 a1 a2 b0 b1;have x0:=BE.o.ab (i:=0) rfl;have x1:=BE.o.ab (i:=1) rfl;have x2:=BE.o.ab (i:=2) rfl;have y0:=HN.o.ab (i:=0) rfl;have y1:=HN.o.ab (i:=1) rfl;have hyx:wr.heap.size<wA.heap.size:=BE.o.lt
   have HK:=xh (show ∀W',Below wA.heap.size wA W'->(Below wA.heap.size wA W'/\W'.cell? ⟨wr.heap.size,0,none⟩=some (.string e.key)/\W'.cell? ⟨wr.heap.size,1,none⟩=some (.string e.val)/\W'.cell? ⟨wr.heap.size,2,none⟩=some (.int .i64 e.aQ)/\W'.cell? ⟨w.heap.size,0,none⟩=some (.bool leaf)/\W'.cell? ⟨w.heap.size,1,none⟩=some (.slice (some ad) n c))from λW' hb=>⟨hb,(Below.cell hb BE.o.lt).trans x0,(Below.cell hb BE.o.lt).trans x1,(Below.cell hb BE.o.lt).trans x2,(Below.cell hb HN.o.lt).trans y0,(Below.cell hb HN.o.lt).trans y1⟩)
   have d0:Below wA.heap.size wA wA.drew:=(Below.refl _ _).drew;have HF:=xh (And.intro PF.o (And.intro he (And.intro hl.o O0.o)));have KR:=xh (λw'=>vz w' e leaf)
   rcases Bool.eq_false_or_eq_true (decide (cW e leaf))with hr|hr
   .rw[hr]at KR
    by_cases Cw:i=0
    .subst Cw;refine wp_region_held_drew (S:=(λw'=>Below wA.heap.size wA w'/\w'.cell? ⟨wr.heap.size,0,none⟩=some (.string e.key)/\w'.cell? ⟨wr.heap.size,1,none⟩=some (.string e.val)/\w'.cell? ⟨wr.heap.size,2,none⟩=some (.int .i64 e.aQ)/\w'.cell? ⟨w.heap.size,0,none⟩=some (.bool leaf)/\w'.cell? ⟨w.heap.size,1,none⟩=some (.slice (some ad) n c))) (by kernel_rfl) (HK.o _ d0) (λau=>?_);refine cP [(0,13),(1,14),(2,15)] ?_
     iterate 3 refine bj ?_
     refine cQ 3 16 λK hK=>?_;go_simp
     go_at_call 162
     refine(KR.o _).mono ?_;rintro r w1 ⟨rfl,bg⟩;have dn:=aC (show Below wA.heap.size wA _ from au.1) bg;go_simp;refine bz hK (HK.o _ dn) (λau=>?_);refine cP [(4,17),(5,18),(6,19),(7,20),(8,21)] ?_
     iterate 5 refine bj ?_
     refine cA 9 22 ?_;refine cA 10 23 ?_;refine cA 11 24 ?_;refine cA 12 25 ?_;refine cA 13 26 ?_;refine cA 14 27 ?_;refine cA 15 28 ?_;refine cA 16 29 ?_;refine cA 17 30 ?_;refine cA 18 31 ?_;refine cP [(19,32),(20,33)] ?_
     iterate 2 refine bj ?_
     refine wpAnyH_done (by kernel_rfl) ?_ _;go_wp2_with fail;obtain⟨f1,f2,f3,f4⟩:=HF.o;refine⟨⟨0+1,by omega,rfl,?_,aC FJ.o au.1⟩,by simp[intOf];omega⟩;intro j hj e' yl;obtain rfl:j=0:=by omega
     rw[f2]at yl;injection yl with yl
     subst yl;exact⟨of_decide_eq_true hr,λh0=>absurd h0 (yu _)⟩
    .obtain⟨ad',p,e',hp,AP⟩:=HE.o.at (i-1) (by omega);injection e' with e'
     subst e';have q0:=AP.c0;have HK:=xh (show ∀W',Below wA.heap.size wA W'->(Below wA.heap.size wA W'/\W'.cell? ⟨wr.heap.size,0,none⟩=some (.string e.key)/\W'.cell? ⟨wr.heap.size,1,none⟩=some (.string e.val)/\W'.cell? ⟨wr.heap.size,2,none⟩=some (.int .i64 e.aQ)/\W'.cell? ⟨w.heap.size,0,none⟩=some (.bool leaf)/\W'.cell? ⟨w.heap.size,1,none⟩=some (.slice (some ad) n c)/\W'.cell? (ad.add ((i-1)*3))=some (.string p.key))from λW' hb=>by
      obtain⟨h1,h2,h3,h4,h5,h6⟩:=HK.o W' hb;exact⟨h1,h2,h3,h4,h5,h6,(hb.cell (eg q0)).trans q0⟩)
     have e1:IntKind.i64.wrap ((i:Int)-1)=(i:Int)-1:=IntWalk.i64_in _ (by omega);have e2:(0:Int)<=(i:Int)-1:=by omega
     have e3:(i:Int)-1<(n:Int):=by omega
     have e4:((i:Int)-1).toNat=i-1:=by omega
     have e5:(0:Int)<(i:Int):=by omega
     have e6:(1:Int)<=(i:Int):=by omega
     refine wp_region_held_drew (S:=(λw'=>Below wA.heap.size wA w'/\w'.cell? ⟨wr.heap.size,0,none⟩=some (.string e.key)/\w'.cell? ⟨wr.heap.size,1,none⟩=some (.string e.val)/\w'.cell? ⟨wr.heap.size,2,none⟩=some (.int .i64 e.aQ)/\w'.cell? ⟨w.heap.size,0,none⟩=some (.bool leaf)/\w'.cell? ⟨w.heap.size,1,none⟩=some (.slice (some ad) n c)/\w'.cell? (ad.add ((i-1)*3))=some (.string p.key))) (by kernel_rfl) (HK.o _ d0) (λau=>?_);refine cP [(0,13),(1,14),(2,15)] ?_
     iterate 3 refine bj ?_
     refine cQ 3 16 λK hK=>?_;go_simp
     go_at_call 162
     refine(KR.o _).mono ?_;rintro r w1 ⟨rfl,bg⟩;have dn:=aC (show Below wA.heap.size wA _ from au.1) bg;go_simp;refine bz hK (HK.o _ dn) (λau=>?_);refine cP [(4,17),(5,18),(6,19)] ?_
     iterate 3 refine bj ?_
     refine pI 7 20 (.bool true) ?_ ?_
     ·(intro w rL;(try dsimp only at rL);go_simp;(try omega))
     refine cP [(8,21),(9,22),(10,23),(11,24),(12,25),(13,26),(14,27),(15,28),(16,29),(17,30),(18,31),(19,32),(20,33)] ?_
     iterate 13 refine bj ?_
     refine wpAnyH_done (by kernel_rfl) ?_ _;go_wp2_with fail
     .rename_i hx;obtain⟨f1,f2,f3,f4⟩:=HF.o;go_ret;refine⟨⟨false,rfl,?_⟩,aC (aC f4 FJ.o) au.1⟩;simp only[oW,false_iff];intro hm;have h1:=(hm i (by omega) e f2).2 (by omega) p hp;unfold leB at h1
      rcases hx with hx|hx
      .rw[hx]at h1;simp at h1
      .rw[hx]at h1;simp at h1
     .rename_i hx;obtain⟨f1,f2,f3,f4⟩:=HF.o;refine⟨⟨i+1,by omega,rfl,?_,aC FJ.o au.1⟩,by simp[intOf];omega⟩;intro j hj
      rcases oh.1 hj with h1|rfl
      .exact f1 j h1
      .intro e' yl;rw[f2]at yl;injection yl with yl
       subst yl;refine⟨of_decide_eq_true hr,λ_ p' hp'=>?_⟩;rw[hp]at hp';injection hp' with hp'
       subst hp';unfold leB;rw[hx.1,hx.2];rfl
   .rw[hr]at KR;refine wp_region_held_drew (S:=(λw'=>Below wA.heap.size wA w'/\w'.cell? ⟨wr.heap.size,0,none⟩=some (.string e.key)/\w'.cell? ⟨wr.heap.size,1,none⟩=some (.string e.val)/\w'.cell? ⟨wr.heap.size,2,none⟩=some (.int .i64 e.aQ)/\w'.cell? ⟨w.heap.size,0,none⟩=some (.bool leaf)/\w'.cell? ⟨w.heap.size,1,none⟩=some (.slice (some ad) n c))) (by kernel_rfl) (HK.o _ d0) (λau=>?_);refine cP [(0,13),(1,14),(2,15)] ?_
    iterate 3 refine bj ?_
    refine cQ 3 16 λK hK=>?_;go_simp
    go_at_call 162
    refine(KR.o _).mono ?_;rintro r w1 ⟨rfl,bg⟩;have dn:=aC (show Below wA.heap.size wA _ from au.1) bg;go_simp;refine bz hK (HK.o _ dn) (λau=>?_);refine cP [(4,17),(5,18)] ?_
    iterate 2 refine bj ?_
    refine cA 6 19 ?_;refine cA 7 20 ?_;refine cA 8 21 ?_;refine cA 9 22 ?_;refine cA 10 23 ?_;refine cA 11 24 ?_;refine cA 12 25 ?_;refine cA 13 26 ?_;refine cA 14 27 ?_;refine cA 15 28 ?_;refine cA 16 29 ?_;refine cA 17 30 ?_;refine cA 18 31 ?_;refine cA 19 32 ?_;refine cP [(20,33)] ?_
    iterate 1 refine bj ?_
    refine wpAnyH_done (by kernel_rfl) ?_ _;go_wp2_with fail;obtain⟨f1,f2,f3,f4⟩:=HF.o;go_ret;refine⟨⟨false,rfl,?_⟩,aC (aC f4 FJ.o) au.1⟩;simp only[oW,false_iff];intro hm;exact of_decide_eq_false hr (hm i (by omega) e f2).1
  .go_wp2_with fail;go_ret;refine⟨⟨true,rfl,?_⟩,aC O0.o hb⟩;simp only[true_iff];intro k hk;have:=hl.o;exact fT k (by omega)
def mE(s:ByteArray):Nat:=(s.data.toList.getD 0 0).toNat
def ke(s:ByteArray):Prop:=3+mE s<=s.size
def kH(s:ByteArray):E:=⟨s.extract 1 (1+mE s),s.extract (3+mE s) s.size,(bS s.data.toList (1+mE s):Int)-1⟩
def E.zero:E:=⟨.empty,.empty,0⟩
theorem nK{fn:Func}{p u:Tmp}{w:World}{g:Nat}{a b:ByteArray}{c:Int}{tmps:Array Value}(h:fn.results= #[.cell p 111,.tmp u])(hp:tmps.getD p undef=.pointer (some ⟨g,0,none⟩))(B:aF w g 111 #[.string a,.string b,.int .i64 c]):
  (results fn tmps).run prog w=.ok (.tuple #[.agg #[.string a,.string b,.int .i64 c],tmps.getD u undef]) w:=by
 have c0:=B.ab (i:=0) rfl;have c1:=B.ab (i:=1) rfl;have c2:=B.ab (i:=2) rfl;rw[results_cell_tmp h,hp];clear h hp B;go_simp
theorem Vr(w:World)(s:ByteArray)(h:¬ke s):
  Calls prog 170 #[.string s] w λr w'=>r=.returned (.tuple #[E.zero.agg,.bool false])/\Below w.heap.size w w':=by
 have O0:=xh ((Below.refl w.heap.size w).alloc (Nat.le_refl _) (.cells #[.string .empty,.string .empty,.int .i64 0] 111));have B0:=xh (aF.new w 111 #[.string .empty,.string .empty,.int .i64 0]);unfold E.agg E.zero
 by_cases hs:s.size=0
 .obtain rfl:=Dl hs;go_enter func170,ntmps170;go_wp2_with fail;exact bodyPost_ret (nK rfl rfl B0.o) rfl ⟨rfl,O0.o⟩
 .have hs2:=vZ hs;have h0:0<s.size:=by omega
  have h1:(0:Int)<(s.size:Int):=by omega
  have hk:mE s=s[0].toNat:=by unfold mE;rw[dK _ _ h0]
  unfold ke at h;rw[hk]at h;have b0:=s[0].toNat_lt;have h2:(s.size:Int)<3+(s[0].toNat:Int):=by omega
  have e4:IntKind.i64.wrap (s[0].toNat:Int)=(s[0].toNat:Int):=IntWalk.i64_in _ (by omega);have e5:IntKind.i64.wrap (3+(s[0].toNat:Int))=3+(s[0].toNat:Int):=IntWalk.i64_in _ (by omega);go_enter func170,ntmps170;go_wp2_with fail;exact bodyPost_ret (nK rfl rfl B0.o) rfl ⟨rfl,O0.o⟩
theorem QP(w:World)(s:ByteArray)(h:ke s)(hs:s.size<=1000000):
  Calls prog 170 #[.string s] w λr w'=>r=.returned (.tuple #[(kH s).agg,.bool true])/\Below w.heap.size w w':=by
 have O0:=xh ((Below.refl w.heap.size w).alloc (Nat.le_refl _) (.cells #[.string .empty,.string .empty,.int .i64 0] 111));have B0:=xh (aF.new w 111 #[.string .empty,.string .empty,.int .i64 0]);unfold ke at h;have hs2:=vZ (s:=s) (by omega);have h0:0<s.size:=by omega
 have h1:(0:Int)<(s.size:Int):=by omega
 have hk:mE s=s[0].toNat:=by unfold mE;rw[dK _ _ h0]
 rw[hk]at h;have hE:=xh (show(kH s).agg=.agg #[.string (s.extract 1 (1+s[0].toNat)),.string (s.extract (3+s[0].toNat) s.size),.int .i64 ((bS s.data.toList (1+s[0].toNat):Int)-1)]from by unfold E.agg kH;rw[hk]);have b0:=s[0].toNat_lt;have h2:¬(s.size:Int)<3+(s[0].toNat:Int):=by omega
 have e4:IntKind.i64.wrap (s[0].toNat:Int)=(s[0].toNat:Int):=IntWalk.i64_in _ (by omega);have e5:IntKind.i64.wrap (3+(s[0].toNat:Int))=3+(s[0].toNat:Int):=IntWalk.i64_in _ (by omega);have e6:IntKind.i64.wrap (1+(s[0].toNat:Int))=1+(s[0].toNat:Int):=IntWalk.i64_in _ (by omega);go_enter func170,ntmps170;go_wp2_with fail;obtain⟨k,hkk⟩:∃k,1+s[0].toNat=k:=⟨_,rfl⟩;have Kp:(1:Int)+((s[0].toNat:Nat):Int)=((k:Nat):Int):=by omega
 rw[Kp];have hk1:k<s.size:=by omega
 have hk2:k+1<s.size:=by omega
 have b1:=s[k].toNat_lt;have b2:=s[k+1].toNat_lt;have HV:=xh (show bits .or .i64 ((s[k].toNat:Int)*256) (s[k+1].toNat:Int)=((bS s.data.toList k:Nat):Int)from by
  rw[or8 _ _ (by omega) (by omega)];unfold bS;rw[dK _ _ hk1,dK _ _ hk2])
 have e1:IntKind.i64.wrap ((k:Int)+1)=(k:Int)+1:=IntWalk.i64_in _ (by omega);have e2:(0:Int)<=(k:Int)+1:=by omega
 have e3:((k:Int)+1).toNat=k+1:=by omega
 have e7:(k:Int)+1<(s.size:Int):=by omega
 have e8:(k:Int)<(s.size:Int):=by omega
 have v1:IntKind.i64.wrap (s[k].toNat:Int)=(s[k].toNat:Int):=IntWalk.i64_in _ (by omega);have v2:IntKind.i64.wrap ((s[k].toNat:Int)*256)=(s[k].toNat:Int)*256:=IntWalk.i64_in _ (by omega);have v3:IntKind.i64.wrap (s[k+1].toNat:Int)=(s[k+1].toNat:Int):=IntWalk.i64_in _ (by omega);have z1:IntKind.i64.wrap ((k:Int)+2)=(k:Int)+2:=IntWalk.i64_in _ (by omega);have z2:(0:Int)<=(k:Int)+2:=by omega
 have z3:((k:Int)+2).toNat=k+2:=by omega
 have z4:(k:Int)+2<=(s.size:Int):=by omega
 have z5:(k:Int)<=(s.size:Int):=by omega
 have z6:(1:Int)<=(k:Int):=by omega
 go_quiet (fail);rw[HV.o];have u0:=List.getD s.data.toList k 0|>.toNat_lt;have u1:=List.getD s.data.toList (k+1) 0|>.toNat_lt;have z7:IntKind.i64.wrap ((bS s.data.toList k:Int)-1)=(bS s.data.toList k:Int)-1:=IntWalk.i64_in _ (by unfold bS;omega);go_wp2_with fail;refine wp_region_held_drew (S:=λ_=>True) (by kernel_rfl) trivial (λau=>?_);refine cP [(0,33),(1,34),(2,35),(3,36),(4,37),(5,38),(6,39),(7,40),(8,41),(9,42)] ?_
 iterate 10 refine bj ?_
 refine nB 10 λK hK=>?_;go_simp;refine hK.o _ _ trivial (λau=>?_)
 try simp only[Act.put,pa,pb,pc]
 refine cP [(11,3)] ?_
 iterate 1 refine bj ?_
 refine wpAnyH_done (by kernel_rfl) ?_ _;go_wp2_with fail;have BB:=((((B0.o.drewN (nq+1)).bU 0 (.string (s.extract 1 k))).bU 1 (.string (s.extract (k+2) s.size))).bU 2 (.int .i64 ((bS s.data.toList k:Int)-1)));refine bodyPost_ret (nK rfl rfl BB) rfl ⟨?_,?_⟩
 .have hE2:(kH s).agg=.agg #[.string (s.extract 1 k),.string (s.extract (k+2) s.size),.int .i64 ((bS s.data.toList k:Int)-1)]:=by
   rw[hE.o,<-hkk,show 3+s[0].toNat=1+s[0].toNat+2 by omega]
  rw[hE2];rfl
 .have hn:w.heap.size<w.heap.size->w.heap.size∈([]:List Nat):=λh=>absurd h (yu _);exact((((ag.ai (S:=[]) (df O0.o (nq+1))).setCell (p:=⟨w.heap.size,0,none⟩) hn _).setCell (p:=⟨w.heap.size,1,none⟩) hn _).setCell (p:=⟨w.heap.size,2,none⟩) hn _).gD
end Nd
namespace Nd
open Go.RowKit Sl
def ak(l:List E):Nat:=(l.map λe=>e.key.size+e.val.size+7).sum
theorem lD(l:List E)(i:Nat)(e:E)(h:l[i]?=some e):ak (l.take (i+1))=ak (l.take i)+(e.key.size+e.val.size+7):=by
 unfold ak;rw[tN,h];simp
theorem qh(l:List E)(i:Nat):ak (l.take i)<=ak l:=by
 have:ak l=ak (l.take i)+ak (l.drop i):=by
  unfold ak;rw[<-tM,<-ez,kW]
 omega
theorem Dn{w:World}(A:Option Addr)(n c:Nat)(l:List E)(h:py w A n l)(hn:n<=9223372036854775807)(hb:ak l<=1000000):
  Calls prog 177 #[.slice A n c] w λr w'=>r=.returned (.int .i64 (ak l:Nat))/\Below w.heap.size w w':=by
 have H0:=xh h;have hl:=xh h.1;have hB:=xh hb;clear h hb;go_enter func177,ntmps177;go_wp2_with fail
 go_loopw [3,8] (λsv iv wr=> ∃i:Nat,i<=n/\iv=.int .i64 i/\sv=.int .i64 (ak (l.take i):Nat)/\Below w.heap.size w wr) (λ_ iv _=>n-(intOf iv).toNat)
 case atStart=>exact⟨0,by omega,rfl,by simp[ak],Below.refl _ _⟩
 case round=>
  obtain⟨i,hi,rfl,rfl,hbw⟩:=hrel
  by_cases h:i<n
  .obtain⟨ad,e,rfl,he,AT⟩:=(H0.o.below hbw).at i h;have a0:=AT.c0;have a1:=AT.c1;have a2:=AT.c2;have hs:=lD l i e he;have ht:=qh l (i+1);have hb:=hB.o;have HS:=xh hs;have s1:IntKind.i64.wrap ((e.key.size:Int)+(e.val.size:Int))=(e.key.size:Int)+(e.val.size:Int):=IntWalk.i64_in _ (by omega);have s2:IntKind.i64.wrap ((e.key.size:Int)+(e.val.size:Int)+7)=(e.key.size:Int)+(e.val.size:Int)+7:=IntWalk.i64_in _ (by omega)
   have s3:IntKind.i64.wrap ((ak (l.take i):Int)+((e.key.size:Int)+(e.val.size:Int)+7))=(ak (l.take i):Int)+((e.key.size:Int)+(e.val.size:Int)+7):=IntWalk.i64_in _ (by omega);have FJ:=xh (aC hbw (ae (Below.refl wr.heap.size wr) (.cells #[.string e.key,.string e.val,.int .i64 e.aQ] 111)));clear AT hs ht hb hbw;go_wp2_with fail;refine⟨⟨i+1,by omega,rfl,?_,FJ.o⟩,by simp[intOf];omega⟩;rw[HS.o];simp
  .obtain rfl:i=n:=by omega
   have FJ:=xh hbw;clear hbw;go_wp2_with fail;go_ret;refine⟨?_,FJ.o⟩;have:=hl.o;rw[cr (by omega)];rfl
attribute [local go_sem ↓] Go.wp_at_zero Go.wp_at_succ
theorem Av(e:E)(leaf:Bool):cW e leaf↔e.key.size<=32/\e.val.size<=40/\ -1<=e.aQ/\e.aQ<=511/\(0<=e.aQ->e.val.size=0)/\(e.aQ<0->leaf=true):=by
 unfold cW
 constructor
 .rintro⟨h1,h2,h3,h4,h5⟩
  cases leaf
  .simp only[oW,if_false]at h3;exact⟨h1,h2,by omega,by omega,λh=>by omega,λh=>by omega⟩
  .simp only[if_true]at h3;exact⟨h1,h2,by omega,by omega,λh=>by omega,λ_=>rfl⟩
 .rintro⟨h1,h2,h3,h4,h5,h6⟩;have h7:e.aQ<0\/e.val.size=0:=by
   rcases(show e.aQ<0\/0<=e.aQ by omega)with h|h
   .exact .inl h
   .exact .inr (h5 h)
  cases leaf
  .simp only[oW,if_false];refine⟨h1,h2,?_,by omega,h7⟩
   rcases(show e.aQ<0\/0<=e.aQ by omega)with h|h
   .exact absurd (h6 h) (by decide)
   .exact h
  .simp only[if_true];exact⟨h1,h2,h3,by omega,h7⟩
end Nd
namespace Nd
open Go.RowKit Sl
variable{l:List E}{w:World}{t:TypeId}{n:Nat}
def aD(l:List E):List Value:=l.flatMap E.cells
theorem kI(e:E)(l:List E):aD (e::l)=e.cells++aD l:=by simp[aD]
theorem gH(l m:List E):aD (l++m)=aD l++aD m:=by simp[aD]
theorem ar(l:List E):(aD l).length=l.length*3:=by
 induction l with
 |nil=>rfl
 |cons e l ih=>rw[kI,aO,ih];simp[E.cells];omega
theorem Vs{k:Nat}{e:E}(h:l[k]?=some e)(j:Nat)(hj:j<3):(aD l)[k*3+j]?=e.cells[j]?:=by
 induction l generalizing k with
 |nil=>simp at h
 |cons x l ih=>
  rw[kI]
  cases k with
  |zero=>
   simp only[yW,Option.some.injEq]at h;subst h;rw[bE (by simp[E.cells];omega)];congr 1;omega
  |succ k=>
   rw[vf]at h;rw[dR (by simp[E.cells];omega),<-ih h]
   congr 1;simp[E.cells];omega
theorem fZ(g o j:Nat):(⟨g,o,none⟩:Addr).add j=⟨g,o+j,none⟩:=by
 unfold Addr.add
 split
 .next h=>rw[h];rfl
 .rfl
theorem Iw{g:Nat}{rest:List Value}(B:aF w g t (aD l++rest).toArray)(k:Nat)(e:E)(h:l[k]?=some e):Dm w ((⟨g,0,none⟩:Addr).add (k*3)) e:=by
 have hk:=(aM.1 h).1;have hlen:=ar l;have key:∀j,j<3->(aD l++rest).toArray[k*3+j]?=e.cells[j]?:=λj hj=>by
  rw[dh,bE (by omega),Vs h j hj]
 rw[fZ,bl];exact⟨(B.cell _).trans (key 0 (by omega)),(B.cell _).trans (key 1 (by omega)),(B.cell _).trans (key 2 (by omega))⟩
theorem aS.aD{A:Option Addr}{c m:Nat}(S:aS w t 3 (.slice A n c) m (aD l)):n=m/\py w A m l:=by
 have hl:=S.1;rw[ar]at hl;have hlm:l.length=m:=by omega
 rcases S.2 with⟨hv,h0⟩|⟨g,cap,rest,hv,B,hc,_⟩
 .simp only[Value.slice.injEq]at hv;obtain⟨rfl,rfl,rfl⟩:=hv;refine⟨h0.symm,hlm,λk e he=>?_⟩;have:=(aM.1 he).1;omega
 .simp only[Value.slice.injEq]at hv;obtain⟨rfl,rfl,rfl⟩:=hv;exact⟨rfl,hlm,λk e he=>⟨_,rfl,Iw B k e he⟩⟩
theorem Aw{P:Program}{v:Value}{l:List Value}(S:aS w t 3 v n l)
 (T ty:TypeId)(z:Value)(bytes:Nat)(ht:P.underlying T=some (.slice t))(nA:(P.info? t).map (λi=>(i.zero,i.size,i.bytes))=some (some z,3,bytes))(hz:z.cells.size=3)
 (e:E)(Gx:n+1<=maxLen)(hb:(n+1)*bytes<=140737488355328):
  ∃v' w',dZ P T ty (w.alloc (.cells #[.string e.key,.string e.val,.int .i64 e.aQ] t)) v (.slice (some ⟨w.heap.size,0,none⟩) 1 1)= .ok v' w'/\aS w' t 3 v' (n+1) (l++e.cells)/\ag (ah v) w w'/\(∀g∈ah v',g∈ah v\/w.heap.size<=g):=by
 obtain⟨i0,hi,ku,js,ki⟩:=info_parts nA;obtain⟨v',w',h1,h2,h3,h4⟩:=dC (P:=P) (S.alloc (.cells #[.string e.key,.string e.val,.int .i64 e.aQ] t)) T ty i0 z bytes ht hi ku js ki hz (by omega)
  ⟨w.heap.size,0,none⟩ 1 1 e.cells rfl (bq (l:=e.cells) (aF.new w t #[.string e.key,.string e.val,.int .i64 e.aQ]) 0 _ (by intro j v hv;rw[bl];exact hv)) (by intro u hu;simp[E.cells]at hu;rcases hu with rfl|rfl|rfl<;>rfl) Gx hb
 exact⟨v',w',h1,h2,((ag.refl _ _).alloc _).aL h3 (λx hx _=>hx),λg hg=>(h4 g hg).imp id (λh=>by simp at h;omega)⟩
attribute [local go_sem ↓] bw
def qk(e:E):List UInt8:=UInt8.ofNat e.key.size::(e.key.data.toList++(eS (e.aQ+1).toNat++e.val.data.toList))
def uw(e:E):ByteArray:=⟨(qk e).toArray⟩
theorem wg(a b:ByteArray):a++b=⟨(a.data.toList++b.data.toList).toArray⟩:=by
 have:=sA a.data.toList b;rw[Oh]at this;exact this
theorem recB_eq(e:E):(⟨[UInt8.ofNat e.key.size].toArray⟩++e.key)++⟨(eS (e.aQ+1).toNat).toArray⟩++e.val=uw e:=by
 rw[wg,wg,wg];unfold uw qk;simp
theorem Ax(w:World)(o:Obj):(w.alloc o).heap.size=w.heap.size+1:=by simp
theorem ui{w:World}(e:E)(hk:e.key.size<=32)(hv:e.val.size<=40)(hf: -1<=e.aQ)(Ch:e.aQ<=511){g n:Nat}{v:Value}{l:List (List UInt8)}(B:aF w g 123 #[v])(S:aS w 9 1 v n (strs l))(hg:g∉ah v)(hn:n<=1000000):
  Calls prog 118 #[e.agg,.pointer (some ⟨g,0,none⟩)] w λr w'=>r=.returned (.tuple #[])/\∃v',aF w' g 123 #[v']/\aS w' 9 1 v' (n+1) (strs (l++[qk e]))/\ag (g::ah v) w w'/\(∀x∈ah v',x∈ah v\/w.heap.size<=x):=by
 obtain⟨A,c,rfl⟩:=ax S;have HR:=xh (recB_eq e);have hR2:Value.string (uw e)= .string ⟨(qk e).toArray⟩:=rfl;obtain⟨m,hm⟩:=eT (show 0<=e.aQ+1 by omega);have NK:m<=512:=by omega
 have e0:Value.int .u8 ((m:Int) / 256)=bv (UInt8.ofNat (m / 256)):=by
  unfold bv
  congr 1
  rw[iN];omega
 have e1:Value.int .u8 ((m:Int) % 256)=bv (UInt8.ofNat m):=by
  unfold bv;rfl
 have e2:Value.int .u8 (e.key.size:Int)=bv (UInt8.ofNat e.key.size):=by
  unfold bv
  congr 1
  rw[iN];omega
 rw[hm,gI]at HR;have HE:=xh (show #[Value.int .u8 ((m:Int) / 256),Value.int .u8 ((m:Int) % 256)]=(dN (eS m)).toArray from by rw[e0,e1];rfl);have HK:=xh (show #[Value.int .u8 (e.key.size:Int)]=(dN [UInt8.ofNat e.key.size]).toArray from by rw[e2];rfl);have BX:=xh (aF.new w 111 #[.string e.key,.string e.val,.int .i64 e.aQ])
 have s1:=cm (P:=prog) ((w.alloc (.cells #[.string e.key,.string e.val,.int .i64 e.aQ] 111)).alloc (.cells (dN [UInt8.ofNat e.key.size]).toArray 5)) 150 9 5 underlying150 underlying5 underlying9 ⟨(w.alloc (.cells #[.string e.key,.string e.val,.int .i64 e.aQ] 111)).heap.size,0,none⟩ 1 1 [UInt8.ofNat e.key.size] rfl (bq (l:=dN [UInt8.ofNat e.key.size]) (aF.new _ 5 _) 0 _ (by intro j u hu;rw[bl];exact hu));rw[<-HK.o,Ax]at s1
 have S1:=xh s1
 have s2:=cm (P:=prog) (((w.alloc (.cells #[.string e.key,.string e.val,.int .i64 e.aQ] 111)).alloc (.cells #[.int .u8 (e.key.size:Int)] 5)).alloc (.cells (dN (eS m)).toArray 5)) 150 9 5 underlying150 underlying5 underlying9 ⟨((w.alloc (.cells #[.string e.key,.string e.val,.int .i64 e.aQ] 111)).alloc (.cells #[.int .u8 (e.key.size:Int)] 5)).heap.size,0,none⟩ 2 2 (eS m) rfl (bq (l:=dN (eS m)) (aF.new _ 5 _) 0 _ (by intro j u hu;rw[bl];exact hu))
 rw[<-HE.o,Ax,Ax]at s2;have S2:=xh s2;have B1:=B.alloc (.cells #[.string e.key,.string e.val,.int .i64 e.aQ] 111);have c1:(w.alloc (.cells #[.string e.key,.string e.val,.int .i64 e.aQ] 111)).cell? ⟨g,0,none⟩=some (.slice A n c):=B1.ab (i:=0) rfl
 obtain⟨v',w2,ea,SS,ow,fr⟩:=dj (P:=prog) (((S.alloc (.cells #[.string e.key,.string e.val,.int .i64 e.aQ] 111)).alloc (.cells #[.int .u8 (e.key.size:Int)] 5)).alloc (.cells #[Value.int .u8 ((m:Int) / 256),Value.int .u8 ((m:Int) % 256)] 5)) 123 123 (.string .empty) 16 underlying123 xD rfl (.string (⟨#[UInt8.ofNat e.key.size]⟩++e.key++⟨(eS m).toArray⟩++e.val)) rfl (by unfold maxLen;omega) (by omega);obtain⟨V2,iP,rfl⟩:=ax SS;rw[Ax,Ax,Ax]at ea
 have EA:=xh ea;clear s1 s2 ea;have OO:=xh (((((ag.refl (g::ah (.slice A n c)) w).alloc (.cells #[.string e.key,.string e.val,.int .i64 e.aQ] 111)).alloc (.cells #[.int .u8 (e.key.size:Int)] 5)).alloc (.cells #[Value.int .u8 ((m:Int) / 256),Value.int .u8 ((m:Int) % 256)] 5)).aL ow (λx hx _=>aw _ hx))
 have B2:=xh ((((B.alloc (.cells #[.string e.key,.string e.val,.int .i64 e.aQ] 111)).alloc (.cells #[.int .u8 (e.key.size:Int)] 5)).alloc (.cells #[Value.int .u8 ((m:Int) / 256),Value.int .u8 ((m:Int) % 256)] 5)).only ow hg);have hR3:Value.string (⟨#[UInt8.ofNat e.key.size]⟩++e.key++⟨(eS m).toArray⟩++e.val)= .string ⟨(qk e).toArray⟩:=congrArg Value.string HR.o;rw[hR3,Dj]at SS
 replace SS:=xh SS
 have c2:w2.cell? ⟨g,0,none⟩=some (.slice A n c):=B2.o.ab (i:=0) rfl;have c3:w2.frozen? ⟨g,0,none⟩=false:=B2.o.frozen 0 (by simp);have t8:(eS m).length=2:=rfl;have FR2:=xh (show ∀x∈ah (.slice V2 (n+1) iP),x∈ah (.slice A n c)\/w.heap.size<=x from λx hx=>(fr x hx).imp id (λh=>by rw[Ax,Ax,Ax]at h;omega));have NE:=xh (show g∉ah (.slice V2 (n+1) iP)from λhx=>(FR2.o g hx).elim hg (λh=>by have:=B.lt;omega));have HM:=xh hm;unfold E.agg
 clear B1 e0 e1 e2 ow fr S B hg hR2 hR3;have m1:IntKind.u8.wrap ((m:Int) / 256)=(m:Int) / 256:=IntWalk.u8_in _ (by omega);go_enter func118,ntmps118;go_wp2_with fail;rw[S1.o];go_wp2_with fail;rw[S2.o];go_wp2_with fail;rw[EA.o];go_wp2_with fail
 go_end0
 exact⟨rfl,_,B2.o.bU 0 _,SS.o.only ((ag.refl [g] w2).setCell (λ_=>by simp) _) (λx hx=>by simp;exact λhh=>NE.o (hh▸hx)),OO.o.setCell (λ_=>by simp) _,FR2.o⟩
end Nd
namespace Nd
open Go.RowKit Sl
attribute [local go_sem ↓] Go.wp_at_zero Go.wp_at_succ
variable{w:World}
def Dp(leaf:Bool):List UInt8:=if leaf=true then [1]else [2]
def ir(leaf:Bool)(l:List E):List (List UInt8):=Dp leaf::l.map qk
theorem Ay(leaf:Bool)(l:List E)(i:Nat)(e:E)(h:l[i]?=some e):ir leaf (l.take (i+1))=ir leaf (l.take i)++[qk e]:=by
 unfold ir;rw[tN,h];simp
theorem FK(leaf:Bool)(l:List E):(ir leaf l).length=l.length+1:=by simp[ir]
theorem ql(e:E):(qk e).length=3+e.key.size+e.val.size:=by
 unfold qk eS;simp;omega
theorem put_no(leaf:Bool)(A:Option Addr)(n c:Nat)(l:List E)(h:py w A n l)(hn:n<=1000000)(hm:¬dL l leaf):
  Calls prog 68 #[bu leaf A n c] w λr w'=>r=.returned (.tuple #[.string ⟨#[]⟩,.int .i64 2])/\Below w.heap.size w w':=by
 have O0:=(Below.refl w.heap.size w).alloc (Nat.le_refl _) (.cells #[.bool leaf,.slice A n c] 118);have KM:=xh (yI (w:=w.alloc (.cells #[.bool leaf,.slice A n c] 118)) leaf A n c l (h.below O0) (by omega));have O0:=xh O0;have HM:=xh hm;clear h hm;unfold bu at *;go_enter func68,ntmps68;go_wp2_with fail;refine KM.o.mono ?_;rintro r w1 ⟨⟨b,rfl,hb⟩,bg⟩;obtain rfl:b=false:=by
  cases b
  .rfl
  .exact absurd (hb.1 rfl) HM.o
 have O1:=xh (aC O0.o bg);clear hb bg;go_wp2_with fail;go_ret2;exact⟨rfl,O1.o⟩
theorem put_yes(leaf:Bool)(A:Option Addr)(n c:Nat)(l:List E)(h:py w A n l)(hn:n<=1000)(hm:dL l leaf):
  Calls prog 68 #[bu leaf A n c] w (Vp (ir leaf l) w):=by
 have O0:=(Below.refl w.heap.size w).alloc (Nat.le_refl _) (.cells #[.bool leaf,.slice A n c] 118);have hl:=xh h.1;have H0:=h.below O0;have KM:=xh (yI (w:=w.alloc (.cells #[.bool leaf,.slice A n c] 118)) leaf A n c l H0 (by omega));have B0:=xh (aF.new w 118 #[.bool leaf,.slice A n c]);have O0:=xh O0;have H0:=xh H0;have HM:=xh hm;have HH:=xh h
 have HQ:=xh (show ∀(i:Nat) (e:E),l[i]?=some e->e.key.size<=32/\e.val.size<=40/\ -1<=e.aQ/\e.aQ<=511 from λi e he=>by
  have h2:=(Av e leaf).1 (hm i (aM.1 he).1 e he).1;exact⟨h2.1,h2.2.1,h2.2.2.1,h2.2.2.2.1⟩)
 have HL:=xh (FK leaf l);have HS:=xh (show ∀r∈ir leaf l,r.length<=1000000 from λr hr=>by
  unfold ir at hr
  rcases aj.1 hr with rfl|hr
  .unfold Dp;split<;>decide
  .obtain⟨e,he,rfl⟩:=dm.1 hr;obtain⟨i,hi,rfl⟩:=n8 he;have:=HQ.o i _ (aG hi);rw[ql];omega)
 clear h hm;unfold bu at *;go_enter func68,ntmps68;go_wp2_with fail;generalize (w.alloc (.cells #[.bool leaf,.slice A n c] 118))=W0 at *;refine KM.o.mono ?_;rintro r w1 ⟨⟨b,rfl,hb⟩,bg⟩;obtain rfl:b=true:=hb.2 HM.o;have O1:=xh (aC O0.o bg);have H1:=xh (H0.o.below bg);have B1:=xh (B0.o.below bg B0.o.lt);have c0:w1.cell? ⟨w.heap.size,0,none⟩=some (.bool leaf):=B1.o.ab (i:=0) rfl
 have c1:w1.cell? ⟨w.heap.size,1,none⟩=some (.slice A n c):=B1.o.ab (i:=1) rfl;have dP:=B1.o.lt;clear hb bg;have SK:=xh (show ∀k:List UInt8,aS ((w1.alloc (.cells #[.string ⟨k.toArray⟩] 9)).alloc (.cells #[.slice (some ⟨w1.heap.size,0,none⟩) 1 1] 123)) 9 1 (.slice (some ⟨w1.heap.size,0,none⟩) 1 1) 1 (strs [k])from λk=>⟨rfl,.inr ⟨w1.heap.size,1,[],rfl,(aF.new w1 9 #[.string ⟨k.toArray⟩]).alloc _,rfl,by unfold maxLen;omega⟩⟩)
 have BK:=xh (show ∀k:List UInt8,aF ((w1.alloc (.cells #[.string ⟨k.toArray⟩] 9)).alloc (.cells #[.slice (some ⟨w1.heap.size,0,none⟩) 1 1] 123)) (w1.heap.size+1) 123 #[.slice (some ⟨w1.heap.size,0,none⟩) 1 1]from λk=>by
  have:=aF.new (w1.alloc (.cells #[.string ⟨k.toArray⟩] 9)) 123 #[.slice (some ⟨w1.heap.size,0,none⟩) 1 1];rw[Ax]at this;exact this)
 have OK:=xh (show ∀k:List UInt8,Below w.heap.size w ((w1.alloc (.cells #[.string ⟨k.toArray⟩] 9)).alloc (.cells #[.slice (some ⟨w1.heap.size,0,none⟩) 1 1] 123))from λk=>aC O1.o (ae (ae (Below.refl _ _) _) _))
 cases leaf
 .replace SK:=xh (SK.o [2])
  replace BK:=xh (BK.o [2])
  replace OK:=xh (OK.o [2])
  go_wp2_with fail;generalize hW2:((w1.alloc (.cells #[.string ⟨#[2]⟩] 9)).alloc (.cells #[.slice (some ⟨w1.heap.size,0,none⟩) 1 1] 123))=W2 at *;clear hW2 c0 c1
  go_loopw [20] (λiv wr=> ∃(i:Nat) (v':Value),i<=n/\iv=.int .i64 i/\aF wr (w1.heap.size+1) 123 #[v']/\aS wr 9 1 v' (i+1) (strs (ir false (l.take i)))/\Below w.heap.size w wr/\Hid (∀x∈ah v',w.heap.size<=x/\x≠w1.heap.size+1)) (λiv _=>n-(intOf iv).toNat)
  case atStart=>exact⟨0,_,bf _,rfl,BK.o,SK.o,OK.o,xh (λx hx=>by simp[ah]at hx;omega)⟩
  case round=>
   obtain⟨i,v',hi,rfl,B,S,O,F⟩:=hrel;obtain⟨VA,vc,rfl⟩:=ax S;have hltr:=B.lt
   by_cases h:i<n
   .obtain⟨ad,e,rfl,he,AT⟩:=(HH.o.below O).at i h;have HT:=xh (Ay false l i e he);obtain⟨q1,q2,q3,q4⟩:=HQ.o i e he;have KP:=xh (ui (w:=wr.alloc (.cells #[.string e.key,.string e.val,.int .i64 e.aQ] 111)) e q1 q2 q3 q4 (B.alloc _) (S.alloc _) (λhx=>(F.o _ hx).2 rfl) (by omega));have a0:=AT.c0;have a1:=AT.c1;have a2:=AT.c2;have OO:=xh O;have SZ:=xh (show w.heap.size<=w1.heap.size+1 from by omega);clear AT S B O he;go_wp2_with fail;refine KP.o.mono ?_
    rintro r w2 ⟨rfl,v2,B2,S2,o2,f2⟩;have F2:=xh (show ∀x∈ah v2,w.heap.size<=x/\x≠w1.heap.size+1 from λx hx=>(f2 x hx).elim (F.o x) (λh=>by rw[Ax]at h;have:=OO.o.size;omega));have O2:=xh ((OO.o.alloc OO.o.size (.cells #[.string e.key,.string e.val,.int .i64 e.aQ] 111)).trans (o2.aJ (by rw[Ax];have:=OO.o.size;omega) (λx hx=>by
     rcases aj.1 hx with rfl|hx
     .exact SZ.o
     .exact(F.o x hx).1)))
    rw[<-HT.o]at S2
    replace S2:=xh S2
    replace B2:=xh B2
    clear o2 f2;go_wp2_with fail;go_roundw
    case rel=>exact⟨i+1,v2,by omega,by go_num,B2.o,S2.o,O2.o,F2⟩
    case measure=>simp[intOf];omega
   .obtain rfl:i=n:=by omega
    have mM:=hl.o;rw[cr (by omega)]at S;have KO:=xh (Vq (l:=ir false l) (by rw[HL.o,mM];exact S) (by rw[HL.o];omega) HS.o);have b0:wr.cell? ⟨w1.heap.size+1,0,none⟩=some (.slice VA (i+1) vc):=B.ab (i:=0) rfl;have OO:=xh O;clear S B O mM;go_wp2_with fail;refine KO.o.mono ?_;rintro r w2 ⟨hx,dn⟩;have O2:=xh (aC OO.o dn);clear dn
    rcases hx with⟨h0,T,rfl,sT,rT⟩|⟨h0,rfl⟩
    .have HX:=xh (And.intro h0 (And.intro sT rT));clear h0 sT rT;go_wp2_with fail;go_ret2;exact⟨.inl ⟨HX.o.1,T,rfl,HX.o.2.1,HX.o.2.2⟩,O2.o⟩
    .have HX:=xh h0;clear h0;go_wp2_with fail;go_ret2;exact⟨.inr ⟨HX.o,rfl⟩,O2.o⟩
 .replace SK:=xh (SK.o [1])
  replace BK:=xh (BK.o [1])
  replace OK:=xh (OK.o [1])
  go_wp2_with fail;generalize hW2:((w1.alloc (.cells #[.string ⟨#[1]⟩] 9)).alloc (.cells #[.slice (some ⟨w1.heap.size,0,none⟩) 1 1] 123))=W2 at *;clear hW2 c0 c1
  go_loopw [20] (λiv wr=> ∃(i:Nat) (v':Value),i<=n/\iv=.int .i64 i/\aF wr (w1.heap.size+1) 123 #[v']/\aS wr 9 1 v' (i+1) (strs (ir true (l.take i)))/\Below w.heap.size w wr/\Hid (∀x∈ah v',w.heap.size<=x/\x≠w1.heap.size+1)) (λiv _=>n-(intOf iv).toNat)
  case atStart=>exact⟨0,_,bf _,rfl,BK.o,SK.o,OK.o,xh (λx hx=>by simp[ah]at hx;omega)⟩
  case round=>
   obtain⟨i,v',hi,rfl,B,S,O,F⟩:=hrel;obtain⟨VA,vc,rfl⟩:=ax S;have hltr:=B.lt
   by_cases h:i<n
   .obtain⟨ad,e,rfl,he,AT⟩:=(HH.o.below O).at i h;have HT:=xh (Ay true l i e he);obtain⟨q1,q2,q3,q4⟩:=HQ.o i e he;have KP:=xh (ui (w:=wr.alloc (.cells #[.string e.key,.string e.val,.int .i64 e.aQ] 111)) e q1 q2 q3 q4 (B.alloc _) (S.alloc _) (λhx=>(F.o _ hx).2 rfl) (by omega));have a0:=AT.c0;have a1:=AT.c1;have a2:=AT.c2;have OO:=xh O;have SZ:=xh (show w.heap.size<=w1.heap.size+1 from by omega);clear AT S B O he;go_wp2_with fail;refine KP.o.mono ?_
    rintro r w2 ⟨rfl,v2,B2,S2,o2,f2⟩;have F2:=xh (show ∀x∈ah v2,w.heap.size<=x/\x≠w1.heap.size+1 from λx hx=>(f2 x hx).elim (F.o x) (λh=>by rw[Ax]at h;have:=OO.o.size;omega));have O2:=xh ((OO.o.alloc OO.o.size (.cells #[.string e.key,.string e.val,.int .i64 e.aQ] 111)).trans (o2.aJ (by rw[Ax];have:=OO.o.size;omega) (λx hx=>by
     rcases aj.1 hx with rfl|hx
     .exact SZ.o
     .exact(F.o x hx).1)))
    rw[<-HT.o]at S2
    replace S2:=xh S2
    replace B2:=xh B2
    clear o2 f2;go_wp2_with fail;go_roundw
    case rel=>exact⟨i+1,v2,by omega,by go_num,B2.o,S2.o,O2.o,F2⟩
    case measure=>simp[intOf];omega
   .obtain rfl:i=n:=by omega
    have mM:=hl.o;rw[cr (by omega)]at S;have KO:=xh (Vq (l:=ir true l) (by rw[HL.o,mM];exact S) (by rw[HL.o];omega) HS.o);have b0:wr.cell? ⟨w1.heap.size+1,0,none⟩=some (.slice VA (i+1) vc):=B.ab (i:=0) rfl;have OO:=xh O;clear S B O mM;go_wp2_with fail;refine KO.o.mono ?_;rintro r w2 ⟨hx,dn⟩;have O2:=xh (aC OO.o dn);clear dn
    rcases hx with⟨h0,T,rfl,sT,rT⟩|⟨h0,rfl⟩
    .have HX:=xh (And.intro h0 (And.intro sT rT));clear h0 sT rT;go_wp2_with fail;go_ret2;exact⟨.inl ⟨HX.o.1,T,rfl,HX.o.2.1,HX.o.2.2⟩,O2.o⟩
    .have HX:=xh h0;clear h0;go_wp2_with fail;go_ret2;exact⟨.inr ⟨HX.o,rfl⟩,O2.o⟩
end Nd
namespace Nd
open Go.RowKit Sl
variable{w:World}{g n c:Nat}{leaf:Bool}{A:Option Addr}{tmps:Array Value}
theorem wh{fn:Func}{p q:Tmp}{ty tz:TypeId}(h:fn.results= #[.cell p ty,.cell q tz])(tmps:Array Value)(P:Program)(w:World):
  (results fn tmps).run P w=
   ((asAddr (tmps.getD p undef)).run P w).andThen λa w₁=>((loadVar ty a).run P w₁).andThen λv w₂=>((asAddr (tmps.getD q undef)).run P w₂).andThen λa w₁=>((loadVar tz a).run P w₁).andThen λu w₂=> .ok (.tuple #[v,u]) w₂:=by
 simp only[results,h];simp[Sem.run_bind,Result.andThen]
theorem iS{fn:Func}{p u:Tmp}(h:fn.results= #[.cell p 118,.tmp u])(hp:tmps.getD p undef=.pointer (some ⟨g,0,none⟩))(B:aF w g 118 #[.bool leaf,.slice A n c]):
  (results fn tmps).run prog w=.ok (.tuple #[bu leaf A n c,tmps.getD u undef]) w:=by
 have c0:=B.ab (i:=0) rfl;have c1:=B.ab (i:=1) rfl;rw[results_cell_tmp h,hp];clear h hp B;unfold bu;go_simp
theorem Mn{fn:Func}{p q:Tmp}{g':Nat}{leaf':Bool}{A':Option Addr}{n' c':Nat}(h:fn.results= #[.cell p 118,.cell q 118])(hp:tmps.getD p undef=.pointer (some ⟨g,0,none⟩))(hq:tmps.getD q undef=.pointer (some ⟨g',0,none⟩))(B:aF w g 118 #[.bool leaf,.slice A n c])(B':aF w g' 118 #[.bool leaf',.slice A' n' c']):
  (results fn tmps).run prog w=.ok (.tuple #[bu leaf A n c,bu leaf' A' n' c']) w:=by
 have c0:=B.ab (i:=0) rfl;have c1:=B.ab (i:=1) rfl;have d0:=B'.ab (i:=0) rfl;have d1:=B'.ab (i:=1) rfl;rw[wh h,hp,hq];clear h hp hq B B';unfold bu;go_simp
end Nd
end Go.Proofs.YtmonobkginiajaaGreat
