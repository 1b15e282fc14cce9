/- packed. -/
import Derived.Test.YtmonobkginiajaaGreatBs13
set_option linter.all false
set_option maxRecDepth 100000
set_option maxHeartbeats 8000000
namespace Go.Proofs.YtmonobkginiajaaGreat
open Go.Proofs.Tryz
namespace Sh
open Go.RowKit Pk Dk Pg
open Nd (E aD bu aN aW dL bA aY cq)
attribute [local go_sem ↓] Go.wp_at_zero Go.wp_at_succ
variable{fr pg n K:Nat}
theorem WH:jV []=List.replicate 64 0:=by unfold jV;simp
theorem Cr(n:Nat)(h1:2<=n)(hn:n<=4096):iG (eo (D.zero n) n).d n 1 0 [] []/\Twin (eo (D.zero n) n).d 0 1:=by
 have z:(D.zero n).down=false/\(D.zero n).bn=0:=⟨rfl,rfl⟩;have ok0:=oH n hn;obtain⟨w1,w2,w3⟩:=iB (d:=D.zero n) (n:=n) (k:=0) z.1 z.2 (by omega) fD;have ok1:=ok0.write ((0:Nat):Int) fD;have n1:=qT ok0 0 (by omega) fD w1;obtain⟨v1,v2,v3⟩:=iB (d:=((D.zero n).aA n ((0:Nat):Int) fD).1) (n:=n) (k:=1) w2 w3 (by omega) [];have n2:=qT ok1 1 (by omega) [] v1;obtain⟨s1,s2,s3,s4⟩:=nE v2 v3
 have hd:(eo (D.zero n) n).d=((((D.zero n).aA n ((0:Nat):Int) fD).1.aA n ((1:Nat):Int) []).1.eh).1:=rfl;have e0:sec (eo (D.zero n) n).d.now 0=fD:=by
  rw[hd,s4,n2 0 (by omega),if_neg (by omega),n1 0 (by omega),if_pos rfl];exact vy _ (Rt.ud 1 0 [] (by simp))
 have e1:sec (eo (D.zero n) n).d.now 1=List.replicate 64 0:=by
  rw[hd,s4,n2 1 (by omega),if_pos rfl,WH]
 have hdec:Rt.pU (List.replicate 64 0)<1:=by decide+kernel
 refine⟨⟨h1,TG,.inl rfl,e0,λ_=>?_,λi x hx=>by simp at hx,λj _ _=>by rw[hd];exact sK s1 j⟩,?_⟩
 .show Rt.pU (sec (eo (D.zero n) n).d.now 1)<1;rw[e1];exact hdec
 .unfold Twin;show(sec (eo (D.zero n) n).d.now 1).take 8=(sec (eo (D.zero n) n).d.now 1).drop 56/\Rt.pU (sec (eo (D.zero n) n).d.now 1)<1;rw[e1];exact⟨by simp,hdec⟩
theorem Jp(n:Nat)(h1:1<=eY n)(hn:n<=4096)(fT:(eo (D.zero n) n).d.Ok n):Good (eo (D.zero n) n) n/\(eo (D.zero n) n).bP n=St.start (eY n)/\(eo (D.zero n) n).d.calls<=10/\iG (eo (D.zero n) n).d n 1 0 [] []/\Twin (eo (D.zero n) n).d 0 1:=by
 obtain⟨g,e,hc⟩:=La n h1 hn fT;have hr:=Cr n (by unfold eY ct at h1;omega) hn;exact⟨g,e,hc,hr⟩
def QS.start(fr pg:Nat):QS:=⟨St.start pg,List.replicate fr Fr.nil,0⟩
def tx:Vw:=λ_=>([],3)
def wU:Vw:=jj tx 0 (bH true []).1
theorem WI(fr pg:Nat):Vi (QS.start fr pg):=by
 have hn:∀f∈(QS.start fr pg).l,f=Fr.nil:=λf hf=>ng hf;have hp:∀f∈(QS.start fr pg).l,¬0<=f.an:=λf hf=>by rw[hn f hf];show ¬(0:Int)<= -1;omega
 exact⟨λi j f g hi hj e h0=>absurd h0 (hp f (ay hi)),λf hf h0=>absurd h0 (hp f hf),λf hf h0=>absurd h0 (hp f hf),λf hf _=>by rw[hn f hf];rfl,λf hf h0=>absurd h0 (hp f hf)⟩
theorem Jq(H:Hq (QS.start fr pg) n K):Wp (QS.start fr pg) n K:=⟨H,WI fr pg,λf hf=>by rw[ng hf];rfl⟩
theorem Bv(pg:Nat)(j:Int):(St.start pg).aK j=([],3):=by
 unfold St.aK;have:(St.start pg).at j=none:=by unfold St.at St.start;split<;>simp
 rw[this]
theorem WJ(H:Hq (QS.start fr pg) n K):Rd (QS.start fr pg) tx tx 0 pg:=by
 refine⟨⟨n,K,Jq H⟩,λj _ h=>absurd h (by show ¬(3:Int)=0;decide),λj=>?_,λj=>?_,?_,Nat.le_refl _⟩
 .rcases fY (QS.start fr pg) j with ho|⟨k,f,hk,rfl,hp⟩
  .rw[eA ho];exact Bv pg j
  .rw[show f=Fr.nil from ng (ay hk)]at hp;exact absurd hp (by show ¬(0:Int)<= -1;omega)
 .show({(St.start pg)with now:=gl (St.start pg).bQ}:St).aK j=_;exact Bv pg j
 .show 0+(0+cB 0)<=0;decide
theorem lay0:(bH true []).2=0:=qD (v:=tx) (h:=0) (λh=>absurd rfl h) (by rw[nU];decide)
theorem Bw:jO=(bH true []).1:=rfl
theorem WK:Tree wU 0 []:=by
 have Ct:∀j,gm wU j=if j=0 then(true,[],0)else gm tx j:=λj=>by unfold wU;rw[gh lay0];rfl
 have OE:ao wU 0 0=[(0,0,[])]:=by unfold ao;rw[Ct 0,if_pos rfl]
 refine⟨⟨by rw[Ct 0,if_pos rfl],by rw[Ct 0,if_pos rfl];decide⟩,by unfold fA;rw[OE];rfl,by simp,by rw[OE];simp,λj hj=>?_⟩;rw[OE]
 by_cases h0:j=0
 .simp[h0]
 .unfold wU at hj;rw[l5 _ _ h0]at hj;exact absurd hj (by show ¬(3:Int)=0;decide)
theorem Nj(H:Hq (QS.start fr pg) n K)(hp:2<=pg):(QS.start fr pg).kq.2=0/\Rd (QS.start fr pg).kq.1 wU tx 1 pg/\Tree wU 0 []:=by
 have R:=WJ H;have hlen:=(wD lay0).2.2.1;have hT:=WK;have Rl:((QS.start fr pg).bJ jO).2=(0,0):=by
  show((St.start pg).bJ jO).2=_;unfold St.bJ;have hs:(St.start pg).slot=0:=rfl;have hf:(St.start pg).free≠0:=by
   show pg-(0+cB 0)-0≠0;have:cB 0=0:=by decide
   omega
  rw[if_neg (by rw[Bw,hlen];omega),if_neg (by rw[hs];omega)];exact jr (by rw[hs];rfl) rfl
 have hn:=R.new ⟨jO.toArray⟩ (by show jO.toArray.size<=232;rw[lV,Bw,hlen];exact Nat.le_refl _);have hd:(⟨jO.toArray⟩:ByteArray).data.toList=jO:=rfl;rw[hd]at hn;rw[Rl]at hn;have he:eO jO 232=(bH true []).1:=by
  rw[Bw];exact uj (b:=⟨(bH true []).1.toArray⟩) (by show(bH true []).1.toArray.size=_;rw[lV];exact hlen)
 rcases hn with⟨l,a1,a2,a3,a4⟩|⟨a1,_⟩
 .have hl:((l:Nat):Int)=0:=(congrArg Prod.fst a1).symm;rw[hl,he]at a4;have hpg:(QS.start fr pg).a.jK.length=0:=rfl;have hroot:(QS.start fr pg).xT=(((QS.start fr pg).bJ jO).1,0):=by
   unfold QS.xT;rw[if_pos hpg,Rl]
  unfold QS.kq;rw[hroot,if_neg (by simp)];have a4:Rd ((QS.start fr pg).bJ jO).1 wU tx 1 pg:=a4;obtain⟨b1,b2⟩:=a4.read 0;refine⟨?_,b1,hT⟩;show(((QS.start fr pg).bJ jO).1.bh 0).2.2.2=0
  rcases b2 with b2|⟨b2,b3⟩
  .rw[b2,(Ga hT.ok).1]
  .omega
 .exact absurd (congrArg Prod.snd a1) (by show ¬(0:Int)=11;decide)
def QS.begun(fr pg:Nat):QS:=(QS.start fr pg).kq.1.aE.1
theorem Bx(w:World)(fr pg:Nat)(f1:1<=fr)(f2:fr<=32)(p1:4<=pg)(p2:pg<=1000):
  Calls prog 12 #[.int .i64 (fr:Nat),.int .i64 (pg:Nat)] w λe w'=> ∃wb tb mb I F,e=.returned (lp wb)/\aF w' wb 38 #[dp I.L.b,pp I.pb,tp tb,lp mb,.slice none 0 0]/\aF w' mb 45 #[.slice none 0 0]/\TQ w' tb I F (QS.begun fr pg) (2+4*pg) 50/\
   Rd (QS.begun fr pg) wU wU 3 pg/\Below w.heap.size w w'/\(∀g∈wb::mb::tb::F,w.heap.size<=g):=by
 have n1:eY (2+4*pg)=pg:=by unfold eY ct;omega
 have e1:IntKind.i64.wrap (4*(pg:Int))=4*(pg:Int):=IntWalk.i64_in _ (by omega);have e2:IntKind.i64.wrap (2+4*(pg:Int))=((2+4*pg:Nat):Int):=by rw[show 2+4*(pg:Int)=((2+4*pg:Nat):Int) by omega];exact IntWalk.i64_in _ (by omega)
 have KD:=xh (EP (2+4*pg) w (by omega) (by omega));have KF:=xh (λ(W:World) (L:Dk.Loc) (hW:aX W L (2+4*pg) (D.zero (2+4*pg)))=>Kr hW (by omega) rfl rfl (by show(0:Int)<=1000;omega));have KP:=xh (λ(W:World) (b:Nat)=>TH (w:=W) b fr f1 f2)
 have HQ:=xh (show ∀(W:World) (x:X) (pq:Nat) (v:Value),At W x (2+4*pg) (eo (D.zero (2+4*pg)) (2+4*pg))->aF W pq 143 #[sp x.b,v,.int .i64 0]->aS W 167 5 v fr (Fc (List.replicate fr Fr.nil))->(∀g∈x.fp,w.heap.size<=g)->w.heap.size<=pq->(∀g∈ah v,w.heap.size<=g)->pq∉x.fp->(∀g∈ah v,g∉x.fp)->
   ∃F,PQ W ⟨pq,x.b,x.L⟩ F (QS.start fr pg) (2+4*pg) 1/\(∀g∈F,w.heap.size<=g)/\Hq (QS.start fr pg) (2+4*pg) 1 from λW x pq v A B S h1 h2 h3 h4 h5=>by
  obtain⟨g,cp,rest,rfl,BB,_⟩:=S.form (by omega) (by omega);obtain⟨gd,e,hc,hr,_⟩:=Jp (2+4*pg) (by omega) (by omega) A.hd.ok;rw[n1]at e;have z:Zc (eo (D.zero (2+4*pg)) (2+4*pg)) (2+4*pg) (St.start pg) 1:=⟨gd,hr,⟨0,by rw[pX,e]⟩,by omega,by show(1:Int)<=(1:Nat);omega⟩
  have H:Hq (QS.start fr pg) (2+4*pg) 1:=⟨⟨_,z⟩,λf hf=>by rw[ng hf];exact Fb.nil,by show 1<=(List.replicate fr Fr.nil).length;rw[ev];exact f1,by show(List.replicate fr Fr.nil).length<=32;rw[ev];exact f2,by show 0<(List.replicate fr Fr.nil).length;rw[ev];exact f1,by show([]:List rN).length<=512;simp⟩;refine⟨_,⟨⟨x,pq,g,cp⟩,rfl,rfl,rfl,rfl,⟨_,?_,z⟩,Jq H⟩,?_,H⟩
  .refine⟨?_,?_,A,h4,h5 g (by simp[ah]),H.l1,H.l2,H.lh⟩
   .show aF W pq _ #[_,.slice (some ⟨g,0,none⟩) (List.replicate fr Fr.nil).length cp,_];rw[ev];exact B
   .show aS W _ 5 (.slice (some ⟨g,0,none⟩) (List.replicate fr Fr.nil).length cp) (List.replicate fr Fr.nil).length _;rw[ev];exact S
  .intro y hy;simp only[Y.fp,aj]at hy
   rcases hy with rfl|rfl|hy
   .exact h2
   .exact h3 _ (by simp[ah])
   .exact h1 y hy)
 have HP4:=xh p1;clear f1 f2 p1;unfold dp pp sp tp lp at *;go_enter func12,ntmps12;go_wp2_with fail;refine KD.o.mono ?_;rintro e w1 ⟨L,rfl,D1,bg,hL⟩;have O1:=xh bg;have D1:=xh D1;have HL:=xh hL;clear bg hL;go_wp2_with fail;refine(KF.o w1 L D1.o).mono ?_;rintro e w2 ⟨x,hxL,rfl,A2,o2,fx⟩
 have H2:=xh (show At w2 x (2+4*pg) (eo (D.zero (2+4*pg)) (2+4*pg))/\Below w.heap.size w w2/\∀g∈x.fp,w.heap.size<=g from⟨A2,O1.o.trans (o2.aJ O1.o.size HL.o),λg hg=>(fx g hg).elim (HL.o g) (λh=>by have:=O1.o.size;omega)⟩);have HXL:=xh hxL;clear A2 o2 fx hxL;go_wp2_with fail;refine(KP.o w2 x.b).mono ?_;rintro e w3 ⟨pq,v,rfl,B3,S3,gr,hp3,hf3⟩
 obtain⟨F3,P3,f3,hq3⟩:=HQ.o w3 x pq v (H2.o.1.below gr) B3 S3 H2.o.2.2 (by have:=H2.o.2.1.size;omega) (λg hg=>by have:=hf3 g hg;have:=H2.o.2.1.size;omega) (λhF=>by have:=H2.o.1.lt _ hF;omega) (λg hg hF=>by have:=H2.o.1.lt _ hF;have:=hf3 g hg;omega);have hb3':=aC H2.o.2.1 gr;have KO:=DE P3 (by omega);obtain⟨q1e,q1r,q1t⟩:=Nj hq3 (by have:=HP4.o;omega);rw[q1e]at KO;have KO:=xh KO
 have H3:=xh (show Below w.heap.size w w3/\(∀g∈F3,w.heap.size<=g)from⟨hb3',f3⟩);have HR:=xh q1r;clear B3 S3 gr hp3 hf3 P3 f3 hq3 hb3' q1e q1r q1t;unfold pp at KO;go_wp2_with fail;refine KO.o.mono ?_;rintro e w4 ⟨v4,rfl,F4,o4,f4,P4,z4,z5⟩;obtain⟨tb,rfl,htb,T4⟩:=z5 rfl;have KC:=xy T4.2 (by omega);have uQ:=HR.o.j0 ⟨_,_,(by obtain⟨y,_,_,_,_,_,W⟩:=T4.2;exact W),by omega⟩;obtain⟨q2,kh⟩:∃q2,(QS.start fr pg).kq.1.aE=q2:=⟨_,rfl⟩
 have hbq:QS.begun fr pg=q2.1:=by unfold QS.begun;rw[kh]
 rw[kh]at KC uQ;have HBQ:=xh hbq;have NN:q2.2=0/\Rd q2.1 wU wU 3 pg:=by
  rcases uQ with⟨c1,c2⟩|⟨c1,c2,c3⟩
  .exact⟨c1,c2.le (by decide)⟩
  .have:cB 1=1:=by decide
   have:=HP4.o;omega
 rw[NN.1]at KC;have vH:=xh NN.2;have KC:=xh KC;have H4:=xh (show ag F3 w3 w4/\(∀g∈F4,g∈F3\/w3.heap.size<=g)/\w3.heap.size<=tb/\TQ w4 tb ⟨pq,x.b,x.L⟩ F4 (QS.start fr pg).kq.1 (2+4*pg) (1+2)from⟨o4,f4,htb,T4⟩);clear uQ NN o4 f4 P4 z4 htb T4 hbq;unfold pp at KC;unfold tp;go_wp2_with fail;refine KC.o.mono ?_;rintro e w5 ⟨rfl,F5,P5,o5,f5⟩;have B6:=aF.new w5 45 #[.slice none 0 0]
 have B7:=aF.new (w5.alloc (.cells #[.slice none 0 0] 45)) 38 #[.pointer (some ⟨L.b,0,none⟩),.pointer (some ⟨pq,0,none⟩),.pointer (some ⟨tb,0,none⟩),.pointer (some ⟨w5.heap.size,0,none⟩),.slice none 0 0];have fi:=ae (ae (Below.refl w5.heap.size w5) (.cells #[.slice none 0 0] 45)) (.cells #[.pointer (some ⟨L.b,0,none⟩),.pointer (some ⟨pq,0,none⟩),.pointer (some ⟨tb,0,none⟩),.pointer (some ⟨w5.heap.size,0,none⟩),.slice none 0 0] 38)
 have B6':=B6.alloc (.cells #[.pointer (some ⟨L.b,0,none⟩),.pointer (some ⟨pq,0,none⟩),.pointer (some ⟨tb,0,none⟩),.pointer (some ⟨w5.heap.size,0,none⟩),.slice none 0 0] 38);have s4:=H4.o.1.size;have s5:=o5.size;have s3:=H3.o.1.size;have f4':∀g∈F4,w.heap.size<=g:=λg hg=>(H4.o.2.1 g hg).elim (H3.o.2 g) (λh=>by omega);have f5':∀g∈F5,w.heap.size<=g:=λg hg=>(f5 g hg).elim (f4' g) (λh=>by omega)
 have oF:Below w.heap.size w w5:=(H3.o.1.trans (H4.o.1.aJ s3 H3.o.2)).trans (o5.aJ (by omega) f4');have T5:TQ w5 tb ⟨pq,x.b,x.L⟩ F5 q2.1 (2+4*pg) 50:=⟨H4.o.2.2.2.1.only o5 H4.o.2.2.2.ne,P5.le (by omega)⟩;have H9:=xh (And.intro B7 (And.intro B6' (And.intro (T5.below fi) (And.intro (aC oF fi) (show ∀g∈(w5.alloc (.cells #[.slice none 0 0] 45)).heap.size::w5.heap.size::tb::F5,w.heap.size<=g from λg hg=>by
  simp only[aj]at hg
  rcases hg with rfl|rfl|rfl|hg
  .simp;omega
  .omega
  .have:=H4.o.2.2.1;omega
  .exact f5' g hg)))))
 have HLX:=HXL.o;clear B6 B7 B6' fi f4' f5' oF T5 P5 o5 f5 s3 s4 s5;go_wp2_with fail;go_ret;rw[HBQ.o];refine⟨_,_,_,⟨pq,x.b,x.L⟩,F5,by first|rfl|simp,?_,H9.o.2.1,H9.o.2.2.1,vH.o,H9.o.2.2.2.1,H9.o.2.2.2.2⟩;have h9:=H9.o.1;show aF _ _ _ #[.pointer (some ⟨x.L.b,0,none⟩),_,_,_,_];rw[HLX];exact h9
end Sh
namespace Sh
open Go.RowKit Pk Dk Pg
variable{v v':Vw}{H k k' x y u:Nat}{l:List PR}{C:List Int}{M:List MT}{q:QS}
def WL(i:Nat):Nat:=if i<=15 then 3 ^ i*2 ^ (15-i)else 0
theorem WM:Jc WL 0:=λi=>by
 have h73:73<=yO i:=by unfold yO;split<;>omega
 have hm:=EE (WL i) h73;refine aq ?_ hm;unfold WL
 by_cases h:i+1<=15
 .rw[if_pos h,if_pos (by omega),show 15-i=(15-(i+1))+1 by omega,Nat.pow_succ,Nat.pow_succ];generalize 3 ^ i=a;generalize 2 ^ (15-(i+1))=b;have e1:a*3*b=3*(a*b):=by rw[mQ a 3,ED]
  have e2:a*(b*2)=2*(a*b):=by rw[<-ED,mQ]
  omega
 .rw[if_neg h];omega
theorem wtD_0:WL 0=32768:=by decide+kernel
theorem wtD_15:WL 15=14348907:=by decide+kernel
def wtC(i:Nat):Nat:=if i=0 then 85 else 73
theorem wtC_ok:Jc wtC 3358:=λi=>by
 unfold wtC yO
 by_cases h:i=0
 .rw[if_neg (by omega),if_pos h,if_pos h];omega
 .rw[if_neg (by omega),if_neg h,if_neg h];omega
theorem RG(H:Nat):3358*2-yO H*wtC H=if H=0 then 511 else 0:=by
 unfold wtC yO
 by_cases h:H=0
 .rw[if_pos h,if_pos h,if_pos h]
 .rw[if_neg h,if_neg h,if_neg h]
theorem RH{p:Int}(h:jP v (H+1) p):2<=(ao v (H+1) p).length:=by
 have hn:=h.2.2.2.ne;rw[iw,fo];show 2<=(aU v H (gm v p).2.1).length+1
 match (gm v p).2.1,hn with
 |e::l,_=>rw[cO,aO,iw,fo];omega
def TL(v:Vw)(l:List PR)(k:Nat)(C:List Int)(x y:Nat):Prop:= ∃H M,Tree v H M/\jx M=l/\H<=15/\dQ WL (ao v H 0)<=k*2588672/\(l.length<=k/\∀x∈l,x.1.size<=32)/\
 (∀j∈iW M,(v j).1.length=232->j∈C)/\(iW M).length<=5*x/\(ao v H 0).length*3358+dQ wtC (ao v H 0)<=3358+(if H=0 then 0 else 511)+85*(39*x+79*y)
theorem TL.le(h:TL v l k C x y)(hk:k<=k'):TL v l k' C x y:=by
 obtain⟨H,M,a,b,c,d,e⟩:=h;exact⟨H,M,a,b,c,aq d (EE _ hk),⟨by omega,e.1.2⟩,e.2⟩
def TI(q:QS)(l o:List PR)(mm k:Nat):Prop:= ∃v vo u C xo yo x y,Rd q v vo u mm/\TL v l k C (xo+x) (yo+y)/\TL vo o k [] xo yo/\C.length<=5*x/\xo+x+(yo+y)<=k/\(xo+yo=0\/xo+x+(yo+y)+1<=k)
def TJ(q:QS)(o:List PR)(mm k:Nat):Prop:= ∃v vo u xo yo,Rd q v vo u mm/\TL vo o k [] xo yo/\xo+yo<=k/\(xo+yo=0\/xo+yo+1<=k)
def Gk(v:Vw):Vw:=λj=>if(v j).2=0 then((v j).1.take 232++[0],0)else v j
theorem untV_ne{j:Int}(h0:(v j).2=0)(h:((v j).1.take 232).length=232):(Gk v j).1.length≠232:=by
 unfold Gk;rw[if_pos h0];show((v j).1.take 232++[0]).length≠232;rw[aO,h];decide
def OU(v:Vw):Prop:= ∀j,(v j).2=0->((v j).1.take 232).length=232
theorem yQ(h:OU v)(j:Int):cut (Gk v j)=cut (v j):=by
 unfold Gk cut
 by_cases h0:(v j).2=0
 .rw[if_pos h0];have:=h j h0;refine jr ?_ h0.symm;show((v j).1.take 232++[0]).take 232=_;rw[kX (by omega),cr (by omega)]
 .rw[if_neg h0]
theorem wV(h:∀j,cut (v' j)=cut (v j))(p:Int):gm v' p=gm v p/\Rn v' p=Rn v p/\(v' p).2=(v p).2:=by
 have h1:(cut (v' p)).1=(cut (v p)).1:=by rw[h p]
 have h2:(cut (v' p)).2=(cut (v p)).2:=by rw[h p]
 have h1:(v' p).1.take 232=(v p).1.take 232:=h1;have h2:(v' p).2=(v p).2:=h2;refine⟨?_,?_,h2⟩
 .unfold gm;rw[h1,h2]
 .unfold Rn;rw[h1,h2]
theorem rG(h:∀j,cut (v' j)=cut (v j)):∀H p,ao v' H p=ao v H p
 |0,p=>by unfold ao;rw[(wV h p).1]
 |H+1,p=>by
  unfold ao;rw[(wV h p).1,show(λe:Nd.E=>ao v' H e.aQ)=λe=>ao v H e.aQ from funext λe=>rG h H e.aQ]
theorem WN(h:∀j,cut (v' j)=cut (v j)):∀H p,jP v H p->jP v' H p
 |0,p,ho=>by unfold jP at ho ⊢;rw[(wV h p).1];exact ho
 |H+1,p,ho=>by
  unfold jP at ho ⊢;rw[(wV h p).1];have he:fA v' H=fA v H:=funext λp=>by unfold fA;rw[rG h]
  rw[he];obtain⟨a,b,c,d⟩:=ho;exact⟨a,b,c,d.ne,λe he=>⟨WN h H _ (d.c e he).1,(d.c e he).2⟩,d.lo,d.hi⟩
theorem WO(h:∀j,cut (v' j)=cut (v j)):∀{L:List Int} {p:Int} {b:List UInt8},JG v p L b->JG v' p L b
 |[],_,_,hc=>hc
 |q::L,p,b,hc=>by
  obtain⟨e,nx,pc,b',h1,h2,h3⟩:=hc;exact⟨e,nx,pc,b',by rw[(wV h q).2.1];exact h1,h2,WO h h3⟩
theorem Tree.cut(h:∀j,cut (v' j)=cut (v j))(T:Tree v H M):Tree v' H M:=by
 have hn:=rG h H 0;refine⟨WN h H 0 T.ok,?_,λm hm=>?_,by rw[hn];exact T.BR,λj hj=>by rw[hn];exact T.all j (by rw[<-(wV h j).2.2];exact hj)⟩
 .unfold fA;rw[hn];exact T.en
 .rcases T.va m hm with h1|⟨a,b,z,c,d,f,g,i,j⟩
  .exact .inl h1
  .exact .inr ⟨a,b,z,c,d,f,g,WO h i,j⟩
theorem Rd.unt{m:Nat}(R:Rd q v v u m)(h:∀j,¬JF q j):Rd q (Gk v) (Gk v) u m/\OU v:=by
 have hf:OU v:=λj hj=>R.len hj;exact⟨⟨R.w,λj hj=>absurd hj (h j),λj=>(R.v j).trans (yQ hf j).symm,λj=>(R.o j).trans (yQ hf j).symm,R.u,R.m⟩,hf⟩
theorem TL.unt(h:TL v l k C x y)(hf:OU v):TL (Gk v) l k [] x y:=by
 obtain⟨H,M,T,e,hH,hp,hl,ht,Uh,hc⟩:=h;have hn:=rG (yQ hf) H 0;exact⟨H,M,T.cut (yQ hf),e,hH,by rw[hn];exact hp,hl,λj hj h=>absurd h (untV_ne (T.Bk j hj) (hf j (T.Bk j hj))),Uh,by rw[hn];exact hc⟩
theorem filt2{α:Type}{p r:α->Bool}(h:∀x,p x=true->r x=false):∀l:List α,(l.filter p).length+(l.filter r).length<=l.length
 |[]=>Nat.le_refl _
 |x::l=>by
  have ih:=filt2 h l;rw[jQ,jQ]
  by_cases hp:p x=true
  .rw[if_pos hp,h x hp,if_neg (by simp)];simp only[fo];omega
  .rw[if_neg hp]
   split<;>simp only[fo]<;>omega
theorem Jr(l:List PR)(key:ByteArray):(Gg l key).length+(qG l key).length<=l.length:=filt2 (λx hx=>decide_eq_false λh=>jw (iU (of_decide_eq_true hx) h)) l
section
variable{q:QS}{l o:List PR}{mm k:Nat}
theorem TI.j(h:TI q l o mm k):TJ q o mm k:=by
 obtain⟨v,vo,u,C,xo,yo,x,y,R,_,To,_,hk⟩:=h;exact⟨v,vo,u,xo,yo,R,To,by omega,by omega⟩
theorem TJ.le(h:TJ q o mm k)(hk:k<=k'):TJ q o mm k':=by
 obtain⟨v,vo,u,xo,yo,R,To,hx⟩:=h;exact⟨v,vo,u,xo,yo,R,To.le hk,by omega,by omega⟩
theorem TI.le(h:TI q l o mm k)(hk:k<=k'):TI q l o mm k':=by
 obtain⟨v,vo,u,C,xo,yo,x,y,R,Tl,To,hC,hx⟩:=h;exact⟨v,vo,u,C,xo,yo,x,y,R,Tl.le hk,To.le hk,hC,by omega,by omega⟩
theorem TI.set(h:TI q l o mm k)(key value:ByteArray)(hk:key.size<=32)(hv:value.size<=1024)(hn:k<100):
  ((q.iD key value).2=11/\TJ (q.iD key value).1 o mm k)\/((q.iD key value).2=0/\TI (q.iD key value).1 (D0 l key value) o mm (k+1)):=by
 obtain⟨v,vo,u,C,xo,yo,x,y,R,⟨H,M,T,rfl,hH,hp,hl,ht,Uh,hc⟩,To,hC,hx⟩:=h
 rcases D4 R T hH key value hk hv with⟨a,v',u',b,_⟩|⟨a,v',H',M',new,A,C',B,hh,c,b,S,hm⟩
 .exact .inl ⟨a,v',vo,u',xo,yo,b,To,by omega,by omega⟩
 .have p1:=S.Gv WL 0 WM;rw[wtD_0,oo,oo,Nat.zero_sub,show(if H'=H then 0 else 0)=0 by split<;>rfl]at p1;have p3:=S.Gv wtC 3358 wtC_ok;have h0:wtC 0=85:=rfl;rw[h0,RG]at p3;obtain⟨L,hLc,hL⟩:=S.kp;have hlen:=S.len;have RU:(iW M').length<=L.length+(iW M).length:=by
   rw[<-aO];exact ly _ _ (dM.1 S.t.BR).2.1 λj hj=>(hL j hj).elim (bT _) (λh=>bC _ h.1)
  have key2:∀x1 y1,x1+y1=1->c<=5*x1->key.size+(if value.size<=40 then value.size else 0)+7<=39*x1+79*y1->TL v' (D0 (jx M) key value) (k+1) (L++C) (xo+(x+x1)) (yo+(y+y1)):=λx1 y1 h1 h2 h3=>by
   refine⟨H',M',S.t,hm,?_,?_,⟨?_,?_⟩,λj hj h=>?_,by omega,?_⟩
   .rcases S.h with e|⟨e,f⟩
    .omega
    .by_cases h15:H=15
     .have p2:=f WL 0 WM;rw[h15,wtD_15,wtD_0,show yO 15=92 from rfl]at p2;rw[h15]at hp;have:(if value.size<=40 then value.size else 0)<=40:=by split<;>omega
      omega
     .omega
   .have:(if value.size<=40 then value.size else 0)<=40:=by split<;>omega
    omega
   .have:=Jr (jx M) key;unfold D0;simp only[aO,fo];omega
   .intro x hx;unfold D0 at hx
    rcases aB.1 hx with hx|hx
    .exact hl.2 x (ij.1 hx).1
    .rcases aj.1 hx with rfl|hx
     .exact hk
     .exact hl.2 x (ij.1 hx).1
   .rcases hL j hj with h1|⟨h1,h2⟩
    .exact bT _ h1
    .exact bC _ (ht j h1 (by rw[<-h2];exact h))
   .rw[hlen]
    rcases S.h with e|⟨e,_⟩
    .rw[if_pos e]at p3;have e2:(if H'=0 then 0 else 511)=if H=0 then 0 else 511:=by rw[e]
     rw[e2];omega
    .rw[if_neg (show ¬H'=H by omega)]at p3;rw[if_neg (show ¬H'=0 by omega)]
     by_cases h00:H=0
     .rw[if_pos h00]at p3 hc;omega
     .rw[if_neg h00]at p3 hc;omega
  refine .inr ⟨a,?_⟩
  by_cases hv4:value.size<=40
  .have NN:=S.c.2 hv4;exact⟨v',vo,u+new,L++C,xo,yo,x+0,y+1,b,key2 0 1 (by omega) (by omega) (by rw[if_pos hv4];omega),To.le (by omega),by rw[aO];omega,by omega,by omega⟩
  .have NN:=S.c.1;exact⟨v',vo,u+new,L++C,xo,yo,x+1,y+0,b,key2 1 0 (by omega) (by omega) (by rw[if_neg hv4];omega),To.le (by omega),by rw[aO];omega,by omega,by omega⟩
theorem TL.less{l':List PR}{H':Nat}{M':List MT}(T:Tree v H M)(T':Tree v' H' M')(hl:jx M'=l')(hH:H<=15)(hp:dQ WL (ao v H 0)<=k*2588672)(ll:l'.length<=k/\∀x∈l',x.1.size<=32)
 (ht:∀j∈iW M,(v j).1.length=232->j∈C)(Uh:(iW M).length<=5*x)(hc:(ao v H 0).length*3358+dQ wtC (ao v H 0)<=3358+(if H=0 then 0 else 511)+85*(39*x+79*y))
 (p:∀wt,dQ wt (ao v' H' 0)<=dQ wt (ao v H 0))(hh:H'<=H)(kp:∀j∈iW M',j∈iW M/\v' j=v j)(len:(ao v' H' 0).length<=(ao v H 0).length):TL v' l' k C x y:=by
 refine⟨H',M',T',hl,by omega,aq (p WL) hp,ll,λj hj h=>?_,?_,?_⟩
 .obtain⟨k1,k2⟩:=kp j hj;exact ht j k1 (by rw[<-k2];exact h)
 .exact aq (ly _ _ (dM.1 T'.BR).2.1 λj hj=>(kp j hj).1) Uh
 .have:=p wtC
  by_cases h0:H'=0
  .subst h0;rw[if_pos rfl];have h1:(ao v' 0 0).length=1:=rfl;rw[h1]
   by_cases h2:H=0
   .rw[if_pos h2]at hc;omega
   .rw[if_neg h2]at hc;obtain⟨H2,rfl⟩:∃H2,H=H2+1:=⟨H-1,by omega⟩;have:=RH T.ok;omega
  .rw[if_neg h0];rw[if_neg (by omega)]at hc;omega
theorem TI.del(h:TI q l o mm k)(key:ByteArray):
  ((q.iT key).2=11/\TJ (q.iT key).1 o mm k)\/((q.iT key).2=9/\DY l key=[]/\TI (q.iT key).1 l o mm k)\/((q.iT key).2=0/\DY l key≠[]/\TI (q.iT key).1 (OT l key) o mm k):=by
 obtain⟨v,vo,u,C,xo,yo,x,y,R,⟨H,M,T,rfl,hH,hp,hl,ht,Uh,hc⟩,To,hC,hx⟩:=h
 rcases D8 R T hH key with⟨a,_,v',b⟩|⟨a,b,c⟩|⟨a,c,v',H',M',b,t,m,p,hh,kp,len⟩
 .exact .inl ⟨a,v',vo,u,xo,yo,b,To,by omega,by omega⟩
 .exact .inr (.inl ⟨a,c,v,vo,u,C,xo,yo,x,y,b,⟨H,M,T,rfl,hH,hp,hl,ht,Uh,hc⟩,To,hC,hx⟩)
 .refine .inr (.inr ⟨a,c,v',vo,u,C,xo,yo,x,y,b,TL.less T t m hH hp ⟨?_,λx hx=>?_⟩ ht Uh hc p hh kp len,To,hC,hx⟩)
  .have:=Jr (jx M) key;unfold OT;rw[aO];omega
  .unfold OT at hx;exact(aB.1 hx).elim (λh=>hl.2 x (ij.1 h).1) (λh=>hl.2 x (ij.1 h).1)
theorem TI.clear(h:TI q l o mm k)(fr az:ByteArray):
  ((q.gV fr az).2.2=11/\TJ (q.gV fr az).1 o mm k)\/((q.gV fr az).2=((((l.filter (ya fr az)).length:Nat):Int),0)/\TI (q.gV fr az).1 (l.filter λx=> !ya fr az x) o mm k):=by
 obtain⟨v,vo,u,C,xo,yo,x,y,R,⟨H,M,T,rfl,hH,hp,hl,ht,Uh,hc⟩,To,hC,hx⟩:=h
 rcases Nb R T hH fr az with⟨a,_,v',b⟩|⟨a,v',H',M',b,P⟩
 .exact .inl ⟨a,v',vo,u,xo,yo,b,To,by omega,by omega⟩
 .exact .inr ⟨a,v',vo,u,C,xo,yo,x,y,b,TL.less T P.t P.m hH hp ⟨aq (El ..) hl.1,λx hx=>hl.2 x (ij.1 hx).1⟩ ht Uh hc P.Gv P.h P.kp P.len,To,hC,hx⟩
theorem TI.j0(h:TI q l o mm k)(hK:∃n K,Wp q n K/\K<=999999999000):(q.aE.2=0/\TI q.aE.1 l l mm (k+1))\/(q.aE.2=11/\TJ q.aE.1 o mm k):=by
 obtain⟨v,vo,u,C,xo,yo,x,y,R,Tl,To,hC,hx⟩:=h
 rcases R.j0 hK with⟨a,b⟩|⟨a,b,_⟩
 .left;obtain⟨n,K,w,_⟩:=hK;obtain⟨c1,c2⟩:=Rd.unt b ((A0 w).2 a);have hu:=Tl.unt c2;exact⟨a,Gk v,Gk v,_,[],xo+x,yo+y,0,0,c1,hu.le (by omega),hu.le (by omega),Nat.le_refl _,by omega,by omega⟩
 .exact .inr ⟨a,v,vo,u,xo,yo,b,To,by omega,by omega⟩
theorem TI.xw(h:TI q l o mm k)(i:Int):TI (q.eE i).1 l o mm k/\((q.eE i).2=0\/(q.eE i).2=3\/(q.eE i).2=11):=by
 obtain⟨v,vo,u,C,xo,yo,x,y,R,Tl,hx⟩:=h;obtain⟨a,b⟩:=R.xw i;exact⟨⟨v,vo,u,C,xo,yo,x,y,a,Tl,hx⟩,b⟩
theorem TI.get(h:TI q l o mm k)(key:ByteArray):TI (q.nu key).1 l o mm k/\((q.nu key).2.2=11\/(q.nu key).2=Jh (DY l key)):=by
 obtain⟨v,vo,u,C,xo,yo,x,y,R,⟨H,M,T,rfl,hH,hr⟩,hx⟩:=h;obtain⟨a,b⟩:=Bt R T hH key;exact⟨⟨v,vo,u,C,xo,yo,x,y,a,⟨H,M,T,rfl,hH,hr⟩,hx⟩,b.imp (·.1) id⟩
theorem TI.scan(h:TI q l o mm k)(fr az:ByteArray)(n:Int):TI (q.kg fr az n).1 l o mm k/\((q.kg fr az n).2.2=11\/(q.kg fr az n).2=((l.filter (ya fr az)).take n.toNat,0)):=by
 obtain⟨v,vo,u,C,xo,yo,x,y,R,⟨H,M,T,rfl,hH,hr⟩,hx⟩:=h;obtain⟨a,b⟩:=DT R T hH fr az n;exact⟨⟨v,vo,u,C,xo,yo,x,y,a,⟨H,M,T,rfl,hH,hr⟩,hx⟩,b.imp (·.1) id⟩
theorem TI.last(h:TI q l o mm k)(fr az:ByteArray):TI (q.lJ fr az).1 l o mm k/\((q.lJ fr az).2.2=11\/(q.lJ fr az).2=match (l.filter (ya fr az)).getLast? with|none=>((⟨#[]⟩,⟨#[]⟩),9)|some x=>(x,0)):=by
 obtain⟨v,vo,u,C,xo,yo,x,y,R,⟨H,M,T,rfl,hH,hr⟩,hx⟩:=h;obtain⟨a,b⟩:=RE R T hH fr az;exact⟨⟨v,vo,u,C,xo,yo,x,y,a,⟨H,M,T,rfl,hH,hr⟩,hx⟩,b.imp (·.1) id⟩
theorem TJ.back(h:TJ q o mm k):q.bY.kq.2=0/\TI q.bY.kq.1 o o mm k:=by
 obtain⟨v,vo,u,xo,yo,R,To,hx⟩:=h;have To2:=To;obtain⟨H,M,T,e,hH,hr⟩:=To;obtain⟨u',a,b⟩:=Ng R T;exact⟨b,vo,vo,u',[],xo,yo,0,0,a,To2,To2,Nat.le_refl _,hx.1,hx.2⟩
theorem TI.sorted(h:TI q l o mm k):l.Pairwise (λa b=>gq a.1 b.1)/\l.length<=k:=by
 obtain⟨v,vo,u,C,xo,yo,x,y,R,⟨H,M,T,rfl,hH,hp,hl,hr⟩,hx⟩:=h;exact⟨T.keys,hl.1⟩
end
theorem WQ:dQ WL (ao wU 0 0)<=0/\dQ wtC (ao wU 0 0)<=0:=by
 have Ct:gm wU 0=(true,[],0):=by unfold wU;rw[gh lay0,if_pos rfl];rfl
 unfold ao;rw[Ct];decide
theorem TI.start{mm:Nat}(R:Rd q wU wU u mm)(hT:Tree wU 0 []):TI q [] [] mm 0:=by
 have t:TL wU [] 0 [] 0 0:=⟨0,[],hT,rfl,by omega,by have:=WQ.1;omega,by simp,by simp,by simp,by have:=WQ.2;show 1*3358+_<=_;omega⟩;exact⟨wU,wU,u,[],0,0,0,0,R,t,t,Nat.le_refl _,Nat.le_refl _,.inl rfl⟩
theorem rH(key:ByteArray):∀l:List PR,l.Pairwise (λa b=>gq a.1 b.1)->
  l.take (pk l key)=Gg l key/\l.drop (if tE l key=true then pk l key+1 else pk l key)=qG l key/\(tE l key=true↔DY l key≠[])/\qH l key=Jh (DY l key)
 |[],_=>⟨rfl,by simp[qG],by simp[tE,DY],by simp[qH,tE,DY,Jh]⟩
 |x::l,hs=>by
  obtain⟨h1,h2⟩:=dW.1 hs
  by_cases hx:gq x.1 key
  .obtain⟨a,b,c,d⟩:=rH key l h2;have e1:pk (x::l) key=pk l key+1:=by show(if gq x.1 key then _ else _)=_;rw[if_pos hx]
   have e2:tE (x::l) key=tE l key:=by unfold tE;rw[e1,vf]
   have e3:DY (x::l) key=DY l key:=by unfold DY;rw[jQ,if_neg (by simpa using tw hx)]
   refine⟨?_,?_,by rw[e2,e3];exact c,?_⟩
   .rw[e1,n9,a];unfold Gg;rw[jQ,if_pos (by simpa using hx)]
   .have e4:(if tE l key=true then pk l key+1+1 else pk l key+1)=(if tE l key=true then pk l key+1 else pk l key)+1:=by split<;>rfl
    rw[e2,e1,e4,Ef,b];unfold qG;rw[jQ,if_neg (by simpa using λh=>jw (iU hx h))]
   .rw[e3,<-d];unfold qH;rw[e2,e1,vf]
  .have e1:pk (x::l) key=0:=by show(if gq x.1 key then _ else _)=_;rw[if_neg hx]
   have hy:∀y∈l,gq key y.1:=λy hy=>iV (mI hx) (h1 y hy);have e2:tE (x::l) key=decide (x.1=key):=by unfold tE;rw[e1];rfl
   have l1:Gg (x::l) key=[]:=by
    unfold Gg;refine filter_none λy hm=>decide_eq_false ?_
    rcases aj.1 hm with rfl|hm
    .exact hx
    .exact λh=>jw (iU h (hy y hm))
   have l2:qG l key=l:=filter_all λy hm=>decide_eq_true (hy y hm);have l3:DY l key=[]:=filter_none λy hm=>decide_eq_false λe=>tw (hy y hm) e.symm;refine⟨by rw[e1,l1];rfl,?_⟩
   by_cases hk:x.1=key
   .have e3:DY (x::l) key=[x]:=by
     have l3':=l3;unfold DY at l3' ⊢;rw[jQ,if_pos (by simpa using hk),l3']
    rw[e1,e2,e3,decide_eq_true hk,if_pos rfl];refine⟨?_,by simp,?_⟩
    .show l=_;unfold qG;rw[jQ,if_neg (by simpa using λh=>tw h hk.symm)];exact l2.symm
    .unfold qH;rw[e2,decide_eq_true hk,if_pos rfl,e1];rfl
   .have hkx:gq key x.1:=(rC (mI hx)).resolve_right λe=>hk e.symm;have e3:DY (x::l) key=[]:=by
     have l3':=l3;unfold DY at l3' ⊢;rw[jQ,if_neg (by simpa using hk),l3']
    rw[e1,e2,e3,decide_eq_false hk,if_neg (by simp)];refine⟨?_,by simp,?_⟩
    .show x::l=_;have l2':=l2;unfold qG at l2' ⊢;rw[jQ,if_pos (by simpa using hkx),l2']
    .unfold qH;rw[e2,decide_eq_false hk,if_neg (by simp)];rfl
theorem OV(fr az:ByteArray)(n:Int)(l:List PR):je fr az n l=(l.filter (ya fr az)).take n.toNat:=by
 have h:∀(l o:List PR),l.foldl (λo x=>if Cq fr az x.1=true/\(o.length:Int)<n then o++[x]else o) o=o++(l.filter (ya fr az)).take (n-(o.length:Nat)).toNat:=by
  intro l
  induction l with
  |nil=>intro o;simp
  |cons x l ih=>
   intro o;rw[yV,ih,jQ];have hi:ya fr az x=Cq fr az x.1:=rfl
   by_cases h1:Cq fr az x.1=true
   .rw[hi,if_pos h1]
    by_cases h2:(o.length:Int)<n
    .rw[if_pos ⟨h1,h2⟩,cy,aO]
     congr 1
     rw[show(n-((o.length:Nat):Int)).toNat=(n-((o.length+[x].length:Nat):Int)).toNat+1 by simp;omega];rfl
    .rw[if_neg (λh=>h2 h.2),show(n-((o.length:Nat):Int)).toNat=0 by omega];simp
   .rw[hi,if_neg (λh=>h1 h.1),if_neg h1]
 unfold je;rw[h l []];simp
theorem out_eq(fr az:ByteArray)(l:List PR):oV fr az l=l.filter (λx=> !ya fr az x):=rfl
theorem RI(fr az:ByteArray)(l:List PR):(l.length:Int)-(oV fr az l).length=((l.filter (ya fr az)).length:Nat):=by
 have h:∀l:List PR,(oV fr az l).length+(l.filter (ya fr az)).length=l.length:=by
  intro l
  induction l with
  |nil=>rfl
  |cons x l ih=>
   unfold oV at ih ⊢;have hi:ya fr az x=Cq fr az x.1:=rfl;rw[jQ,jQ,hi]
   cases Cq fr az x.1<;>simp<;>omega
 have:=h l;omega
theorem WR(fr az:ByteArray)(l:List PR)(hl:l.length<=1000000){n:Int}(hn:1000000<=n):je fr az n l=l.filter (ya fr az):=by
 rw[OV,cr];have:=El (ya fr az) l;omega
open Nd (E aN aW dL bA aY cq bF ak cW)
theorem WS(b:List UInt8):(aN b).2.2≠11:=by
 unfold aN
 split
 .rename_i h;unfold Sl.cg
  split<;>(try split)<;>exact λh=>absurd h (by decide)
 .split
  .show ¬(0:Int)=11;decide
  .show ¬(14:Int)=11;decide
theorem WT{q:QS}(V:Vi q){j:Int}(h:JF q j):(q.vw j).2=0:=by
 have hr:(q.a.aK j).2=0->(q.vw j).2=0:=λh=>by
  unfold QS.vw
  split
  .rfl
  .exact h
 rcases h with h|⟨f,hf,rfl,hd⟩
 .refine hr (mW.2 ?_)
  cases hx:q.a.at j with
  |none=>rw[hx]at h;cases h
  |some x=>rfl
 .rcases Int.lt_or_le f.an 0 with h0|h0
  .rw[V.em f hf h0]at hd;cases hd
  .exact hr (V.ex f hf h0)
structure Rm(q:QS)(v o:Vw)(u m:Nat)(T:List Int):Prop where
 r:Rd q v o u m
 t:∀j,(v j).2=0->(v j).1.length=232->j∈T
 k:T.length+q.a.kept<=m
section
variable{q:QS}{v o:Vw}{u m:Nat}{T:List Int}
theorem Rm.get(h:Rm q v o u m T)(p:Int):(q.cU p).2.2≠11/\Rm (q.cU p).1 v o u m T:=by
 obtain⟨n,K,w⟩:=h.r.w;refine⟨VZ (T:=T) (λj hj=>?_) (aq h.k h.r.m) p,(h.r.get p).1,h.t,?_⟩
 .have h0:=WT w.V hj;rw[h.r.v]at h0;exact h.t j h0 (h.r.t j hj h0)
 .have:=(qA (Ov q p)).2.2;unfold St.kept;rw[this];exact h.k
theorem Rm.read(h:Rm q v o u m T)(p:Int):(q.bh p).2=gm v p/\Rm (q.bh p).1 v o u m T:=by
 obtain⟨a,b⟩:=h.get p;have hq:(q.bh p).1=(q.cU p).1:=by unfold QS.bh;split<;>rfl
 refine⟨(h.r.read p).2.resolve_right λ⟨e,_⟩=>?_,by rw[hq];exact b⟩;have e:(q.bh p).2.2.2=11:=by rw[e]
 obtain⟨_,c⟩:=h.r.get p;unfold QS.bh at e
 rcases c with⟨c1,c2⟩|⟨c1,c2⟩|⟨c1,c2⟩
 .rw[c2,if_neg (by simp)]at e;have e:=Rf e;exact absurd e (WS _)
 .rw[c2,if_pos (by simp)]at e;have e:(14:Int)=11:=e;omega
 .exact a (by rw[c1])
theorem Rm.dV(h:Rm q v o u m T)(p:Int):(q.dV p).2=Rn v p/\Rm (q.dV p).1 v o u m T:=by
 obtain⟨a,b⟩:=h.get p;have hq:(q.dV p).1=(q.cU p).1:=by unfold QS.dV;split<;>(try split)<;>rfl
 refine⟨(h.r.dV p).2.resolve_right λ⟨e,_⟩=>?_,by rw[hq];exact b⟩;have e:(q.dV p).2.2.2=11:=by rw[e]
 unfold QS.dV at e
 split at e
 .exact a e
 .split at e
  .exact absurd e (by show ¬(14:Int)=11;decide)
  .exact absurd e (by show ¬(0:Int)=11;decide)
theorem Rm.walk:∀{L:List Int} {p:Int} {b:List UInt8} (n:Nat) (l:List Int) (acc:List UInt8) (q:QS),Rm q v o u m T->JG v p L b->L≠[]->L.length<=n->(acc++b).length<=1024->
  (q.mB n p l acc).2=(l++L,acc++b,0)/\Rm (q.mB n p l acc).1 v o u m T
 |[],_,_,_,_,_,_,_,_,h,_,_=>absurd rfl h
 |c::L,p,b,0,_,_,_,_,_,_,h,_=>by simp at h
 |c::L,p,b,n+1,l,acc,q,R,h,_,hm,hb=>by
  obtain⟨rfl,nx,pc,b',h1,rfl,h3⟩:=h;obtain⟨r2,r1⟩:=R.dV p;unfold QS.mB;rw[h1]at r2;rw[r2];dsimp only;rw[if_neg (by omega),if_neg (by omega),if_neg (by simp at hb ⊢;omega)];have zG:=h3.neg R.r
  by_cases hn:nx<0
  .have hL:=zG.1 hn;subst hL;obtain⟨_,rfl⟩:=h3;rw[if_pos hn,jh];exact⟨rfl,r1⟩
  .have hL:L≠[]:=λe=>hn (zG.2 e);rw[if_neg hn];obtain⟨i1,i2⟩:=Rm.walk n (l++[p]) (acc++pc) (q.dV p).1 r1 h3 hL (by simpa using hm) (by simpa [cy]using hb);refine⟨?_,i2⟩;rw[i1];simp
def uM(ns:List NT):Nat:=ns.countP λn=>decide (n.1=0)
def BU(ns:List NT):Nat:=ns.countP λn=> !decide (n.1=0)
theorem OY(ns:List NT):uM ns+BU ns=ns.length:=by
 unfold uM BU
 induction ns with
 |nil=>rfl
 |cons n ns ih=>
  rw[m9,m9,fo]
  by_cases h:n.1=0<;>simp[h]<;>omega
theorem yR(a b:List NT):uM (a++b)=uM a+uM b:=nY
theorem Gl(a b:List NT):BU (a++b)=BU a+BU b:=nY
theorem nV{n:Int}(h0:0<=n)(h1:n<=1000000):wrap64 n=n:=by unfold wrap64;omega
theorem Bz(rec:QS->Nat->Int->Cn):∀(Ms:List MT) (q:QS) (sn:Nat) (s:Sp),Rm q v o u m T->(∀x∈Ms,Jf v x.1 x.2.1 x.2.2)->0<=s.c->s.c+((iW Ms).length:Nat)<=1000000->
  ∃q',rQ rec true (Ms.map λx=>x.1) q sn s=⟨q',sn,{s with c:=s.c+((iW Ms).length:Nat)},0⟩/\Rm q' v o u m T
 |[],q,sn,s,R,_,_,_=>⟨q,by simp[rQ],R⟩
 |x::Ms,q,sn,s,R,hv,h0,h1=>by
  rw[jo,aO]at h1 ⊢;rw[fJ];unfold rQ;rw[if_pos rfl]
  rcases hv x (by simp)with⟨a,b,c,d⟩|⟨a,b,z,c,d,f,g,i,j⟩
  .rw[if_neg (by omega),c];obtain⟨q',e,R'⟩:=Bz rec Ms q sn s R (λy hy=>hv y (by simp[hy])) h0 (by rw[c]at h1;simpa using h1);exact⟨q',by rw[e];simp,R'⟩
  .rw[if_pos a];have hn:=uI g;have hs:x.2.1.data.toList.length=x.2.1.size:=by simp
   obtain⟨w1,w2⟩:=Rm.walk 5 [] [] q R i c (by omega) (by rw[cI,hs];exact g);have w1:(q.cH x.1.aQ).2=([]++x.2.2,[]++x.2.1.data.toList,0):=w1;have w2:Rm (q.cH x.1.aQ).1 v o u m T:=w2;rw[w1,if_neg (by simp)];dsimp only;rw[cI,nV (by omega) (by omega)];obtain⟨q',e,R'⟩:=Bz rec Ms _ sn {s with c:=s.c+(x.2.2.length:Nat)} w2 (λy hy=>hv y (by simp[hy])) (by show 0<=s.c+_;omega) (by show s.c+_+_<=_;omega);refine⟨q',?_,R'⟩;rw[e]
   simp only[Int.natCast_add,Int.add_assoc]
def CntOk(q:QS)(v o:Vw)(u m:Nat)(T:List Int)(R:Cn)(sn h:Nat)(ns:List NT)(Ms:List MT):Prop:=
 R.u=sn+ns.length/\R.e=0/\R.s=⟨(uM ns:Nat),(BU ns:Nat),((iW Ms).length:Nat),(h+1:Nat)⟩/\Rm R.q v o u m T
theorem WU{h d:Nat}(IH:∀(q:QS) (p:Int) (sn:Nat) (Ms:List MT),Rm q v o u m T->jP v h p->Ms.map (λx=>x.1)=fA v h p->(∀x∈Ms,Jf v x.1 x.2.1 x.2.2)->(iW Ms).length<=100000->sn+(ao v h p).length<=512->CntOk q v o u m T (kL d q sn p) sn h (ao v h p) Ms)(hh:h<=100):
  ∀(l:List E) (Ms:List MT) (q:QS) (sn:Nat) (s:Sp),Rm q v o u m T->(∀e∈l,jP v h e.aQ)->Ms.map (λx=>x.1)=bV (aU v h l)->(∀x∈Ms,Jf v x.1 x.2.1 x.2.2)->sn+(aU v h l).length<=512->0<=s.a->s.a+(uM (aU v h l):Nat)<=1000->0<=s.b->s.b+(BU (aU v h l):Nat)<=1000->0<=s.c->s.c+((iW Ms).length:Nat)<=100000->s.d<=h+2->(l=[]->s.d=h+2)->
  ∃q',rQ (kL d) false l q sn s=⟨q',sn+(aU v h l).length,⟨s.a+(uM (aU v h l):Nat),s.b+(BU (aU v h l):Nat),s.c+((iW Ms).length:Nat),h+2⟩,0⟩/\Rm q' v o u m T
 |[],Ms,q,sn,s,R,_,hM,_,_,_,_,_,_,_,_,_,hd=>by
  have:Ms=[]:=List.map_eq_nil_iff.1 hM;subst this;obtain⟨a,b,c,d⟩:=s;have hd:d=h+2:=hd rfl;subst hd;exact⟨q,by simp[rQ,uM,BU],R⟩
 |x::l,Ms,q,sn,s,R,hc,hM,hv,hs,a0,a1,b0,b1,c0,c1,d1,_=>by
  rw[cO,dA]at hM;obtain⟨M1,M2,rfl,e1,e2⟩:=Eo.1 hM;rw[eX,aO]at c1 ⊢;rw[cO,yR]at a1;rw[cO,Gl]at b1;rw[cO,aO]at hs;rw[cO,yR,Gl,aO];obtain⟨r1,r2,r3,r4⟩:=IH q x.aQ sn M1 R (hc x (by simp)) e1 (λy hy=>hv y (by simp[hy])) (by omega) (by omega);unfold rQ;rw[if_neg (by simp),r2,if_neg (by simp),r1,r3]
  have hadd:s.add ⟨(uM (ao v h x.aQ):Nat),(BU (ao v h x.aQ):Nat),((iW M1).length:Nat),(h+1:Nat)⟩=⟨s.a+(uM (ao v h x.aQ):Nat),s.b+(BU (ao v h x.aQ):Nat),s.c+((iW M1).length:Nat),h+2⟩:=by
   unfold Sp.add;dsimp only;rw[nV (by omega) (by omega),nV (by omega) (by omega),nV (by omega) (by omega),nV (by omega) (by omega),show max s.d (1+((h+1:Nat):Int))=h+2 by omega]
  rw[hadd];obtain⟨q',e,R'⟩:=WU IH hh l M2 _ (sn+(ao v h x.aQ).length) ⟨s.a+(uM (ao v h x.aQ):Nat),s.b+(BU (ao v h x.aQ):Nat),s.c+((iW M1).length:Nat),h+2⟩ r4 (λe he=>hc e (by simp[he])) e2 (λy hy=>hv y (by simp[hy])) (by omega) (by show 0<=s.a+_;omega) (by show s.a+_+_<=_;omega) (by show 0<=s.b+_;omega) (by show s.b+_+_<=_;omega) (by show 0<=s.c+_;omega) (by show s.c+_+_<=_;omega) (jg _) (λ_=>rfl);refine⟨q',?_,R'⟩;rw[e]
  simp only[Int.natCast_add,Int.add_assoc,Ex]
theorem WV:∀(h d:Nat) (q:QS) (p:Int) (sn:Nat) (Ms:List MT),h<d->h<=100->Rm q v o u m T->jP v h p->Ms.map (λx=>x.1)=fA v h p->(∀x∈Ms,Jf v x.1 x.2.1 x.2.2)->(iW Ms).length<=100000->sn+(ao v h p).length<=512->CntOk q v o u m T (kL d q sn p) sn h (ao v h p) Ms
 |h,0,_,_,_,_,hd,_,_,_,_,_,_,_=>absurd hd (by omega)
 |h,d+1,q,p,sn,Ms,hd,hh,R,ho,hM,hv,hm,hs=>by
  have hl1:1<=(ao v h p).length:=by rw[iw];simp
  obtain⟨r1,r2⟩:=R.read p;unfold kL;rw[r1]
  cases h with
  |zero=>
   have rA:fA v 0 p=(gm v p).2.1:=wH v 0 p;rw[ho.1,if_neg (by simp),if_neg (by omega),if_pos rfl];dsimp only;rw[<-rA,<-hM];obtain⟨q',e,R'⟩:=Bz (kL d) Ms (q.bh p).1 (sn+1) ⟨1,0,0,1⟩ r2 hv (by show(0:Int)<=0;omega) (by show(0:Int)+_<=_;omega);rw[e];refine⟨rfl,rfl,?_,R'⟩;show(⟨1,0,0+_,1⟩:Sp)=_;rw[Int.zero_add];rfl
  |succ h=>
   obtain⟨o1,o2,o4,o3⟩:=ho;obtain⟨l,hl⟩:∃l,(gm v p).2.1=l:=⟨_,rfl⟩;have rA:fA v (h+1) p=bV (aU v h l):=by rw[wH,hl];rfl
   have OE:ao v (h+1) p=(h+1,p,l)::aU v h l:=by rw[iw,hl];rfl
   rw[hl]at o1 o3;rw[rA]at hM;rw[OE,fo]at hs;have hL:=OY (aU v h l);rw[o1,if_neg (by simp),if_neg (by omega),if_neg (by simp)];dsimp only
   obtain⟨q',e,R'⟩:=WU (WV h d · · · · (by omega) (by omega)) (by omega) l Ms (q.bh p).1 (sn+1) ⟨0,1,0,1⟩ r2 (λe he=>(o3.c e he).1) hM hv (by omega) (by show(0:Int)<=0;omega) (by show(0:Int)+_<=_;omega) (by show(0:Int)<=1;omega) (by show(1:Int)+_<=_;omega) (by show(0:Int)<=0;omega) (by show(0:Int)+_<=_;omega) (by show(1:Int)<=_;omega) (λe=>absurd e o3.ne);rw[e];refine⟨by rw[OE,fo];show sn+1+_=_;omega,rfl,?_,R'⟩
   have x1:uM (ao v (h+1) p)=uM (aU v h l):=by rw[OE];unfold uM;rw[m9];simp
   have x2:BU (ao v (h+1) p)=BU (aU v h l)+1:=by rw[OE];unfold BU;rw[m9];simp
   rw[x1,x2];show(⟨0+_,1+_,0+_,_⟩:Sp)=_;rw[Int.zero_add,Int.zero_add,Int.add_comm 1];rfl
end
theorem Js{v:Vw}:∀(h:Nat) (p:Int),jP v h p->fA v h p≠[]->uM (ao v h p)<=(fA v h p).length
 |0,p,ho,fc=>by
  have:0<(fA v 0 p).length:=vg.2 fc;show 1<=_;exact this
 |h+1,p,ho,fc=>by
  have d:=ho.2.2.2;have key:∀l:List E,(∀e∈l,jP v h e.aQ/\fA v h e.aQ≠[])->uM (aU v h l)<=(bV (aU v h l)).length:=by
   intro l
   induction l with
   |nil=>intro _;exact Nat.le_refl _
   |cons e l ih=>
    intro hc;rw[cO,yR,dA,aO];have h1:=Js h e.aQ (hc e (by simp)).1 (hc e (by simp)).2;have h2:=ih λx hx=>hc x (by simp[hx]);unfold fA at h1;omega
  have x1:uM (ao v (h+1) p)=uM (aU v h (gm v p).2.1):=by rw[iw];unfold uM;rw[m9];simp[cw]
  rw[x1,wH];exact key _ d.c
theorem Pc{v:Vw}:∀(h:Nat) (p:Int),jP v h p->1<=uM (ao v h p)/\BU (ao v h p)<=uM (ao v h p)*h
 |0,p,_=>⟨Nat.le_refl _,Nat.le_refl _⟩
 |h+1,p,ho=>by
  have d:=ho.2.2.2;have key:∀l:List E,(∀e∈l,jP v h e.aQ)->l.length<=uM (aU v h l)/\BU (aU v h l)<=uM (aU v h l)*h:=by
   intro l
   induction l with
   |nil=>intro _;exact⟨Nat.le_refl _,by simp[uM,BU]⟩
   |cons e l ih=>
    intro hc;rw[cO,yR,Gl,Nat.add_mul,fo];have h1:=Pc h e.aQ (hc e (by simp));have h2:=ih λx hx=>hc x (by simp[hx]);omega
  obtain⟨k1,k2⟩:=key (gm v p).2.1 λe he=>(d.c e he).1;have hn:0<(gm v p).2.1.length:=vg.2 d.ne;have x1:uM (ao v (h+1) p)=uM (aU v h (gm v p).2.1):=by rw[iw];unfold uM;rw[m9];simp[cw]
  have x2:BU (ao v (h+1) p)=BU (aU v h (gm v p).2.1)+1:=by rw[iw];unfold BU;rw[m9];simp[cw]
  rw[x1,x2,om];omega
variable{q:QS}{H:Nat}{M:List MT}
def jf(l:List PR):Nat:=(l.map λx=>if 40<x.2.size then(eF x.2.size).toNat else 0).sum
theorem Jt{v:Vw}:∀M:List MT,(∀m∈M,Jf v m.1 m.2.1 m.2.2)->(iW M).length=jf (jx M)
 |[],_=>rfl
 |m::M,h=>by
  have ih:=Jt M λx hx=>h x (by simp[hx]);have e:jf (jx (m::M))=(if 40<m.2.1.size then(eF m.2.1.size).toNat else 0)+jf (jx M):=rfl;rw[jo,aO,ih,e]
  rcases h m (by simp)with⟨_,_,c,d⟩|⟨_,_,_,_,d,f,_⟩
  .rw[c,if_neg (by omega)];rfl
  .rw[if_pos f,d]
theorem RJ{j:Int}:(q.ov j).2=0↔0<=j/\∃b,q.a.bQ[j.toNat]?=some (some b):=by
 unfold QS.ov;rw[mW];unfold St.at
 by_cases h0:0<=j
 .rw[if_pos h0];show(((gl q.a.bQ)[j.toNat]?).getD none).isSome=true↔_;unfold gl;rw[ic]
  cases hx:q.a.bQ[j.toNat]? with
  |none=>simp
  |some x=>cases x<;>simp[h0]
 .rw[if_neg h0];simp[h0]
section
variable{q:QS}{v o:Vw}{u m:Nat}
theorem kept_le(R:Rd q v o u m)(T:Tree o H M):q.a.kept<=(ao o H 0).length+(iW M).length+5:=by
 obtain⟨n,K,w⟩:=R.w;obtain⟨c,z⟩:=w.H.z;have h1:q.a.bQ.countP Option.isSome<=(ao o H 0).length+(iW M).length:=by
  rw[<-yL Option.isSome q.a.bQ 0];have:=ly (Ot Option.isSome q.a.bQ 0) (bt (ao o H 0)++iW M) (nQ _ _ _) λj hj=>by
   obtain⟨i,x,e,h2,h3⟩:=rB.1 hj;refine T.all j ?_;have h4:(q.ov j).2=0:=RJ.2 ⟨by omega,by
    cases x with
    |none=>cases h3
    |some b=>exact⟨b,by rw[show j.toNat=i by omega];exact h2⟩⟩
   rw[R.o]at h4;exact h4
  rw[aO]at this;simpa [bt]using this
 have h2:q.a.bQ.length<=512:=by
  obtain⟨k,e⟩:=z.e;have h3:q.a.bQ=(c.bP n).bQ:=by rw[e];rfl
  rw[h3];show(c.bQ.map _).length<=512;rw[eM];exact z.bQ
 unfold St.kept cB;omega
theorem Nk(R:Rd q v o u m)(T:Tree v H M):q.a.jK.length=(ao v H 0).length+(iW M).length:=by
 obtain⟨n,K,w⟩:=R.w;have hv:∀j,(v j).2=0↔(q.a.at j).isSome=true:=λj=>by
  have e:(v j).2=(q.vw j).2:=by rw[R.v]
  rw[e,<-mW]
  rcases fY q j with ho|⟨k,f,hk,rfl,hp⟩
  .rw[eA ho]
  .rw[w.V.jc hk hp];exact⟨λ_=>w.V.ex f (ay hk) hp,λ_=>rfl⟩
 unfold St.jK;rw[pS _ _ (Nat.le_refl _),fL,<-yL Option.isSome q.a.now 0];have:=pR (nQ Option.isSome q.a.now 0) T.BR λj=>by
  rw[rB]
  constructor
  .rintro⟨i,x,e,h2,h3⟩;refine T.all j ((hv j).2 ?_);unfold St.at;rw[if_pos (by omega),show j.toNat=i by omega,h2];exact h3
  .intro hj;have h0:(v j).2=0:=(aB.1 hj).elim (T.xY j) (T.Bk j);have h1:=(hv j).1 h0;obtain⟨h2,h3⟩:=ia h1;unfold St.at at h1;rw[if_pos h2,aG h3]at h1;exact⟨j.toNat,q.a.now[j.toNat],by omega,aG h3,h1⟩
 rw[this,aO];simp[bt]
end
structure ShP(q:QS)(l:List PR)(R:Cn)(a b c d:Nat):Prop where
 e:R.e=0
 s:R.s=⟨(a:Nat),(b:Nat),(c:Nat),(d+1:Nat)⟩
 a1:1<=a
 a2:a<=max l.length 1
 b1:b<=a*d
 c1:c=jf l
 d1:a<=512/\b<=512/\c<=512/\d<=15
 vs:∀x∈l,x.2.size<=1024
 g:R.q.a.jK.length=a+b+c
theorem TI.shape{l o:List PR}{k:Nat}(h:TI q l o 420 k)(hk:k<=60):∃a b c d,ShP q l (kL 16 q 0 0) a b c d:=by
 obtain⟨v,vo,u,C,xo,yo,x,y,R,⟨H,M,T,rfl,hH,hp,hl,ht,Uh,hc⟩,⟨Ho,Mo,To,_,_,_,_,_,hm5o,hco⟩,hC,hx⟩:=h;have hle:=T.le R;have hmp:(iW M).length<=512:=Jk R (dM.1 T.BR).2.1 T.Bk;have hkp:=kept_le R To;have hR:Rm q v vo u 420 (bt (ao v H 0)++C):=by
  refine⟨R,λj h0 h1=>?_,?_⟩
  .rcases aB.1 (T.all j h0)with h|h
   .exact bT _ h
   .exact bC _ (ht j h h1)
  .rw[aO];have e:(bt (ao v H 0)).length=(ao v H 0).length:=by simp[bt]
   rw[e];have i1:(if H=0 then 0 else 511)<=511:=by split<;>omega
   have i2:(if Ho=0 then 0 else 511)<=511:=by split<;>omega
   have i3:xo+yo=0->(ao vo Ho 0).length<=1:=λh=>by omega
   generalize (ao v H 0).length=N at *;generalize (ao vo Ho 0).length=No at *
   rcases hx.2 with h1|h1
   .have:=i3 h1;omega
   .omega
 obtain⟨c1,c2,c3,c4⟩:=WV H 16 q 0 0 M (by omega) (by omega) hR T.ok T.en T.va (by omega) (by omega);have hli:=OY (ao v H 0);obtain⟨g1,g2⟩:=Pc H 0 T.ok;refine⟨uM (ao v H 0),BU (ao v H 0),(iW M).length,H,c2,c3,g1,?_,g2,Jt M T.va,by omega,λx hx=>?_,?_⟩
 .have rA:(fA v H 0).length=(jx M).length:=by rw[<-T.en];simp[jx]
  cases H with
  |zero=>show 1<=_;omega
  |succ H=>
   have fc:fA v (H+1) 0≠[]:=by
    have d:=T.ok.2.2.2;rw[wH];obtain⟨e,he⟩:=pF _ d.ne;obtain⟨z,hz⟩:=pF _ (d.c e he).2;exact List.ne_nil_of_mem (db.2 ⟨e,he,hz⟩)
   have:=Js (H+1) 0 T.ok fc;omega
 .obtain⟨y,hy,rfl⟩:=dm.1 hx
  rcases T.va y hy with⟨_,_,_,h⟩|⟨_,_,_,_,_,_,h,_⟩
  .show y.2.1.size<=1024;omega
  .exact h
 .rw[Nk c4.r T];omega
attribute [local go_sem ↓] Go.wp_at_zero Go.wp_at_succ bw
variable{w:World}{v:Value}{n mb c:Nat}{l:List PR}{A V:Option Addr}
theorem qI{l:List Value}(S:aS w 42 2 v n l)(B:Option Addr)(m c:Nat)(lx:List Value)(hl:lx.length=m*2)
 (hs:m=0\/∃a,B=some a/\∀j u,lx[j]?=some u->w.cell? (a.add j)=some u)(h1:∀u∈lx,u.oneCell'=true)(hn:n+m<=4000000):
  ∃v' w',dZ prog 30 30 w v (.slice B m c)= .ok v' w'/\aS w' 42 2 v' (n+m) (l++lx)/\ag (ah v) w w'/\(∀g∈ah v',g∈ah v\/w.heap.size<=g):=by
 obtain⟨i0,hi,ku,js,ki⟩:=info_parts Br;have ht:prog.underlying 30=some (.slice 42):=underlying30
 cases B with
 |some a=>
  have hs':∀j u,lx[j]?=some u->w.cell? (a.add j)=some u:=by
   rcases hs with rfl|⟨a',e,h⟩
   .intro j u hj;have:lx=[]:=nc (by omega);rw[this]at hj;simp at hj
   .injection e with e;subst e;exact h
  exact dC (P:=prog) S 30 30 i0 _ 32 ht hi ku js ki rfl (by omega) a m c lx hl hs' h1 (by unfold maxLen;omega) (by omega)
 |none=>
  have hm:m=0:=hs.elim id λ⟨a,e,_⟩=>by cases e
  subst hm;have hlx:lx=[]:=nc (by omega);subst hlx;refine⟨v,w,?_,by rw[jh];exact S,ag.refl _ _,λx hx=> .inl hx⟩;unfold dZ
  rcases S.2 with⟨rfl,h0⟩|⟨g,cap,rest,rfl,BB,hc,hm⟩
  .simp[Builtin.append_,run_underlying ht,sizeOf,typeInfo,hi,Builtin.lenOf,Builtin.firstCells]
  .have hl:=S.1;have J1:n<=cap:=by omega
   simp[Builtin.append_,run_underlying ht,sizeOf,typeInfo,hi,Builtin.lenOf,Builtin.firstCells,J1,storeCells]
theorem Mp.len(h:Mp w mb (.slice A n c) l):l.length=n:=by
 obtain⟨A',c',e⟩:=ax h.s;injection e with _ e _
 exact e.symm
theorem yS(l:List PR):∀u∈kR l,u.oneCell'=true:=λu hu=>by
 unfold kR at hu;obtain⟨x,_,hx⟩:=mO.1 hu;simp only[aj,gP,or_false]at hx
 rcases hx with rfl|rfl<;>rfl
theorem Ju(l:List PR)(i:Nat):kR (l.take i)=(kR l).take (i*2):=by
 induction l generalizing i with
 |nil=>simp[kR]
 |cons x l ih=>
  cases i with
  |zero=>simp[kR]
  |succ i=>
   have:=ih i;unfold kR at this ⊢;rw[n9,gJ,gJ,this,show(i+1)*2=i*2+1+1 by omega];rfl
theorem Jv(l:List PR)(i:Nat):kR (l.drop i)=(kR l).drop (i*2):=by
 induction l generalizing i with
 |nil=>simp[kR]
 |cons x l ih=>
  cases i with
  |zero=>simp
  |succ i=>
   have:=ih i;unfold kR at this ⊢;rw[Ef,gJ,this,show(i+1)*2=i*2+1+1 by omega];rfl
def Pd(l:List PR)(key value:ByteArray):List PR:=if 32<key.size\/1024<value.size then l else l.take (pk l key)++(key,value)::l.drop (if tE l key=true then pk l key+1 else pk l key)
def Jw(l:List PR)(key:ByteArray):List PR:=if tE l key=true then l.take (pk l key)++l.drop (pk l key+1)else l
theorem WW(h:Mp w mb v l)(key:ByteArray):
  Calls prog 55 #[.pointer (some ⟨mb,0,none⟩),.string key] w λe w'=>e=.returned (.int .i64 (if tE l key=true then 0 else 9))/\∃v',Mp w' mb v' (Jw l key)/\ag [mb] w w':=by
 have KA:=xh (Gj h key);unfold Jw
 cases hb:tE l key with
 |false=>
  rw[hb]at KA;rw[if_neg (by simp),if_neg (by simp)];have HM:=xh h;clear h hb;go_enter func55,ntmps55;go_wp2_with fail;refine KA.o.mono ?_;rintro e w1 ⟨rfl,bg⟩;have O1:=xh bg;clear bg;go_wp2_with fail;go_ret;exact aP ⟨v,HM.o.below O1.o,.ai O1.o⟩
 |true=>
  rw[hb]at KA;rw[if_pos rfl,if_pos rfl];obtain⟨x,hx⟩:∃x,l[pk l key]?=some x:=by
   cases hx:l[pk l key]? with
   |none=>unfold tE at hb;rw[hx]at hb;cases hb
   |some x=>exact⟨x,rfl⟩
  obtain⟨k,hk⟩:∃k,pk l key=k:=⟨_,rfl⟩;rw[hk]at KA hx ⊢;have dP:=(aM.1 hx).1;have hn:=h.n;obtain⟨g,c,hv,_,_⟩:=h.at k x hx;subst hv;have HM:=xh h;obtain⟨rest,BB,hc,_,uQ⟩:=h.s.uP;rw[ef]at hc;obtain⟨ln,mM⟩:∃ln,l.length=ln:=⟨_,rfl⟩;have yf:=xh mM;rw[mM]at dP hn hc;have LM:ln<=c:=by omega
  have s1:k<=c:=by omega
  have s2:(k:Int)<=(c:Int):=by omega
  have s3:(k:Int)+1<=(ln:Int):=by omega
  have s4:(ln:Int)<=(c:Int):=by omega
  have s5:(k:Int)+1<=(c:Int):=by omega
  have s6:(0:Int)<=(k:Int)+1:=by omega
  have s7:((k:Int)+1).toNat=k+1:=by omega
  have s8:IntKind.i64.wrap ((k:Int)+1)=(k:Int)+1:=IntWalk.i64_in _ (by omega);have s9:k+1<=ln:=dP;have s10:k+1<=c:=by omega
  rw[mM]at HM;have HHL:=xh dP;have HHC:=xh LM;have HHN:=xh hn;have BB:=xh BB
  replace hc:=xh hc
  have T1:=xh (show(l.take k).length=k from by rw[bK,mM];omega);have T2:=xh (show(l.drop (k+1)).length=ln-(k+1)from by rw[dY,mM]);clear h hb hx hk mM;obtain⟨b9,hb9⟩:∃b:Prop,b=(c=k+1):=⟨_,rfl⟩;go_enter func55,ntmps55;go_wp2_with fail;refine KA.o.mono ?_;rintro e w1 ⟨rfl,bg⟩;have O1:=xh bg;have x0:=(HM.o.below bg).b.ab (i:=0) rfl;clear bg;go_wp2_with fail
  have HR:=xh (show ∃B':Option Addr,∃m',(if c=k+1 then some (⟨g,0,none⟩:Addr)else some ⟨g,(k+1)*2,none⟩)=B'/\True from⟨_,0,rfl,trivial⟩);refine sM (S:=λW=>W.cell? ⟨mb,0,none⟩=some (.slice (some ⟨g,0,none⟩) ln c)) [19] (by kernel_rfl) (x0) (λau=>?_);refine cP [(0,15),(2,17),(3,18),(4,19),(5,20),(6,21),(7,22),(9,24),(10,25),(11,26),(12,27),(13,28),(14,29),(15,30)] ?_
  iterate 14 refine mA ?_
  refine fN 1 λK hK=>?_;go_simp;have hh:=O1.o.size;have N0:=aF.new w1 42 #[];have S0:aS (w1.alloc (.cells #[] 42)).drew 42 2 (.slice (some ⟨w1.heap.size,0,none⟩) 0 0) 0 []:=⟨rfl,.inr ⟨w1.heap.size,0,[],rfl,N0.drew,rfl,by unfold maxLen;omega⟩⟩;have B1:=xh (((BB.o.below O1.o BB.o.lt).alloc (.cells #[] 42)).drew);have M1:=xh ((((HM.o.below O1.o).b).alloc (.cells #[] 42)).drew);have OA:=xh (((ag.ai (S:=[mb]) O1.o).alloc (.cells #[] 42)).drew)
  have y0:=M1.o.ab (i:=0) rfl;obtain⟨v2,w2,ea,S2,o2,f2⟩:=qI S0 (some ⟨g,0,none⟩) k c (kR (l.take k)) (by rw[ef,T1.o])
   (.inr ⟨_,rfl,bq B1.o 0 _ (λj u hj=>by
    rw[Ju,sy]at hj
    split at hj
    .rw[bl,bE (aM.1 hj).1];exact hj
    .cases hj)⟩) (yS _) (by have:=HHL.o;have:=HHN.o;omega)
  rw[bl,cI]at S2;obtain⟨V2,c2,rfl⟩:=ax S2;have hg2:g∉ah (.slice (some ⟨w1.heap.size,0,none⟩) 0 0):=by
   have:=(BB.o.below O1.o BB.o.lt).lt;simp[ah];omega
  have NK:mb∉ah (.slice (some ⟨w1.heap.size,0,none⟩) 0 0):=by
   have:=(HM.o.below O1.o).b.lt;simp[ah];omega
  have B2:=xh (B1.o.only o2 hg2);have M2:=xh (M1.o.only o2 NK);have O2:=xh (OA.o.aL o2 (λx hx dP=>by have:=O1.o.size;simp[ah]at hx;omega));have hgB:=BB.o.lt;have hmB:=HM.o.b.lt;have F2:=xh (show ∀x∈ah (.slice V2 k c2),w.heap.size<=x from λx hx=>(f2 x hx).elim (λh=>by simp[ah]at h;omega) (λh=>by have e:(w1.alloc (.cells #[] 42)).drew.heap.size=w1.heap.size+1:=(by simp);omega));have EA:=xh ea;have y2:=M2.o.ab (i:=0) rfl
  obtain⟨v3,w3,ea3,S3,o3,f3⟩:=qI S2 (if c=k+1 then some ⟨g,0,none⟩else some ⟨g,(k+1)*2,none⟩) (ln-(k+1)) (c-(k+1)) (kR (l.drop (k+1))) (by rw[ef,T2.o])
   (by
    by_cases Fl:c=k+1
    .left;have:=HHL.o;have:=HHC.o;omega
    .right;rw[if_neg Fl];refine⟨_,rfl,bq B2.o _ _ (λj u hj=>?_)⟩;rw[Jv,gK]at hj;rw[bE (aM.1 hj).1];exact hj) (yS _) (by have:=HHL.o;have:=HHN.o;omega)
  obtain⟨m3,hm3⟩:∃m3,(l.take k++l.drop (k+1)).length=m3:=⟨_,rfl⟩;rw[show k+(ln-(k+1))=(l.take k++l.drop (k+1)).length by rw[aO,T1.o,T2.o],<-rD,hm3]at S3;have HM3:=xh hm3;clear hm3;obtain⟨V3,c3,rfl⟩:=ax S3;have hm3:mb∉ah (.slice V2 k c2):=λh=>by have:=F2.o _ h;omega
  have M3:=xh (M2.o.only o3 hm3);have O3:=xh (O2.o.aL o3 (λx hx dP=>by have:=F2.o _ hx;omega));have EA3:=xh ea3;have S3:=xh S3;have F3:=xh (show ∀x∈ah (.slice V3 m3 c3),w.heap.size<=x from λx hx=>(f3 x hx).elim (F2.o x) (λh=>by have:=O2.o.size;omega));have y3:=M3.o.ab (i:=0) rfl;have z3:=M3.o.frozen 0 (by simp);clear ea ea3 S2 S0 N0 o2 o3 f2 f3 hg2 NK hm3 hgB hmB hh;refine bz hK (λ_=>y0) (λau=>?_)
  refine fN 8 λK hK=>?_;go_simp;rw[EA.o];go_simp;refine bz hK (λ_=>y2) (λau=>?_);refine fN 16 λK hK=>?_;go_simp;rw[EA3.o];go_simp;refine bz hK (λ_=>y3) (λau=>?_);refine fN 17 λK hK=>?_;go_simp;refine bz hK (λ_=>y3) (λau=>?_);refine cP [(18,33)] ?_
  iterate 1 refine mA ?_
  refine fN 19 λK hK=>?_;go_simp;refine bz hK (λh=>absurd (by simp) h) (λau=>?_);refine zQ (by kernel_rfl) ?_ _;generalize (if c=k+1 then some (⟨g,0,none⟩:Addr)else some ⟨g,(k+1)*2,none⟩)=B9;have MF:=xh (M3.o.bU 0 (.slice V3 m3 c3));have OF:=xh (O3.o.setCell (p:=⟨mb,0,none⟩) (λ_=>by simp) (.slice V3 m3 c3))
  have SF:=xh (S3.o.only (S:=[mb]) ((ag.refl _ _).setCell (p:=⟨mb,0,none⟩) (λ_=>by simp) (.slice V3 m3 c3)) (λx hx hm=>by have:=F3.o x hx;have:=HM.o.b.lt;simp at hm;omega));go_wp2_with fail;go_ret;have HN:=HM.o.n;exact aP ⟨_,⟨MF.o,by rw[HM3.o];exact SF.o,by rw[aO,T1.o,T2.o];have:=HHL.o;have:=HHN.o;omega⟩,OF.o⟩
structure MS(w W:World)(mb:Nat)(A:Option Addr)(ln c:Nat)(l:List PR)(key value:ByteArray)(k:Nat)(ze pe:Option Nat)(ve:Option Value):Prop where
 h:Mp W mb (.slice A ln c) l
 o:ag [mb] w W
 s:∀g∈ah (.slice A ln c),g<w.heap.size
 b:mb<w.heap.size
 z:∀b,ze=some b->aS W 42 2 (.slice (some ⟨b,0,none⟩) 0 0) 0 []/\w.heap.size<=b/\∀p,pe=some p->b≠p
 p:∀p,pe=some p->aF W p 42 #[.string key,.string value]/\w.heap.size<=p
 v:∀V,ve=some V->aS W 42 2 V k (kR (l.take k))/\∀g∈ah V,w.heap.size<=g
section
variable{w W:World}{mb:Nat}{A:Option Addr}{ln c:Nat}{l:List PR}{key value:ByteArray}{k:Nat}{ze pe:Option Nat}{ve:Option Value}
theorem MS.m0(H:MS w W mb A ln c l key value k ze pe ve):W.cell? ⟨mb,0,none⟩=some (.slice A ln c):=H.h.b.ab (i:=0) rfl
theorem MS.below(H:MS w W mb A ln c l key value k ze pe ve){W':World}(hb:Below W.heap.size W W'):MS w W' mb A ln c l key value k ze pe ve:=
 ⟨H.h.below hb,H.o.trans (.ai hb),H.s,H.b,λb h=>⟨(H.z b h).1.below hb,(H.z b h).2⟩,λp h=>⟨(H.p p h).1.below hb (H.p p h).1.lt,(H.p p h).2⟩,λV h=>⟨(H.v V h).1.below hb,(H.v V h).2⟩⟩
theorem MS.drew(H:MS w W mb A ln c l key value k ze pe ve):MS w W.drew mb A ln c l key value k ze pe ve:=H.below (Below.refl _ _).drew
theorem MS.zero(H:MS w W mb A ln c l key value k none pe ve):MS w (W.alloc (.cells #[] 42)) mb A ln c l key value k (some W.heap.size) pe ve:=by
 have H':=H.below (ae (Below.refl _ _) (.cells #[] 42));refine⟨H'.h,H'.o,H'.s,H'.b,λb hb=>?_,H'.p,H'.v⟩;injection hb with hb
 subst hb;exact⟨⟨rfl,.inr ⟨_,0,[],rfl,aF.new W _ #[],rfl,by unfold maxLen;omega⟩⟩,H.o.size,λp hp e=>by have:=(H.p p hp).1.lt;omega⟩
theorem MS.one(H:MS w W mb A ln c l key value k ze none ve):MS w (W.alloc (.cells #[.string key,.string value] 42)) mb A ln c l key value k ze (some W.heap.size) ve:=by
 have H':=H.below (ae (Below.refl _ _) (.cells #[.string key,.string value] 42));refine⟨H'.h,H'.o,H'.s,H'.b,λb hb=>⟨(H'.z b hb).1,(H'.z b hb).2.1,λp hp e=>?_⟩,λp hp=>?_,H'.v⟩
 .injection hp with hp
  have:=(H.z b hb).1.lt b (by simp[ah]);omega
 .injection hp with hp
  subst hp;exact⟨aF.new W _ _,H.o.size⟩
theorem MS.app{b:Nat}(H:MS w W mb A ln c l key value k (some b) pe none)(hk:k<=ln)(hn:ln<=1000000):
  ∃V c2 W',dZ prog 30 30 W (.slice (some ⟨b,0,none⟩) 0 0) (.slice A k c)= .ok (.slice V k c2) W'/\MS w W' mb A ln c l key value k none pe (some (.slice V k c2)):=by
 obtain⟨S0,hb,hbp⟩:=H.z b rfl;have hl:l.length=ln:=by have:=H.h.s.1;rw[ef]at this;have:=H.h.len;omega
 have ht:(l.take k).length=k:=by rw[bK];omega
 obtain⟨v2,w2,ea,S2,o2,f2⟩:=qI S0 A k c (kR (l.take k)) (by rw[ef,ht]) (by
  rcases H.h.s.2 with⟨hv,h0⟩|⟨g,cap,rest,hv,B,_⟩
  .left;omega
  .right;simp only[Value.slice.injEq]at hv;refine⟨_,hv.1,bq B 0 _ (λj u hj=>?_)⟩;rw[Ju,sy]at hj
   split at hj
   .rw[bl,bE (aM.1 hj).1];exact hj
   .cases hj) (yS _) (by omega)
 rw[bl,cI]at S2;obtain⟨V2,c2,rfl⟩:=ax S2;have hd:∀x∈ah (.slice (some ⟨b,0,none⟩) 0 0),x=b:=λx hx=>by simpa [ah]using hx
 have hs:∀g∈ah (.slice A ln c),g∉ah (.slice (some ⟨b,0,none⟩) 0 0):=λg hg hx=>by have:=hd g hx;have:=H.s g hg;omega
 refine⟨V2,c2,w2,ea,⟨⟨H.h.b.only o2 (λhx=>by have:=hd _ hx;have:=H.b;omega),H.h.s.only o2 hs,H.h.n⟩,H.o.aL o2 (λx hx dP=>by have:=hd x hx;omega),H.s,H.b,(λ_ h=>by cases h),λp hp=>⟨(H.p p hp).1.only o2 (λhx=>hbp p hp (hd p hx).symm),(H.p p hp).2⟩,λV hV=>?_⟩⟩;injection hV with hV
 subst hV;exact⟨S2,λg hg=>(f2 g hg).elim (λh=>by have:=hd g h;omega) (λh=>aq H.o.size h)⟩
theorem MS.app2{c2 p:Nat}(H:MS w W mb A ln c l key value k none (some p) (some (.slice V k c2)))(hk:k<=1000000):
  ∃V' c' W',dZ prog 30 30 W (.slice V k c2) (.slice (some ⟨p,0,none⟩) 1 1)= .ok (.slice V' (k+1) c') W'/\Mp W' mb (.slice A ln c) l/\ag [mb] w W'/\aS W' 42 2 (.slice V' (k+1) c') (k+1) (kR (l.take k++[(key,value)]))/\∀g∈ah (.slice V' (k+1) c'),w.heap.size<=g:=by
 obtain⟨S2,f2⟩:=H.v _ rfl;obtain⟨v3,w3,ea,S3,o3,f3⟩:=qI S2 (some ⟨p,0,none⟩) 1 1 [.string key,.string value] rfl (.inr ⟨_,rfl,bq (H.p p rfl).1 0 _ (λj u hj=>by rw[bl];exact hj)⟩) (by simp;exact⟨rfl,rfl⟩) (by omega);obtain⟨V3,c3,rfl⟩:=ax S3
 refine⟨V3,c3,w3,ea,⟨H.h.b.only o3 (λhx=>by have:=f2 _ hx;have:=H.b;omega),H.h.s.only o3 (λg hg hx=>by have:=f2 g hx;have:=H.s g hg;omega),H.h.n⟩,H.o.aL o3 (λx hx dP=>by have:=f2 x hx;omega),?_,λg hg=>(f3 g hg).elim (f2 g) (λh=>aq H.o.size h)⟩;rw[rD];exact S3
end
theorem ms_app3{W:World}{ln:Nat}{k c':Nat}{L:List PR}(M:Mp W mb (.slice A ln c) l)(S:aS W 42 2 (.slice V k c') k (kR L))(f:∀g∈ah (.slice V k c'),w.heap.size<=g)(o:ag [mb] w W)
 (hs:∀g∈ah (.slice A ln c),g<w.heap.size)(hb:mb<w.heap.size)(e:Nat)(he:e<=ln)(hn:ln<=1000000)(hk:k<=1000001)(B:Option Addr)(hB:e<c->∀g,A=some ⟨g,0,none⟩->B=some ⟨g,e*2,none⟩):
  ∃V' m c2 W',dZ prog 30 30 W (.slice V k c') (.slice B (ln-e) (c-e))= .ok (.slice V' m c2) W'/\Mp W' mb (.slice A ln c) l/\ag [mb] w W'/\aS W' 42 2 (.slice V' m c2) (L++l.drop e).length (kR (L++l.drop e))/\∀g∈ah (.slice V' m c2),w.heap.size<=g:=by
 have hl:l.length=ln:=M.len;have hL:L.length=k:=by have:=S.1;rw[ef]at this;omega
 obtain⟨v3,w3,ea,S3,o3,f3⟩:=qI S B (ln-e) (c-e) (kR (l.drop e)) (by rw[ef,dY,hl]) (by
  rcases M.s.2 with⟨hv,h0⟩|⟨g,cap,rest,hv,BB,hc,_⟩
  .left;omega
  .simp only[Value.slice.injEq]at hv;obtain⟨h1,_,h3⟩:=hv;rw[ef]at hc
   by_cases hec:e<c
   .right;refine⟨_,hB hec g h1,bq BB _ _ (λj u hj=>?_)⟩;rw[Jv,gK]at hj;rw[bE (aM.1 hj).1];exact hj
   .left;omega) (yS _) (by omega)
 obtain⟨V3,c3,rfl⟩:=ax S3;refine⟨V3,_,c3,w3,ea,⟨M.b.only o3 (λhx=>by have:=f _ hx;omega),M.s.only o3 (λg hg hx=>by have:=f g hx;have:=hs g hg;omega),M.n⟩,o.aL o3 (λx hx dP=>by have:=f x hx;omega),?_,λg hg=>(f3 g hg).elim (f g) (λh=>aq o.size h)⟩;rw[rD,show(L++l.drop e).length=k+(ln-e) by rw[aO,hL,dY,hl]];exact S3
theorem WX(h:Mp w mb v l)(key value:ByteArray)(hl:l.length<1000000)(h1:key.size<=1000000)(h2:value.size<=1000000):
  Calls prog 54 #[.pointer (some ⟨mb,0,none⟩),.string key,.string value] w λe w'=>e=.returned (.int .i64 (if 32<key.size\/1024<value.size then 4 else 0))/\∃v',Mp w' mb v' (Pd l key value)/\ag [mb] w w':=by
 unfold Pd;have HM:=xh h
 by_cases hk:32<key.size
 .rw[if_pos (.inl hk),if_pos (.inl hk)];have Kp:(32:Int)<(key.size:Int):=by omega
  clear h;go_enter func54,ntmps54;go_wp2_with fail;go_ret
  first|exact aP ⟨v,HM.o,ag.refl _ _⟩|exact aP ⟨⟨v,HM.o⟩,ag.refl _ _⟩
 have Kp:¬(32:Int)<(key.size:Int):=by omega
 by_cases hv:1024<value.size
 .rw[if_pos (.inr hv),if_pos (.inr hv)];have hvI:(1024:Int)<(value.size:Int):=by omega
  clear h;go_enter func54,ntmps54;go_wp2_with fail;go_ret
  first|exact aP ⟨v,HM.o,ag.refl _ _⟩|exact aP ⟨⟨v,HM.o⟩,ag.refl _ _⟩
 have hvI:¬(1024:Int)<(value.size:Int):=by omega
 rw[if_neg (by omega),if_neg (by omega)];have KA:=xh (Gj h key);obtain⟨A,c,rfl⟩:=ax h.s;have hle:=Nh key l;have hlen:=h.len;obtain⟨ln,mM⟩:∃ln,l.length=ln:=⟨_,rfl⟩;rw[mM]at hle hl HM;have yf:=xh mM;have hcc:ln<=c:=by
  rcases h.s.2 with⟨hv,h0⟩|⟨g,cap,rest,hv,_,hc,_⟩
  .omega
  .simp only[Value.slice.injEq]at hv;rw[ef]at hc;omega
 obtain⟨ee,he⟩:∃ee,(if tE l key=true then pk l key+1 else pk l key)=ee:=⟨_,rfl⟩;have hel:ee<=ln:=by
  rw[<-he]
  split
  .rename_i hb;unfold tE at hb
   cases hx:l[pk l key]? with
   |none=>rw[hx]at hb;cases hb
   |some x=>have:=(aM.1 hx).1;omega
  .exact hle
 rw[he];obtain⟨k,hk'⟩:∃k,pk l key=k:=⟨_,rfl⟩;rw[hk']at KA hle he ⊢;have s1:k<=c:=by omega
 have s2:(k:Int)<=(c:Int):=by omega
 have s3:(ee:Int)<=(ln:Int):=by omega
 have s4:(ln:Int)<=(c:Int):=by omega
 have s5:(ee:Int)<=(c:Int):=by omega
 have s9:ee<=ln:=hel;have s10:ee<=c:=by omega
 have HH:=xh (show k<=ln/\ee<=ln/\ln<1000000 from⟨hle,hel,hl⟩);have HHC:=xh hcc;have Sd:=xh h.s.lt;have HBL:=xh h.b.lt;rw[mM]at Sd;have HKE:=xh (show k<=ee from by rw[<-he];split<;>omega);generalize tE l key=b at *;have HE:=xh (show(b=false->k=ee)/\(b=true->k+1=ee)from⟨λh=>by rw[<-he,h,if_neg (by simp)],λh=>by rw[<-he,if_pos h]⟩);have s8:IntKind.i64.wrap ((k:Int)+1)=(k:Int)+1:=IntWalk.i64_in _ (by omega);clear h he hk' mM hlen hle hel hcc hl hk hv
 go_enter func54,ntmps54;go_wp2_with fail;refine KA.o.mono ?_;rintro e w1 ⟨rfl,bg⟩;have H0:=xh (show MS w w1 mb A ln c l key value k none none none from⟨HM.o.below bg,.ai bg,Sd.o,HBL.o,(λ_ h=>by cases h),(λ_ h=>by cases h),(λ_ h=>by cases h)⟩);clear bg
 go_upto_if 25 with(fail)
 go_cut [9]from 26 to 27 (λv9 wx=>v9=.int .i64 (ee:Int)/\w1=wx)
 case first=>
  cases b
  .obtain rfl:=HE.o.1 rfl;go_wp2_with fail;go_meet
   case rel=>exact⟨rfl,rfl⟩
  .obtain rfl:=HE.o.2 rfl;go_wp2_with fail;go_meet
   case rel=>exact⟨by push_cast;rfl,rfl⟩
 obtain⟨rfl,rfl⟩:=hcut;go_wp2_with fail;refine sM (S:=λW=>W.cell? ⟨mb,0,none⟩=some (.slice A ln c)) [23] (by kernel_rfl) (H0.o.drew.m0) (λau=>?_);refine cP [(0,28),(2,30),(3,31),(4,32),(5,33),(6,34),(7,35),(9,37),(10,38),(11,39),(14,42),(15,43),(16,44),(17,45),(18,46),(19,47)] ?_
 iterate 16 refine mA ?_
 refine vO (rs:=[1,12]) (by kernel_rfl) (by simp) ?_;refine jZ.cons (λK hK=>?_) (jZ.cons (λK hK=>?_) jZ.nil);have H1:=xh H0.o.zero;go_simp;refine bz hK (λ_=>H1.o.drew.m0) (λau=>?_);refine vO (rs:=[8,12]) (by kernel_rfl) (by simp) ?_;refine jZ.cons (λK hK=>?_) (jZ.cons (λK hK=>?_) jZ.nil);obtain⟨V2,c2,w2,ea,hq⟩:=H1.o.drew.app HH.o.1 (by have:=HH.o;omega)
 try simp only[lR]at ea
 have H2:=xh hq;clear hq;go_simp;clear ea;refine bz hK (λ_=>H2.o.m0) (λau=>?_);refine fN 12 λK hK=>?_;have H3:=xh H2.o.one;go_simp;refine bz hK (λ_=>H3.o.m0) (λau=>?_);rotate_left;have H2:=xh H1.o.one;go_simp;refine bz hK (λ_=>H2.o.drew.m0) (λau=>?_);refine fN 8 λK hK=>?_;obtain⟨V2,c2,w2,ea,hq⟩:=H2.o.drew.app HH.o.1 (by have:=HH.o;omega)
 try simp only[lR]at ea
 have H3:=xh hq;clear hq;go_simp;clear ea;refine bz hK (λ_=>H3.o.m0) (λau=>?_);rotate_left;have H1:=xh H0.o.one;go_simp;refine bz hK (λ_=>H1.o.drew.m0) (λau=>?_);refine fN 1 λK hK=>?_;have H2:=xh H1.o.zero;go_simp;refine bz hK (λ_=>H2.o.drew.m0) (λau=>?_);refine fN 8 λK hK=>?_;obtain⟨V2,c2,w2,ea,hq⟩:=H2.o.drew.app HH.o.1 (by have:=HH.o;omega)
 try simp only[lR]at ea
 have H3:=xh hq;clear hq;go_simp;clear ea;refine bz hK (λ_=>H3.o.m0) (λau=>?_);rotate_left
 all_goals
  obtain⟨V3,c3,w3,ea3,M3,o3,S3,f3⟩:=H3.o.app2 (by have:=HH.o;omega)
  try simp only[lR]at ea3
  have y3:=M3.b.ab (i:=0) rfl;obtain⟨V4,m4,c4,w4,ea4,M4,o4,S4,f4⟩:=ms_app3 M3 S3 f3 o3 Sd.o HBL.o ee HH.o.2.1 (by have:=HH.o;omega) (by have:=HH.o;omega) (if c=ee then A else Option.map (λx=>x.add (ee*2)) A) (λhc g hg=>by rw[if_neg (by omega),hg];exact congrArg some (show(⟨g,0,none⟩:Addr).add (ee*2)=_ from by rw[Nd.fZ,bl]));have y4:=M4.b.ab (i:=0) rfl;have z4:=M4.b.frozen 0 (by simp);have M4:=xh M4;have o4:=xh o4;have S4:=xh S4
  have f4:=xh f4;clear M3 S3 f3 o3;refine fN 13 λK hK=>?_;go_simp;refine bz hK (λ_=>y3) (λau=>?_);refine fN 20 λK hK=>?_;go_simp;refine bz hK (λ_=>y4) (λau=>?_);refine fN 21 λK hK=>?_;go_simp;refine bz hK (λ_=>y4) (λau=>?_);refine cP [(22,50)] ?_
  iterate 1 refine mA ?_
  refine fN 23 λK hK=>?_;go_simp;refine bz hK (λh=>absurd (by simp) h) (λau=>?_);refine zQ (by kernel_rfl) ?_ _;have MF:=xh (M4.o.b.bU 0 (.slice V4 m4 c4));have OF:=xh (o4.o.setCell (p:=⟨mb,0,none⟩) (λ_=>by simp) (.slice V4 m4 c4));have SF:=xh (S4.o.only (S:=[mb]) ((ag.refl _ _).setCell (p:=⟨mb,0,none⟩) (λ_=>by simp) (.slice V4 m4 c4)) (λx hx hm=>by have:=f4.o x hx;have:=HBL.o;simp at hm;omega))
  generalize (if c=ee then A else Option.map (λx=>x.add (ee*2)) A)=B9;go_wp2_with fail;go_ret;have HN:=HM.o.n;have hq:=And.intro MF.o (And.intro SF.o OF.o);rw[cy]at hq;exact aP ⟨_,⟨hq.1,hq.2.1,by simp only[aO,bK,dY,fo,yY,yf.o];have:=HH.o;have:=HKE.o;omega⟩,hq.2.2⟩
end Sh
namespace Sh
open Go.RowKit Pk Dk Pg
attribute [local go_sem ↓] Go.wp_at_zero Go.wp_at_succ
variable{w:World}{I:Ix}{F:List Nat}{q:QS}{n K m:Nat}{v:Value}{L:List Value}
structure TW(w:World)(wb tb mb:Nat)(I:Ix)(F:List Nat)(vl vo:Value)(q:QS)(n K:Nat)(l o:List PR):Prop where
 b:aF w wb 38 #[.pointer (some ⟨I.L.b,0,none⟩),.pointer (some ⟨I.pb,0,none⟩),.pointer (some ⟨tb,0,none⟩),.pointer (some ⟨mb,0,none⟩),vo]
 m:Mp w mb vl l
 s:aS w 42 2 vo o.length (kR o)
 t:TQ w tb I F q n K
 no:o.length<=1000000
theorem PQ.Nl(h:PQ w I F q n K)(S:aS w 42 2 v m L):∀g∈ah v,g∉F:=by
 rcases S.2 with⟨rfl,_⟩|⟨g,cap,rest,rfl,B,_⟩
 .intro g hg;simp[ah]at hg
 .intro g' hg;simp only[ah,aI]at hg;subst hg;exact h.iI B
theorem BC(S:aS w 42 2 v m L){b:Nat}{t:TypeId}{cs:Array Value}(B:aF w b t cs)(h:t≠42):∀g∈ah v,g≠b:=by
 rcases S.2 with⟨rfl,_⟩|⟨g,cap,rest,rfl,BB,_⟩
 .intro g hg;simp[ah]at hg
 .intro g' hg;simp only[ah,aI]at hg;subst hg;exact λe=>h ((e▸BB).inj B).1.symm
section
variable{w w':World}{wb tb mb:Nat}{I:Ix}{F S:List Nat}{vl vo:Value}{q q':QS}{n K K':Nat}{l o:List PR}
theorem TW.wF(h:TW w wb tb mb I F vl vo q n K l o):wb∉F:=h.t.2.iI h.b
theorem TW.mF(h:TW w wb tb mb I F vl vo q n K l o):mb∉F:=h.t.2.iI h.m.b
theorem TW.wm(h:TW w wb tb mb I F vl vo q n K l o):wb≠mb:=h.b.kl h.m.b (by decide)
theorem TW.wt(h:TW w wb tb mb I F vl vo q n K l o):wb≠tb:=h.b.kl h.t.1 (by decide)
theorem TW.mt(h:TW w wb tb mb I F vl vo q n K l o):mb≠tb:=h.m.b.kl h.t.1 (by decide)
theorem TW.below(h:TW w wb tb mb I F vl vo q n K l o)(hb:Below w.heap.size w w'):TW w' wb tb mb I F vl vo q n K l o:=⟨h.b.below hb h.b.lt,h.m.below hb,h.s.below hb,h.t.below hb,h.no⟩
theorem TW.drew(h:TW w wb tb mb I F vl vo q n K l o):TW w.drew wb tb mb I F vl vo q n K l o:=h.below (Below.refl _ _).drew
theorem TW.le(h:TW w wb tb mb I F vl vo q n K l o)(hk:K<=K'):TW w wb tb mb I F vl vo q n K' l o:=⟨h.b,h.m,h.s,h.t.le hk,h.no⟩
theorem TW.lt(h:TW w wb tb mb I F vl vo q n K l o):∀g∈wb::mb::tb::F,g<w.heap.size:=λg hg=>by
 simp only[aj]at hg
 rcases hg with rfl|rfl|hg
 .exact h.b.lt
 .exact h.m.b.lt
 .exact h.t.lt g (aj.2 hg)
theorem TW.tree(h:TW w wb tb mb I F vl vo q n K l o)(p:PT w w' I F q' n K'):∃F',TW w' wb tb mb I F' vl vo q' n K' l o/\ag F w w'/\∀g∈F',g∈F\/w.heap.size<=g:=by
 obtain⟨F',P,o,f⟩:=p;exact⟨F',⟨h.b.only o h.wF,⟨h.m.b.only o h.mF,h.m.s.only o (h.t.2.Nl h.m.s),h.m.n⟩,h.s.only o (h.t.2.Nl h.s),⟨h.t.1.only o h.t.ne,P⟩,h.no⟩,o,f⟩
theorem TW.map{Sg:Value}{l':List PR}(h:TW w wb tb mb I F vl vo q n K l o)(ho:ag [mb] w w')(M:Mp w' mb Sg l'):TW w' wb tb mb I F Sg vo q n K l' o:=
 ⟨h.b.only ho (by simpa using h.wm),M,h.s.only ho (λg hg hm=>BC h.s h.m.b (by decide) g hg (aI.1 hm)),h.t.only ho (λg hg hm=>by
  have e:=aI.1 hm;subst e;exact(aj.1 hg).elim h.mt h.mF),h.no⟩
theorem TW.cells(h:TW w wb tb mb I F vl vo q n K l o):w.cell? ⟨wb,1,none⟩=some (.pointer (some ⟨I.pb,0,none⟩))/\w.cell? ⟨wb,2,none⟩=some (.pointer (some ⟨tb,0,none⟩))/\w.cell? ⟨wb,3,none⟩=some (.pointer (some ⟨mb,0,none⟩))/\w.cell? ⟨wb,4,none⟩=some vo:=
 ⟨h.b.ab (i:=1) rfl,h.b.ab (i:=2) rfl,h.b.ab (i:=3) rfl,h.b.ab (i:=4) rfl⟩
end
theorem qJ(e:Int)(w:World):Calls prog 18 #[.int .i64 e] w λr w'=>r=.returned (.bool (decide (e=11) || decide (e=12)))/\w=w':=by
 go_enter func18,ntmps18;go_wp2_with fail
 all_goals
  go_ret;exact⟨by first|rfl|simp_all,rfl⟩
theorem kS{wb tb mb:Nat}{vl vo:Value}{l o:List PR}(h:TW w wb tb mb I F vl vo q n K l o)(hK:K<=999999990000)(h0:q.bY.kq.2=0):
  Calls prog 57 #[.pointer (some ⟨wb,0,none⟩)] w λe w'=>e=.returned (.bool true)/\∃nW sj F',TW w' wb nW sj I F' vo vo q.bY.kq.1 n (K+2) o o/\ag (wb::F) w w'/\∀g∈sj::nW::F',g∈F\/w.heap.size<=g:=by
 have KA:=Ma h.t.2;obtain⟨x1,x2,x3,x4⟩:=h.cells;obtain⟨A,c,rfl⟩:=ax h.s;unfold pp at KA;have KA:=xh KA;have KO:=xh (λ(W:World) (F:List Nat) (hW:PQ W I F q.bY n K)=>DE hW (by omega));have HT:=xh h;have H0:=xh h0;clear h h0;go_enter func57,ntmps57;go_wp2_with fail;refine KA.o.mono ?_;rintro e w1 ⟨rfl,hp⟩;obtain⟨F1,T1,o1,f1⟩:=HT.o.tree hp;have T1:=xh T1;have O1:=xh (And.intro o1 f1);clear hp o1 f1 x1 x2 x3 x4
 obtain⟨x1,x2,x3,x4⟩:=T1.o.cells;have KO1:=KO.o w1 F1 T1.o.t.2;rw[H0.o]at KO1;unfold pp at KO1;have KO1:=xh KO1;go_wp2_with fail;refine KO1.o.mono ?_;rintro e w2 ⟨v2,rfl,F2,o2,f2,P2,y2,y3⟩;obtain⟨nW,rfl,htb,T2⟩:=y3 rfl;clear y2 y3;have B2:=xh (T1.o.b.only o2 T1.o.wF);have S2:=T1.o.s.only o2 (T1.o.t.2.Nl T1.o.s);have hwt:wb∉nW::F2:=λhm=>(aj.1 hm).elim (λe=>by have:=T1.o.b.lt;omega) (T2.2.iI B2.o)
 have hws:∀g∈ah (.slice A o.length c),g≠wb:=BC S2 B2.o (by decide);obtain⟨z,hz⟩:∃z,w2.heap.size=z:=⟨_,rfl⟩;have hbz:=B2.o.lt;have oX:=S2.lt;have W5:=((((ag.refl [wb] w2).setCell (p:=⟨wb,2,none⟩) (λ_=>by simp) (tp nW)).setCell (p:=⟨wb,3,none⟩) (λ_=>by simp) (.pointer (some ⟨z,0,none⟩)))).alloc (.cells #[.slice A o.length c] 45);have M5:=aF.new ((w2.setCell ⟨wb,2,none⟩ (tp nW)).setCell ⟨wb,3,none⟩ (.pointer (some ⟨z,0,none⟩))) 45 #[.slice A o.length c]
 have hzz:((w2.setCell ⟨wb,2,none⟩ (tp nW)).setCell ⟨wb,3,none⟩ (.pointer (some ⟨z,0,none⟩))).heap.size=z:=by rw[<-hz];simp[World.setCell]
 rw[hzz]at M5;have B5:=(((B2.o.bU 2 (tp nW)).bU 3 (.pointer (some ⟨z,0,none⟩))).alloc (.cells #[.slice A o.length c] 45));have H5:=xh (show TW _ wb nW z I F2 (.slice A o.length c) (.slice A o.length c) q.bY.kq.1 n (K+2) o o from
  ⟨B5,⟨M5,S2.only W5 (λg hg hm=>hws g hg (aI.1 hm)),HT.o.no⟩,S2.only W5 (λg hg hm=>hws g hg (aI.1 hm)),T2.only W5 (λg hg hm=>hwt (aI.1 hm▸hg)),HT.o.no⟩)
 have O5:=xh (show ag (wb::F) w _ from((O1.o.1.mono (S':=wb::F) (λx hx _=>aw _ hx)).aL o2 (λx hx dP=>aw _ ((O1.o.2 x hx).elim id (λh=>by omega)))).trans (W5.mono (λx hx _=>by simp at hx;simp[hx])));have F5:=xh (show ∀g∈z::nW::F2,g∈F\/w.heap.size<=g from λg hg=>by
  have h1:=O1.o.1.size;have h2:=o2.size;simp only[aj]at hg
  rcases hg with rfl|rfl|hg
  .right;omega
  .right;omega
  .exact(f2 g hg).elim (O1.o.2 g) (λh=>by right;omega))
 have y4:=B2.o.ab (i:=4) rfl;have y2:=B2.o.ab (i:=2) rfl;have y3:=B2.o.ab (i:=3) rfl;have z2:=B2.o.frozen 2 (by simp);have z3:=B2.o.frozen 3 (by simp);clear o2 f2 P2 T2 hwt hws oX W5 M5 B5 hzz S2 htb x1 x2 x3 x4;subst hz;have hbn:¬wb=w2.heap.size:=by omega
 unfold tp at *;go_wp2_with fail;go_ret;exact aP ⟨nW,_,F2,H5.o,O5.o,F5.o⟩
end Sh
namespace Sh
open Go.RowKit Pk Dk Pg
section
variable{q:QS}{l o:List PR}{mm k:Nat}
theorem TI.setM(h:TI q l o mm k)(key value:ByteArray)(hn:k<100):
  ((q.iD key value).2=11/\TJ (q.iD key value).1 o mm (k+1))\/((q.iD key value).2=(if 32<key.size\/1024<value.size then 4 else 0)/\TI (q.iD key value).1 (Pd l key value) o mm (k+1)):=by
 unfold Pd
 by_cases hb:32<key.size\/1024<value.size
 .rw[if_pos hb,if_pos hb];have e:q.iD key value=(q,4):=by unfold QS.iD;rw[if_pos (by omega)]
  rw[e];exact .inr ⟨rfl,h.le (by omega)⟩
 .rw[if_neg hb,if_neg hb];obtain⟨a,b,_⟩:=rH key l h.sorted.1;rw[a,b]
  rcases h.set key value (by omega) (by omega) hn with⟨x,y⟩|⟨x,y⟩
  .exact .inl ⟨x,y.le (by omega)⟩
  .exact .inr ⟨x,y⟩
theorem TI.delM(h:TI q l o mm k)(key:ByteArray):
  ((q.iT key).2=11/\TJ (q.iT key).1 o mm k)\/((q.iT key).2=(if tE l key=true then 0 else 9)/\TI (q.iT key).1 (Jw l key) o mm k):=by
 obtain⟨a,b,c,_⟩:=rH key l h.sorted.1;unfold Jw
 rcases h.del key with⟨x,y⟩|⟨x,y,z⟩|⟨x,y,z⟩
 .exact .inl ⟨x,y⟩
 .right;have hb:¬tE l key=true:=λhb=>c.1 hb y;rw[if_neg hb,if_neg hb];exact⟨x,z⟩
 .right;have hb:tE l key=true:=c.2 y;rw[if_pos hb]at b;rw[if_pos hb,if_pos hb,a,b];exact⟨x,z⟩
theorem TI.clearM(h:TI q l o mm k)(fr az:ByteArray):
  ((q.gV fr az).2.2=11/\TJ (q.gV fr az).1 o mm k)\/((q.gV fr az).2=((l.length:Int)-(oV fr az l).length,0)/\TI (q.gV fr az).1 (oV fr az l) o mm k):=by
 rw[RI,out_eq];exact h.clear fr az
theorem TI.getM(h:TI q l o mm k)(key:ByteArray):TI (q.nu key).1 l o mm k/\((q.nu key).2.2=11\/(q.nu key).2=qH l key):=by
 obtain⟨a,b,c,d⟩:=rH key l h.sorted.1;rw[d];exact h.get key
theorem TI.scanM(h:TI q l o mm k)(fr az:ByteArray)(n:Int):TI (q.kg fr az n).1 l o mm k/\((q.kg fr az n).2.2=11\/(q.kg fr az n).2=(je fr az n l,0)):=by
 rw[OV];exact h.scan fr az n
theorem TI.lastM(h:TI q l o mm k)(hk:k<=1000000)(fr az:ByteArray):TI (q.lJ fr az).1 l o mm k/\((q.lJ fr az).2.2=11\/(q.lJ fr az).2=match (je fr az 1099511627776 l).getLast? with|none=>((⟨#[]⟩,⟨#[]⟩),9)|some x=>(x,0)):=by
 rw[WR fr az l (aq h.sorted.2 hk) (by omega)];exact h.last fr az
end
attribute [local go_sem ↓] Go.wp_at_zero Go.wp_at_succ
variable{w:World}{A:Option Addr}{n c:Nat}{l:List PR}
theorem toLb2{a b:ByteArray}(h:a≠b):(a.toList==b.toList)=false:=by
 apply beq_eq_false_iff_ne.2;intro e;rw[cu,cu]at e;exact h (mo (rS.1 e))
theorem Pe:∀{l:List PR} {i:Nat} {x:PR},l[i]?=some x->(kR l)[i*2]?=some (.string x.1)/\(kR l)[i*2+1]?=some (.string x.2)
 |[],_,_,h=>by simp at h
 |y::l,0,x,h=>by
  simp only[yW,Option.some.injEq]at h;subst h;exact⟨rfl,rfl⟩
 |y::l,i+1,x,h=>by
  rw[vf]at h;have:=Pe h;have e:kR (y::l)=[.string y.1,.string y.2]++kR l:=rfl;rw[e,dR (by simp;omega),dR (by simp;omega),show(i+1)*2-[Value.string y.1,Value.string y.2].length=i*2 by simp;omega,show(i+1)*2+1-[Value.string y.1,Value.string y.2].length=i*2+1 by simp;omega];exact this
theorem aS.pr(S:aS w 42 2 (.slice A n c) n (kR l)){i:Nat}(hi:i<n):∃g x,A=some ⟨g,0,none⟩/\l[i]?=some x/\n<=c/\c<=maxLen/\w.cell? ⟨g,i*2,none⟩=some (.string x.1)/\w.cell? ⟨g,i*2+1,none⟩=some (.string x.2):=by
 have hl:l.length=n:=by have:=S.1;rw[ef]at this;omega
 obtain⟨g,cap,rest,hv,B,hc,hr⟩:=S.form (by omega) (by omega);injection hv with e1 e2 e3
 subst e1;obtain⟨x,hx⟩:∃x,l[i]?=some x:=⟨_,aG (by omega)⟩;obtain⟨p1,p2⟩:=Pe hx;have uQ:c<=maxLen:=by obtain⟨_,_,_,_,h⟩:=S.uP;exact h
 refine⟨g,x,rfl,hx,by omega,uQ,?_,?_⟩
 .exact B.ab (by rw[dh,bE (by rw[ef];omega)];exact p1)
 .exact B.ab (by rw[dh,bE (by rw[ef];omega)];exact p2)
theorem p_ne(k v k' v':ByteArray):(k=k'/\v=v')\/(k≠k')\/(k=k'/\v≠v'):=by
 by_cases h1:k=k'
 .by_cases h2:v=v'
  .exact .inl ⟨h1,h2⟩
  .exact .inr (.inr ⟨h1,h2⟩)
 .exact .inr (.inl h1)
theorem Jx{A':Option Addr}{n' c':Nat}{l':List PR}(S:aS w 42 2 (.slice A n c) n (kR l))(S':aS w 42 2 (.slice A' n' c') n' (kR l'))(hn:n<=1000000)(hn':n'<=1000000)(b:Bool)(hb:b=true↔l=l'):
  Calls prog 19 #[.slice A n c,.slice A' n' c'] w λr w'=>r=.returned (.bool b)/\Below w.heap.size w w':=by
 have hl:l.length=n:=by have:=S.1;rw[ef]at this;omega
 have hl':l'.length=n':=by have:=S'.1;rw[ef]at this;omega
 have HL:=xh hl;have HL':=xh hl';have H0:=xh S;have H1:=xh S';have HB:=xh hb;clear S S' hb hl hl'
 by_cases hnn:n=n'
 .subst hnn;go_enter func19,ntmps19;go_wp2_with fail
  go_loopw [5] (λiv wr=> ∃i:Nat,i<=n/\iv=.int .i64 i/\Hid (∀j:Nat,j<i->l[j]?=l'[j]?)/\Below w.heap.size w wr) (λiv _=>n-(intOf iv).toNat)
  case atStart=>exact⟨0,bf _,rfl,xh (λj h=>absurd h (kZ _)),Below.refl _ _⟩
  case round=>
   obtain⟨i,hi,rfl,EQ,O⟩:=hrel
   by_cases h:i<n
   .obtain⟨g,x,rfl,hx,q1,q2,a0,a1⟩:=aS.pr (H0.o.below O) h;obtain⟨g',x',rfl,hx',q1',q2',b0,b1⟩:=aS.pr (H1.o.below O) h;have OO:=xh O;have HE:=xh (And.intro hx hx');have hii:(i:Int)<(n:Int):=by omega
    clear O hx hx';obtain⟨k,v⟩:=x;obtain⟨k',v'⟩:=x';dsimp only at *
    rcases p_ne k v k' v' with⟨rfl,rfl⟩|hd|⟨rfl,hd⟩
    .have HQ:=xh (show ∀j:Nat,j<i+1->l[j]?=l'[j]? from λj hj=>by
      rcases oh.1 hj with h1|rfl
      .exact EQ.o j h1
      .rw[HE.o.1,HE.o.2])
     go_wp2_with fail;go_quiet (fail);go_wp2_with fail;go_roundw
     case rel=>exact⟨i+1,by omega,by go_num,HQ,df OO.o _⟩
     case measure=>simp[intOf];omega
    all_goals
     have HD:=xh (show l≠l' from λhx=>by
      have h1:=HE.o.1;rw[hx,HE.o.2]at h1;simp only[Option.some.injEq,Prod.mk.injEq]at h1
      first|exact hd h1.1.symm|exact hd h1.2.symm)
     have Qt:=toLb2 hd;have hd3:=toLb2 (λe=>hd e.symm);go_wp2_with fail;go_quiet (fail);go_wp2_with fail;go_ret;have hbf:b=false:=by
      cases b
      .rfl
      .exact absurd (HB.o.1 rfl) HD.o
     exact⟨by rw[hbf];rfl,df OO.o _⟩
   .have hii:¬(i:Int)<(n:Int):=by omega
    have e:i=n:=by omega
    subst e;have Wu:b=true:=HB.o.2 (mq λj=>by
     rcases dX j i with h1|h1
     .exact EQ.o j h1
     .rw[fG (by rw[HL.o];exact h1),fG (by rw[HL'.o];exact h1)])
    have HBT:=xh Wu;have OO:=xh O;clear Wu O;go_wp2_with fail;go_ret;exact⟨by rw[HBT.o];rfl,OO.o⟩
 .have hbf:b=false:=by
   cases b
   .rfl
   .have:=HB.o.1 rfl;rw[this,HL'.o]at HL;exact absurd HL.o.symm hnn
  have hnI:(n:Int)≠(n':Int):=by omega
  have hq:((n:Int) != (n':Int))=true:=by rw[bne_iff_ne];exact hnI
  have kh:((n:Int)==(n':Int))=false:=by rw[beq_eq_false_iff_ne];exact hnI
  have HBT:=xh hbf;clear hbf;go_enter func19,ntmps19;go_wp2_with fail;go_ret;exact⟨by rw[HBT.o];rfl,Below.refl _ _⟩
def kA:ByteArray:=⟨#[97]⟩
def kB:ByteArray:=⟨#[98]⟩
def kC:ByteArray:=⟨#[99]⟩
def k1:ByteArray:=⟨#[49]⟩
def k2:ByteArray:=⟨#[50]⟩
def Gm:ByteArray:=⟨#[]⟩
def aq1:QS:=((QS.begun 4 60).iD kB k1).1
def aq2:QS:=(aq1.iD kA k2).1
def aq3:QS:=(aq2.kg Gm Gm 9).1
def aq4:QS:=(aq3.nu kA).1
theorem pot0:dQ (λ_=>1) (ao wU 0 0)<=0:=by
 have Ct:gm wU 0=(true,[],0):=by unfold wU;rw[gh lay0,if_pos rfl];rfl
 unfold ao;rw[Ct];decide
theorem Jy(R:Rd (QS.begun 4 60) wU wU 3 60):((QS.begun 4 60).iD kB k1).2=0/\(aq1.iD kA k2).2=0/\(aq2.kg Gm Gm 9).2=([(kA,k2),(kB,k1)],0)/\(aq3.nu kA).2=(k2,0)/\(aq4.iT kC).2=9:=by
 obtain⟨a1,v1,M1,a2,a3,a4,a5⟩:=D7 R WK kB k1 (by decide) (by decide) (by decide) (by decide) pot0 (by decide);have e1:jx M1=[(kB,k1)]:=by rw[a4];decide
 obtain⟨b1,v2,M2,b2,b3,b4,b5⟩:=D7 a2 a3 kA k2 (by decide) (by decide) (by decide) (by decide) a5 (by decide);have e2:jx M2=[(kA,k2),(kB,k1)]:=by rw[b4,e1];decide
 obtain⟨c1,c2⟩:=DT b2 b3 (by omega) Gm Gm 9;obtain⟨d1,d2⟩:=Bt c1 b3 (by omega) kA;have f:=D8 d1 b3 (by omega) kC;refine⟨a1,b1,?_,?_,?_⟩
 .rcases c2 with⟨c2,c3⟩|c2
  .omega
  .rw[show aq2=(aq1.iD kA k2).1 from rfl];refine c2.trans ?_;rw[e2];decide
 .rcases d2 with⟨d2,d3⟩|d2
  .omega
  .refine Eq.trans d2 ?_;rw[e2];decide
 .rcases f with⟨f1,f2,_⟩|⟨f1,_⟩|⟨f1,f2,_⟩
  .omega
  .exact f1
  .exfalso;rw[e2]at f2;exact f2 (by decide)
structure Pf(w W:World)(wb mb tb:Nat)(I:Ix)(F:List Nat)(q:QS)(n K:Nat)(bQ:Value):Prop where
 b:aF W wb 38 #[dp I.L.b,pp I.pb,tp tb,lp mb,bQ]
 t:TQ W tb I F q n K
 o:Below w.heap.size w W
 f:∀g∈wb::mb::tb::F,w.heap.size<=g
section
variable{w W W':World}{wb mb tb:Nat}{I:Ix}{F:List Nat}{q q':QS}{n K K':Nat}{bQ:Value}
theorem Pf.nw(h:Pf w W wb mb tb I F q n K bQ):wb∉F:=h.t.2.iI h.b
theorem Pf.pq(h:Pf w W wb mb tb I F q n K bQ)(P:PQ W' I F q' n K')(o:ag F W W'):Pf w W' wb mb tb I F q' n K' bQ:=
 ⟨h.b.only o h.nw,h.t.next o P,h.o.trans (o.aJ h.o.size (λg hg=>h.f g (by simp[hg]))),h.f⟩
theorem Pf.pt(h:Pf w W wb mb tb I F q n K bQ)(p:PT W W' I F q' n K'):∃F',Pf w W' wb mb tb I F' q' n K' bQ:=by
 obtain⟨F',P,o,f⟩:=p;refine⟨F',h.b.only o h.nw,⟨h.t.1.only o h.t.ne,P⟩,h.o.trans (o.aJ h.o.size (λg hg=>h.f g (by simp[hg]))),λg hg=>?_⟩;have hs:=h.o.size;simp only[aj]at hg
 rcases hg with rfl|rfl|rfl|hg
 .exact h.f _ (by simp)
 .exact h.f _ (by simp)
 .exact h.f _ (by simp)
 .exact(f g hg).elim (λh1=>h.f g (by simp[h1])) (λh1=>by omega)
theorem Pf.below(h:Pf w W wb mb tb I F q n K bQ)(hb:Below W.heap.size W W'):Pf w W' wb mb tb I F q n K bQ:=
 ⟨h.b.below hb h.b.lt,h.t.below hb,aC h.o hb,h.f⟩
end
theorem Jz(w:World):Calls prog 13 #[] w λe w'=>e=.returned (.bool true)/\Below w.heap.size w w':=by
 have KB:=xh (Bx w 4 60 (by omega) (by omega) (by omega) (by omega));go_enter func13,ntmps13;go_wp2_with fail;refine KB.o.mono ?_;rintro e w1 ⟨wb,tb,mb,I,F,rfl,B1,BM,T1,R1,O1,f1⟩;obtain⟨g1,g2,g3,g4,g5⟩:=Jy R1;have A1:Pf w w1 wb mb tb I F (QS.begun 4 60) 242 50 (.slice none 0 0):=⟨B1,T1,O1,f1⟩;have x1:=B1.ab (i:=2) rfl;have K1:=AR T1 (by omega) kB k1 (by decide) (by decide);rw[g1]at K1;have K1:=xh K1
 have K2:=xh (λ(W:World) (F:List Nat) (hW:TQ W tb I F aq1 242 150)=>g2▸AR hW (by omega) kA k2 (by decide) (by decide));have K3:=xh (λ(W:World) (F:List Nat) (hW:TQ W tb I F aq2 242 250)=>DP hW (by omega) Gm Gm 9);have K4:=xh (λ(W:World) (F:List Nat) (hW:TQ W tb I F aq3 242 300250)=>Dz hW (by omega) kA);have K5:=xh (λ(W:World) (F:List Nat) (hW:TQ W tb I F aq4 242 300271)=>AS hW (by omega) kC);rw[g3]at K3;rw[g4]at K4;rw[g5]at K5
 have A1:=xh A1;clear B1 BM T1 R1 O1 f1 g1 g2 g3 g4 g5;unfold tp kA kB kC k1 k2 Gm at *;unfold lp;go_wp2_with fail;refine K1.o.mono ?_;rintro e w2 ⟨rfl,p2⟩;obtain⟨F2,A2⟩:=A1.o.pt p2;have x2:=A2.b.ab (i:=2) rfl;have K2:=xh (K2.o w2 F2 A2.t);have A2:=xh A2;clear p2 x1;unfold tp at x2;go_wp2_with fail;refine K2.o.mono ?_;rintro e w3 ⟨rfl,p3⟩;obtain⟨F3,A3⟩:=A2.o.pt p3;have x3:=A3.b.ab (i:=2) rfl;have K3:=xh (K3.o w3 F3 A3.t);have A3:=xh A3
 clear p3 x2;unfold tp at x3;go_wp2_with fail;refine K3.o.mono ?_;rintro e w4 ⟨v,rfl,S4,P4,o4,f4⟩;have A4:Pf w w4 wb mb tb I F3 aq3 242 300250 (.slice none 0 0):=A3.o.pq P4 o4;have x4:=A4.b.ab (i:=2) rfl;have K4:=xh (K4.o w4 F3 A4.t);have A4:=xh A4;have S4:=xh (And.intro S4 f4);clear P4 o4 f4 x3;unfold tp at x4;go_wp2_with fail;refine K4.o.mono ?_;rintro e w5 ⟨rfl,P5,o5⟩;have A5:Pf w w5 wb mb tb I F3 aq4 242 300271 (.slice none 0 0):=A4.o.pq P5 o5
 have S5:aS w5 42 2 v 2 (kR [(⟨#[97]⟩,⟨#[50]⟩),(⟨#[98]⟩,⟨#[49]⟩)]):=S4.o.1.only o5 (λg hg hm=>by have h1:=S4.o.2 g hg;have h2:=A3.o.t.2.lt g hm;omega);obtain⟨VA,vc,rfl⟩:=ax S5;have fi:=ae (Below.refl w5.heap.size w5) (.cells #[.string ⟨#[97]⟩,.string ⟨#[50]⟩,.string ⟨#[98]⟩,.string ⟨#[49]⟩] 42)
 have SB:aS (w5.alloc (.cells #[.string ⟨#[97]⟩,.string ⟨#[50]⟩,.string ⟨#[98]⟩,.string ⟨#[49]⟩] 42)) 42 2 (.slice (some ⟨w5.heap.size,0,none⟩) 2 2) 2 (kR [(⟨#[97]⟩,⟨#[50]⟩),(⟨#[98]⟩,⟨#[49]⟩)]):=⟨rfl,.inr ⟨w5.heap.size,2,[],rfl,aF.new _ _ _,rfl,by decide⟩⟩;have KS:=xh (Jx (S5.below fi) SB (by omega) (by omega) true (by simp));have A6:=xh (A5.below fi);clear P5 o5 S5 SB fi A5 x4;go_wp2_with fail;refine KS.o.mono ?_;rintro e w7 ⟨rfl,rU⟩;have A7:=A6.o.below rU
 have x7:=A7.b.ab (i:=2) rfl;have K5:=xh (K5.o w7 F3 A7.t);have A7:=xh A7;clear rU;unfold tp at x7;go_wp2_with fail;refine K5.o.mono ?_;rintro e w8 ⟨rfl,p8⟩;obtain⟨F8,A8⟩:=A7.o.pt p8;have A8:=xh A8;clear p8 x7;go_wp2_with fail;go_ret;exact aP A8.o.o
open Go.RowKit Go.ChangeShapes Go.WideShapes Go.Deep Pk Dk Pg
structure WY where
 kd:Int
 n:Int
 key:ByteArray
 az:ByteArray
 val:ByteArray
def WY.ok(x:WY):Prop:=x.key.size<=maxLen/\x.az.size<=maxLen/\x.val.size<=maxLen/\ -9223372036854775808<=x.kd/\x.kd<=9223372036854775807/\ -9223372036854775808<=x.n/\x.n<=9223372036854775807
theorem RK{H:Type}{enc:TypeId×Value->H}{P:Program}{w:World}{t:TypeId}{f0 f1 f2 f3 f4:Field}{fuel:Nat}{cs:List Value}{x:DataW H×List MemPlace}
  (hs:P.underlying t=some (.struct #[f0,f1,f2,f3,f4]))(hC:P.cellsOf t=5)(o0:f0.offset=0)(o1:f1.offset=1)(o2:f2.offset=2)(o3:f3.offset=3)(o4:f4.offset=4)(k0:P.cellsOf f0.type=1)(k1:P.cellsOf f1.type=1)(k2:P.cellsOf f2.type=1)(k3:P.cellsOf f3.type=1)(k4:P.cellsOf f4.type=1)
  (u0:P.underlying f0.type=some (.int .i64))(u1:P.underlying f1.type=some (.int .i64))(u2:P.underlying f2.type=some .string)(u3:P.underlying f3.type=some .string)(u4:P.underlying f4.type=some .string)
  (h:DataW.trod enc P w 0 (λ_=>true) true fuel t cs=some x):∃y:WY,cs=[.int .i64 y.kd,.int .i64 y.n,.string y.key,.string y.az,.string y.val]/\y.ok:=by
 obtain⟨xs,n,_,_,hl,NU,hf⟩:=DataW.trod_struct hs h;obtain⟨c0,c1,c2,c3,c4,rfl⟩:∃a b c d e,cs=[a,b,c,d,e]:=by
  match cs,hl.trans hC with
  |[a,b,c,d,e],_=>exact⟨a,b,c,d,e,rfl⟩
 obtain⟨y0,y1,y2,y3,y4,rfl⟩:∃y0 y1 y2 y3 y4,xs=[y0,y1,y2,y3,y4]:=by
  match xs,NU with
  |[a,b,c,d,e],_=>exact⟨a,b,c,d,e,rfl⟩
 have g0:=hf 0 f0 rfl;have g1:=hf 1 f1 rfl;have g2:=hf 2 f2 rfl;have g3:=hf 3 f3 rfl;have g4:=hf 4 f4 rfl;rw[o0,k0]at g0;rw[o1,k1]at g1;rw[o2,k2]at g2;rw[o3,k3]at g3;rw[o4,k4]at g4;simp only[Eg,Ef,n9,iL]at g0 g1 g2 g3 g4;obtain⟨r0,LL,-,wf0⟩:=DataW.trod_int u0 (x:=y0) (by simpa using g0);obtain⟨r1,Vh,-,wf1⟩:=DataW.trod_int u1 (x:=y1) (by simpa using g1);obtain⟨r2,hr2,-,s2⟩:=DataW.trod_string u2 (x:=y2) (by simpa using g2)
 obtain⟨r3,hr3,-,s3⟩:=DataW.trod_string u3 (x:=y3) (by simpa using g3);obtain⟨r4,hr4,-,s4⟩:=DataW.trod_string u4 (x:=y4) (by simpa using g4);simp only[List.cons.injEq,and_true]at LL Vh hr2 hr3 hr4;subst LL Vh hr2 hr3 hr4;have b0:=Go.bounds_i64 wf0;have b1:=Go.bounds_i64 wf1;exact⟨⟨r0,r1,r2,r3,r4⟩,rfl,s2,s3,s4,by show -9223372036854775808<=r0;omega,by show r0<=9223372036854775807;omega,by show -9223372036854775808<=r1;omega,by show r1<=9223372036854775807;omega⟩
def FrA(A:List Nat)(z:Nat)(B:List Nat):Prop:= ∀g∈B,g∈A\/z<=g
abbrev tF(kd n:Int)(key az val:ByteArray):Array Value:= #[.int .i64 kd,.int .i64 n,.string key,.string az,.string val]
section
variable{w w':World}{wb tb mb:Nat}{I:Ix}{F S:List Nat}{vl vo:Value}{q q':QS}{n K K':Nat}{l o:List PR}
theorem TW.next(h:TW w wb tb mb I F vl vo q n K l o)(ho:ag F w w')(p:PQ w' I F q' n K'):TW w' wb tb mb I F vl vo q' n K' l o:=
 ⟨h.b.only ho h.wF,⟨h.m.b.only ho h.mF,h.m.s.only ho (h.t.2.Nl h.m.s),h.m.n⟩,h.s.only ho (h.t.2.Nl h.s),h.t.next ho p,h.no⟩
theorem TW.only(h:TW w wb tb mb I F vl vo q n K l o)(ho:ag S w w')(hd:∀g∈wb::mb::tb::F,g∉S)(h1:∀g∈ah vl,g∉S)(h2:∀g∈ah vo,g∉S):TW w' wb tb mb I F vl vo q n K l o:=
 ⟨h.b.only ho (hd _ (by simp)),⟨h.m.b.only ho (hd _ (by simp)),h.m.s.only ho h1,h.m.n⟩,h.s.only ho h2,h.t.only ho (λg hg=>hd g (aw _ (aw _ hg))),h.no⟩
theorem ag.WZ{w w1 w':World}{p:Nat}{S:List Nat}(ho:ag [p] w1 w')(o:ag S w w1)(h:w.heap.size<=p):ag S w w':=o.aL ho (λx hx hl=>by have:=aI.1 hx;omega)
theorem eZ(w:World):Calls prog 18 #[.int .i64 11] w λr w'=>r=.returned (.bool true)/\w=w':=qJ 11 w
theorem fq(e:Int)(h:e≠11)(h2:e≠12)(w:World):Calls prog 18 #[.int .i64 e] w λr w'=>r=.returned (.bool false)/\w=w':=by
 have:=qJ e w
 rwa [decide_eq_false h,decide_eq_false h2]at this
theorem TW.actF(h:TW w wb tb mb I F vl vo q n K l o){z:Nat}{cs:Array Value}(B:aF w z 28 cs):z∉wb::mb::F:=λhm=>by
 simp only[aj]at hm
 rcases hm with hm|hm|hm
 .exact(B.kl h.b (by decide)) hm
 .exact(B.kl h.m.b (by decide)) hm
 .exact h.t.2.iI B (by decide) (by decide) (by decide) (by decide) (by decide) (by decide) (by decide) (by decide) (by decide) hm
end
theorem RM{w:World}{wb tb mb:Nat}{I:Ix}{F:List Nat}{vl vo:Value}{q:QS}{n Kz mm k:Nat}{l o:List PR}(h:TW w wb tb mb I F vl vo q n Kz l o)(hi:TI q l o mm k)(hk:k<=1000)(hK:Kz<=999998000000)(kd nn:Int)(key az val:ByteArray):
  Calls prog 59 #[.pointer (some ⟨wb,0,none⟩),.agg (tF kd nn key az val)] w λe w'=>e=.returned (.bool true)/\∃nW sj F' Sg q' l',TW w' wb nW sj I F' Sg vo q' n (Kz+400000) l' o/\TI q' l' o mm k/\ag (wb::F) w w'/\FrA (mb::tb::F) w.heap.size (sj::nW::F'):=by
 obtain⟨g1,g2⟩:=hi.getM key;obtain⟨q1,Fe⟩:∃q1,(q.nu key).1=q1:=⟨_,rfl⟩;obtain⟨b1,e1,Vh⟩:∃b1 e1,(q.nu key).2=(b1,e1):=⟨_,_,rfl⟩;rw[Fe]at g1;obtain⟨g3,g4⟩:=g1.scanM key az nn;obtain⟨q2,kh⟩:∃q2,(q1.kg key az nn).1=q2:=⟨_,rfl⟩;obtain⟨l2,e2,hr2⟩:∃l2 e2,(q1.kg key az nn).2=(l2,e2):=⟨_,_,rfl⟩;rw[kh]at g3;obtain⟨g5,g6⟩:=g3.lastM (by omega) key az;obtain⟨q3,hq3⟩:∃q3,(q2.lJ key az).1=q3:=⟨_,rfl⟩;obtain⟨x3,e3,hr3⟩:∃x3 e3,(q2.lJ key az).2=(x3,e3):=⟨_,_,rfl⟩
 rw[hq3]at g5;have K1:=xh (λ(W:World) (hW:TW W wb tb mb I F vl vo q n Kz l o)=>Dz hW.t (by omega) key);have K2:=xh (λ(W:World) (hW:TW W wb tb mb I F vl vo q1 n (Kz+21) l o)=>DP hW.t (by omega) key az nn);have K3:=xh (λ(W:World) (hW:TW W wb tb mb I F vl vo q2 n (Kz+21+300000) l o)=>RD hW.t (by omega) key az);rw[Fe,Vh]at K1;rw[Vh]at g2;rw[kh,hr2]at K2;rw[hr2]at g4;rw[hq3,hr3]at K3;rw[hr3]at g6;dsimp only at K1 K2 K3 g2 g4 g6
 obtain⟨mg,W8⟩:∃mg,qH l key=mg:=⟨_,rfl⟩;have KM:=xh (λ(W:World) (hW:TW W wb tb mb I F vl vo q1 n (Kz+21) l o)=>WG hW.m key);rw[W8]at KM g2;have MG:=xh W8;have KSA:=xh (λ(W:World) (hW:TW W wb tb mb I F vl vo q3 n (Kz+21+300000+600) l o)=>D9 hW.m key az 1099511627776);have KSN:=xh (λ(W:World) (hW:TW W wb tb mb I F vl vo q3 n (Kz+21+300000+600) l o)=>D9 hW.m key az nn)
 have hal1:(je key az 1099511627776 l).length<=1000000:=by have:=rF key az 1099511627776 l l.length;rw[fL]at this;have:=hi.sorted.2;omega
 have hsn1:(je key az nn l).length<=1000000:=by have:=rF key az nn l l.length;rw[fL]at this;have:=hi.sorted.2;omega
 obtain⟨al,fi⟩:∃al,je key az 1099511627776 l=al:=⟨_,rfl⟩;obtain⟨sn,Qm⟩:∃sn,je key az nn l=sn:=⟨_,rfl⟩;rw[fi]at KSA g6 hal1;rw[Qm]at KSN g4 hsn1;have nz:=xh (And.intro hal1 hsn1);clear fi Qm hal1 hsn1;have KT:=xh qJ;have TS:=xh (And.intro g5 (And.intro g2 (And.intro g4 g6)));have tC:=hi.sorted.2;have hb:=ae (Below.refl w.heap.size w) (.cells (tF kd nn key az val) 28);have T0:=xh (h.below hb)
 have CZ:=aF.new w 28 (tF kd nn key az val);obtain⟨z,hz⟩:∃z,w.heap.size=z:=⟨_,rfl⟩;rw[hz]at CZ;have kk:=xh (T0.o.actF CZ);have CZ:=xh CZ;have HZ:=xh hz;have O0:=xh (ag.ai (S:=wb::F) hb);have HI:=xh hi;have Gq:=xh (And.intro hk hK);unfold tp at K1 K2 K3;unfold prV at K3;clear h hi hk hK g1 g2 g3 g4 g5 g6 Fe Vh kh hr2 hq3 hr3 W8 hb hz;have y1:=CZ.o.ab (i:=1) rfl;have y2:=CZ.o.ab (i:=2) rfl;have y3:=CZ.o.ab (i:=3) rfl
 obtain⟨x1,x2,Ph,x4⟩:=T0.o.cells;have tA:=HZ.o;unfold tF at *;go_enter func59,ntmps59;go_wp2_with fail;refine wp_region_held_drew (S:=λW=>W.cell? ⟨wb,2,none⟩=some (.pointer (some ⟨tb,0,none⟩))/\W.cell? ⟨z,2,none⟩=some (.string key)) (by kernel_rfl) (⟨x2,y2⟩) (λau=>?_);refine cP [(0,15),(1,16),(2,17),(3,18),(4,19),(5,20)] ?_
 iterate 6 refine bj ?_
 refine cQ 6 21 λK hK=>?_;go_simp
 go_at_call 20
 refine(K1.o _ T0.o.drew).mono ?_;rintro e w1 ⟨rfl,p1,o1⟩;have T1:=xh (T0.o.drew.next o1 p1);have C1:=xh (CZ.o.drew.only o1 (λhm=>kk.o (aw _ (aw _ hm))));have O1:=xh (O0.o.drew.trans (o1.mono (λx hx _=>aw _ hx)));clear p1 o1;go_simp;refine bz hK (⟨T1.o.cells.2.1,C1.o.ab (i:=2) rfl⟩) (λau=>?_);refine cP [(7,14),(8,22),(9,23),(10,5),(11,6)] ?_
 iterate 5 refine bj ?_
 refine wpAnyH_done (by kernel_rfl) ?_ _;clear x1 x2 Ph x4 y1 y2 y3;have y1:=C1.o.ab (i:=1) rfl;have y2:=C1.o.ab (i:=2) rfl;have y3:=C1.o.ab (i:=3) rfl;obtain⟨x1,x2,Ph,x4⟩:=T1.o.cells;go_wp2_with fail;refine wp_region_held_drew (S:=λW=>W.cell? ⟨wb,3,none⟩=some (.pointer (some ⟨mb,0,none⟩))/\W.cell? ⟨z,2,none⟩=some (.string key)) (by kernel_rfl) (⟨Ph,y2⟩) (λau=>?_);refine cP [(0,25),(1,26),(2,27),(3,28),(4,29),(5,30)] ?_
 iterate 6 refine bj ?_
 refine cQ 6 31 λK hK=>?_;go_simp
 go_at_call 107
 refine(KM.o _ T1.o.drew).mono ?_;rintro e w2 ⟨rfl,dn⟩;have T2:=xh (T1.o.drew.below dn);have C2:=xh (C1.o.drew.below dn C1.o.drew.lt);have O2:=xh (O1.o.drew.trans (.ai dn));clear dn;go_simp;refine bz hK (⟨T2.o.cells.2.2.1,C2.o.ab (i:=2) rfl⟩) (λau=>?_);refine cP [(7,24),(8,32),(9,33),(10,7),(11,8)] ?_
 iterate 5 refine bj ?_
 refine wpAnyH_done (by kernel_rfl) ?_ _;clear x1 x2 Ph x4 y1 y2 y3;have y1:=C2.o.ab (i:=1) rfl;have y2:=C2.o.ab (i:=2) rfl;have y3:=C2.o.ab (i:=3) rfl;obtain⟨x1,x2,Ph,x4⟩:=T2.o.cells;go_wp2_with fail;refine wp_region_held_drew (S:=λW=>W.cell? ⟨wb,2,none⟩=some (.pointer (some ⟨tb,0,none⟩))/\W.cell? ⟨z,2,none⟩=some (.string key)/\W.cell? ⟨z,3,none⟩=some (.string az)/\W.cell? ⟨z,1,none⟩=some (.int .i64 nn)) (by kernel_rfl) (⟨x2,y2,y3,y1⟩) (λau=>?_)
 refine cP [(0,35),(1,36),(2,37),(3,38),(4,39),(5,40),(6,41),(7,42),(8,43),(9,44)] ?_
 iterate 10 refine bj ?_
 refine cQ 10 45 λK hK=>?_;go_simp
 go_at_call 17
 refine(K2.o _ T2.o.drew).mono ?_;rintro e w3 ⟨vs,rfl,S3,p3,o3,f3⟩;have T3:=xh (T2.o.drew.next o3 p3);have C3:=xh (C2.o.drew.only o3 (λhm=>kk.o (aw _ (aw _ hm))));have O3:=xh (O2.o.drew.trans (o3.mono (λx hx _=>aw _ hx)));obtain⟨As,cs,rfl⟩:=ax S3;have S3:=xh S3;have hl3:0<=l2.length:=bf _;clear p3 o3 f3;go_simp
 refine bz hK (⟨T3.o.cells.2.1,C3.o.ab (i:=2) rfl,C3.o.ab (i:=3) rfl,C3.o.ab (i:=1) rfl⟩) (λau=>?_);refine cP [(11,34),(12,46),(13,47),(14,9),(15,10)] ?_
 iterate 5 refine bj ?_
 refine wpAnyH_done (by kernel_rfl) ?_ _;clear x1 x2 Ph x4 y1 y2 y3;have y1:=C3.o.ab (i:=1) rfl;have y2:=C3.o.ab (i:=2) rfl;have y3:=C3.o.ab (i:=3) rfl;obtain⟨x1,x2,Ph,x4⟩:=T3.o.cells
 go_upto_region 4 with fail
 go_cut [11,12]from 48 to 59 (λv11 v12 wx=> ∃p,v11=.pointer (some ⟨p,0,none⟩)/\v12=.int .i64 e3/\Hid (TW wx wb tb mb I F vl vo q3 n (Kz+21+300000+600) l o/\aF wx z 28 (tF kd nn key az val)/\ag (wb::F) w wx/\aS wx 42 2 (.slice As l2.length cs) l2.length (kR l2)/\aF wx p 42 #[.string x3.1,.string x3.2]/\w.heap.size<=p))
 case first=>
  refine wp_region_held_drew (S:=λW=>W.cell? ⟨wb,2,none⟩=some (.pointer (some ⟨tb,0,none⟩))/\W.cell? ⟨z,2,none⟩=some (.string key)/\W.cell? ⟨z,3,none⟩=some (.string az)) (by kernel_rfl) (⟨x2,y2,y3⟩) (λau=>?_);refine cP [(0,49),(1,50),(2,51),(3,52),(4,53),(5,54),(6,55),(7,56)] ?_
  iterate 8 refine bj ?_
  refine wpAnyH_ready (rs:=[8,12]) (by kernel_rfl) (by simp) ?_;refine AllReadyH.cons (o:=⟨some 57,_,_,_,_,_⟩) rfl (λK hK=>?_) (AllReadyH.cons (o:=⟨some 11,_,_,_,_,_⟩) rfl (λK hK=>?_) AllReadyH.nil)
  .skip
   go_simp
   go_at_call 21
   refine(K3.o _ T3.o.drew).mono ?_;rintro e w4 ⟨rfl,p4,o4⟩;have T4:=xh (T3.o.drew.next o4 p4);have C4:=xh (C3.o.drew.only o4 (λhm=>kk.o (aw _ (aw _ hm))));have S4:=xh (S3.o.drew.only o4 (T3.o.drew.t.2.Nl S3.o.drew));have O4:=xh (O3.o.drew.trans (o4.mono (λx hx _=>aw _ hx)));clear p4 o4;go_simp
   refine bz hK (⟨T4.o.cells.2.1,C4.o.ab (i:=2) rfl,C4.o.ab (i:=3) rfl⟩) (λau=>?_);refine cP [(9,48),(10,58),(11,59)] ?_
   iterate 3 refine bj ?_
   refine cQ 12 11 λK hK=>?_;go_simp;have ha:=ae (Below.refl w4.heap.size w4) (.cells #[.string x3.1,.string x3.2] 42);have y2:=C4.o.alloc (.cells #[.string ⟨#[]⟩,.string ⟨#[]⟩] 42);have T5:=T4.o.below (ae (Below.refl w4.heap.size w4) (.cells #[.string ⟨#[]⟩,.string ⟨#[]⟩] 42));have T6:=xh (T4.o.below ha);have C6:=xh (C4.o.below ha C4.o.lt);have S6:=xh (S4.o.below ha);have O6:=xh (O4.o.trans (.ai ha))
   have B6:=xh (aF.new w4 42 #[.string x3.1,.string x3.2]);clear ha;refine bz hK (⟨T5.cells.2.1,y2.ab (i:=2) rfl,y2.ab (i:=3) rfl⟩) (λau=>?_);refine nB 13 λK hK=>?_;go_simp;refine bz hK (⟨T6.o.cells.2.1,C6.o.ab (i:=2) rfl,C6.o.ab (i:=3) rfl⟩) (λau=>?_);refine cP [(14,12)] ?_
   iterate 1 refine bj ?_
   refine wpAnyH_done (by kernel_rfl) ?_ _;go_wp2_with fail;go_meet;exact⟨w4.heap.size,rfl,rfl,xh ⟨T6.o,C6.o,O6.o,S6.o,B6.o,by have:=O4.o.size;omega⟩⟩
  .skip
   go_simp;have ha:=ae (Below.refl w3.heap.size w3) (.cells #[.string ⟨#[]⟩,.string ⟨#[]⟩] 42);have T4:=xh (T3.o.below ha).drew;have C4:=xh (C3.o.below ha C3.o.lt).drew;have S4:=xh (S3.o.below ha).drew;have O4:=xh (O3.o.trans (.ai ha)).drew;have B4:=xh (aF.new w3 42 #[.string ⟨#[]⟩,.string ⟨#[]⟩]).drew;clear ha;refine bz hK (⟨T4.o.cells.2.1,C4.o.ab (i:=2) rfl,C4.o.ab (i:=3) rfl⟩) (λau=>?_);refine cQ 8 57 λK hK=>?_
   go_simp
   go_at_call 21
   refine(K3.o _ T4.o).mono ?_;rintro e w5 ⟨rfl,p4,o4⟩;have T5:=xh (T4.o.next o4 p4);have C5:=xh (C4.o.only o4 (λhm=>kk.o (aw _ (aw _ hm))));have S5:=xh (S4.o.only o4 (T4.o.t.2.Nl S4.o));have hpF:=T4.o.t.2.iI B4.o;have B5:=xh (B4.o.only o4 hpF);have O5:=xh (O4.o.trans (o4.mono (λx hx _=>aw _ hx)));clear p4 o4;have u0:=B5.o.ab (i:=0) rfl;have u1:=B5.o.ab (i:=1) rfl
   have v0:=B5.o.frozen 0 (by simp);have v1:=B5.o.frozen 1 (by simp);have P6:=(((ag.refl [w3.heap.size] w5).setCell (p:=⟨w3.heap.size,0,none⟩) (λ_=>by simp) (.string x3.1)).setCell (p:=⟨w3.heap.size,1,none⟩) (λ_=>by simp) (.string x3.2));have J8:=T5.o.lt;have hs5:=S5.o.lt;have dP:=T3.o.lt;have hl1:=T3.o.m.s.lt;have Gr:=T3.o.s.lt;have hl3:=S3.o.lt
   have T6:=xh (T5.o.only P6 (λg hg hm=>by have e:=aI.1 hm;subst e;simp only[aj]at hg;rcases hg with e|e|e|hg;(have:=dP wb (by simp);omega);(have:=dP mb (by simp);omega);(have:=dP tb (by simp);omega);(exact hpF hg)) (λg hg hm=>by have:=hl1 g hg;have:=aI.1 hm;omega) (λg hg hm=>by have:=Gr g hg;have:=aI.1 hm;omega))
   have C6:=xh (C5.o.only P6 (λhm=>(C5.o.kl B5.o (by decide)) (aI.1 hm)));have S6:=xh (S5.o.only P6 (λg hg hm=>by have:=hl3 g hg;have:=aI.1 hm;omega));have O6:=xh (ag.WZ P6 O5.o O3.o.size);have B6:=xh ((B5.o.bU 0 (.string x3.1)).bU 1 (.string x3.2));clear dP hl1 Gr hl3 P6;go_simp;refine bz hK (⟨T5.o.cells.2.1,C5.o.ab (i:=2) rfl,C5.o.ab (i:=3) rfl⟩) (λau=>?_)
   refine cP [(9,48),(10,58),(11,59)] ?_
   iterate 3 refine bj ?_
   refine nB 13 λK hK=>?_;go_simp;refine bz hK (⟨T6.o.cells.2.1,C6.o.ab (i:=2) rfl,C6.o.ab (i:=3) rfl⟩) (λau=>?_);refine cP [(14,12)] ?_
   iterate 1 refine bj ?_
   refine wpAnyH_done (by kernel_rfl) ?_ _;go_wp2_with fail;go_meet;exact⟨w3.heap.size,rfl,rfl,xh ⟨T6.o,C6.o,O6.o,S6.o,B6.o,by have:=O3.o.size;omega⟩⟩
 case rest=>
  obtain⟨p,rfl,rfl,HC⟩:=hcut;have T5:=xh HC.o.1;have C5:=xh HC.o.2.1;have O5:=xh HC.o.2.2.1;have S5:=xh HC.o.2.2.2.1;have B5:=xh HC.o.2.2.2.2.1;clear HC x1 x2 Ph x4 y1 y2 y3 S3;have KB:=xh (kS T5.o (by have:=Gq.o;omega) TS.o.1.j.back.1);have W8:=TS.o.2.1;have hsc:=TS.o.2.2.1;have OJ:=TS.o.2.2.2;have m2:mg.2=0\/mg.2=9:=by have:=MG.o;rw[<-this];unfold qH;split;exact .inl rfl;exact .inr rfl
  by_cases h1:e1=11
  .subst h1;have k1:=xh (eZ wc);clear W8 hsc OJ m2;go_wp2_with fail;refine k1.o.mono ?_;rintro e _ ⟨rfl,rfl⟩;go_wp2_with fail;refine KB.o.mono ?_;rintro e w9 ⟨rfl,nW,sj,F',T9,o9,f9⟩;have T9:=xh (T9.le (show _<=Kz+400000 by omega));have O9:=xh (O5.o.trans o9);have F9:=xh (show FrA (mb::tb::F) w.heap.size (sj::nW::F')from λg hg=>(f9 g hg).elim (λh=> .inl (by simp[h])) (λh=> .inr (aq O5.o.size h)));clear o9 f9;go_wp2_with fail;go_ret
   exact aP ⟨nW,sj,F',vo,_,o,T9.o,TS.o.1.j.back.2,O9.o,F9.o⟩
  have h1':e1≠12:=by
   rcases W8 with h|h
   .exact absurd h h1
   .have:=congrArg Prod.snd h;dsimp only at this;omega
  have k1:=xh (fq e1 h1 h1' wc)
  by_cases h2:e2=11
  .subst h2;have k2:=xh (eZ wc);clear W8 hsc OJ m2 h1 h1';go_wp2_with fail;refine k1.o.mono ?_;rintro e _ ⟨rfl,rfl⟩;go_wp2_with fail;refine k2.o.mono ?_;rintro e _ ⟨rfl,rfl⟩;go_wp2_with fail;refine KB.o.mono ?_;rintro e w9 ⟨rfl,nW,sj,F',T9,o9,f9⟩;have T9:=xh (T9.le (show _<=Kz+400000 by omega));have O9:=xh (O5.o.trans o9)
   have F9:=xh (show FrA (mb::tb::F) w.heap.size (sj::nW::F')from λg hg=>(f9 g hg).elim (λh=> .inl (by simp[h])) (λh=> .inr (aq O5.o.size h)));clear o9 f9;go_wp2_with fail;go_ret;exact aP ⟨nW,sj,F',vo,_,o,T9.o,TS.o.1.j.back.2,O9.o,F9.o⟩
  have hsc:=hsc.resolve_left h2;injection hsc with Gr r8
  subst r8;have k2:=xh (fq 0 (by omega) (by omega) wc)
  by_cases h3:e3=11
  .subst h3;have k3:=xh (eZ wc);clear W8 OJ m2 h1 h1' h2 Gr;go_wp2_with fail;refine k1.o.mono ?_;rintro e _ ⟨rfl,rfl⟩;go_wp2_with fail;refine k2.o.mono ?_;rintro e _ ⟨rfl,rfl⟩;go_wp2_with fail;refine k3.o.mono ?_;rintro e _ ⟨rfl,rfl⟩;go_wp2_with fail;refine KB.o.mono ?_;rintro e w9 ⟨rfl,nW,sj,F',T9,o9,f9⟩;have T9:=xh (T9.le (show _<=Kz+400000 by omega));have O9:=xh (O5.o.trans o9)
   have F9:=xh (show FrA (mb::tb::F) w.heap.size (sj::nW::F')from λg hg=>(f9 g hg).elim (λh=> .inl (by simp[h])) (λh=> .inr (aq O5.o.size h)));clear o9 f9;go_wp2_with fail;go_ret;exact aP ⟨nW,sj,F',vo,_,o,T9.o,TS.o.1.j.back.2,O9.o,F9.o⟩
  have OJ:=OJ.resolve_left h3;have h3':e3≠12:=by
   have e:=congrArg Prod.snd OJ;dsimp only at e;rw[e]
   split<;>(dsimp only;omega)
  have k3:=xh (fq e3 h3 h3' wc);have W8:=W8.resolve_left h1;subst W8;dsimp only at m2;have FJ:=xh (And.intro Gr OJ);clear Gr OJ m2 h1 h1' h2 h3 h3' MG;go_wp2_with fail;refine k1.o.mono ?_;rintro e _ ⟨rfl,rfl⟩;go_wp2_with fail;refine k2.o.mono ?_;rintro e _ ⟨rfl,rfl⟩;go_wp2_with fail;refine k3.o.mono ?_;rintro e _ ⟨rfl,rfl⟩;have y1:=C5.o.ab (i:=1) rfl;have y2:=C5.o.ab (i:=2) rfl;have y3:=C5.o.ab (i:=3) rfl
  obtain⟨x1,x2,Ph,x4⟩:=T5.o.cells;go_wp2_with fail;refine wp_region_held_drew (S:=λW=>W.cell? ⟨wb,3,none⟩=some (.pointer (some ⟨mb,0,none⟩))/\W.cell? ⟨z,2,none⟩=some (.string key)/\W.cell? ⟨z,3,none⟩=some (.string az)) (by kernel_rfl) (⟨Ph,y2,y3⟩) (λau=>?_);refine cP [(0,72),(1,73),(2,74),(3,75),(4,76),(5,77),(6,78),(7,79)] ?_
  iterate 8 refine bj ?_
  refine cQ 8 80 λK hK=>?_;go_simp
  go_at_call 108
  refine(KSA.o _ T5.o.drew).mono ?_;rintro e w6 ⟨va,rfl,Sa,sE,f6⟩;have T6:=xh (T5.o.drew.below sE);have C6:=xh (C5.o.drew.below sE C5.o.lt);have O6:=xh (O5.o.drew.trans (.ai sE));have S6:=xh (S5.o.drew.below sE);have B6:=xh (B5.o.drew.below sE B5.o.lt);obtain⟨Aa,ca,rfl⟩:=ax Sa;have Sa:=xh Sa;clear sE f6;go_simp;refine bz hK (⟨T6.o.cells.2.2.1,C6.o.ab (i:=2) rfl,C6.o.ab (i:=3) rfl⟩) (λau=>?_)
  refine cP [(9,13)] ?_
  iterate 1 refine bj ?_
  refine wpAnyH_done (by kernel_rfl) ?_ _;clear x1 x2 Ph x4 y1 y2 y3;have y1:=C6.o.ab (i:=1) rfl;have y2:=C6.o.ab (i:=2) rfl;have y3:=C6.o.ab (i:=3) rfl;obtain⟨x1,x2,Ph,x4⟩:=T6.o.cells;go_wp2_with fail;refine wp_region_held_drew (S:=λW=>W.cell? ⟨wb,3,none⟩=some (.pointer (some ⟨mb,0,none⟩))/\W.cell? ⟨z,2,none⟩=some (.string key)/\W.cell? ⟨z,3,none⟩=some (.string az)/\W.cell? ⟨z,1,none⟩=some (.int .i64 nn)) (by kernel_rfl) (⟨Ph,y2,y3,y1⟩) (λau=>?_)
  refine cP [(0,81),(1,82),(2,83),(3,84),(4,85),(5,86),(6,87),(7,88),(8,89),(9,90),(10,91),(11,92),(12,93),(13,94),(14,95),(15,96),(16,97),(17,98),(18,99),(19,100),(20,101),(21,102),(22,103),(23,104)] ?_
  iterate 24 refine bj ?_
  refine cQ 24 105 λK hK=>?_;go_simp
  go_at_call 108
  refine(KSN.o _ T6.o.drew).mono ?_;rintro e w7 ⟨vn,rfl,Sn,rU,f7⟩;have T7:=xh (T6.o.drew.below rU);have C7:=xh (C6.o.drew.below rU C6.o.lt);have O7:=xh (O6.o.drew.trans (.ai rU));have S7:=xh (S6.o.drew.below rU);have B7:=xh (B6.o.drew.below rU B6.o.lt);have Sa7:=xh (Sa.o.drew.below rU);obtain⟨An,cn,rfl⟩:=ax Sn;have Sn:=xh Sn
  have KE:=xh (Jx S7.o Sn.o (by rw[FJ.o.1];exact nz.o.2) nz.o.2 true (by simp[FJ.o.1]));clear rU f7;go_simp;refine bz hK (⟨T7.o.cells.2.2.1,C7.o.ab (i:=2) rfl,C7.o.ab (i:=3) rfl,C7.o.ab (i:=1) rfl⟩) (λau=>?_);refine cQ 25 106 λK hK=>?_;go_simp
  go_at_call 19
  refine KE.o.mono ?_;rintro e w8 ⟨rfl,yd⟩;have T8:=xh (T7.o.below yd);have C8:=xh (C7.o.below yd C7.o.lt);have O8:=xh (O7.o.trans (.ai yd));have B8:=xh (B7.o.below yd B7.o.lt);have Sa8:=xh (Sa7.o.below yd);clear yd;go_simp;refine bz hK (⟨T8.o.cells.2.2.1,C8.o.ab (i:=2) rfl,C8.o.ab (i:=3) rfl,C8.o.ab (i:=1) rfl⟩) (λau=>?_);refine cP [(26,107),(27,108)] ?_
  iterate 2 refine bj ?_
  refine wpAnyH_done (by kernel_rfl) ?_ _;have OJ:=FJ.o.2;have T9:=xh (T8.o.le (show _<=Kz+400000 by omega));clear x1 x2 Ph x4 y1 y2 y3
  rcases ss al with fi|⟨L9,b9,fi⟩
  .subst fi;injection OJ with hx he
   subst hx;subst he;have p0:=B8.o.ab (i:=0) rfl;have p1:=B8.o.ab (i:=1) rfl;go_wp2_with fail;go_ret;exact aP ⟨tb,mb,F,vl,q3,l,T9.o,TS.o.1,O8.o,λg hg=> .inl hg⟩
  .rw[List.concat_eq_append]at fi;subst fi;obtain⟨ln,mM⟩:∃ln,(L9++[b9]).length=ln:=⟨_,rfl⟩;have hln2:ln=L9.length+1:=by rw[<-mM];simp
   have S9:=Sa8.o;rw[mM]at S9;obtain⟨ga,xa,rfl,hxa,hca,uQ,c0,c1⟩:=aS.pr S9 (i:=L9.length) (by omega);rw[List.getElem?_concat_length]at hxa;injection hxa with hxa
   subst hxa;rw[List.getLast?_concat]at OJ;injection OJ with hx he
   subst hx;subst he;have p0:=B8.o.ab (i:=0) rfl;have p1:=B8.o.ab (i:=1) rfl;obtain⟨xk,xv⟩:=x3;dsimp only at p0 p1 c0 c1;have hll9:=nz.o.1;rw[mM]at hll9;have hn0:¬(ln:Int)=0:=by omega
   have hn1:¬ln=0:=by omega
   have s1:IntKind.i64.wrap ((ln:Int)-1)=(L9.length:Int):=by rw[hln2,show(((L9.length+1:Nat):Int)-1)=(L9.length:Int) by omega];exact IntWalk.i64_in _ (by omega)
   have s2:L9.length<ln:=by omega
   have s3:(L9.length:Int)<(ln:Int):=by omega
   have s4:(0:Int)<=(L9.length:Int):=by omega
   rw[mM]
   replace mM:=xh mM
   replace hln2:=xh hln2
   clear S9;go_wp2_with fail;refine wp_region_held_drew (S:=λW=>W.cell? ⟨p,0,none⟩=some (.string xk)/\W.cell? ⟨p,1,none⟩=some (.string xv)/\W.cell? ⟨ga,L9.length*2,none⟩=some (.string xk)/\W.cell? ⟨ga,L9.length*2+1,none⟩=some (.string xv)) (by kernel_rfl) (⟨p0,p1,c0,c1⟩) (λau=>?_);refine cP [(0,119),(1,120),(2,121),(3,122),(4,123),(5,124),(6,125),(7,126),(8,127),(9,128),(10,129),(11,130),(12,4)] ?_
   iterate 13 refine bj ?_
   refine wpAnyH_done (by kernel_rfl) ?_ _;go_wp2_with fail;go_ret;exact aP ⟨tb,mb,F,vl,q3,l,T9.o.drew,TS.o.1,O8.o.drew,λg hg=> .inl hg⟩
end Sh
end Go.Proofs.YtmonobkginiajaaGreat
