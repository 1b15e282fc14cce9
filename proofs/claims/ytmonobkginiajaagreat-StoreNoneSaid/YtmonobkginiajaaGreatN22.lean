/- packed. -/
import Derived.Test.YtmonobkginiajaaGreatN21
import Derived.Test.YtmonobkginiajaaGreatN19
import Derived.Test.YtmonobkginiajaaGreatN9
import Derived.Test.YtmonobkginiajaaGreatN8
import Derived.WalkMore
import Derived.Laws.StructEq
import Derived.Laws.Rows
set_option linter.all false
set_option maxRecDepth 100000
set_option maxHeartbeats 8000000
namespace Go.Proofs.YtmonobkginiajaaGreat.Sh
open Go.RowKit Pk Dk Pg
open Nd (E ax aV aF aK cu bm aM bG)
attribute [local go_sem ↓] Go.wp_at_zero Go.wp_at_succ
variable{fr pg n K:Nat}
theorem JY:hX []=List.replicate 64 0:=by unfold hX;simp
theorem uv(n:Nat)(h1:2<=n)(hn:n<=4096):j6 (cL (D.zero n) n).d n 1 0 [] []/\Twin (cL (D.zero n) n).d 0 1:=by
 have z:(D.zero n).down=false/\(D.zero n).aT=0:=⟨rfl,rfl⟩;have ok0:=kO n hn;obtain⟨w1,w2,w3⟩:=gi (d:=D.zero n) (n:=n) (k:=0) z.1 z.2 (by omega) dO;have ok1:=ok0.write ((0:Nat):Int) dO;have n1:=px ok0 0 (by omega) dO w1;obtain⟨v1,v2,v3⟩:=gi (d:=((D.zero n).ar n ((0:Nat):Int) dO).1) (n:=n) (k:=1) w2 w3 (by omega) [];have n2:=px ok1 1 (by omega) [] v1;obtain⟨s1,s2,s3,s4⟩:=pB v2 v3
 have hd:(cL (D.zero n) n).d=((((D.zero n).ar n ((0:Nat):Int) dO).1.ar n ((1:Nat):Int) []).1.eD).1:=rfl;have e0:sec (cL (D.zero n) n).d.now 0=dO:=by
  rw[hd,s4,n2 0 (by omega),if_neg (by omega),n1 0 (by omega),if_pos rfl];exact uK _ (Rt.wP 1 0 [] (by simp))
 have e1:sec (cL (D.zero n) n).d.now 1=List.replicate 64 0:=by
  rw[hd,s4,n2 1 (by omega),if_pos rfl,JY]
 have hdec:Rt.sq (List.replicate 64 0)<1:=by decide+kernel
 refine⟨⟨h1,G6,.inl rfl,e0,λ_=>?_,λi x hx=>by simp at hx,λj _ _=>by rw[hd];exact Bl s1 j⟩,?_⟩
 .show Rt.sq (sec (cL (D.zero n) n).d.now 1)<1;rw[e1];exact hdec
 .unfold Twin;show(sec (cL (D.zero n) n).d.now 1).take 8=(sec (cL (D.zero n) n).d.now 1).drop 56/\Rt.sq (sec (cL (D.zero n) n).d.now 1)<1;rw[e1];exact⟨by simp,hdec⟩
theorem zK(n:Nat)(h1:1<=dW n)(hn:n<=4096)(ef:(cL (D.zero n) n).d.Ok n):Good (cL (D.zero n) n) n/\(cL (D.zero n) n).bP n=St.start (dW n)/\(cL (D.zero n) n).d.calls<=10/\j6 (cL (D.zero n) n).d n 1 0 [] []/\Twin (cL (D.zero n) n).d 0 1:=by
 obtain⟨g,e,hc⟩:=Be n h1 hn ef;have hr:=uv n (by unfold dW bz at h1;omega) hn;exact⟨g,e,hc,hr⟩
def QS.start(fr pg:Nat):QS:=⟨St.start pg,List.replicate fr Fr.nil,0⟩
def kg:Vw:=λ_=>([],3)
def v0T:Vw:=jg kg 0 (bC true []).1
theorem JZ(fr pg:Nat):Vi (QS.start fr pg):=by
 have hn:∀f∈(QS.start fr pg).l,f=Fr.nil:=λf hf=>rA hf;have hp:∀f∈(QS.start fr pg).l,¬0<=f.an:=λf hf=>by rw[hn f hf];show ¬(0:Int)<= -1;omega
 exact⟨λi j f g hi hj e h0=>absurd h0 (hp f (aA hi)),λf hf h0=>absurd h0 (hp f hf),λf hf h0=>absurd h0 (hp f hf),λf hf _=>by rw[hn f hf];rfl,λf hf h0=>absurd h0 (hp f hf)⟩
theorem zL(H:Hq (QS.start fr pg) n K):Wp (QS.start fr pg) n K:=⟨H,JZ fr pg,λf hf=>by rw[rA hf];rfl⟩
theorem tX(pg:Nat)(j:Int):(St.start pg).aC j=([],3):=by
 unfold St.aC;have:(St.start pg).at j=none:=by unfold St.at St.start;split<;>simp
 rw[this]
theorem J0(H:Hq (QS.start fr pg) n K):Rd (QS.start fr pg) kg kg 0 pg:=by
 refine⟨⟨n,K,zL H⟩,λj=>?_,λj=>?_,?_,ak _⟩
 .rcases fC (QS.start fr pg) j with ho|⟨k,f,hk,rfl,hp⟩
  .rw[dH ho];exact tX pg j
  .rw[show f=Fr.nil from rA (aA hk)]at hp;exact absurd hp (by show ¬(0:Int)<= -1;omega)
 .show({(St.start pg)with now:=wQ (St.start pg).bM}:St).aC j=_;exact tX pg j
 .show 0+(0+uO 0)<=0;decide
theorem lay0:(bC true []).2=0:=JS (v:=kg) (h:=0) (λh=>absurd rfl h) (by rw[qa];decide)
theorem tY:gx=(bC true []).1:=rfl
theorem tree0:Tree v0T 0 []:=by
 have Al:∀j,gX v0T j=if j=0 then(true,[],0)else gX kg j:=λj=>by unfold v0T;rw[gV lay0];rfl
 have hns:aO v0T 0 0=[(0,0,[])]:=by unfold aO;rw[Al 0,if_pos rfl]
 refine⟨⟨by rw[Al 0,if_pos rfl],by rw[Al 0,if_pos rfl];decide⟩,by unfold fM;rw[hns];rfl,by simp,by rw[hns];simp,λj hj=>?_⟩;rw[hns]
 by_cases h0:j=0
 .simp[h0]
 .unfold v0T at hj;rw[jh _ _ h0]at hj;exact absurd hj (by show ¬(3:Int)=0;decide)
theorem CE(H:Hq (QS.start fr pg) n K)(hp:2<=pg):(QS.start fr pg).ln.2=0/\Rd (QS.start fr pg).ln.1 v0T kg 1 pg/\Tree v0T 0 []:=by
 have R:=J0 H;have hlen:=(tM lay0).2.2.1;have hT:=tree0;have hnew:((QS.start fr pg).bh gx).2=(0,0):=by
  show((St.start pg).bh gx).2=_;unfold St.bh;have hs:(St.start pg).slot=0:=rfl;have hf:(St.start pg).free≠0:=by
   show pg-(0+uO 0)-0≠0;have:uO 0=0:=by decide
   omega
  rw[if_neg (by rw[tY,hlen];omega),if_neg (by rw[hs];omega)];exact ja (by rw[hs];rfl) rfl
 have hn:=R.new ⟨gx.toArray⟩ (by show gx.toArray.size<=232;rw[iz,tY,hlen];exact ak _);have hd:(⟨gx.toArray⟩:ByteArray).data.toList=gx:=rfl;rw[hd]at hn;rw[hnew]at hn;have he:dh gx 232=(bC true []).1:=by
  rw[tY];exact n9 (b:=⟨(bC true []).1.toArray⟩) (by show(bC true []).1.toArray.size=_;rw[iz];exact hlen)
 rcases hn with⟨l,a1,a2,a3,a4⟩|⟨a1,_⟩
 .have hl:((l:Nat):Int)=0:=(congrArg Prod.fst a1).symm;rw[hl,he]at a4;have hpg:(QS.start fr pg).a.gP.length=0:=rfl;have hroot:(QS.start fr pg).tL=(((QS.start fr pg).bh gx).1,0):=by
   unfold QS.tL;rw[if_pos hpg,hnew]
  unfold QS.ln;rw[hroot,if_neg (by simp)];have a4:Rd ((QS.start fr pg).bh gx).1 v0T kg 1 pg:=a4;obtain⟨b1,b2⟩:=a4.read 0;refine⟨?_,b1,hT⟩;show(((QS.start fr pg).bh gx).1.bW 0).2.2.2=0
  rcases b2 with b2|⟨b2,b3⟩
  .rw[b2,(ok_list hT.ok).1]
  .omega
 .exact absurd (congrArg Prod.snd a1) (by show ¬(0:Int)=11;decide)
variable{w:World}
def SOpened(w w':World)(I:Ix)(F:List Nat)(q:QS)(e:Int)(fr:Bool)(n K:Nat)(v:Value):Prop:=
 ∃F',ag F w w'/\(∀g∈F',g∈F\/w.heap.size<=g)/\PQ w' I F' q n K/\(e≠0->v=.pointer none)/\(e=0->∃sb tb,v=.pointer (some ⟨sb,0,none⟩)/\w.heap.size<=sb/\w.heap.size<=tb/\az w' sb 182 #[tp tb,pp I.pb,.bool fr]/\TQ w' tb I F' q n K)
theorem FJ{I:Ix}{F:List Nat}{q:QS}{n K:Nat}(h:PQ w I F q n K)(hK:K<=999999999000):
  Calls Tryz.prog 45 #[pp I.pb] w λe w'=> ∃v,e=.returned (.tuple #[v,.int .i64 q.ln.2])/\SOpened w w' I F q.ln.1 q.ln.2 (decide (q.a.gP.length=0)) n (K+2) v:=by
 have K1:=xh (sE h);have K2:=xh (sF h);have KT:=xh (λ(W:World) (hW:PQ W I F q n K)=>Fh hW (by omega));have HP:=xh h;obtain⟨R,hR⟩:∃R,q.ln=R:=⟨_,rfl⟩;rw[hR]at KT ⊢;obtain⟨q1,e1⟩:=R;dsimp only at KT ⊢;clear h hR;unfold pp sp at K1;unfold sp at K2;unfold pp at KT;unfold pp
 by_cases h0:q.a.gP.length=0
 .rw[decide_eq_true h0];rw[h0]at K2;clear h0;go_enter Tryz.func45,Tryz.ntmps45;go_wp2_with fail;refine K1.o.mono ?_;rintro e w2 ⟨rfl,rfl⟩;go_wp2_with fail;refine K2.o.mono ?_;rintro e w3 ⟨A3,c3,rfl,S3,dN⟩;have KO:=xh (KT.o w3 (HP.o.below dN));have O3:=xh (show ag F w w3 from .aj dN);clear S3 dN;go_wp2_with fail;refine KO.o.mono ?_;rintro e w4 ⟨v4,rfl,F4,o4,f4,P4,z4,z5⟩;have s3:=O3.o.size
  have H4:=xh (show ag F w w4/\(∀g∈F4,g∈F\/w.heap.size<=g)/\PQ w4 I F4 q1 n (K+2)from⟨O3.o.trans o4,λg hg=>(f4 g hg).imp id (λh=>by omega),P4⟩)
  by_cases he:e1=0
  .obtain⟨tb,rfl,htb,T4⟩:=z5 he;have kh:=ae (Below.refl w4.heap.size w4) (.cells #[tp tb,pp I.pb,.bool true] 182);have BS:=az.new w4 182 #[tp tb,pp I.pb,.bool true];have H5:=xh (And.intro BS (And.intro (T4.below kh) (And.intro (H4.o.1.trans (.aj kh)) (show w.heap.size<=w4.heap.size/\w.heap.size<=tb from⟨by have:=o4.size;omega,by omega⟩))));clear o4 f4 P4 z4 z5 T4 kh BS htb s3;subst he;unfold tp pp at *;go_wp2_with fail;go_ret2
   exact⟨_,by first|rfl|simp,F4,H5.o.2.2.1,H4.o.2.1,H5.o.2.1.2,λh=>absurd rfl h,λ_=>⟨_,tb,rfl,H5.o.2.2.2.1,H5.o.2.2.2.2,H5.o.1,H5.o.2.1⟩⟩
  .have hq:(e1 != 0)=true:=by rw[bne_iff_ne];exact he
   have lr:(e1==0)=false:=by rw[beq_eq_false_iff_ne];exact he
   clear o4 f4 P4 z4 z5 s3;go_wp2_with fail;go_ret2;exact⟨_,by first|rfl|simp,F4,H4.o.1,H4.o.2.1,H4.o.2.2,λ_=>rfl,λh=>absurd h he⟩
 .rw[decide_eq_false h0];have h0I:((q.a.gP.length:Nat):Int)≠0:=by omega
  generalize q.a.gP.length=np at *;have hq8:(((np:Nat):Int)==0)=false:=by rw[beq_eq_false_iff_ne];exact h0I
  have hq9:decide (((np:Nat):Int)=0)=false:=decide_eq_false h0I;go_enter Tryz.func45,Tryz.ntmps45;go_wp2_with fail;refine K1.o.mono ?_;rintro e w2 ⟨rfl,rfl⟩;go_wp2_with fail;refine K2.o.mono ?_;rintro e w3 ⟨A3,c3,rfl,S3,dN⟩;have KO:=xh (KT.o w3 (HP.o.below dN));have O3:=xh (show ag F w w3 from .aj dN);clear S3 dN;go_wp2_with fail;refine KO.o.mono ?_;rintro e w4 ⟨v4,rfl,F4,o4,f4,P4,z4,z5⟩;have s3:=O3.o.size
  have H4:=xh (show ag F w w4/\(∀g∈F4,g∈F\/w.heap.size<=g)/\PQ w4 I F4 q1 n (K+2)from⟨O3.o.trans o4,λg hg=>(f4 g hg).imp id (λh=>by omega),P4⟩)
  by_cases he:e1=0
  .obtain⟨tb,rfl,htb,T4⟩:=z5 he;have kh:=ae (Below.refl w4.heap.size w4) (.cells #[tp tb,pp I.pb,.bool false] 182);have BS:=az.new w4 182 #[tp tb,pp I.pb,.bool false];have H5:=xh (And.intro BS (And.intro (T4.below kh) (And.intro (H4.o.1.trans (.aj kh)) (show w.heap.size<=w4.heap.size/\w.heap.size<=tb from⟨by have:=o4.size;omega,by omega⟩))));clear o4 f4 P4 z4 z5 T4 kh BS htb s3;subst he;unfold tp pp at *;go_wp2_with fail;go_ret2
   exact⟨_,by first|rfl|simp,F4,H5.o.2.2.1,H4.o.2.1,H5.o.2.1.2,λh=>absurd rfl h,λ_=>⟨_,tb,rfl,H5.o.2.2.2.1,H5.o.2.2.2.2,H5.o.1,H5.o.2.1⟩⟩
  .have hq:(e1 != 0)=true:=by rw[bne_iff_ne];exact he
   have lr:(e1==0)=false:=by rw[beq_eq_false_iff_ne];exact he
   clear o4 f4 P4 z4 z5 s3;go_wp2_with fail;go_ret2;exact⟨_,by first|rfl|simp,F4,H4.o.1,H4.o.2.1,H4.o.2.2,λ_=>rfl,λh=>absurd h he⟩
theorem CF{sb:Nat}{a b:Value}{fr:Bool}(B:az w sb 182 #[a,b,.bool fr]):Calls Tryz.prog 49 #[.pointer (some ⟨sb,0,none⟩)] w λe w'=>e=.returned (.bool fr)/\Below w.heap.size w w':=by
 have x2:=B.ab (i:=2) rfl;have O0:=xh (Below.refl w.heap.size w);have O1:=xh (Below.refl w.heap.size w).drew;clear B;go_enter Tryz.func49,Tryz.ntmps49;go_wp2_with fail;go_ret;exact⟨by first|rfl|simp,by first|exact O0.o|exact O1.o⟩
def QS.k8:QS:=(QS.start 5 300).ln.1
theorem zM(w:World):
  Calls Tryz.prog 35 #[] w λe w'=> ∃sb tb I F,e=.returned (.pointer (some ⟨sb,0,none⟩))/\az w' sb 182 #[tp tb,pp I.pb,.bool true]/\TQ w' tb I F QS.k8 1202 3/\
   Rd QS.k8 v0T kg 1 300/\Below w.heap.size w w'/\(∀g∈sb::tb::F,w.heap.size<=g):=by
 have n1:dW 1202=300:=by decide
 have KD:=xh (wo 1202 w (by omega) (by omega));have KF:=xh (λ(W:World) (L:Dk.Loc) (hW:aG W L 1202 (D.zero 1202))=>AN hW (by omega) rfl rfl (by show(0:Int)<=1000;omega));have KP:=xh (λ(W:World) (b:Nat)=>G8 (w:=W) b 5 (by omega) (by omega))
 have HQ:=xh (show ∀(W:World) (x:X) (pq:Nat) (v:Value),At W x 1202 (cL (D.zero 1202) 1202)->az W pq 143 #[sp x.b,v,.int .i64 0]->aQ W 167 5 v 5 (wJ (List.replicate 5 Fr.nil))->(∀g∈x.fp,w.heap.size<=g)->w.heap.size<=pq->(∀g∈ah v,w.heap.size<=g)->pq∉x.fp->(∀g∈ah v,g∉x.fp)->
   ∃F,PQ W ⟨pq,x.b,x.L⟩ F (QS.start 5 300) 1202 1/\(∀g∈F,w.heap.size<=g)/\Hq (QS.start 5 300) 1202 1 from λW x pq v A B S h1 h2 h3 h4 h5=>by
  obtain⟨g,cp,rest,rfl,BB,_⟩:=S.form (by omega) (by omega);obtain⟨gd,e,hc,hr,_⟩:=zK 1202 (by omega) (by omega) A.hd.ok;rw[n1]at e;have z:Zc (cL (D.zero 1202) 1202) 1202 (St.start 300) 1:=⟨gd,hr,⟨0,by rw[ss,e]⟩,by omega,by show(1:Int)<=(1:Nat);omega⟩
  have H:Hq (QS.start 5 300) 1202 1:=⟨⟨_,z⟩,λf hf=>by rw[rA hf];exact Fb.nil,by show 1<=(List.replicate 5 Fr.nil).length;rw[eL];omega,by show(List.replicate 5 Fr.nil).length<=32;rw[eL];omega,by show 0<(List.replicate 5 Fr.nil).length;rw[eL];omega,by show([]:List yg).length<=512;simp⟩;refine⟨_,⟨⟨x,pq,g,cp⟩,rfl,rfl,rfl,rfl,⟨_,?_,z⟩,zL H⟩,?_,H⟩
  .refine⟨?_,?_,A,h4,h5 g (by simp[ah]),H.l1,H.l2,H.lh⟩
   .show az W pq _ #[_,.slice (some ⟨g,0,none⟩) (List.replicate 5 Fr.nil).length cp,_];rw[eL];exact B
   .show aQ W _ 5 (.slice (some ⟨g,0,none⟩) (List.replicate 5 Fr.nil).length cp) (List.replicate 5 Fr.nil).length _;rw[eL];exact S
  .intro y hy;simp only[Y.fp,aD]at hy
   rcases hy with rfl|rfl|hy
   .exact h2
   .exact h3 _ (by simp[ah])
   .exact h1 y hy)
 unfold pp sp at *;go_enter Tryz.func35,Tryz.ntmps35;go_wp2_with fail;refine KD.o.mono ?_;rintro e w1 ⟨L,rfl,D1,aI,hL⟩;have O1:=xh aI;have D1:=xh D1;have HL:=xh hL;clear aI hL;go_wp2_with fail;refine(KF.o w1 L D1.o).mono ?_;rintro e w2 ⟨x,hxL,rfl,A2,o2,fx⟩
 have H2:=xh (show At w2 x 1202 (cL (D.zero 1202) 1202)/\Below w.heap.size w w2/\∀g∈x.fp,w.heap.size<=g from⟨A2,O1.o.trans (o2.aE O1.o.size HL.o),λg hg=>(fx g hg).elim (HL.o g) (λh=>by have:=O1.o.size;omega)⟩);have HXL:=xh hxL;clear A2 o2 fx hxL;go_wp2_with fail;refine(KP.o w2 x.b).mono ?_;rintro e w3 ⟨pq,v,rfl,B3,S3,dN,hp3,hf3⟩
 obtain⟨F3,P3,f3,hq3⟩:=HQ.o w3 x pq v (H2.o.1.below dN) B3 S3 H2.o.2.2 (by have:=H2.o.2.1.size;omega) (λg hg=>by have:=hf3 g hg;have:=H2.o.2.1.size;omega) (λhF=>by have:=H2.o.1.lt _ hF;omega) (λg hg hF=>by have:=H2.o.1.lt _ hF;have:=hf3 g hg;omega);have hb3':=ao H2.o.2.1 dN;have KO:=FJ P3 (by omega);obtain⟨q1e,q1r,q1t⟩:=CE hq3 (by omega);rw[q1e]at KO;have KO:=xh KO
 have H3:=xh (show Below w.heap.size w w3/\(∀g∈F3,w.heap.size<=g)from⟨hb3',f3⟩);have HR:=xh q1r;clear B3 S3 dN hp3 hf3 P3 f3 hq3 hb3' q1e q1r q1t;unfold pp at KO;go_wp2_with fail;refine KO.o.mono ?_;rintro e w4 ⟨v4,rfl,F4,o4,f4,P4,z4,z5⟩;obtain⟨sb,tb,rfl,hsb,htb,BS,T4⟩:=z5 rfl;have H4:=xh (And.intro BS (And.intro T4 (And.intro (show Below w.heap.size w w4 from H3.o.1.trans (o4.aE H3.o.1.size H3.o.2)) (show ∀g∈sb::tb::F4,w.heap.size<=g from λg hg=>by
  have s3:=H3.o.1.size;simp only[aD]at hg
  rcases hg with rfl|rfl|hg
  .omega
  .omega
  .exact(f4 g hg).elim (H3.o.2 g) (λh=>by omega)))))
 clear o4 f4 P4 z4 z5 BS T4 hsb htb;go_wp2_with fail;go_ret;exact⟨sb,tb,⟨pq,x.b,x.L⟩,F4,by first|rfl|simp,H4.o.1,H4.o.2.1,HR.o,H4.o.2.2.1,H4.o.2.2.2⟩
structure zN(w W:World)(sb tb:Nat)(I:Ix)(F:List Nat)(q:QS)(n K:Nat):Prop where
 b:az W sb 182 #[tp tb,pp I.pb,.bool true]
 t:TQ W tb I F q n K
 o:Below w.heap.size w W
 f:∀g∈sb::tb::F,w.heap.size<=g
section
variable{w W W':World}{sb tb:Nat}{I:Ix}{F:List Nat}{q q':QS}{n K K':Nat}
theorem zN.nw(h:zN w W sb tb I F q n K):sb∉F:=h.t.2.jC h.b (by decide) (by decide) (by decide) (by decide) (by decide) (by decide) (by decide) (by decide) (by decide)
theorem zN.pq(h:zN w W sb tb I F q n K)(P:PQ W' I F q' n K')(o:ag F W W'):zN w W' sb tb I F q' n K':=
 ⟨h.b.only o h.nw,h.t.next o P,h.o.trans (o.aE h.o.size (λg hg=>h.f g (by simp[hg]))),h.f⟩
theorem zN.pt(h:zN w W sb tb I F q n K)(p:PT W W' I F q' n K'):∃F',zN w W' sb tb I F' q' n K':=by
 obtain⟨F',P,o,f⟩:=p;refine⟨F',h.b.only o h.nw,⟨h.t.1.only o h.t.ne,P⟩,h.o.trans (o.aE h.o.size (λg hg=>h.f g (by simp[hg]))),λg hg=>?_⟩;have hs:=h.o.size;simp only[aD]at hg
 rcases hg with rfl|rfl|hg
 .exact h.f _ (by simp)
 .exact h.f _ (by simp)
 .exact(f g hg).elim (λh1=>h.f g (by simp[h1])) (λh1=>by omega)
theorem zN.below(h:zN w W sb tb I F q n K)(hb:Below W.heap.size W W'):zN w W' sb tb I F q n K:=
 ⟨h.b.below hb h.b.lt,h.t.below hb,ao h.o hb,h.f⟩
end
def aB:ByteArray:=⟨#[97]⟩
def nB:ByteArray:=⟨#[110]⟩
def xB:ByteArray:=⟨#[120]⟩
def xw:ByteArray:=gz 0 1++aB
def ka2:ByteArray:=gz 0 2++aB
def s1:QS:=(QS.k8.fO xw xB).1
def s2:QS:=(s1.fP xw).1
def s3:QS:=(s2.fP ka2).1
def s4:QS:=(s3.oP nB 5).1
def s5:QS:=(s4.oP nB (-2)).1
theorem uw(R:Rd QS.k8 v0T kg 1 300):(QS.k8.fO xw xB).2=0/\(s1.fP xw).2=(xB,0)/\(s2.fP ka2).2.2=9/\(s3.oP nB 5).2=(5,0)/\(s4.oP nB (-2)).2=(3,0)/\
  ((s3.fP (eP nB)).2.2=0->(s3.fP (eP nB)).2.1.size=8)/\((s4.fP (eP nB)).2.2=0->(s4.fP (eP nB)).2.1.size=8):=by
 have z1:xw.size=3:=by decide
 obtain⟨a1,v1,M1,a2,a3,a4⟩:=zJ R tree0 (by simp[mI]) (by decide) xw xB (by omega) (by decide) (by decide) (by decide);have e1:mI M1=[(xw,xB)]:=by rw[a4];rfl
 obtain⟨b1,b2⟩:=nA a2 a3 (by omega) xw;rw[e1,show eqF [(xw,xB)] xw=[(xw,xB)] by simp[eqF]]at b2;obtain⟨c1,c2⟩:=nA b1 a3 (by omega) ka2;have eG:xw≠ka2:=by decide
 rw[e1,show eqF [(xw,xB)] ka2=[] by simp[eqF,eG]]at c2;have C0:Cn [(xw,xB)] (eP nB) kg s3 0 2 300 v1 M1:=⟨c1,a3,.inl ⟨e1,rfl⟩,λx hx=>by rw[cg.1 hx];exact⟨by decide,by decide⟩,by decide,by decide⟩;have f0:=C0.add (by decide) (by omega) (by omega) 5;rw[if_pos (by decide)]at f0;obtain⟨d1,v2,M2,C1⟩:=f0;have f1:=C1.add (by decide) (by omega) (by omega) (-2);rw[if_pos (by decide)]at f1;refine⟨a1,?_,?_,d1,f1.1,(C0.get (by omega)).2.2,(C1.get (by omega)).2.2⟩
 .rcases b2 with⟨_,b2⟩|b2
  .omega
  .exact b2
 .rcases c2 with⟨_,c2⟩|c2
  .omega
  .exact congrArg Prod.snd c2
theorem zO(w:World):Calls Tryz.prog 36 #[] w λe w'=>e=.returned (.bool true)/\Below w.heap.size w w':=by
 have KB:=xh (zM w);go_enter Tryz.func36,Tryz.ntmps36;go_wp2_with fail;refine KB.o.mono ?_;rintro e w1 ⟨sb,tb,I,F,rfl,B1,T1,R1,O1,f1⟩;obtain⟨g1,g2,g3,g4,g5,g6,g7⟩:=uw R1;have A1:zN w w1 sb tb I F QS.k8 1202 3:=⟨B1,T1,O1,f1⟩;have KF:=xh (CF B1);have K1:=xh (λ(W:World) (F:List Nat) (hW:zN w W sb tb I F QS.k8 1202 3)=>g1▸zH hW.b hW.t (by omega) 0 1 (by omega) (by omega) aB xB (by decide) (by decide))
 have K2:=xh (λ(W:World) (F:List Nat) (hW:zN w W sb tb I F s1 1202 103)=>tV hW.b hW.t (by omega) 0 1 (by omega) (by omega) aB (by decide));have K3:=xh (λ(W:World) (F:List Nat) (hW:zN w W sb tb I F s2 1202 124)=>tV hW.b hW.t (by omega) 0 2 (by omega) (by omega) aB (by decide));have K4:=xh (λ(W:World) (F:List Nat) (hW:zN w W sb tb I F s3 1202 145)=>g4▸zI hW.b hW.t (by omega) nB (by decide) g6 5)
 have K5:=xh (λ(W:World) (F:List Nat) (hW:zN w W sb tb I F s4 1202 345)=>g5▸zI hW.b hW.t (by omega) nB (by decide) g7 (-2));rw[show gz 0 1++aB=xw from rfl,g2]at K2;rw[show gz 0 2++aB=ka2 from rfl,g3]at K3;have A1:=xh A1;clear B1 T1 R1 O1 f1 g1 g2 g3 g4 g5 g6 g7;unfold aB nB xB at *;go_wp2_with fail;refine KF.o.mono ?_;rintro e w2 ⟨rfl,bA⟩;have A2:=A1.o.below bA;have K1:=xh (K1.o w2 F A2);have A2:=xh A2;clear bA;go_wp2_with fail
 refine K1.o.mono ?_;rintro e w3 ⟨rfl,p3⟩;obtain⟨F3,A3⟩:=A2.o.pt p3;have K2:=xh (K2.o w3 F3 A3);have A3:=xh A3;clear p3;go_wp2_with fail;refine K2.o.mono ?_;rintro e w4 ⟨rfl,P4,o4⟩;have A4:=A3.o.pq P4 o4;have K3:=xh (K3.o w4 F3 A4);have A4:=xh A4;clear P4 o4;go_wp2_with fail;refine K3.o.mono ?_;rintro e w5 ⟨rfl,P5,o5⟩;have A5:=A4.o.pq P5 o5;have K4:=xh (K4.o w5 F3 A5);have A5:=xh A5;clear P5 o5;go_wp2_with fail;refine K4.o.mono ?_
 rintro e w6 ⟨rfl,p6⟩;obtain⟨F6,A6⟩:=A5.o.pt p6;have K5:=xh (K5.o w6 F6 A6);have A6:=xh A6;clear p6;go_wp2_with fail;refine K5.o.mono ?_;rintro e w7 ⟨rfl,p7⟩;obtain⟨F7,A7⟩:=A6.o.pt p7;have A7:=xh A7;clear p7;go_wp2_with fail;go_ret;exact⟨by first|rfl|simp,A7.o.o⟩
end Go.Proofs.YtmonobkginiajaaGreat.Sh
namespace Go.Proofs.YtmonobkginiajaaGreat.Sh
open Go.RowKit Go.ChangeShapes Go.WideShapes Go.Deep Pk Dk Pg
attribute [local go_sem ↓] Go.wp_at_zero Go.wp_at_succ
variable{w:World}
structure Ga where
 kd:Int
 sp:Int
 lp:Int
 n:Int
 key:ByteArray
 Jn:ByteArray
 val:ByteArray
def Ga.cs(x:Ga):Array Value:= #[.int .i64 x.kd,.int .i64 x.sp,.int .i64 x.lp,.int .i64 x.n,.string x.key,.string x.Jn,.string x.val]
def Ga.v(x:Ga):Value:= .agg x.cs
def Gb(x:Int):Prop:= -9223372036854775808<=x/\x<=9223372036854775807
def Ga.ok(x:Ga):Prop:=(Gb x.kd/\Gb x.sp/\Gb x.lp/\Gb x.n)/\x.key.size<=maxLen/\x.Jn.size<=maxLen/\x.val.size<=maxLen
theorem FK{H:Type}{enc:TypeId×Value->H}{P:Program}{t:TypeId}{f0 f1 f2 f3 f4 f5 f6:Field}{fuel:Nat}{cs:List Value}{x:DataW H×List MemPlace}
 (hs:P.underlying t=some (.struct #[f0,f1,f2,f3,f4,f5,f6]))(hC:P.cellsOf t=7)(o0:f0.offset=0)(o1:f1.offset=1)(o2:f2.offset=2)(o3:f3.offset=3)(o4:f4.offset=4)(o5:f5.offset=5)(o6:f6.offset=6)(k0:P.cellsOf f0.type=1)(k1:P.cellsOf f1.type=1)(k2:P.cellsOf f2.type=1)(k3:P.cellsOf f3.type=1)(k4:P.cellsOf f4.type=1)(k5:P.cellsOf f5.type=1)(k6:P.cellsOf f6.type=1)
 (u0:P.underlying f0.type=some (.int .i64))(u1:P.underlying f1.type=some (.int .i64))(u2:P.underlying f2.type=some (.int .i64))(u3:P.underlying f3.type=some (.int .i64))(u4:P.underlying f4.type=some .string)(u5:P.underlying f5.type=some .string)(u6:P.underlying f6.type=some .string)
 (h:DataW.trod enc P w 0 (λ_=>true) true fuel t cs=some x):∃y:Ga,cs=y.cs.toList/\y.ok:=by
 obtain⟨xs,n,_,_,hl,Hk,hf⟩:=DataW.trod_struct hs h;obtain⟨c0,c1,c2,c3,c4,c5,c6,rfl⟩:∃a b c d e f g,cs=[a,b,c,d,e,f,g]:=by
  match cs,hl.trans hC with
  |[a,b,c,d,e,f,g],_=>exact⟨a,b,c,d,e,f,g,rfl⟩
 obtain⟨y0,y1,y2,y3,y4,y5,y6,rfl⟩:∃a b c d e f g,xs=[a,b,c,d,e,f,g]:=by
  match xs,Hk with
  |[a,b,c,d,e,f,g],_=>exact⟨a,b,c,d,e,f,g,rfl⟩
 have g0:=hf 0 f0 rfl;have g1:=hf 1 f1 rfl;have g2:=hf 2 f2 rfl;have g3:=hf 3 f3 rfl;have g4:=hf 4 f4 rfl;have g5:=hf 5 f5 rfl;have g6:=hf 6 f6 rfl;rw[o0,k0]at g0;rw[o1,k1]at g1;rw[o2,k2]at g2;rw[o3,k3]at g3;rw[o4,k4]at g4;rw[o5,k5]at g5;rw[o6,k6]at g6;simp only[vL,List.drop_succ_cons,qU,fU]at g0 g1 g2 g3 g4 g5 g6;obtain⟨r0,ug,-,wf0⟩:=DataW.trod_int u0 (x:=y0) (by simpa using g0)
 obtain⟨r1,hr1,-,wf1⟩:=DataW.trod_int u1 (x:=y1) (by simpa using g1);obtain⟨r2,hr2,-,wf2⟩:=DataW.trod_int u2 (x:=y2) (by simpa using g2);obtain⟨r3,hr3,-,wf3⟩:=DataW.trod_int u3 (x:=y3) (by simpa using g3);obtain⟨r4,hr4,-,s4⟩:=DataW.trod_string u4 (x:=y4) (by simpa using g4);obtain⟨r5,hr5,-,s5⟩:=DataW.trod_string u5 (x:=y5) (by simpa using g5);obtain⟨r6,hr6,-,s6⟩:=DataW.trod_string u6 (x:=y6) (by simpa using g6);simp only[List.cons.injEq,and_true]at ug hr1 hr2 hr3 hr4 hr5 hr6
 subst ug hr1 hr2 hr3 hr4 hr5 hr6;have b0:Gb r0:=by have:=Go.bounds_i64 wf0;unfold Gb;omega
 have b1:Gb r1:=by have:=Go.bounds_i64 wf1;unfold Gb;omega
 have b2:Gb r2:=by have:=Go.bounds_i64 wf2;unfold Gb;omega
 have b3:Gb r3:=by have:=Go.bounds_i64 wf3;unfold Gb;omega
 exact⟨⟨r0,r1,r2,r3,r4,r5,r6⟩,rfl,⟨b0,b1,b2,b3⟩,s4,s5,s6⟩
theorem sact_of{H:Type}{enc:TypeId×Value->H}{base:Nat}{v:Value}{d:DataW H}{ps:List MemPlace}(ef:Value.okWide Tryz.prog w .any base 82 v)(h:DataW.Trod enc Tryz.prog w 0 (λ_=>true) true 82 v d ps):
  ∃y:Ga,v=y.v/\y.ok:=by
 obtain⟨cs,rfl,mL⟩:=okWide_struct Tryz.underlying82 ef;obtain⟨fuel,hf⟩:=h;obtain⟨y,h1,h2⟩:=FK Tryz.underlying82 (by kernel_rfl) rfl rfl rfl rfl rfl rfl rfl (by kernel_rfl) (by kernel_rfl) (by kernel_rfl) (by kernel_rfl) (by kernel_rfl) (by kernel_rfl) (by kernel_rfl) Tryz.underlying3 Tryz.underlying3 Tryz.underlying3 Tryz.underlying3 Tryz.underlying9 Tryz.underlying9 Tryz.underlying9 (cs:=cs.toList) (by simpa [Value.cells]using hf)
 exact⟨y,by unfold Ga.v;congr 1;exact mK.1 h1,h2⟩
theorem ux(y:Ga)(w:World):Calls Tryz.prog 10 #[y.v] w λe w'=>e=.returned (.bool true)/\Below w.heap.size w w':=by
 obtain⟨kd,sp,lp,n,key,Jn,val⟩:=y;have K1:=xh (λ(W:World)=>y9 sp lp key W);have K2:=xh (λ(W:World)=>Fi sp lp key Jn n W);have K3:=xh (λ(W:World)=>Fj sp lp key Jn W);have K4:=xh (λ(W:World)=>Cq sp lp key Jn W);have K5:=xh (λ(W:World)=>oJ key W);have K6:=xh (λ(W:World)=>Jr key n W);have K7:=xh (λ(W:World)=>Fl W);have K8:=xh (λ(W:World)=>zO W)
 have K9:=xh (λ(W:World)=>Jp sp lp key val W);have K10:=xh (λ(W:World)=>Jq sp lp key W);have K11:=xh (λ(W:World)=>Fk W);have K12:=xh (λ(W:World)=>Cr W);have O0:=xh (ae (Below.refl w.heap.size w) (.cells #[.int .i64 kd,.int .i64 sp,.int .i64 lp,.int .i64 n,.string key,.string Jn,.string val] 82));have B0:=xh (az.new w 82 #[.int .i64 kd,.int .i64 sp,.int .i64 lp,.int .i64 n,.string key,.string Jn,.string val])
 obtain⟨z,hz⟩:∃z,w.heap.size=z:=⟨_,rfl⟩;unfold Ga.v Ga.cs;dsimp only;rw[hz]at B0;have C0:=B0;have x0_1:=C0.o.ab (i:=1) rfl;have x0_2:=C0.o.ab (i:=2) rfl;have x0_3:=C0.o.ab (i:=3) rfl;have x0_4:=C0.o.ab (i:=4) rfl;have x0_5:=C0.o.ab (i:=5) rfl;have x0_6:=C0.o.ab (i:=6) rfl;go_enter Tryz.func10,Tryz.ntmps10;go_wp2_with fail;refine(K1.o _).mono ?_;rintro e w1 ⟨rfl,aI⟩;have C1:=xh (C0.o.below aI C0.o.lt)
 have O1:=xh (ao O0.o aI);clear aI x0_1 x0_2 x0_3 x0_4 x0_5 x0_6;have x1_1:=C1.o.ab (i:=1) rfl;have x1_2:=C1.o.ab (i:=2) rfl;have x1_3:=C1.o.ab (i:=3) rfl;have x1_4:=C1.o.ab (i:=4) rfl;have x1_5:=C1.o.ab (i:=5) rfl;have x1_6:=C1.o.ab (i:=6) rfl;go_wp2_with fail;refine(K2.o _).mono ?_;rintro e w2 ⟨rfl,bA⟩;have C2:=xh (C1.o.below bA C1.o.lt);have O2:=xh (ao O1.o bA);clear bA x1_1 x1_2 x1_3 x1_4 x1_5 x1_6
 have x2_1:=C2.o.ab (i:=1) rfl;have x2_2:=C2.o.ab (i:=2) rfl;have x2_3:=C2.o.ab (i:=3) rfl;have x2_4:=C2.o.ab (i:=4) rfl;have x2_5:=C2.o.ab (i:=5) rfl;have x2_6:=C2.o.ab (i:=6) rfl;go_wp2_with fail;refine(K3.o _).mono ?_;rintro e w3 ⟨rfl,dN⟩;have C3:=xh (C2.o.below dN C2.o.lt);have O3:=xh (ao O2.o dN);clear dN x2_1 x2_2 x2_3 x2_4 x2_5 x2_6
 have kh:=ae (Below.refl w3.heap.size w3) (.cells #[.string ⟨#[]⟩,.string ⟨#[]⟩] 42);have P3:=az.new w3 42 #[.string ⟨#[]⟩,.string ⟨#[]⟩];have C3:=xh (C3.o.below kh C3.o.lt);have O3:=xh (ao O3.o kh);obtain⟨zp,hzp⟩:∃zp,w3.heap.size=zp:=⟨_,rfl⟩;rw[hzp]at P3;have y3_0:=P3.ab (i:=0) rfl;have y3_1:=P3.ab (i:=1) rfl;have f0:=P3.frozen 0 (by simp);have f1:=P3.frozen 1 (by simp);have P3:=xh P3;clear kh;unfold prV
 have x3_1:=C3.o.ab (i:=1) rfl;have x3_2:=C3.o.ab (i:=2) rfl;have x3_3:=C3.o.ab (i:=3) rfl;have x3_4:=C3.o.ab (i:=4) rfl;have x3_5:=C3.o.ab (i:=5) rfl;have x3_6:=C3.o.ab (i:=6) rfl;go_wp2_with fail;refine(K4.o _).mono ?_;rintro e w4 ⟨rfl,eV⟩;have C4:=xh (C3.o.below eV C3.o.lt);have O4:=xh (ao O3.o eV);have P4:=xh (P3.o.below eV P3.o.lt);clear eV x3_1 x3_2 x3_3 x3_4 x3_5 x3_6 y3_0 y3_1 f0 f1
 have y4_0:=P4.o.ab (i:=0) rfl;have y4_1:=P4.o.ab (i:=1) rfl;have x4_1:=C4.o.ab (i:=1) rfl;have x4_2:=C4.o.ab (i:=2) rfl;have x4_3:=C4.o.ab (i:=3) rfl;have x4_4:=C4.o.ab (i:=4) rfl;have x4_5:=C4.o.ab (i:=5) rfl;have x4_6:=C4.o.ab (i:=6) rfl;go_wp2_with fail;refine(K5.o _).mono ?_;rintro e w5 ⟨rfl,lC⟩;have C5:=xh (C4.o.below lC C4.o.lt);have O5:=xh (ao O4.o lC)
 have P5:=xh (P4.o.below lC P4.o.lt);clear lC x4_1 x4_2 x4_3 x4_4 x4_5 x4_6 y4_0 y4_1;have y5_0:=P5.o.ab (i:=0) rfl;have y5_1:=P5.o.ab (i:=1) rfl;have x5_1:=C5.o.ab (i:=1) rfl;have x5_2:=C5.o.ab (i:=2) rfl;have x5_3:=C5.o.ab (i:=3) rfl;have x5_4:=C5.o.ab (i:=4) rfl;have x5_5:=C5.o.ab (i:=5) rfl;have x5_6:=C5.o.ab (i:=6) rfl;go_wp2_with fail;refine(K6.o _).mono ?_;rintro e w6 ⟨rfl,uc⟩
 have C6:=xh (C5.o.below uc C5.o.lt);have O6:=xh (ao O5.o uc);have P6:=xh (P5.o.below uc P5.o.lt);clear uc x5_1 x5_2 x5_3 x5_4 x5_5 x5_6 y5_0 y5_1;have y6_0:=P6.o.ab (i:=0) rfl;have y6_1:=P6.o.ab (i:=1) rfl;have x6_1:=C6.o.ab (i:=1) rfl;have x6_2:=C6.o.ab (i:=2) rfl;have x6_3:=C6.o.ab (i:=3) rfl;have x6_4:=C6.o.ab (i:=4) rfl;have x6_5:=C6.o.ab (i:=5) rfl;have x6_6:=C6.o.ab (i:=6) rfl
 go_wp2_with fail;refine(K7.o _).mono ?_;rintro e w7 ⟨rfl,xE⟩;have C7:=xh (C6.o.below xE C6.o.lt);have O7:=xh (ao O6.o xE);have P7:=xh (P6.o.below xE P6.o.lt);clear xE x6_1 x6_2 x6_3 x6_4 x6_5 x6_6 y6_0 y6_1;have y7_0:=P7.o.ab (i:=0) rfl;have y7_1:=P7.o.ab (i:=1) rfl;have x7_1:=C7.o.ab (i:=1) rfl;have x7_2:=C7.o.ab (i:=2) rfl;have x7_3:=C7.o.ab (i:=3) rfl;have x7_4:=C7.o.ab (i:=4) rfl
 have x7_5:=C7.o.ab (i:=5) rfl;have x7_6:=C7.o.ab (i:=6) rfl;go_wp2_with fail;refine(K8.o _).mono ?_;rintro e w8 ⟨rfl,xO⟩;have C8:=xh (C7.o.below xO C7.o.lt);have O8:=xh (ao O7.o xO);have P8:=xh (P7.o.below xO P7.o.lt);clear xO x7_1 x7_2 x7_3 x7_4 x7_5 x7_6 y7_0 y7_1;have y8_0:=P8.o.ab (i:=0) rfl;have y8_1:=P8.o.ab (i:=1) rfl;have x8_1:=C8.o.ab (i:=1) rfl;have x8_2:=C8.o.ab (i:=2) rfl
 have x8_3:=C8.o.ab (i:=3) rfl;have x8_4:=C8.o.ab (i:=4) rfl;have x8_5:=C8.o.ab (i:=5) rfl;have x8_6:=C8.o.ab (i:=6) rfl;go_wp2_with fail;refine(K9.o _).mono ?_;rintro e w9 ⟨rfl,DN⟩;have C9:=xh (C8.o.below DN C8.o.lt);have O9:=xh (ao O8.o DN);have P9:=xh (P8.o.below DN P8.o.lt);clear DN x8_1 x8_2 x8_3 x8_4 x8_5 x8_6 y8_0 y8_1;have y9_0:=P9.o.ab (i:=0) rfl;have y9_1:=P9.o.ab (i:=1) rfl
 have x9_1:=C9.o.ab (i:=1) rfl;have x9_2:=C9.o.ab (i:=2) rfl;have x9_3:=C9.o.ab (i:=3) rfl;have x9_4:=C9.o.ab (i:=4) rfl;have x9_5:=C9.o.ab (i:=5) rfl;have x9_6:=C9.o.ab (i:=6) rfl;go_wp2_with fail;refine(K10.o _).mono ?_;rintro e iZ ⟨rfl,oy⟩;have C10:=xh (C9.o.below oy C9.o.lt);have O10:=xh (ao O9.o oy);have P10:=xh (P9.o.below oy P9.o.lt);clear oy x9_1 x9_2 x9_3 x9_4 x9_5 x9_6 y9_0 y9_1
 have y10_0:=P10.o.ab (i:=0) rfl;have y10_1:=P10.o.ab (i:=1) rfl;have x10_1:=C10.o.ab (i:=1) rfl;have x10_2:=C10.o.ab (i:=2) rfl;have x10_3:=C10.o.ab (i:=3) rfl;have x10_4:=C10.o.ab (i:=4) rfl;have x10_5:=C10.o.ab (i:=5) rfl;have x10_6:=C10.o.ab (i:=6) rfl;go_wp2_with fail;refine(K11.o _).mono ?_;rintro e w11 ⟨rfl,hb11⟩;have C11:=xh (C10.o.below hb11 C10.o.lt);have nm:=xh (ao O10.o hb11)
 have P11:=xh (P10.o.below hb11 P10.o.lt);clear hb11 x10_1 x10_2 x10_3 x10_4 x10_5 x10_6 y10_0 y10_1;have y11_0:=P11.o.ab (i:=0) rfl;have y11_1:=P11.o.ab (i:=1) rfl;have x11_1:=C11.o.ab (i:=1) rfl;have x11_2:=C11.o.ab (i:=2) rfl;have x11_3:=C11.o.ab (i:=3) rfl;have x11_4:=C11.o.ab (i:=4) rfl;have x11_5:=C11.o.ab (i:=5) rfl;have x11_6:=C11.o.ab (i:=6) rfl;go_wp2_with fail;refine(K12.o _).mono ?_
 rintro e w12 ⟨rfl,Jg⟩;have C12:=xh (C11.o.below Jg C11.o.lt);have O12:=xh (ao nm.o Jg);have qD:=xh (P11.o.below Jg P11.o.lt);clear Jg x11_1 x11_2 x11_3 x11_4 x11_5 x11_6 y11_0 y11_1;have y12_0:=qD.o.ab (i:=0) rfl;have y12_1:=qD.o.ab (i:=1) rfl;have x12_1:=C12.o.ab (i:=1) rfl;have x12_2:=C12.o.ab (i:=2) rfl;have x12_3:=C12.o.ab (i:=3) rfl;have x12_4:=C12.o.ab (i:=4) rfl
 have x12_5:=C12.o.ab (i:=5) rfl;have x12_6:=C12.o.ab (i:=6) rfl;go_wp2_with fail;go_ret;exact⟨by first|rfl|simp,O12.o⟩
end Go.Proofs.YtmonobkginiajaaGreat.Sh
