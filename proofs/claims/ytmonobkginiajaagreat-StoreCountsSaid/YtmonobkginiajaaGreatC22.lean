/- packed. -/
import Derived.Test.YtmonobkginiajaaGreatC21
import Derived.Test.YtmonobkginiajaaGreatC19
import Derived.Test.YtmonobkginiajaaGreatC9
import Derived.Test.YtmonobkginiajaaGreatC8
import Derived.WalkMore
import Derived.Laws.StructEq
import Derived.Laws.Rows
set_option linter.all false
set_option maxRecDepth 100000
set_option maxHeartbeats 8000000
namespace Go.Proofs.YtmonobkginiajaaGreat.Sh
open Go.RowKit Pk Dk Pg
open Nd (E ax aV aF aJ cu bn aM bF)
attribute [local go_sem ↓] Go.wp_at_zero Go.wp_at_succ
variable{fr pg n K:Nat}
theorem Jz:hX []=List.replicate 64 0:=by unfold hX;simp
theorem uk(n:Nat)(h1:2<=n)(hn:n<=4096):j6 (cL (D.zero n) n).d n 1 0 [] []/\Twin (cL (D.zero n) n).d 0 1:=by
 have z:(D.zero n).down=false/\(D.zero n).aT=0:=⟨rfl,rfl⟩;have ok0:=kN n hn;obtain⟨w1,w2,w3⟩:=gi (d:=D.zero n) (n:=n) (k:=0) z.1 z.2 (by omega) dN;have ok1:=ok0.write ((0:Nat):Int) dN;have n1:=po ok0 0 (by omega) dN w1;obtain⟨v1,v2,v3⟩:=gi (d:=((D.zero n).ar n ((0:Nat):Int) dN).1) (n:=n) (k:=1) w2 w3 (by omega) [];have n2:=po ok1 1 (by omega) [] v1;obtain⟨s1,s2,s3,s4⟩:=py v2 v3
 have hd:(cL (D.zero n) n).d=((((D.zero n).ar n ((0:Nat):Int) dN).1.ar n ((1:Nat):Int) []).1.eD).1:=rfl;have e0:sec (cL (D.zero n) n).d.now 0=dN:=by
  rw[hd,s4,n2 0 (by omega),if_neg (by omega),n1 0 (by omega),if_pos rfl];exact uE _ (Rt.wJ 1 0 [] (by simp))
 have e1:sec (cL (D.zero n) n).d.now 1=List.replicate 64 0:=by
  rw[hd,s4,n2 1 (by omega),if_pos rfl,Jz]
 have hdec:Rt.sj (List.replicate 64 0)<1:=by decide+kernel
 refine⟨⟨h1,GJ,.inl rfl,e0,λ_=>?_,λi x hx=>by simp at hx,λj _ _=>by rw[hd];exact Bb s1 j⟩,?_⟩
 .show Rt.sj (sec (cL (D.zero n) n).d.now 1)<1;rw[e1];exact hdec
 .unfold Twin;show(sec (cL (D.zero n) n).d.now 1).take 8=(sec (cL (D.zero n) n).d.now 1).drop 56/\Rt.sj (sec (cL (D.zero n) n).d.now 1)<1;rw[e1];exact⟨by simp,hdec⟩
theorem zA(n:Nat)(h1:1<=dW n)(hn:n<=4096)(ef:(cL (D.zero n) n).d.Ok n):Good (cL (D.zero n) n) n/\(cL (D.zero n) n).bP n=St.start (dW n)/\(cL (D.zero n) n).d.calls<=10/\j6 (cL (D.zero n) n).d n 1 0 [] []/\Twin (cL (D.zero n) n).d 0 1:=by
 obtain⟨g,e,hc⟩:=AR n h1 hn ef;have hr:=uk n (by unfold dW bz at h1;omega) hn;exact⟨g,e,hc,hr⟩
def QS.start(fr pg:Nat):QS:=⟨St.start pg,List.replicate fr Fr.nil,0⟩
def jL:Vw:=λ_=>([],3)
def v0T:Vw:=jh jL 0 (bA true []).1
theorem JA(fr pg:Nat):Vi (QS.start fr pg):=by
 have hn:∀f∈(QS.start fr pg).l,f=Fr.nil:=λf hf=>rz hf;have hp:∀f∈(QS.start fr pg).l,¬0<=f.an:=λf hf=>by rw[hn f hf];show ¬(0:Int)<= -1;omega
 exact⟨λi j f g hi hj e h0=>absurd h0 (hp f (az hi)),λf hf h0=>absurd h0 (hp f hf),λf hf h0=>absurd h0 (hp f hf),λf hf _=>by rw[hn f hf];rfl,λf hf h0=>absurd h0 (hp f hf)⟩
theorem zB(H:Hq (QS.start fr pg) n K):Wp (QS.start fr pg) n K:=⟨H,JA fr pg,λf hf=>by rw[rz hf];rfl⟩
theorem tV(pg:Nat)(j:Int):(St.start pg).aA j=([],3):=by
 unfold St.aA;have:(St.start pg).at j=none:=by unfold St.at St.start;split<;>simp
 rw[this]
theorem JB(H:Hq (QS.start fr pg) n K):Rd (QS.start fr pg) jL jL 0 pg:=by
 refine⟨⟨n,K,zB H⟩,λj=>?_,λj=>?_,?_,ak _⟩
 .rcases fD (QS.start fr pg) j with ho|⟨k,f,hk,rfl,hp⟩
  .rw[dH ho];exact tV pg j
  .rw[show f=Fr.nil from rz (az hk)]at hp;exact absurd hp (by show ¬(0:Int)<= -1;omega)
 .show({(St.start pg)with now:=wK (St.start pg).bM}:St).aA j=_;exact tV pg j
 .show 0+(0+uI 0)<=0;decide
theorem lay0:(bA true []).2=0:=Jt (v:=jL) (h:=0) (λh=>absurd rfl h) (by rw[pZ];decide)
theorem tW:gx=(bA true []).1:=rfl
theorem JC:Tree v0T 0 []:=by
 have Aa:∀j,gX v0T j=if j=0 then(true,[],0)else gX jL j:=λj=>by unfold v0T;rw[gV lay0];rfl
 have hns:aO v0T 0 0=[(0,0,[])]:=by unfold aO;rw[Aa 0,if_pos rfl]
 refine⟨⟨by rw[Aa 0,if_pos rfl],by rw[Aa 0,if_pos rfl];decide⟩,by unfold fN;rw[hns];rfl,by simp,by rw[hns];simp,λj hj=>?_⟩;rw[hns]
 by_cases h0:j=0
 .simp[h0]
 .unfold v0T at hj;rw[ji _ _ h0]at hj;exact absurd hj (by show ¬(3:Int)=0;decide)
theorem Cs(H:Hq (QS.start fr pg) n K)(hp:2<=pg):(QS.start fr pg).ll.2=0/\Rd (QS.start fr pg).ll.1 v0T jL 1 pg/\Tree v0T 0 []:=by
 have R:=JB H;have hlen:=(tK lay0).2.2.1;have hT:=JC;have hnew:((QS.start fr pg).bh gx).2=(0,0):=by
  show((St.start pg).bh gx).2=_;unfold St.bh;have hs:(St.start pg).slot=0:=rfl;have hf:(St.start pg).free≠0:=by
   show pg-(0+uI 0)-0≠0;have:uI 0=0:=by decide
   omega
  rw[if_neg (by rw[tW,hlen];omega),if_neg (by rw[hs];omega)];exact ja (by rw[hs];rfl) rfl
 have hn:=R.new ⟨gx.toArray⟩ (by show gx.toArray.size<=232;rw[iA,tW,hlen];exact ak _);have hd:(⟨gx.toArray⟩:ByteArray).data.toList=gx:=rfl;rw[hd]at hn;rw[hnew]at hn;have he:dh gx 232=(bA true []).1:=by
  rw[tW];exact nY (b:=⟨(bA true []).1.toArray⟩) (by show(bA true []).1.toArray.size=_;rw[iA];exact hlen)
 rcases hn with⟨l,a1,a2,a3,a4⟩|⟨a1,_⟩
 .have hl:((l:Nat):Int)=0:=(congrArg Prod.fst a1).symm;rw[hl,he]at a4;have hpg:(QS.start fr pg).a.gP.length=0:=rfl;have hroot:(QS.start fr pg).tJ=(((QS.start fr pg).bh gx).1,0):=by
   unfold QS.tJ;rw[if_pos hpg,hnew]
  unfold QS.ll;rw[hroot,if_neg (by simp)];have a4:Rd ((QS.start fr pg).bh gx).1 v0T jL 1 pg:=a4;obtain⟨b1,b2⟩:=a4.read 0;refine⟨?_,b1,hT⟩;show(((QS.start fr pg).bh gx).1.bW 0).2.2.2=0
  rcases b2 with b2|⟨b2,b3⟩
  .rw[b2,(ok_list hT.ok).1]
  .omega
 .exact absurd (congrArg Prod.snd a1) (by show ¬(0:Int)=11;decide)
variable{w:World}
def SOpened(w w':World)(I:Ix)(F:List Nat)(q:QS)(e:Int)(fr:Bool)(n K:Nat)(v:Value):Prop:=
 ∃F',ag F w w'/\(∀g∈F',g∈F\/w.heap.size<=g)/\PQ w' I F' q n K/\(e≠0->v=.pointer none)/\(e=0->∃sb tb,v=.pointer (some ⟨sb,0,none⟩)/\w.heap.size<=sb/\w.heap.size<=tb/\aD w' sb 182 #[tp tb,pp I.pb,.bool fr]/\TQ w' tb I F' q n K)
theorem Fq{I:Ix}{F:List Nat}{q:QS}{n K:Nat}(h:PQ w I F q n K)(hK:K<=999999999000):
  Calls Tryz.prog 45 #[pp I.pb] w λe w'=> ∃v,e=.returned (.tuple #[v,.int .i64 q.ll.2])/\SOpened w w' I F q.ll.1 q.ll.2 (decide (q.a.gP.length=0)) n (K+2) v:=by
 have K1:=xh (sA h);have K2:=xh (sC h);have KT:=xh (λ(W:World) (hW:PQ W I F q n K)=>EV hW (by omega));have HP:=xh h;obtain⟨R,hR⟩:∃R,q.ll=R:=⟨_,rfl⟩;rw[hR]at KT ⊢;obtain⟨q1,e1⟩:=R;dsimp only at KT ⊢;clear h hR;unfold pp sp at K1;unfold sp at K2;unfold pp at KT;unfold pp
 by_cases h0:q.a.gP.length=0
 .rw[decide_eq_true h0];rw[h0]at K2;clear h0;go_enter Tryz.func45,Tryz.ntmps45;go_wp2_with fail;refine K1.o.mono ?_;rintro e w2 ⟨rfl,rfl⟩;go_wp2_with fail;refine K2.o.mono ?_;rintro e w3 ⟨A3,c3,rfl,S3,dR⟩;have KO:=xh (KT.o w3 (HP.o.below dR));have O3:=xh (show ag F w w3 from .aj dR);clear S3 dR;go_wp2_with fail;refine KO.o.mono ?_;rintro e w4 ⟨v4,rfl,F4,o4,f4,P4,z4,z5⟩;have s3:=O3.o.size
  have H4:=xh (show ag F w w4/\(∀g∈F4,g∈F\/w.heap.size<=g)/\PQ w4 I F4 q1 n (K+2)from⟨O3.o.trans o4,λg hg=>(f4 g hg).imp id (λh=>by omega),P4⟩)
  by_cases he:e1=0
  .obtain⟨tb,rfl,htb,T4⟩:=z5 he;have lk:=ae (Below.refl w4.heap.size w4) (.cells #[tp tb,pp I.pb,.bool true] 182);have BS:=aD.new w4 182 #[tp tb,pp I.pb,.bool true];have H5:=xh (And.intro BS (And.intro (T4.below lk) (And.intro (H4.o.1.trans (.aj lk)) (show w.heap.size<=w4.heap.size/\w.heap.size<=tb from⟨by have:=o4.size;omega,by omega⟩))));clear o4 f4 P4 z4 z5 T4 lk BS htb s3;subst he;unfold tp pp at *;go_wp2_with fail;go_ret2
   exact⟨_,by first|rfl|simp,F4,H5.o.2.2.1,H4.o.2.1,H5.o.2.1.2,λh=>absurd rfl h,λ_=>⟨_,tb,rfl,H5.o.2.2.2.1,H5.o.2.2.2.2,H5.o.1,H5.o.2.1⟩⟩
  .have hq:(e1 != 0)=true:=by rw[bne_iff_ne];exact he
   have lp:(e1==0)=false:=by rw[beq_eq_false_iff_ne];exact he
   clear o4 f4 P4 z4 z5 s3;go_wp2_with fail;go_ret2;exact⟨_,by first|rfl|simp,F4,H4.o.1,H4.o.2.1,H4.o.2.2,λ_=>rfl,λh=>absurd h he⟩
 .rw[decide_eq_false h0];have h0I:((q.a.gP.length:Nat):Int)≠0:=by omega
  generalize q.a.gP.length=np at *;have hq8:(((np:Nat):Int)==0)=false:=by rw[beq_eq_false_iff_ne];exact h0I
  have hq9:decide (((np:Nat):Int)=0)=false:=decide_eq_false h0I;go_enter Tryz.func45,Tryz.ntmps45;go_wp2_with fail;refine K1.o.mono ?_;rintro e w2 ⟨rfl,rfl⟩;go_wp2_with fail;refine K2.o.mono ?_;rintro e w3 ⟨A3,c3,rfl,S3,dR⟩;have KO:=xh (KT.o w3 (HP.o.below dR));have O3:=xh (show ag F w w3 from .aj dR);clear S3 dR;go_wp2_with fail;refine KO.o.mono ?_;rintro e w4 ⟨v4,rfl,F4,o4,f4,P4,z4,z5⟩;have s3:=O3.o.size
  have H4:=xh (show ag F w w4/\(∀g∈F4,g∈F\/w.heap.size<=g)/\PQ w4 I F4 q1 n (K+2)from⟨O3.o.trans o4,λg hg=>(f4 g hg).imp id (λh=>by omega),P4⟩)
  by_cases he:e1=0
  .obtain⟨tb,rfl,htb,T4⟩:=z5 he;have lk:=ae (Below.refl w4.heap.size w4) (.cells #[tp tb,pp I.pb,.bool false] 182);have BS:=aD.new w4 182 #[tp tb,pp I.pb,.bool false];have H5:=xh (And.intro BS (And.intro (T4.below lk) (And.intro (H4.o.1.trans (.aj lk)) (show w.heap.size<=w4.heap.size/\w.heap.size<=tb from⟨by have:=o4.size;omega,by omega⟩))));clear o4 f4 P4 z4 z5 T4 lk BS htb s3;subst he;unfold tp pp at *;go_wp2_with fail;go_ret2
   exact⟨_,by first|rfl|simp,F4,H5.o.2.2.1,H4.o.2.1,H5.o.2.1.2,λh=>absurd rfl h,λ_=>⟨_,tb,rfl,H5.o.2.2.2.1,H5.o.2.2.2.2,H5.o.1,H5.o.2.1⟩⟩
  .have hq:(e1 != 0)=true:=by rw[bne_iff_ne];exact he
   have lp:(e1==0)=false:=by rw[beq_eq_false_iff_ne];exact he
   clear o4 f4 P4 z4 z5 s3;go_wp2_with fail;go_ret2;exact⟨_,by first|rfl|simp,F4,H4.o.1,H4.o.2.1,H4.o.2.2,λ_=>rfl,λh=>absurd h he⟩
theorem Ct{sb:Nat}{a b:Value}{fr:Bool}(B:aD w sb 182 #[a,b,.bool fr]):Calls Tryz.prog 49 #[.pointer (some ⟨sb,0,none⟩)] w λe w'=>e=.returned (.bool fr)/\Below w.heap.size w w':=by
 have x2:=B.ab (i:=2) rfl;have O0:=xh (Below.refl w.heap.size w);have O1:=xh (Below.refl w.heap.size w).drew;clear B;go_enter Tryz.func49,Tryz.ntmps49;go_wp2_with fail;go_ret;exact⟨by first|rfl|simp,by first|exact O0.o|exact O1.o⟩
def QS.k6:QS:=(QS.start 5 300).ll.1
theorem qD(w:World):
  Calls Tryz.prog 35 #[] w λe w'=> ∃sb tb I F,e=.returned (.pointer (some ⟨sb,0,none⟩))/\aD w' sb 182 #[tp tb,pp I.pb,.bool true]/\TQ w' tb I F QS.k6 1202 3/\
   Rd QS.k6 v0T jL 1 300/\Below w.heap.size w w'/\(∀g∈sb::tb::F,w.heap.size<=g):=by
 have n1:dW 1202=300:=by decide
 have KD:=xh (wg 1202 w (by omega) (by omega));have KF:=xh (λ(W:World) (L:Dk.Loc) (hW:aG W L 1202 (D.zero 1202))=>AA hW (by omega) rfl rfl (by show(0:Int)<=1000;omega));have KP:=xh (λ(W:World) (b:Nat)=>GL (w:=W) b 5 (by omega) (by omega))
 have HQ:=xh (show ∀(W:World) (x:X) (pq:Nat) (v:Value),At W x 1202 (cL (D.zero 1202) 1202)->aD W pq 143 #[sp x.b,v,.int .i64 0]->aQ W 167 5 v 5 (wD (List.replicate 5 Fr.nil))->(∀g∈x.fp,w.heap.size<=g)->w.heap.size<=pq->(∀g∈ah v,w.heap.size<=g)->pq∉x.fp->(∀g∈ah v,g∉x.fp)->
   ∃F,PQ W ⟨pq,x.b,x.L⟩ F (QS.start 5 300) 1202 1/\(∀g∈F,w.heap.size<=g)/\Hq (QS.start 5 300) 1202 1 from λW x pq v A B S h1 h2 h3 h4 h5=>by
  obtain⟨g,cp,rest,rfl,BB,_⟩:=S.form (by omega) (by omega);obtain⟨gd,e,hc,hr,_⟩:=zA 1202 (by omega) (by omega) A.hd.ok;rw[n1]at e;have z:Zc (cL (D.zero 1202) 1202) 1202 (St.start 300) 1:=⟨gd,hr,⟨0,by rw[so,e]⟩,by omega,by show(1:Int)<=(1:Nat);omega⟩
  have H:Hq (QS.start 5 300) 1202 1:=⟨⟨_,z⟩,λf hf=>by rw[rz hf];exact Fb.nil,by show 1<=(List.replicate 5 Fr.nil).length;rw[eM];omega,by show(List.replicate 5 Fr.nil).length<=32;rw[eM];omega,by show 0<(List.replicate 5 Fr.nil).length;rw[eM];omega,by show([]:List yb).length<=512;simp⟩;refine⟨_,⟨⟨x,pq,g,cp⟩,rfl,rfl,rfl,rfl,⟨_,?_,z⟩,zB H⟩,?_,H⟩
  .refine⟨?_,?_,A,h4,h5 g (by simp[ah]),H.l1,H.l2,H.lh⟩
   .show aD W pq _ #[_,.slice (some ⟨g,0,none⟩) (List.replicate 5 Fr.nil).length cp,_];rw[eM];exact B
   .show aQ W _ 5 (.slice (some ⟨g,0,none⟩) (List.replicate 5 Fr.nil).length cp) (List.replicate 5 Fr.nil).length _;rw[eM];exact S
  .intro y hy;simp only[Y.fp,aC]at hy
   rcases hy with rfl|rfl|hy
   .exact h2
   .exact h3 _ (by simp[ah])
   .exact h1 y hy)
 unfold pp sp at *;go_enter Tryz.func35,Tryz.ntmps35;go_wp2_with fail;refine KD.o.mono ?_;rintro e w1 ⟨L,rfl,D1,aL,hL⟩;have O1:=xh aL;have D1:=xh D1;have HL:=xh hL;clear aL hL;go_wp2_with fail;refine(KF.o w1 L D1.o).mono ?_;rintro e w2 ⟨x,hxL,rfl,A2,o2,fx⟩
 have H2:=xh (show At w2 x 1202 (cL (D.zero 1202) 1202)/\Below w.heap.size w w2/\∀g∈x.fp,w.heap.size<=g from⟨A2,O1.o.trans (o2.aE O1.o.size HL.o),λg hg=>(fx g hg).elim (HL.o g) (λh=>by have:=O1.o.size;omega)⟩);have HXL:=xh hxL;clear A2 o2 fx hxL;go_wp2_with fail;refine(KP.o w2 x.b).mono ?_;rintro e w3 ⟨pq,v,rfl,B3,S3,dR,hp3,hf3⟩
 obtain⟨F3,P3,f3,hq3⟩:=HQ.o w3 x pq v (H2.o.1.below dR) B3 S3 H2.o.2.2 (by have:=H2.o.2.1.size;omega) (λg hg=>by have:=hf3 g hg;have:=H2.o.2.1.size;omega) (λhF=>by have:=H2.o.1.lt _ hF;omega) (λg hg hF=>by have:=H2.o.1.lt _ hF;have:=hf3 g hg;omega);have hb3':=ao H2.o.2.1 dR;have KO:=Fq P3 (by omega);obtain⟨q1e,q1r,q1t⟩:=Cs hq3 (by omega);rw[q1e]at KO;have KO:=xh KO
 have H3:=xh (show Below w.heap.size w w3/\(∀g∈F3,w.heap.size<=g)from⟨hb3',f3⟩);have HR:=xh q1r;clear B3 S3 dR hp3 hf3 P3 f3 hq3 hb3' q1e q1r q1t;unfold pp at KO;go_wp2_with fail;refine KO.o.mono ?_;rintro e w4 ⟨v4,rfl,F4,o4,f4,P4,z4,z5⟩;obtain⟨sb,tb,rfl,hsb,htb,BS,T4⟩:=z5 rfl;have H4:=xh (And.intro BS (And.intro T4 (And.intro (show Below w.heap.size w w4 from H3.o.1.trans (o4.aE H3.o.1.size H3.o.2)) (show ∀g∈sb::tb::F4,w.heap.size<=g from λg hg=>by
  have s3:=H3.o.1.size;simp only[aC]at hg
  rcases hg with rfl|rfl|hg
  .omega
  .omega
  .exact(f4 g hg).elim (H3.o.2 g) (λh=>by omega)))))
 clear o4 f4 P4 z4 z5 BS T4 hsb htb;go_wp2_with fail;go_ret;exact⟨sb,tb,⟨pq,x.b,x.L⟩,F4,by first|rfl|simp,H4.o.1,H4.o.2.1,HR.o,H4.o.2.2.1,H4.o.2.2.2⟩
structure um(w W:World)(sb tb:Nat)(I:Ix)(F:List Nat)(q:QS)(n K:Nat):Prop where
 b:aD W sb 182 #[tp tb,pp I.pb,.bool true]
 t:TQ W tb I F q n K
 o:Below w.heap.size w W
 f:∀g∈sb::tb::F,w.heap.size<=g
section
variable{w W W':World}{sb tb:Nat}{I:Ix}{F:List Nat}{q q':QS}{n K K':Nat}
theorem um.nw(h:um w W sb tb I F q n K):sb∉F:=h.t.2.jC h.b (by decide) (by decide) (by decide) (by decide) (by decide) (by decide) (by decide) (by decide) (by decide)
theorem um.pq(h:um w W sb tb I F q n K)(P:PQ W' I F q' n K')(o:ag F W W'):um w W' sb tb I F q' n K':=
 ⟨h.b.only o h.nw,h.t.next o P,h.o.trans (o.aE h.o.size (λg hg=>h.f g (by simp[hg]))),h.f⟩
theorem um.pt(h:um w W sb tb I F q n K)(p:PT W W' I F q' n K'):∃F',um w W' sb tb I F' q' n K':=by
 obtain⟨F',P,o,f⟩:=p;refine⟨F',h.b.only o h.nw,⟨h.t.1.only o h.t.ne,P⟩,h.o.trans (o.aE h.o.size (λg hg=>h.f g (by simp[hg]))),λg hg=>?_⟩;have hs:=h.o.size;simp only[aC]at hg
 rcases hg with rfl|rfl|hg
 .exact h.f _ (by simp)
 .exact h.f _ (by simp)
 .exact(f g hg).elim (λh1=>h.f g (by simp[h1])) (λh1=>by omega)
theorem um.below(h:um w W sb tb I F q n K)(hb:Below W.heap.size W W'):um w W' sb tb I F q n K:=
 ⟨h.b.below hb h.b.lt,h.t.below hb,ao h.o hb,h.f⟩
theorem um.le(h:um w W sb tb I F q n K)(hk:K<=K'):um w W sb tb I F q n K':=⟨h.b,h.t.le hk,h.o,h.f⟩
end
def aB:ByteArray:=⟨#[97]⟩
def nB:ByteArray:=⟨#[110]⟩
def xB:ByteArray:=⟨#[120]⟩
def xq:ByteArray:=gz 0 1++aB
def ka2:ByteArray:=gz 0 2++aB
def s1:QS:=(QS.k6.fP xq xB).1
def s2:QS:=(s1.fQ xq).1
def s3:QS:=(s2.fQ ka2).1
def s4:QS:=(s3.oK nB 5).1
def s5:QS:=(s4.oK nB (-2)).1
theorem uo(R:Rd QS.k6 v0T jL 1 300):(QS.k6.fP xq xB).2=0/\(s1.fQ xq).2=(xB,0)/\(s2.fQ ka2).2.2=9/\(s3.oK nB 5).2=(5,0)/\(s4.oK nB (-2)).2=(3,0)/\
  ((s3.fQ (eH nB)).2.2=0->(s3.fQ (eH nB)).2.1.size=8)/\((s4.fQ (eH nB)).2.2=0->(s4.fQ (eH nB)).2.1.size=8):=by
 have z1:xq.size=3:=by decide
 obtain⟨a1,v1,M1,a2,a3,a4⟩:=zz R JC (by simp[mF]) (by decide) xq xB (by omega) (by decide) (by decide) (by decide);have e1:mF M1=[(xq,xB)]:=by rw[a4];rfl
 obtain⟨b1,b2⟩:=nn a2 a3 (by omega) xq;rw[e1,show eqF [(xq,xB)] xq=[(xq,xB)] by simp[eqF]]at b2;obtain⟨c1,c2⟩:=nn b1 a3 (by omega) ka2;have eG:xq≠ka2:=by decide
 rw[e1,show eqF [(xq,xB)] ka2=[] by simp[eqF,eG]]at c2;have C0:Cn [(xq,xB)] (eH nB) jL s3 0 2 300 v1 M1:=⟨c1,a3,.inl ⟨e1,rfl⟩,λx hx=>by rw[cg.1 hx];exact⟨by decide,by decide⟩,by decide,by decide⟩;have f0:=C0.add (by decide) (by omega) (by omega) 5;rw[if_pos (by decide)]at f0;obtain⟨d1,v2,M2,C1⟩:=f0;have f1:=C1.add (by decide) (by omega) (by omega) (-2);rw[if_pos (by decide)]at f1;refine⟨a1,?_,?_,d1,f1.1,(C0.get (by omega)).2.2,(C1.get (by omega)).2.2⟩
 .rcases b2 with⟨_,b2⟩|b2
  .omega
  .exact b2
 .rcases c2 with⟨_,c2⟩|c2
  .omega
  .exact congrArg Prod.snd c2
theorem zC(w:World):Calls Tryz.prog 36 #[] w λe w'=>e=.returned (.bool true)/\Below w.heap.size w w':=by
 have KB:=xh (qD w);go_enter Tryz.func36,Tryz.ntmps36;go_wp2_with fail;refine KB.o.mono ?_;rintro e w1 ⟨sb,tb,I,F,rfl,B1,T1,R1,O1,f1⟩;obtain⟨g1,g2,g3,g4,g5,g6,g7⟩:=uo R1;have A1:um w w1 sb tb I F QS.k6 1202 3:=⟨B1,T1,O1,f1⟩;have KF:=xh (Ct B1);have K1:=xh (λ(W:World) (F:List Nat) (hW:um w W sb tb I F QS.k6 1202 3)=>g1▸zy hW.b hW.t (by omega) 0 1 (by omega) (by omega) aB xB (by decide) (by decide))
 have K2:=xh (λ(W:World) (F:List Nat) (hW:um w W sb tb I F s1 1202 103)=>tT hW.b hW.t (by omega) 0 1 (by omega) (by omega) aB (by decide));have K3:=xh (λ(W:World) (F:List Nat) (hW:um w W sb tb I F s2 1202 124)=>tT hW.b hW.t (by omega) 0 2 (by omega) (by omega) aB (by decide));have K4:=xh (λ(W:World) (F:List Nat) (hW:um w W sb tb I F s3 1202 145)=>g4▸oM hW.b hW.t (by omega) nB (by decide) g6 5)
 have K5:=xh (λ(W:World) (F:List Nat) (hW:um w W sb tb I F s4 1202 345)=>g5▸oM hW.b hW.t (by omega) nB (by decide) g7 (-2));rw[show gz 0 1++aB=xq from rfl,g2]at K2;rw[show gz 0 2++aB=ka2 from rfl,g3]at K3;have A1:=xh A1;clear B1 T1 R1 O1 f1 g1 g2 g3 g4 g5 g6 g7;unfold aB nB xB at *;go_wp2_with fail;refine KF.o.mono ?_;rintro e w2 ⟨rfl,bK⟩;have A2:=A1.o.below bK;have K1:=xh (K1.o w2 F A2);have A2:=xh A2;clear bK;go_wp2_with fail
 refine K1.o.mono ?_;rintro e w3 ⟨rfl,p3⟩;obtain⟨F3,A3⟩:=A2.o.pt p3;have K2:=xh (K2.o w3 F3 A3);have A3:=xh A3;clear p3;go_wp2_with fail;refine K2.o.mono ?_;rintro e w4 ⟨rfl,P4,o4⟩;have A4:=A3.o.pq P4 o4;have K3:=xh (K3.o w4 F3 A4);have A4:=xh A4;clear P4 o4;go_wp2_with fail;refine K3.o.mono ?_;rintro e w5 ⟨rfl,P5,o5⟩;have A5:=A4.o.pq P5 o5;have K4:=xh (K4.o w5 F3 A5);have A5:=xh A5;clear P5 o5;go_wp2_with fail;refine K4.o.mono ?_
 rintro e w6 ⟨rfl,p6⟩;obtain⟨F6,A6⟩:=A5.o.pt p6;have K5:=xh (K5.o w6 F6 A6);have A6:=xh A6;clear p6;go_wp2_with fail;refine K5.o.mono ?_;rintro e w7 ⟨rfl,p7⟩;obtain⟨F7,A7⟩:=A6.o.pt p7;have A7:=xh A7;clear p7;go_wp2_with fail;go_ret;exact⟨by first|rfl|simp,A7.o.o⟩
end Go.Proofs.YtmonobkginiajaaGreat.Sh
namespace Go.Proofs.YtmonobkginiajaaGreat.Sh
open Go.RowKit Go.ChangeShapes Go.WideShapes Go.Deep Pk Dk Pg
attribute [local go_sem ↓] Go.wp_at_zero Go.wp_at_succ
theorem JD{H:Type}{enc:TypeId×Value->H}{w:World}{base:Nat}{v:Value}{d:DataW H}{ps:List MemPlace}(ef:Value.okWide Tryz.prog w .any base 60 v)(h:DataW.Trod enc Tryz.prog w 0 (λ_=>true) true 60 v d ps):
  ∃(A:Option Addr) (n c:Nat) (l:List Int),v=.slice A n c/\n<=c/\n<=maxLen/\Rt.fO w A n l:=by
 obtain⟨a0,JE,cap0,rfl⟩:=okWide_slice Tryz.underlying60 ef;obtain⟨fuel,hf⟩:=h;have hce:Tryz.prog.cellsOf 3=1:=by kernel_rfl
 rcases open_slice Tryz.underlying60 hf with⟨FC,_⟩|⟨a,len,cap,m,n',D,Pl,FC,_,Fy,hm2,hmm,_,qK⟩
 .simp[Value.cells]at FC;obtain⟨rfl,rfl,rfl⟩:=FC;exact⟨none,0,0,[],rfl,ak _,bm _,⟨rfl,λk x hx=>by simp at hx⟩⟩
 .simp[Value.cells]at FC;obtain⟨rfl,rfl,rfl⟩:=FC;simp at hmm;have each:∀k,k<JE->∃x:Int,w.cell? (a.add k)=some (.int .i64 x):=by
   intro k hk;obtain⟨cs',hcs',tD⟩:=qK k (by omega);rw[hce,qX]at hcs';obtain⟨hlen,_,hget⟩:=World.cells?_some hcs';obtain⟨r,hr,_⟩:=DataW.trod_int Tryz.underlying3 tD;subst hr;have g:=hget 0 (by omega);rw[show a.add k=(a.add k).add 0 by simp[Addr.add]];exact⟨r,g⟩
  obtain⟨F,hF⟩:=choose_lt (p:=λk x=>w.cell? (a.add k)=some (.int .i64 x)) each;refine⟨some a,JE,cap0,(List.range JE).map F,rfl,Fy,by omega,by simp,?_⟩;intro k x hx;rw[ij]at hx;have hk:k<JE:=by
   by_cases hk:k<JE
   .exact hk
   .rw[fo (by simp;omega)]at hx;simp at hx
  rw[List.getElem?_range hk]at hx;simp only[iZ,Option.some.injEq]at hx;subst hx;exact⟨a,rfl,hF k hk⟩
section
variable{w W:World}{sb tb:Nat}{I:Ix}{F:List Nat}{q:QS}{K u:Nat}{n:Int}{name:ByteArray}{o:Vw}{v:Vw}{M:List MT}
structure SC(w W:World)(sb tb:Nat)(I:Ix)(name:ByteArray)(n:Int)(u K:Nat):Prop where
 x:∃F q v M,um w W sb tb I F q 1202 K/\Cn [] (eH name) jL q n u 300 v M
theorem SC.bel(h:SC w W sb tb I name n u K):Below w.heap.size w W:=by
 obtain⟨F,q,v,M,A,C⟩:=h.x;exact A.o
theorem SC.below{W':World}(h:SC w W sb tb I name n u K)(hb:Below W.heap.size W W'):SC w W' sb tb I name n u K:=by
 obtain⟨F,q,v,M,A,C⟩:=h.x;exact⟨F,q,v,M,A.below hb,C⟩
theorem Cn.le{B:List PR}{k:ByteArray}{mm u':Nat}(h:Cn B k o q n u mm v M)(hu:u<=u'):Cn B k o q n u' mm v M:=⟨h.r.le hu,h.t,h.p,h.b,h.s,h.n⟩
theorem SC.le{u' K':Nat}(h:SC w W sb tb I name n u K)(hu:u<=u')(hk:K<=K'):SC w W sb tb I name n u' K':=by
 obtain⟨F,q,v,M,A,C⟩:=h.x;exact⟨F,q,v,M,A.le hk,C.le hu⟩
theorem SC.num(h:SC w W sb tb I name n u K):0<=n/\n<=1099511627776:=by
 obtain⟨F,q,v,M,A,C⟩:=h.x;exact C.n
theorem SC.cnt(h:SC w W sb tb I name n u K)(hr:name.size<=30)(hu:u<=100)(hK:K<=900000):
  Calls Tryz.prog 38 #[.pointer (some ⟨sb,0,none⟩),.string name] W λe w'=>e=.returned (.tuple #[.int .i64 n,.int .i64 0])/\SC w w' sb tb I name n u (K+21):=by
 obtain⟨F,q,v,M,A,C⟩:=h.x;obtain⟨g1,g2,g3⟩:=C.get (by omega);refine(oL A.b A.t (by omega) name hr g3).mono λe w' ⟨r,P,o⟩=>?_;rw[g1]at r;exact⟨r,F,_,v,M,A.pq P o,g2⟩
theorem SC.add(h:SC w W sb tb I name n u K)(hr:name.size<=30)(hu:u<=100)(hK:K<=900000)(m:Int)(hm:kx m (-1099511627776)/\kx (n+m) 0):
  Calls Tryz.prog 37 #[.pointer (some ⟨sb,0,none⟩),.string name,.int .i64 m] W λe w'=>e=.returned (.tuple #[.int .i64 (n+m),.int .i64 0])/\SC w w' sb tb I name (n+m) (u+1) (K+200):=by
 obtain⟨F,q,v,M,A,C⟩:=h.x;obtain⟨g1,g2,g3⟩:=C.get (by omega);have g4:=C.add hr (by omega) (by omega) m;rw[if_pos hm]at g4;obtain⟨g5,v',M',g6⟩:=g4;refine(oM A.b A.t (by omega) name hr g3 m).mono λe w' ⟨r,P⟩=>?_;rw[g5]at r;obtain⟨F',A'⟩:=A.pt P;exact⟨r,F',_,v',M',A',g6⟩
theorem SC.not(h:SC w W sb tb I name n u K)(hr:name.size<=30)(hu:u<=100)(hK:K<=900000)(m:Int)(hm:¬(kx m (-1099511627776)/\kx (n+m) 0)):
  Calls Tryz.prog 37 #[.pointer (some ⟨sb,0,none⟩),.string name,.int .i64 m] W λe w'=>e=.returned (.tuple #[.int .i64 0,.int .i64 3])/\SC w w' sb tb I name n (u+1) (K+200):=by
 obtain⟨F,q,v,M,A,C⟩:=h.x;obtain⟨g1,g2,g3⟩:=C.get (by omega);have g4:=C.add hr (by omega) (by omega) m;rw[if_neg hm]at g4;refine(oM A.b A.t (by omega) name hr g3 m).mono λe w' ⟨r,P⟩=>?_;rw[g4.1]at r;obtain⟨F',A'⟩:=A.pt P;exact⟨r,F',_,v,M,A',g4.2.le (by omega)⟩
end
theorem qO{w:World}(name:ByteArray)(A:Option Addr)(m cc:Nat)(l:List Int)(hl:Rt.fO w A m l)(hm:m<=9223372036854775807)(hnm:name.size<=maxLen):
  Calls Tryz.prog 8 #[.string name,.slice A m cc] w λe w'=>e=.returned (.bool true)/\Below w.heap.size w w':=by
 have KB:=xh (qD w);have KA:=xh (λ(W:World)=>zC W);have HI:=xh (λ(W:World) (hb:Below w.heap.size w W)=>(hl.below hb).2);have HL:=xh hl.1;clear hl
 by_cases hn:name.size<=30
 .have hnI:¬(30:Int)<((name.size:Nat):Int):=by omega
  have HR:=xh hn;clear hn;go_enter Tryz.func8,Tryz.ntmps8;go_wp2_with fail;refine KB.o.mono ?_;rintro e w1 ⟨sb,tb,I,F,rfl,B1,T1,R1,O1,f1⟩;have S1:=xh (show SC w w1 sb tb I name 0 1 3 from⟨F,_,_,[],⟨B1,T1,O1,f1⟩,⟨R1,JC,.inl ⟨rfl,rfl⟩,by simp,by decide,by decide⟩⟩);clear B1 T1 R1 O1 f1;go_wp2_with fail;refine(KA.o w1).mono ?_;rintro e w2 ⟨rfl,bK⟩;have S2:=xh (S1.o.below bK);clear bK;go_wp2_with fail
  go_loopw [6,7] (λcv iv wr=> ∃(i:Nat) (n:Int),i<=30/\iv=.int .i64 i/\cv=.int .i64 n/\Hid (SC w wr sb tb I name n (1+i) (3+300*i))) (λ_ iv _=>30-(intOf iv).toNat)
  case atStart=>exact⟨0,0,bm _,rfl,rfl,S2⟩
  case round=>
   obtain⟨i,n,hi,rfl,rfl,HS⟩:=hrel
   by_cases h1:i<m
   .have h1I:(i:Int)<(m:Int):=by omega
    by_cases h2:i<30
    .have h2I:(i:Int)<30:=by omega
     obtain⟨x,HX⟩:∃x,Hid (l[i]?=some x):=⟨_,xh (aN (by rw[HL.o];exact h1))⟩;obtain⟨ad,rfl,c0⟩:=HI.o wr HS.o.bel i x HX.o;have ei:IntKind.i64.wrap ((i:Int)+1)=((i+1:Nat):Int):=IntWalk.i64_in _ (by omega);have n1:=HS.o.num.1;have n2:=HS.o.num.2
     by_cases q1:x< -1099511627776
     .have KNO:=xh (HS.o.not HR.o (by omega) (by omega) x (λh=>by have:=h.1.1;omega));go_wp2_with fail;refine(KNO.o).mono ?_;rintro e w5 ⟨rfl,S5⟩;obtain⟨_,HE,xw⟩:=HI.o w5 S5.bel i x HX.o;injection HE with HE
      subst HE;have SC5:=xh S5;clear S5 c0;have c0:=xw;go_wp2_with fail;have KC:=xh (SC5.o.cnt HR.o (by omega) (by omega));clear c0;have c0:=xw;go_wp2_with fail;refine KC.o.mono ?_;rintro e w6 ⟨rfl,S6⟩;have S6:=xh (S6.le (show 1+i+1<=1+(i+1) by omega) (show 3+300*i+200+21<=3+300*(i+1) by omega));clear c0 xw;go_wp2_with fail;go_roundw
      case rel=>exact⟨i+1,_,by omega,by go_num,by first|rfl|simp,S6⟩
      case measure=>simp[intOf];omega
     .by_cases q2:1099511627776<x
      .have KNO:=xh (HS.o.not HR.o (by omega) (by omega) x (λh=>by have:=h.1.2;omega));go_wp2_with fail;refine(KNO.o).mono ?_;rintro e w5 ⟨rfl,S5⟩;obtain⟨_,HE,xw⟩:=HI.o w5 S5.bel i x HX.o;injection HE with HE
       subst HE;have SC5:=xh S5;clear S5 c0;have c0:=xw;go_wp2_with fail;have KC:=xh (SC5.o.cnt HR.o (by omega) (by omega));clear c0;have c0:=xw;go_wp2_with fail;refine KC.o.mono ?_;rintro e w6 ⟨rfl,S6⟩;have S6:=xh (S6.le (show 1+i+1<=1+(i+1) by omega) (show 3+300*i+200+21<=3+300*(i+1) by omega));clear c0 xw;go_wp2_with fail;go_roundw
       case rel=>exact⟨i+1,_,by omega,by go_num,by first|rfl|simp,S6⟩
       case measure=>simp[intOf];omega
      .have ex:IntKind.i64.wrap (n+x)=n+x:=IntWalk.i64_in _ (by omega)
       by_cases q3:n+x<0
       .have KNO:=xh (HS.o.not HR.o (by omega) (by omega) x (λh=>by have:=h.2.1;omega));go_wp2_with fail;refine(KNO.o).mono ?_;rintro e w5 ⟨rfl,S5⟩;obtain⟨_,HE,xw⟩:=HI.o w5 S5.bel i x HX.o;injection HE with HE
        subst HE;have SC5:=xh S5;clear S5 c0;have c0:=xw;go_wp2_with fail;have KC:=xh (SC5.o.cnt HR.o (by omega) (by omega));clear c0;have c0:=xw;go_wp2_with fail;refine KC.o.mono ?_;rintro e w6 ⟨rfl,S6⟩;have S6:=xh (S6.le (show 1+i+1<=1+(i+1) by omega) (show 3+300*i+200+21<=3+300*(i+1) by omega));clear c0 xw;go_wp2_with fail;go_roundw
        case rel=>exact⟨i+1,_,by omega,by go_num,by first|rfl|simp,S6⟩
        case measure=>simp[intOf];omega
       .by_cases q4:1099511627776<n+x
        .have KNO:=xh (HS.o.not HR.o (by omega) (by omega) x (λh=>by have:=h.2.2;omega));go_wp2_with fail;refine(KNO.o).mono ?_;rintro e w5 ⟨rfl,S5⟩;obtain⟨_,HE,xw⟩:=HI.o w5 S5.bel i x HX.o;injection HE with HE
         subst HE;have SC5:=xh S5;clear S5 c0;have c0:=xw;go_wp2_with fail;have KC:=xh (SC5.o.cnt HR.o (by omega) (by omega));clear c0;have c0:=xw;go_wp2_with fail;refine KC.o.mono ?_;rintro e w6 ⟨rfl,S6⟩;have S6:=xh (S6.le (show 1+i+1<=1+(i+1) by omega) (show 3+300*i+200+21<=3+300*(i+1) by omega));clear c0 xw;go_wp2_with fail;go_roundw
         case rel=>exact⟨i+1,_,by omega,by go_num,by first|rfl|simp,S6⟩
         case measure=>simp[intOf];omega
        .have KNO:=xh (HS.o.add HR.o (by omega) (by omega) x ⟨⟨by omega,by omega⟩,⟨by omega,by omega⟩⟩);go_wp2_with fail;refine(KNO.o).mono ?_;rintro e w5 ⟨rfl,S5⟩;obtain⟨_,HE,xw⟩:=HI.o w5 S5.bel i x HX.o;injection HE with HE
         subst HE;have SC5:=xh S5;clear S5 c0;have c0:=xw;go_wp2_with fail;have KC:=xh (SC5.o.cnt HR.o (by omega) (by omega));clear c0;have c0:=xw;go_wp2_with fail;refine KC.o.mono ?_;rintro e w6 ⟨rfl,S6⟩;have S6:=xh (S6.le (show 1+i+1<=1+(i+1) by omega) (show 3+300*i+200+21<=3+300*(i+1) by omega));clear c0 xw;go_wp2_with fail;go_roundw
         case rel=>exact⟨i+1,_,by omega,by go_num,by first|rfl|simp,S6⟩
         case measure=>simp[intOf];omega
    .obtain rfl:i=30:=by omega
     have O9:=xh HS.o.bel;go_wp2_with fail;go_ret;exact⟨by first|rfl|simp,O9.o⟩
   .have h1I:¬(i:Int)<(m:Int):=by omega
    have O9:=xh HS.o.bel;go_wp2_with fail;go_ret;exact⟨by first|rfl|simp,O9.o⟩
 .have hnI:(30:Int)<((name.size:Nat):Int):=by omega
  clear hn;go_enter Tryz.func8,Tryz.ntmps8;go_wp2_with fail;refine KB.o.mono ?_;rintro e w1 ⟨sb,tb,I,F,rfl,B1,T1,R1,O1,f1⟩;have O1:=xh O1;clear B1 T1 R1 f1;go_wp2_with fail;refine(KA.o w1).mono ?_;rintro e w2 ⟨rfl,bK⟩;have O2:=xh (ao O1.o bK);clear bK;go_wp2_with fail;refine(KA.o w2).mono ?_;rintro e w3 ⟨rfl,dR⟩;have O3:=xh (ao O2.o dR);clear dR;go_wp2_with fail;go_ret;exact⟨by first|rfl|simp,O3.o⟩
end Go.Proofs.YtmonobkginiajaaGreat.Sh
