/- packed. -/
import Derived.Test.YtmonobkginiajaaGreatAp15
set_option linter.all false
set_option maxRecDepth 100000
set_option maxHeartbeats 8000000
namespace Go.Proofs.YtmonobkginiajaaGreat
open Go.Proofs.Tryz
namespace Sh
open Go.RowKit Pk Dk Pg
attribute [local go_sem ↓] Go.wp_at_zero Go.wp_at_succ
variable{s l:Nat}{W:World}{v:Value}{lw:List PR}
def AL(w wr:World)(sb tb xb:Nat)(I:Ix)(i:Nat):Prop:= ∃M L,SY w wr sb tb I M i (50+40000000*i)/\DX wr w.heap.size xb L/\Rl M L/\L.length<=2*i
section
variable{w wr w':World}{sb tb xb i:Nat}{I:Ix}
theorem AL.below(h:AL w wr sb tb xb I i)(hb:Below wr.heap.size wr w'):AL w w' sb tb xb I i:=by
 obtain⟨M,L,a,b,c,d⟩:=h;exact⟨M,L,a.below hb,b.below hb,c,d⟩
theorem AL.b(h:AL w wr sb tb xb I i):Below w.heap.size w wr:=by
 obtain⟨M,L,a,b,c,d⟩:=h;exact a.bel
theorem AL.succ(h:AL w wr sb tb xb I i):AL w wr sb tb xb I (i+1):=by
 obtain⟨M,L,a,b,c,d⟩:=h;exact⟨M,L,a.le (by omega) (by omega),b,c,by omega⟩
theorem AL.MB(h:AL w wr sb tb xb I i)(hi:i<=26)(kd sp lp m:Int)(r til val:ByteArray)(gQ:r.size<100/\til.size<100/\val.size<1500)(hm:Lf m):
  Calls prog 40 #[.pointer (some ⟨sb,0,none⟩),.pointer (some ⟨xb,0,none⟩),.agg (im kd sp lp m r til val)] wr λe w'=>e=.returned (.bool true)/\AL w w' sb tb xb I (i+1):=by
 obtain⟨M,L,a,b,c,d⟩:=h;refine(UM a b c (by omega) (by omega) (by omega) kd sp lp m r til val ⟨by omega,by omega⟩ hm).mono ?_;rintro e w' ⟨rfl,M',L',x1,x2,x3,x4,x5,x6⟩;exact⟨rfl,M',L',x1.le (aj _) (by omega),x2,x3,by omega⟩
def whole(s l:Nat)(M:List PR):List PR:=eH ⟨#[]⟩ ⟨#[]⟩ 1099511627776 (aF s l M)
theorem SY.CR{M:List PR}{L:List De}{k K:Nat}(a:SY w wr sb tb I M k K)(b:DX wr w.heap.size xb L)(hk:k<=30)(hK:K<=999900000000)(hs:s<=7)(hl:l<=5):
  Calls prog 41 #[.pointer (some ⟨sb,0,none⟩),.int .i64 (s:Nat),.int .i64 (l:Nat),.string ⟨#[]⟩,.string ⟨#[]⟩,.int .i64 1099511627776] wr λe w'=> ∃v,e=.returned (.tuple #[v,.int .i64 0])/\aK w' 42 2 v (whole s l M).length (iu (whole s l M))/\(whole s l M).length<=1000000/\SY w w' sb tb I M k (K+300000)/\DX w' w.heap.size xb L/\jr wr w':=by
 have hlen:=a.Aq.2;refine(a.Hz b hk hK hs hl ⟨#[]⟩ ⟨#[]⟩ (by show(0:Nat)<=30;omega) (by show(0:Nat)<=30;omega) 1099511627776).mono ?_;rintro e w' ⟨v,rfl,S,x1,x2,x3,_⟩;have h1:=lX ⟨#[]⟩ ⟨#[]⟩ 1099511627776 (aF s l M) (aF s l M).length;rw[gY]at h1;have h2:=mz s l M;exact⟨v,rfl,S,by show(eH _ _ _ _).length<=_;omega,x1,x2,x3⟩
def AW(w W:World)(sb tb xb:Nat)(I:Ix)(s l:Nat)(v:Value)(lw:List PR):Prop:= ∃M L,SY w W sb tb I M 26 1050000000/\DX W w.heap.size xb L/\Rl M L/\L.length<=60/\whole s l M=lw/\lw.length<=1000000/\aK W 42 2 v lw.length (iu lw)
def AX(w W:World)(sb tb xb:Nat)(I:Ix)(s l:Nat)(v:Value)(lw:List PR):Prop:= ∃M L,SY w W sb tb I M 28 1200000000/\DX W w.heap.size xb L/\whole s l M=lw/\lw.length<=1000000/\aK W 42 2 v lw.length (iu lw)
theorem AL.Qe(h:AL w wr sb tb xb I i)(hi:i<=25)(hs:s<=7)(hl:l<=5):
  Calls prog 41 #[.pointer (some ⟨sb,0,none⟩),.int .i64 (s:Nat),.int .i64 (l:Nat),.string ⟨#[]⟩,.string ⟨#[]⟩,.int .i64 1099511627776] wr λe w'=> ∃v lw,e=.returned (.tuple #[v,.int .i64 0])/\AW w w' sb tb xb I s l v lw:=by
 obtain⟨M,L,a,b,c,d⟩:=h;refine(a.CR b (by omega) (by omega) hs hl).mono ?_;rintro e w' ⟨v,rfl,S,h1,x1,x2,x3⟩;exact⟨v,_,rfl,M,L,x1.le (by omega) (by omega),x2,c,by omega,rfl,h1,S⟩
theorem AW.b(h:AW w W sb tb xb I s l v lw):Below w.heap.size w W:=by
 obtain⟨M,L,a,b,c,d,e,f,g⟩:=h;exact a.bel
theorem AW.MB(h:AW w W sb tb xb I s l v lw)(hs:s<=7)(hl:l<=5)(kd sp lp m:Int)(r til val:ByteArray)(gQ:r.size<100/\til.size<100/\val.size<1500)(hm:Lf m)(hT:¬wP kd sp lp s l):
  Calls prog 40 #[.pointer (some ⟨sb,0,none⟩),.pointer (some ⟨xb,0,none⟩),.agg (im kd sp lp m r til val)] W λe w'=>e=.returned (.bool true)/\AX w w' sb tb xb I s l v lw:=by
 obtain⟨M,L,a,b,c,d,e,f,g⟩:=h;refine(UM a b c (by omega) (by omega) (by omega) kd sp lp m r til val ⟨by omega,by omega⟩ hm).mono ?_;rintro e' w' ⟨rfl,M',L',x1,x2,x3,x4,x5,x6⟩;exact⟨rfl,M',L',x1.le (by omega) (by omega),x2,by unfold whole at e ⊢;rw[x4 s l hs hl hT];exact e,f,aK.fra g x5⟩
theorem AX.b(h:AX w W sb tb xb I s l v lw):Below w.heap.size w W:=by
 obtain⟨M,L,a,b,e,f,g⟩:=h;exact a.bel
theorem AX.now(h:AX w W sb tb xb I s l v lw)(hs:s<=7)(hl:l<=5):
  Calls prog 41 #[.pointer (some ⟨sb,0,none⟩),.int .i64 (s:Nat),.int .i64 (l:Nat),.string ⟨#[]⟩,.string ⟨#[]⟩,.int .i64 1099511627776] W λe w'=> ∃v',e=.returned (.tuple #[v',.int .i64 0])/\aK w' 42 2 v lw.length (iu lw)/\aK w' 42 2 v' lw.length (iu lw)/\lw.length<=1000000/\Below w.heap.size w w':=by
 obtain⟨M,L,a,b,e,f,g⟩:=h;refine(a.CR b (by omega) (by omega) hs hl).mono ?_;rintro e' w' ⟨v',rfl,S,h1,x1,x2,x3⟩;rw[e]at S;exact⟨v',rfl,aK.fra g x3,S,f,x1.bel⟩
theorem AL.start{F:List Nat}(BS:aE W sb 182 #[tp tb,pp I.pb,.bool true])(T:TQ W tb I F QS.lG 1202 3)(R:Rd QS.lG ES mu 1 300)(hb:Below w.heap.size w W)(f:∀g∈sb::tb::F,w.heap.size<=g):
  AL w (W.alloc (.cells #[.slice none 0 0] 88)) sb tb W.heap.size I 0:=by
 have hz:=hb.size;have ha:=ae (Below.refl W.heap.size W) (.cells #[.slice none 0 0] 88);refine⟨[],[],SY.below ⟨F,_,⟨BS,T.le (by omega),hb,f⟩,SI.start R⟩ ha,⟨⟨none,0,0,aE.new _ _ _,aK.nil _ _ _⟩,λe he=>(by simp at he),by simp,λe he=>(by simp at he),by simp,hz,λe he=>(by simp at he)⟩,Rl.start,aj _⟩
end
theorem Aw{w:World}(A:Option Addr)(m cc:Nat)(F:Nat->Ia)(hm:m<=9223372036854775807)(hA:rm w A m F)(kd sp lp nn:Int)(key til val:ByteArray)(hnn:Lf nn)(S P:Nat)(hS:S<256)(hP:P<256):
  Calls prog 9 #[.agg #[.slice A m cc,.int .i64 kd,.int .i64 sp,.int .i64 lp,.int .i64 nn,.string key,.string til,.string val,.int .u8 (S:Nat),.int .u8 (P:Nat)]] w λe w'=>e=.returned (.bool true)/\Below w.heap.size w w':=by
 obtain⟨qb,hqb⟩:∃q,w.heap.size=q:=⟨_,rfl⟩;have B1:=aE.new w 84 #[.slice A m cc,.int .i64 kd,.int .i64 sp,.int .i64 lp,.int .i64 nn,.string key,.string til,.string val,.int .u8 (S:Nat),.int .u8 (P:Nat)];have b1:=ae (Below.refl w.heap.size w) (.cells #[.slice A m cc,.int .i64 kd,.int .i64 sp,.int .i64 lp,.int .i64 nn,.string key,.string til,.string val,.int .u8 (S:Nat),.int .u8 (P:Nat)] 84)
 obtain⟨w1,jJ⟩:∃w1,w.alloc (.cells #[.slice A m cc,.int .i64 kd,.int .i64 sp,.int .i64 lp,.int .i64 nn,.string key,.string til,.string val,.int .u8 (S:Nat),.int .u8 (P:Nat)] 84)=w1:=⟨_,rfl⟩;rw[jJ,hqb]at B1;rw[jJ]at b1
 have HC1:=xh (λ(W:World) (hW:Below w1.heap.size w1 W)=>(show(λW'=>W'.cell? ⟨qb,0,none⟩=some (.slice A m cc)/\W'.cell? ⟨qb,1,none⟩=some (.int .i64 kd)/\W'.cell? ⟨qb,2,none⟩=some (.int .i64 sp)/\W'.cell? ⟨qb,3,none⟩=some (.int .i64 lp)/\W'.cell? ⟨qb,4,none⟩=some (.int .i64 nn)/\W'.cell? ⟨qb,5,none⟩=some (.string key)/\W'.cell? ⟨qb,6,none⟩=some (.string til)/\W'.cell? ⟨qb,7,none⟩=some (.string val)/\W'.cell? ⟨qb,8,none⟩=some (.int .u8 (S:Nat))/\W'.cell? ⟨qb,9,none⟩=some (.int .u8 (P:Nat))) W from
  have B:=B1.below hW B1.lt
  ⟨B.ab (i:=0) rfl,B.ab (i:=1) rfl,B.ab (i:=2) rfl,B.ab (i:=3) rfl,B.ab (i:=4) rfl,B.ab (i:=5) rfl,B.ab (i:=6) rfl,B.ab (i:=7) rfl,B.ab (i:=8) rfl,B.ab (i:=9) rfl⟩))
 have FF:=xh b1;have HQ:=xh hqb;clear B1 b1;go_enter func9,ntmps9;go_wp2_with fail;clear jJ hqb;have O1:=xh (Below.refl w1.heap.size w1).drew
 refine wp_region_held_drew (S:=λW'=>W'.cell? ⟨qb,0,none⟩=some (.slice A m cc)/\W'.cell? ⟨qb,1,none⟩=some (.int .i64 kd)/\W'.cell? ⟨qb,2,none⟩=some (.int .i64 sp)/\W'.cell? ⟨qb,3,none⟩=some (.int .i64 lp)/\W'.cell? ⟨qb,4,none⟩=some (.int .i64 nn)/\W'.cell? ⟨qb,5,none⟩=some (.string key)/\W'.cell? ⟨qb,6,none⟩=some (.string til)/\W'.cell? ⟨qb,7,none⟩=some (.string val)/\W'.cell? ⟨qb,8,none⟩=some (.int .u8 (S:Nat))/\W'.cell? ⟨qb,9,none⟩=some (.int .u8 (P:Nat))) (by kernel_rfl) (HC1.o _ O1.o) (λaq=>?_)
 refine cV [(0,17),(1,18),(2,19),(3,20),(4,21),(5,22),(6,23),(7,24)] ?_
 iterate 8 refine bj ?_
 refine dn 8 4 λK hK=>?_;go_simp;refine aW hK (HC1.o _ (ae (Below.refl _ _) _).drew) (λaq=>?_);refine cV [(9,3)] ?_
 iterate 1 refine bj ?_
 refine mW 10 λK hK=>?_;go_simp;refine aW hK (HC1.o _ (ae (Below.refl _ _) _).drew) (λaq=>?_);refine cV [(11,5),(12,6)] ?_
 iterate 2 refine bj ?_
 refine wpAnyH_done (by kernel_rfl) ?_ _;obtain⟨zb,hzb⟩:∃z,w1.heap.size=z:=⟨_,rfl⟩;have Z2:=(aE.new w1 82 #[.int .i64 kd,.int .i64 sp,.int .i64 lp,.int .i64 nn,.string key,.string til,.string val]).drew;have b2:=(ae (Below.refl w1.heap.size w1) (.cells #[.int .i64 kd,.int .i64 sp,.int .i64 lp,.int .i64 nn,.string key,.string til,.string val] 82)).drew
 have mM:w1.heap.size<((w1.alloc (.cells #[.int .i64 kd,.int .i64 sp,.int .i64 lp,.int .i64 nn,.string key,.string til,.string val] 82)).drew).heap.size:=Z2.lt;generalize xH:(w1.alloc (.cells #[.int .i64 kd,.int .i64 sp,.int .i64 lp,.int .i64 nn,.string key,.string til,.string val] 82)).drew=w2 at *;clear xH;rw[hzb]at Z2 ⊢;have B2:=xh (au FF.o b2)
 have HZ:=xh (λ(W:World) (hW:Below w2.heap.size w2 W)=>(show aE W zb 82 #[.int .i64 kd,.int .i64 sp,.int .i64 lp,.int .i64 nn,.string key,.string til,.string val]from Z2.below hW Z2.lt));have HA:=xh (λ(W:World) (hb:Below w2.heap.size w2 W)=>hA.below (au B2.o hb));have KB:=xh (wM w2);have KA:=xh Hl;have KS:=xh Hy;have oT:=xh (λ(W:World) (h:Below w2.heap.size w2 W)=>au B2.o h);obtain⟨k,hk⟩:∃k:Nat,S % 8=k:=⟨_,rfl⟩
 obtain⟨n,hn⟩:∃n:Nat,P % 6=n:=⟨_,rfl⟩;have pz:=xh (show k<=7 by omega);have oC:=xh (show n<=5 by omega);have q1:(S:Int) % 8=(k:Int):=by omega
 have q2:(P:Int) % 6=(n:Int):=by omega
 have q3:IntKind.u8.wrap (k:Int)=(k:Int):=IntWalk.u8_in _ (by omega);have q4:IntKind.u8.wrap (n:Int)=(n:Int):=IntWalk.u8_in _ (by omega);have q5:IntKind.i64.wrap (k:Int)=(k:Int):=IntWalk.i64_in _ (by omega);have q6:IntKind.i64.wrap (n:Int)=(n:Int):=IntWalk.i64_in _ (by omega);have Qf:=xh hnn;clear hk hn hA b2 Z2 mM HC1 FF O1 hS hP hnn;go_wp2_with fail;refine KB.o.mono ?_;rintro e w3 ⟨sb,tb,I,F3,rfl,BS,T3,R3,cZ,f3⟩;have H4:=xh (AL.start BS T3 R3 cZ f3)
 obtain⟨xb,hxb⟩:∃x,w3.heap.size=x:=⟨_,rfl⟩;rw[hxb]at H4;have HXB:=xh hxb;have oS:=HXB.o;clear BS T3 R3 cZ f3 hxb;go_wp2_with fail;refine(KA.o _).mono ?_;rintro e w5 ⟨rfl,mD⟩;have H5:=xh (H4.o.below mD);have Z5:=xh (HZ.o _ H5.o.b);clear mD;have y0:=Z5.o.ab (i:=0) rfl;have y1:=Z5.o.ab (i:=1) rfl;have y2:=Z5.o.ab (i:=2) rfl;have y3:=Z5.o.ab (i:=3) rfl;have y4:=Z5.o.ab (i:=4) rfl;have y5:=Z5.o.ab (i:=5) rfl
 have y6:=Z5.o.ab (i:=6) rfl;obtain⟨ba,hba⟩:∃ba,decide (key.size<100/\til.size<100/\val.size<1500)=ba:=⟨_,rfl⟩;have KSa:=xh (λ(W:World)=>KS.o kd sp lp nn key til val W ba hba.symm);have Qg:=xh hba;clear hba;go_wp2_with fail;refine(KSa.o _).mono ?_;rintro e w6 ⟨rfl,xE⟩;have H6:=xh (H5.o.below xE);clear xE y0 y1 y2 y3 y4 y5 y6
 cases ba
 .go_wp2_with fail;refine(KA.o _).mono ?_;rintro e w7 ⟨rfl,wU⟩;have H7:=xh (oT.o _ (H6.o.below wU).b);clear wU;go_wp2_with fail;go_ret;exact aC H7.o
 .go_wp2_with fail
  go_loopw [11] (λiv wr=> ∃i:Nat,i<=25/\iv=.int .i64 i/\Hid (AL w2 wr sb tb xb I i)) (λiv _=>25-(intOf iv).toNat)
  case atStart=>exact⟨0,bm _,rfl,H6⟩
  case round=>
   obtain⟨i,hi,rfl,HP⟩:=hrel
   by_cases h1:i<m
   .have h1I:(i:Int)<(m:Int):=by omega
    by_cases h2:i<25
    .have h2I:(i:Int)<25:=by omega
     obtain⟨ad,rfl,hSa,fy⟩:=HA.o wr HP.o.b i h1;obtain⟨c0,c1,c2,c3,c4,c5,c6⟩:=hSa;have HC:=xh (show ∀W,Below w2.heap.size w2 W->Av W (ad.add (i*7)) (F i)from λW hb=>by
      obtain⟨ad',e,h,_⟩:=HA.o W hb i h1;injection e with e
      rw[e];exact h)
     have Bo:=xh fy.1.2.2.2;clear fy;generalize F i=sa at c0 c1 c2 c3 c4 c5 c6 HC Bo;obtain⟨kd2,sp2,lp2,nn2,key2,til2,val2⟩:=sa;dsimp only at c0 c1 c2 c3 c4 c5 c6 Bo;obtain⟨bb,wY⟩:∃bb,decide (key2.size<100/\til2.size<100/\val2.size<1500)=bb:=⟨_,rfl⟩;have KS2:=xh (λ(W:World)=>KS.o kd2 sp2 lp2 nn2 key2 til2 val2 W bb wY.symm);have ei:IntKind.i64.wrap ((i:Int)+1)=((i+1:Nat):Int):=IntWalk.i64_in _ (by omega);have HBB:=xh wY;clear wY;go_wp2_with fail
     refine(KS2.o _).mono ?_;rintro e w7 ⟨rfl,wU⟩;have P7:=xh (HP.o.below wU);clear wU c0 c1 c2 c3 c4 c5 c6
     cases bb
     .have P8:=xh P7.o.succ;go_wp2_with fail;go_roundw
      case rel=>exact⟨i+1,by omega,by go_num,P8⟩
      case measure=>simp[intOf];omega
     .have KD:=xh (P7.o.MB (by omega) kd2 sp2 lp2 nn2 key2 til2 val2 (of_decide_eq_true HBB.o) Bo.o);obtain⟨c0,c1,c2,c3,c4,c5,c6⟩:=HC.o w7 P7.o.b;dsimp only at c0 c1 c2 c3 c4 c5 c6;go_wp2_with fail;refine KD.o.mono ?_;rintro e w8 ⟨rfl,P8⟩;have P8:=xh P8;clear c0 c1 c2 c3 c4 c5 c6;go_wp2_with fail;go_roundw
      case rel=>exact⟨i+1,by omega,by go_num,P8⟩
      case measure=>simp[intOf];omega
    .have h2I:¬(i:Int)<25:=by omega
     have H9:=HP;have Z9:=xh (HZ.o _ H9.o.b);have y0:=Z9.o.ab (i:=0) rfl;have y1:=Z9.o.ab (i:=1) rfl;have y2:=Z9.o.ab (i:=2) rfl
     by_cases g6:kd=6
     .subst g6
      by_cases g1:k=7
      .have g1J:((k:Int)==7)=true:=by rw[g1];rfl
       by_cases g2:n=0
       .have g2J:((n:Int)==0)=true:=by rw[g2];rfl
        clear g1 g2;go_wp2_with fail;go_ret;exact aC (oT.o _ H9.o.b)
       .have g2I:¬(n:Int)=0:=by omega
        have g2J:((n:Int)==0)=false:=by simpa using g2I
        have HT:=xh (show ¬wP 6 sp lp k n from by unfold wP;omega);clear g1 g2;have KW:=xh (H9.o.Qe (by omega) pz.o oC.o);go_wp2_with fail;refine KW.o.mono ?_;rintro e jI ⟨v1,lw,rfl,iH⟩;obtain⟨As,cs,rfl⟩:∃As cs,v1=.slice As lw.length cs:=by
         obtain⟨_,_,_,_,_,_,_,_,S⟩:=iH;exact ao S
        have iH:=xh iH;have fG:=xh (HZ.o _ iH.o.b);clear y0 y1 y2;have y0:=fG.o.ab (i:=0) rfl;have y1:=fG.o.ab (i:=1) rfl;have y2:=fG.o.ab (i:=2) rfl;have y3:=fG.o.ab (i:=3) rfl;have y4:=fG.o.ab (i:=4) rfl;have y5:=fG.o.ab (i:=5) rfl;have y6:=fG.o.ab (i:=6) rfl;have KD:=xh (iH.o.MB pz.o oC.o 6 sp lp nn key til val (of_decide_eq_true Qg.o) Qf.o HT.o);go_wp2_with fail
        refine KD.o.mono ?_;rintro e N8 ⟨rfl,qs⟩;have KN:=xh (qs.now pz.o oC.o);clear qs y0 y1 y2 y3 y4 y5 y6;go_wp2_with fail;refine KN.o.mono ?_;rintro e Ep ⟨v2,rfl,S1,S2,mA,gE⟩;obtain⟨A2,c2,rfl⟩:=ao S2;have KE:=xh (gr S1 S2 mA mA true (by simp));have uW:=xh gE;clear S1 S2 mA gE;go_wp2_with fail;refine KE.o.mono ?_;rintro e UN ⟨rfl,iI⟩;have Ax:=xh (oT.o _ (au uW.o iI));clear iI;go_wp2_with fail;go_ret
        exact aC Ax.o
      .have g1I:¬(k:Int)=7:=by omega
       have g1J:((k:Int)==7)=false:=by simpa using g1I
       have HT:=xh (show ¬wP 6 sp lp k n from by unfold wP;omega);clear g1;have KW:=xh (H9.o.Qe (by omega) pz.o oC.o);go_wp2_with fail;refine KW.o.mono ?_;rintro e jI ⟨v1,lw,rfl,iH⟩;obtain⟨As,cs,rfl⟩:∃As cs,v1=.slice As lw.length cs:=by
        obtain⟨_,_,_,_,_,_,_,_,S⟩:=iH;exact ao S
       have iH:=xh iH;have fG:=xh (HZ.o _ iH.o.b);clear y0 y1 y2;have y0:=fG.o.ab (i:=0) rfl;have y1:=fG.o.ab (i:=1) rfl;have y2:=fG.o.ab (i:=2) rfl;have y3:=fG.o.ab (i:=3) rfl;have y4:=fG.o.ab (i:=4) rfl;have y5:=fG.o.ab (i:=5) rfl;have y6:=fG.o.ab (i:=6) rfl;have KD:=xh (iH.o.MB pz.o oC.o 6 sp lp nn key til val (of_decide_eq_true Qg.o) Qf.o HT.o);go_wp2_with fail;refine KD.o.mono ?_
       rintro e N8 ⟨rfl,qs⟩;have KN:=xh (qs.now pz.o oC.o);clear qs y0 y1 y2 y3 y4 y5 y6;go_wp2_with fail;refine KN.o.mono ?_;rintro e Ep ⟨v2,rfl,S1,S2,mA,gE⟩;obtain⟨A2,c2,rfl⟩:=ao S2;have KE:=xh (gr S1 S2 mA mA true (by simp));have uW:=xh gE;clear S1 S2 mA gE;go_wp2_with fail;refine KE.o.mono ?_;rintro e UN ⟨rfl,iI⟩;have Ax:=xh (oT.o _ (au uW.o iI));clear iI;go_wp2_with fail;go_ret;exact aC Ax.o
     .have g6J:(kd==6)=false:=by simpa using g6
      by_cases g7:kd=7
      .subst g7
       by_cases g1:k=7
       .have g1J:((k:Int)==7)=true:=by rw[g1];rfl
        by_cases g2:n=0
        .have g2J:((n:Int)==0)=true:=by rw[g2];rfl
         clear g1 g2;go_wp2_with fail;go_ret;exact aC (oT.o _ H9.o.b)
        .have g2I:¬(n:Int)=0:=by omega
         have g2J:((n:Int)==0)=false:=by simpa using g2I
         have HT:=xh (show ¬wP 7 sp lp k n from by unfold wP;omega);clear g1 g2;have KW:=xh (H9.o.Qe (by omega) pz.o oC.o);go_wp2_with fail;refine KW.o.mono ?_;rintro e jI ⟨v1,lw,rfl,iH⟩;obtain⟨As,cs,rfl⟩:∃As cs,v1=.slice As lw.length cs:=by
          obtain⟨_,_,_,_,_,_,_,_,S⟩:=iH;exact ao S
         have iH:=xh iH;have fG:=xh (HZ.o _ iH.o.b);clear y0 y1 y2;have y0:=fG.o.ab (i:=0) rfl;have y1:=fG.o.ab (i:=1) rfl;have y2:=fG.o.ab (i:=2) rfl;have y3:=fG.o.ab (i:=3) rfl;have y4:=fG.o.ab (i:=4) rfl;have y5:=fG.o.ab (i:=5) rfl;have y6:=fG.o.ab (i:=6) rfl;have KD:=xh (iH.o.MB pz.o oC.o 7 sp lp nn key til val (of_decide_eq_true Qg.o) Qf.o HT.o);go_wp2_with fail
         refine KD.o.mono ?_;rintro e N8 ⟨rfl,qs⟩;have KN:=xh (qs.now pz.o oC.o);clear qs y0 y1 y2 y3 y4 y5 y6;go_wp2_with fail;refine KN.o.mono ?_;rintro e Ep ⟨v2,rfl,S1,S2,mA,gE⟩;obtain⟨A2,c2,rfl⟩:=ao S2;have KE:=xh (gr S1 S2 mA mA true (by simp));have uW:=xh gE;clear S1 S2 mA gE;go_wp2_with fail;refine KE.o.mono ?_;rintro e UN ⟨rfl,iI⟩;have Ax:=xh (oT.o _ (au uW.o iI));clear iI;go_wp2_with fail;go_ret
         exact aC Ax.o
       .have g1I:¬(k:Int)=7:=by omega
        have g1J:((k:Int)==7)=false:=by simpa using g1I
        have HT:=xh (show ¬wP 7 sp lp k n from by unfold wP;omega);clear g1;have KW:=xh (H9.o.Qe (by omega) pz.o oC.o);go_wp2_with fail;refine KW.o.mono ?_;rintro e jI ⟨v1,lw,rfl,iH⟩;obtain⟨As,cs,rfl⟩:∃As cs,v1=.slice As lw.length cs:=by
         obtain⟨_,_,_,_,_,_,_,_,S⟩:=iH;exact ao S
        have iH:=xh iH;have fG:=xh (HZ.o _ iH.o.b);clear y0 y1 y2;have y0:=fG.o.ab (i:=0) rfl;have y1:=fG.o.ab (i:=1) rfl;have y2:=fG.o.ab (i:=2) rfl;have y3:=fG.o.ab (i:=3) rfl;have y4:=fG.o.ab (i:=4) rfl;have y5:=fG.o.ab (i:=5) rfl;have y6:=fG.o.ab (i:=6) rfl;have KD:=xh (iH.o.MB pz.o oC.o 7 sp lp nn key til val (of_decide_eq_true Qg.o) Qf.o HT.o);go_wp2_with fail
        refine KD.o.mono ?_;rintro e N8 ⟨rfl,qs⟩;have KN:=xh (qs.now pz.o oC.o);clear qs y0 y1 y2 y3 y4 y5 y6;go_wp2_with fail;refine KN.o.mono ?_;rintro e Ep ⟨v2,rfl,S1,S2,mA,gE⟩;obtain⟨A2,c2,rfl⟩:=ao S2;have KE:=xh (gr S1 S2 mA mA true (by simp));have uW:=xh gE;clear S1 S2 mA gE;go_wp2_with fail;refine KE.o.mono ?_;rintro e UN ⟨rfl,iI⟩;have Ax:=xh (oT.o _ (au uW.o iI));clear iI;go_wp2_with fail;go_ret
        exact aC Ax.o
      .have g7J:(kd==7)=false:=by simpa using g7
       by_cases g1:sp=(k:Int)
       .subst g1
        by_cases g2:lp=(n:Int)
        .subst g2;go_wp2_with fail;go_ret;exact aC (oT.o _ H9.o.b)
        .have g2J:(lp==(n:Int))=false:=by simpa using g2
         have HT:=xh (show ¬wP kd (k:Int) lp k n from by unfold wP;omega);have KW:=xh (H9.o.Qe (by omega) pz.o oC.o);go_wp2_with fail;refine KW.o.mono ?_;rintro e jI ⟨v1,lw,rfl,iH⟩;obtain⟨As,cs,rfl⟩:∃As cs,v1=.slice As lw.length cs:=by
          obtain⟨_,_,_,_,_,_,_,_,S⟩:=iH;exact ao S
         have iH:=xh iH;have fG:=xh (HZ.o _ iH.o.b);clear y0 y1 y2;have y0:=fG.o.ab (i:=0) rfl;have y1:=fG.o.ab (i:=1) rfl;have y2:=fG.o.ab (i:=2) rfl;have y3:=fG.o.ab (i:=3) rfl;have y4:=fG.o.ab (i:=4) rfl;have y5:=fG.o.ab (i:=5) rfl;have y6:=fG.o.ab (i:=6) rfl;have KD:=xh (iH.o.MB pz.o oC.o kd (k:Int) lp nn key til val (of_decide_eq_true Qg.o) Qf.o HT.o);go_wp2_with fail
         refine KD.o.mono ?_;rintro e N8 ⟨rfl,qs⟩;have KN:=xh (qs.now pz.o oC.o);clear qs y0 y1 y2 y3 y4 y5 y6;go_wp2_with fail;refine KN.o.mono ?_;rintro e Ep ⟨v2,rfl,S1,S2,mA,gE⟩;obtain⟨A2,c2,rfl⟩:=ao S2;have KE:=xh (gr S1 S2 mA mA true (by simp));have uW:=xh gE;clear S1 S2 mA gE;go_wp2_with fail;refine KE.o.mono ?_;rintro e UN ⟨rfl,iI⟩;have Ax:=xh (oT.o _ (au uW.o iI));clear iI;go_wp2_with fail;go_ret
         exact aC Ax.o
       .have g1J:(sp==(k:Int))=false:=by simpa using g1
        have HT:=xh (show ¬wP kd sp lp k n from by unfold wP;omega);have KW:=xh (H9.o.Qe (by omega) pz.o oC.o);go_wp2_with fail;refine KW.o.mono ?_;rintro e jI ⟨v1,lw,rfl,iH⟩;obtain⟨As,cs,rfl⟩:∃As cs,v1=.slice As lw.length cs:=by
         obtain⟨_,_,_,_,_,_,_,_,S⟩:=iH;exact ao S
        have iH:=xh iH;have fG:=xh (HZ.o _ iH.o.b);clear y0 y1 y2;have y0:=fG.o.ab (i:=0) rfl;have y1:=fG.o.ab (i:=1) rfl;have y2:=fG.o.ab (i:=2) rfl;have y3:=fG.o.ab (i:=3) rfl;have y4:=fG.o.ab (i:=4) rfl;have y5:=fG.o.ab (i:=5) rfl;have y6:=fG.o.ab (i:=6) rfl;have KD:=xh (iH.o.MB pz.o oC.o kd sp lp nn key til val (of_decide_eq_true Qg.o) Qf.o HT.o);go_wp2_with fail
        refine KD.o.mono ?_;rintro e N8 ⟨rfl,qs⟩;have KN:=xh (qs.now pz.o oC.o);clear qs y0 y1 y2 y3 y4 y5 y6;go_wp2_with fail;refine KN.o.mono ?_;rintro e Ep ⟨v2,rfl,S1,S2,mA,gE⟩;obtain⟨A2,c2,rfl⟩:=ao S2;have KE:=xh (gr S1 S2 mA mA true (by simp));have uW:=xh gE;clear S1 S2 mA gE;go_wp2_with fail;refine KE.o.mono ?_;rintro e UN ⟨rfl,iI⟩;have Ax:=xh (oT.o _ (au uW.o iI));clear iI;go_wp2_with fail;go_ret
        exact aC Ax.o
   .have h1I:¬(i:Int)<(m:Int):=by omega
    have H9:=HP;have Z9:=xh (HZ.o _ H9.o.b);have y0:=Z9.o.ab (i:=0) rfl;have y1:=Z9.o.ab (i:=1) rfl;have y2:=Z9.o.ab (i:=2) rfl
    by_cases g6:kd=6
    .subst g6
     by_cases g1:k=7
     .have g1J:((k:Int)==7)=true:=by rw[g1];rfl
      by_cases g2:n=0
      .have g2J:((n:Int)==0)=true:=by rw[g2];rfl
       clear g1 g2;go_wp2_with fail;go_ret;exact aC (oT.o _ H9.o.b)
      .have g2I:¬(n:Int)=0:=by omega
       have g2J:((n:Int)==0)=false:=by simpa using g2I
       have HT:=xh (show ¬wP 6 sp lp k n from by unfold wP;omega);clear g1 g2;have KW:=xh (H9.o.Qe (by omega) pz.o oC.o);go_wp2_with fail;refine KW.o.mono ?_;rintro e jI ⟨v1,lw,rfl,iH⟩;obtain⟨As,cs,rfl⟩:∃As cs,v1=.slice As lw.length cs:=by
        obtain⟨_,_,_,_,_,_,_,_,S⟩:=iH;exact ao S
       have iH:=xh iH;have fG:=xh (HZ.o _ iH.o.b);clear y0 y1 y2;have y0:=fG.o.ab (i:=0) rfl;have y1:=fG.o.ab (i:=1) rfl;have y2:=fG.o.ab (i:=2) rfl;have y3:=fG.o.ab (i:=3) rfl;have y4:=fG.o.ab (i:=4) rfl;have y5:=fG.o.ab (i:=5) rfl;have y6:=fG.o.ab (i:=6) rfl;have KD:=xh (iH.o.MB pz.o oC.o 6 sp lp nn key til val (of_decide_eq_true Qg.o) Qf.o HT.o);go_wp2_with fail;refine KD.o.mono ?_
       rintro e N8 ⟨rfl,qs⟩;have KN:=xh (qs.now pz.o oC.o);clear qs y0 y1 y2 y3 y4 y5 y6;go_wp2_with fail;refine KN.o.mono ?_;rintro e Ep ⟨v2,rfl,S1,S2,mA,gE⟩;obtain⟨A2,c2,rfl⟩:=ao S2;have KE:=xh (gr S1 S2 mA mA true (by simp));have uW:=xh gE;clear S1 S2 mA gE;go_wp2_with fail;refine KE.o.mono ?_;rintro e UN ⟨rfl,iI⟩;have Ax:=xh (oT.o _ (au uW.o iI));clear iI;go_wp2_with fail;go_ret;exact aC Ax.o
     .have g1I:¬(k:Int)=7:=by omega
      have g1J:((k:Int)==7)=false:=by simpa using g1I
      have HT:=xh (show ¬wP 6 sp lp k n from by unfold wP;omega);clear g1;have KW:=xh (H9.o.Qe (by omega) pz.o oC.o);go_wp2_with fail;refine KW.o.mono ?_;rintro e jI ⟨v1,lw,rfl,iH⟩;obtain⟨As,cs,rfl⟩:∃As cs,v1=.slice As lw.length cs:=by
       obtain⟨_,_,_,_,_,_,_,_,S⟩:=iH;exact ao S
      have iH:=xh iH;have fG:=xh (HZ.o _ iH.o.b);clear y0 y1 y2;have y0:=fG.o.ab (i:=0) rfl;have y1:=fG.o.ab (i:=1) rfl;have y2:=fG.o.ab (i:=2) rfl;have y3:=fG.o.ab (i:=3) rfl;have y4:=fG.o.ab (i:=4) rfl;have y5:=fG.o.ab (i:=5) rfl;have y6:=fG.o.ab (i:=6) rfl;have KD:=xh (iH.o.MB pz.o oC.o 6 sp lp nn key til val (of_decide_eq_true Qg.o) Qf.o HT.o);go_wp2_with fail;refine KD.o.mono ?_
      rintro e N8 ⟨rfl,qs⟩;have KN:=xh (qs.now pz.o oC.o);clear qs y0 y1 y2 y3 y4 y5 y6;go_wp2_with fail;refine KN.o.mono ?_;rintro e Ep ⟨v2,rfl,S1,S2,mA,gE⟩;obtain⟨A2,c2,rfl⟩:=ao S2;have KE:=xh (gr S1 S2 mA mA true (by simp));have uW:=xh gE;clear S1 S2 mA gE;go_wp2_with fail;refine KE.o.mono ?_;rintro e UN ⟨rfl,iI⟩;have Ax:=xh (oT.o _ (au uW.o iI));clear iI;go_wp2_with fail;go_ret;exact aC Ax.o
    .have g6J:(kd==6)=false:=by simpa using g6
     by_cases g7:kd=7
     .subst g7
      by_cases g1:k=7
      .have g1J:((k:Int)==7)=true:=by rw[g1];rfl
       by_cases g2:n=0
       .have g2J:((n:Int)==0)=true:=by rw[g2];rfl
        clear g1 g2;go_wp2_with fail;go_ret;exact aC (oT.o _ H9.o.b)
       .have g2I:¬(n:Int)=0:=by omega
        have g2J:((n:Int)==0)=false:=by simpa using g2I
        have HT:=xh (show ¬wP 7 sp lp k n from by unfold wP;omega);clear g1 g2;have KW:=xh (H9.o.Qe (by omega) pz.o oC.o);go_wp2_with fail;refine KW.o.mono ?_;rintro e jI ⟨v1,lw,rfl,iH⟩;obtain⟨As,cs,rfl⟩:∃As cs,v1=.slice As lw.length cs:=by
         obtain⟨_,_,_,_,_,_,_,_,S⟩:=iH;exact ao S
        have iH:=xh iH;have fG:=xh (HZ.o _ iH.o.b);clear y0 y1 y2;have y0:=fG.o.ab (i:=0) rfl;have y1:=fG.o.ab (i:=1) rfl;have y2:=fG.o.ab (i:=2) rfl;have y3:=fG.o.ab (i:=3) rfl;have y4:=fG.o.ab (i:=4) rfl;have y5:=fG.o.ab (i:=5) rfl;have y6:=fG.o.ab (i:=6) rfl;have KD:=xh (iH.o.MB pz.o oC.o 7 sp lp nn key til val (of_decide_eq_true Qg.o) Qf.o HT.o);go_wp2_with fail
        refine KD.o.mono ?_;rintro e N8 ⟨rfl,qs⟩;have KN:=xh (qs.now pz.o oC.o);clear qs y0 y1 y2 y3 y4 y5 y6;go_wp2_with fail;refine KN.o.mono ?_;rintro e Ep ⟨v2,rfl,S1,S2,mA,gE⟩;obtain⟨A2,c2,rfl⟩:=ao S2;have KE:=xh (gr S1 S2 mA mA true (by simp));have uW:=xh gE;clear S1 S2 mA gE;go_wp2_with fail;refine KE.o.mono ?_;rintro e UN ⟨rfl,iI⟩;have Ax:=xh (oT.o _ (au uW.o iI));clear iI;go_wp2_with fail;go_ret
        exact aC Ax.o
      .have g1I:¬(k:Int)=7:=by omega
       have g1J:((k:Int)==7)=false:=by simpa using g1I
       have HT:=xh (show ¬wP 7 sp lp k n from by unfold wP;omega);clear g1;have KW:=xh (H9.o.Qe (by omega) pz.o oC.o);go_wp2_with fail;refine KW.o.mono ?_;rintro e jI ⟨v1,lw,rfl,iH⟩;obtain⟨As,cs,rfl⟩:∃As cs,v1=.slice As lw.length cs:=by
        obtain⟨_,_,_,_,_,_,_,_,S⟩:=iH;exact ao S
       have iH:=xh iH;have fG:=xh (HZ.o _ iH.o.b);clear y0 y1 y2;have y0:=fG.o.ab (i:=0) rfl;have y1:=fG.o.ab (i:=1) rfl;have y2:=fG.o.ab (i:=2) rfl;have y3:=fG.o.ab (i:=3) rfl;have y4:=fG.o.ab (i:=4) rfl;have y5:=fG.o.ab (i:=5) rfl;have y6:=fG.o.ab (i:=6) rfl;have KD:=xh (iH.o.MB pz.o oC.o 7 sp lp nn key til val (of_decide_eq_true Qg.o) Qf.o HT.o);go_wp2_with fail;refine KD.o.mono ?_
       rintro e N8 ⟨rfl,qs⟩;have KN:=xh (qs.now pz.o oC.o);clear qs y0 y1 y2 y3 y4 y5 y6;go_wp2_with fail;refine KN.o.mono ?_;rintro e Ep ⟨v2,rfl,S1,S2,mA,gE⟩;obtain⟨A2,c2,rfl⟩:=ao S2;have KE:=xh (gr S1 S2 mA mA true (by simp));have uW:=xh gE;clear S1 S2 mA gE;go_wp2_with fail;refine KE.o.mono ?_;rintro e UN ⟨rfl,iI⟩;have Ax:=xh (oT.o _ (au uW.o iI));clear iI;go_wp2_with fail;go_ret;exact aC Ax.o
     .have g7J:(kd==7)=false:=by simpa using g7
      by_cases g1:sp=(k:Int)
      .subst g1
       by_cases g2:lp=(n:Int)
       .subst g2;go_wp2_with fail;go_ret;exact aC (oT.o _ H9.o.b)
       .have g2J:(lp==(n:Int))=false:=by simpa using g2
        have HT:=xh (show ¬wP kd (k:Int) lp k n from by unfold wP;omega);have KW:=xh (H9.o.Qe (by omega) pz.o oC.o);go_wp2_with fail;refine KW.o.mono ?_;rintro e jI ⟨v1,lw,rfl,iH⟩;obtain⟨As,cs,rfl⟩:∃As cs,v1=.slice As lw.length cs:=by
         obtain⟨_,_,_,_,_,_,_,_,S⟩:=iH;exact ao S
        have iH:=xh iH;have fG:=xh (HZ.o _ iH.o.b);clear y0 y1 y2;have y0:=fG.o.ab (i:=0) rfl;have y1:=fG.o.ab (i:=1) rfl;have y2:=fG.o.ab (i:=2) rfl;have y3:=fG.o.ab (i:=3) rfl;have y4:=fG.o.ab (i:=4) rfl;have y5:=fG.o.ab (i:=5) rfl;have y6:=fG.o.ab (i:=6) rfl;have KD:=xh (iH.o.MB pz.o oC.o kd (k:Int) lp nn key til val (of_decide_eq_true Qg.o) Qf.o HT.o);go_wp2_with fail
        refine KD.o.mono ?_;rintro e N8 ⟨rfl,qs⟩;have KN:=xh (qs.now pz.o oC.o);clear qs y0 y1 y2 y3 y4 y5 y6;go_wp2_with fail;refine KN.o.mono ?_;rintro e Ep ⟨v2,rfl,S1,S2,mA,gE⟩;obtain⟨A2,c2,rfl⟩:=ao S2;have KE:=xh (gr S1 S2 mA mA true (by simp));have uW:=xh gE;clear S1 S2 mA gE;go_wp2_with fail;refine KE.o.mono ?_;rintro e UN ⟨rfl,iI⟩;have Ax:=xh (oT.o _ (au uW.o iI));clear iI;go_wp2_with fail;go_ret
        exact aC Ax.o
      .have g1J:(sp==(k:Int))=false:=by simpa using g1
       have HT:=xh (show ¬wP kd sp lp k n from by unfold wP;omega);have KW:=xh (H9.o.Qe (by omega) pz.o oC.o);go_wp2_with fail;refine KW.o.mono ?_;rintro e jI ⟨v1,lw,rfl,iH⟩;obtain⟨As,cs,rfl⟩:∃As cs,v1=.slice As lw.length cs:=by
        obtain⟨_,_,_,_,_,_,_,_,S⟩:=iH;exact ao S
       have iH:=xh iH;have fG:=xh (HZ.o _ iH.o.b);clear y0 y1 y2;have y0:=fG.o.ab (i:=0) rfl;have y1:=fG.o.ab (i:=1) rfl;have y2:=fG.o.ab (i:=2) rfl;have y3:=fG.o.ab (i:=3) rfl;have y4:=fG.o.ab (i:=4) rfl;have y5:=fG.o.ab (i:=5) rfl;have y6:=fG.o.ab (i:=6) rfl;have KD:=xh (iH.o.MB pz.o oC.o kd sp lp nn key til val (of_decide_eq_true Qg.o) Qf.o HT.o);go_wp2_with fail
       refine KD.o.mono ?_;rintro e N8 ⟨rfl,qs⟩;have KN:=xh (qs.now pz.o oC.o);clear qs y0 y1 y2 y3 y4 y5 y6;go_wp2_with fail;refine KN.o.mono ?_;rintro e Ep ⟨v2,rfl,S1,S2,mA,gE⟩;obtain⟨A2,c2,rfl⟩:=ao S2;have KE:=xh (gr S1 S2 mA mA true (by simp));have uW:=xh gE;clear S1 S2 mA gE;go_wp2_with fail;refine KE.o.mono ?_;rintro e UN ⟨rfl,iI⟩;have Ax:=xh (oT.o _ (au uW.o iI));clear iI;go_wp2_with fail;go_ret
       exact aC Ax.o
end Sh
end Go.Proofs.YtmonobkginiajaaGreat
