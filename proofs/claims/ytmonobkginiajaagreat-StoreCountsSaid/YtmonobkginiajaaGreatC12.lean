/- packed. -/
import Derived.Test.YtmonobkginiajaaGreatC11
import Derived.Test.YtmonobkginiajaaGreatC1
import Derived.Deep.QuietTactic
import Derived.BigQuiet
import Derived.IntWalk
set_option linter.all false
set_option maxRecDepth 100000
set_option maxHeartbeats 8000000
namespace Go.Proofs.YtmonobkginiajaaGreat.Sh
open Go.RowKit Pk Dk Pg
attribute [local go_sem ↓] Go.wp_at_zero Go.wp_at_succ aW pe
variable{w:World}{e:TypeId}{z n:Nat}{v:Value}{l:List Value}
def QS.lj:Nat->QS->Int->List Int->List UInt8->QS×List Int×List UInt8×Int
 |0,q,_,_,_=>(q,[],[],14)
 |m+1,q,at_,l,b=>
  if(q.dI at_).2.2.2=3/\0<l.length then((q.dI at_).1,[],[],14)
  else if(q.dI at_).2.2.2≠0 then((q.dI at_).1,[],[],(q.dI at_).2.2.2)
  else if 1024<(b++(q.dI at_).2.2.1).length then((q.dI at_).1,[],[],14)
  else if(q.dI at_).2.1<0 then((q.dI at_).1,l++[at_],b++(q.dI at_).2.2.1,0)
  else QS.lj m (q.dI at_).1 (q.dI at_).2.1 (l++[at_]) (b++(q.dI at_).2.2.1)
def QS.cZ(q:QS)(first:Int):QS×List Int×List UInt8×Int:=q.lj 5 first [] []
theorem Ia(q:QS)(l:Int):(q.dI l).2.1<=65534/\ -1<=(q.dI l).2.1/\(q.dI l).2.2.1.length<=228:=by
 unfold QS.dI
 split
 .exact⟨by show(0:Int)<=_;omega,by show(-1:Int)<=0;omega,by show 0<=228;omega⟩
 .split
  .exact⟨by show(0:Int)<=_;omega,by show(-1:Int)<=0;omega,by show 0<=228;omega⟩
  .refine⟨?_,?_,?_⟩
   .show(bl _ 0:Int)-1<=_;unfold bl;have:=(List.getD (q.cC l).2.1.data.toList 0 0).toNat_lt;have:=(List.getD (q.cC l).2.1.data.toList (0+1) 0).toNat_lt;omega
   .show -1<=(bl _ 0:Int)-1;omega
   .rw[cE];omega
theorem rl(h:aQ w e z v n l):∀g∈ah v,∃cs,aD w g e cs:=by
 rcases h.2 with⟨rfl,_⟩|⟨g,cap,rest,rfl,B,_⟩
 .simp[ah]
 .intro x hx;simp only[ah,cg]at hx;exact⟨_,by rw[hx];exact B⟩
theorem fH{t:TypeId}{y m:Nat}{u:Value}{k:List Value}(h:aQ w e z v n l)(h':aQ w t y u m k)(eG:e≠t):∀g∈ah v,g∉ah u:=λg hg hu=>by
 obtain⟨cs,B⟩:=rl h g hg;exact cy h' B eG hu
theorem uN{I:Ix}{F:List Nat}{q:QS}{K:Nat}(h:PQ w I F q n K)(hK:K<=999999999900)(p:Int):
  Calls Tryz.prog 160 #[pp I.pb,.int .i64 p] w λe w'=> ∃A m c,e=.returned (.tuple #[.slice A m c,.string ⟨(q.cZ p).2.2.1.toArray⟩,.int .i64 (q.cZ p).2.2.2])/\aQ w' 3 1 (.slice A m c) (q.cZ p).2.1.length (eQ (q.cZ p).2.1)/\PQ w' I F (q.cZ p).1 n (K+5)/\ag F w w'/\∀g∈ah (.slice A m c),w.heap.size<=g:=by
 have KN:=xh (uM 1024 (by omega));rw[show eX 1024=5 from rfl]at KN;have KR:=xh (λ(W:World) (qj:QS) (kj:Nat) (hW:PQ W I F qj n kj) (hk:kj<=999999999999) (y:Int)=>Eo hW hk y);have wC:=xh h.lt;obtain⟨R,hR⟩:∃R,q.cZ p=R:=⟨_,rfl⟩;rw[hR];have HQ:=xh h;unfold QS.cZ at hR;have HR:=xh hR;clear h hR;unfold sE at KR;unfold pp at *;go_enter Tryz.func160,Tryz.ntmps160;go_wp2_with fail;refine(KN.o _).mono ?_;rintro e w1 ⟨rfl,rfl⟩;go_wp2_with fail
 go_loopw [7,8,9,16] (λlv bv av iv wr=> ∃(i:Nat) (l:List Int) (b:List UInt8) (at_:Int) (qi:QS),i<=5/\l.length=i/\iv=.int .i64 i/\av=.int .i64 at_/\b.length<=1024/\aQ wr 3 1 lv i (eQ l)/\aQ wr 5 1 bv b.length (cf b)/\Hid (qi.lj (5-i) at_ l b=R)/\Hid (PQ wr I F qi n (K+i)/\ag F w wr/\(∀g∈ah lv,w.heap.size<=g)/\(∀g∈ah bv,w.heap.size<=g))) (λ_ _ _ iv _=>5-(intOf iv).toNat)
 case atStart=>exact⟨0,[],[],p,q,by omega,rfl,rfl,rfl,by simp,aQ.nil _ _ _,aQ.nil _ _ _,HR,xh ⟨HQ.o,ag.refl _ _,by simp[ah],by simp[ah]⟩⟩
 case round=>
  obtain⟨i,l,b,at_,qi,hi,hl,rfl,rfl,hb,S1,S2,HW,HA⟩:=hrel;obtain⟨VA,vc,rfl⟩:=aq S1;obtain⟨VB,vb,rfl⟩:=aq S2
  by_cases h5:i<5
  .have K1:=xh (KR.o wr qi (K+i) HA.o.1 (by omega) at_);obtain⟨bd1,bd2,bd3⟩:=Ia qi at_;have HW:=HW.o;rw[show 5-i=(5-(i+1))+1 by omega]at HW;unfold QS.lj at HW;rw[hl]at HW;generalize qi.dI at_=r at *;obtain⟨qn,nx,pc,er⟩:=r;dsimp only at *
   by_cases he:er=0
   .subst he;rw[if_neg (by omega),if_neg (by simp)]at HW;have W2:=xh (show ∀w2,PQ w2 I F qn n (K+(i+1))->ag F wr w2->PQ (w2.alloc (.cells #[.int .i64 nx,.string ⟨pc.toArray⟩] 262)) I F qn n (K+(i+1))/\ag F w (w2.alloc (.cells #[.int .i64 nx,.string ⟨pc.toArray⟩] 262))/\
      aQ (w2.alloc (.cells #[.int .i64 nx,.string ⟨pc.toArray⟩] 262)) 3 1 (.slice VA i vc) i (eQ l)/\aQ (w2.alloc (.cells #[.int .i64 nx,.string ⟨pc.toArray⟩] 262)) 5 1 (.slice VB b.length vb) b.length (cf b)/\aD (w2.alloc (.cells #[.int .i64 nx,.string ⟨pc.toArray⟩] 262)) w2.heap.size 262 #[.int .i64 nx,.string ⟨pc.toArray⟩]/\w2.heap.size∉ah (.slice VA i vc)/\w2.heap.size∉ah (.slice VB b.length vb)from λw2 A2 o2=>by
     obtain⟨a1,a2,a3,a4⟩:=HA.o;have U:=ae (Below.refl w2.heap.size w2) (.cells #[.int .i64 nx,.string ⟨pc.toArray⟩] 262);have s1:=S1.only o2 (λg hg hF=>by have:=wC.o g hF;have:=a3 g hg;omega);have s2:=S2.only o2 (λg hg hF=>by have:=wC.o g hF;have:=a4 g hg;omega);exact⟨A2.below U,(a2.trans o2).trans (.aj U),s1.below U,s2.below U,aD.new _ _ _,λhg=>by have:=s1.lt _ hg;omega,λhg=>by have:=s2.lt _ hg;omega⟩)
    by_cases hL:1024<(b++pc).length
    .rw[if_pos hL]at HW;subst HW;rw[aU]at hL;go_wp2_with fail;refine K1.o.mono ?_;rintro e w2 ⟨rfl,A2,o2⟩;obtain⟨A3,o3,s1,s2,LK,n1,n2⟩:=W2.o w2 A2 o2;obtain⟨v',w4,ea,S4,ow,fr⟩:=bZ (P:=Tryz.prog) s1 60 60 (.int .i64 0) 8 Tryz.underlying60 jn rfl (.int .i64 at_) rfl (by unfold maxLen;omega) (by omega);have s4:=s2.only ow (fH s2 s1 (by decide));have L4:=LK.only ow n1
     have A4:=A3.only ow (λg hF hg=>by have:=wC.o g hF;have:=HA.o.2.2.1 g hg;omega);obtain⟨u',w5,eb,S5,ov,fv⟩:=ft (P:=Tryz.prog) s4 150 9 150 Tryz.underlying150 Tryz.underlying9 gD.cM ⟨pc.toArray⟩ (by show _+pc.toArray.size<=_;simp;omega);have S6:=S4.only ov (λg hg=>fH S4 s4 (by decide) g hg);have L6:=L4.only ov n2;have A6:=xh (A4.only ov (λg hF hg=>by have:=wC.o g hF;have:=HA.o.2.2.2 g hg;omega));have k1:=L4.ab (i:=1) rfl
     have k0:=L6.ab (i:=0) rfl;have O6:=xh (show ag F w w5 from((o3.bw ow (λg hg eT=>by have:=HA.o.2.2.1 g hg;omega)).bw ov (λg hg eT=>by have:=HA.o.2.2.2 g hg;omega)));have F4:=xh (show ∀g∈ah v',w.heap.size<=g from λg hg=>(fr g hg).elim (HA.o.2.2.1 g) (λh=>by have:=o3.size;omega));have F5:=xh (show ∀g∈ah u',w.heap.size<=g from λg hg=>(fv g hg).elim (HA.o.2.2.2 g) (λh=>by have:=o3.size;have:=ow.size;omega))
     obtain⟨V4,c4,rfl⟩:=aq S4;rw[show(⟨pc.toArray⟩:ByteArray).size=pc.length from by show pc.toArray.size=_;simp,show(⟨pc.toArray⟩:ByteArray).data.toList=pc from rfl,<-bD]at S5;obtain⟨V5,c5,rfl⟩:=aq S5;have SV:=xh (show aQ w5 5 1 (.slice V5 (b.length+pc.length) c5) (b++pc).length (cf (b++pc))from by rw[aU];exact S5);have CV:=xh (ra (P:=Tryz.prog) S5.drew 150 9 Tryz.underlying150 Tryz.underlying5 Tryz.underlying9)
     rw[World.size_alloc]at ea;have EA:=xh ea;have EB:=xh eb;clear ea eb ow ov fr fv S4 s4 L4 A4 L6 LK A3 A2 o2 o3 s1 s2 n1 n2;go_wp2_with fail;rw[EA.o];go_wp2_with fail;rw[EB.o];go_wp2_with fail
     go_ret3
     exact⟨none,0,0,by first|rfl|simp,aQ.nil _ _ _,A6.o.le (by omega),O6.o,by simp[ah]⟩
    .rw[if_neg hL]at HW;have hL2:b.length+pc.length<=1024:=by rw[aU]at hL;omega
     by_cases hn:nx<0
     .rw[if_pos hn]at HW;subst HW;go_wp2_with fail;refine K1.o.mono ?_;rintro e w2 ⟨rfl,A2,o2⟩;obtain⟨A3,o3,s1,s2,LK,n1,n2⟩:=W2.o w2 A2 o2;obtain⟨v',w4,ea,S4,ow,fr⟩:=bZ (P:=Tryz.prog) s1 60 60 (.int .i64 0) 8 Tryz.underlying60 jn rfl (.int .i64 at_) rfl (by unfold maxLen;omega) (by omega);have s4:=s2.only ow (fH s2 s1 (by decide));have L4:=LK.only ow n1;have A4:=A3.only ow (λg hF hg=>by have:=wC.o g hF;have:=HA.o.2.2.1 g hg;omega)
      obtain⟨u',w5,eb,S5,ov,fv⟩:=ft (P:=Tryz.prog) s4 150 9 150 Tryz.underlying150 Tryz.underlying9 gD.cM ⟨pc.toArray⟩ (by show _+pc.toArray.size<=_;simp;omega);have S6:=S4.only ov (λg hg=>fH S4 s4 (by decide) g hg);have L6:=L4.only ov n2;have A6:=xh (A4.only ov (λg hF hg=>by have:=wC.o g hF;have:=HA.o.2.2.2 g hg;omega));have k1:=L4.ab (i:=1) rfl;have k0:=L6.ab (i:=0) rfl
      have O6:=xh (show ag F w w5 from((o3.bw ow (λg hg eT=>by have:=HA.o.2.2.1 g hg;omega)).bw ov (λg hg eT=>by have:=HA.o.2.2.2 g hg;omega)));have F4:=xh (show ∀g∈ah v',w.heap.size<=g from λg hg=>(fr g hg).elim (HA.o.2.2.1 g) (λh=>by have:=o3.size;omega));have F5:=xh (show ∀g∈ah u',w.heap.size<=g from λg hg=>(fv g hg).elim (HA.o.2.2.2 g) (λh=>by have:=o3.size;have:=ow.size;omega));obtain⟨V4,c4,rfl⟩:=aq S4
      rw[show(⟨pc.toArray⟩:ByteArray).size=pc.length from by show pc.toArray.size=_;simp,show(⟨pc.toArray⟩:ByteArray).data.toList=pc from rfl,<-bD]at S5;obtain⟨V5,c5,rfl⟩:=aq S5;have SV:=xh (show aQ w5 5 1 (.slice V5 (b.length+pc.length) c5) (b++pc).length (cf (b++pc))from by rw[aU];exact S5);have CV:=xh (ra (P:=Tryz.prog) S5.drew 150 9 Tryz.underlying150 Tryz.underlying5 Tryz.underlying9);rw[World.size_alloc]at ea;have EA:=xh ea
      have EB:=xh eb;clear ea eb ow ov fr fv S4 s4 L4 A4 L6 LK A3 A2 o2 o3 s1 s2 n1 n2;go_wp2_with fail;rw[EA.o];go_wp2_with fail;rw[EB.o];go_wp2_with fail;have CV:=CV.o
      go_region
      go_wp2_with fail
      go_ret3
      exact⟨V4,i+1,c4,by first|rfl|simp,by rw[gm];first|exact S6.drew|(rw[aU,hl];exact S6.drew),(A6.o.below ((Below.refl _ _).drew)).le (by omega),O6.o.drew,F4.o⟩
     .rw[if_neg hn]at HW;have HW:=xh HW;go_wp2_with fail;refine K1.o.mono ?_;rintro e w2 ⟨rfl,A2,o2⟩;obtain⟨A3,o3,s1,s2,LK,n1,n2⟩:=W2.o w2 A2 o2;obtain⟨v',w4,ea,S4,ow,fr⟩:=bZ (P:=Tryz.prog) s1 60 60 (.int .i64 0) 8 Tryz.underlying60 jn rfl (.int .i64 at_) rfl (by unfold maxLen;omega) (by omega);have s4:=s2.only ow (fH s2 s1 (by decide));have L4:=LK.only ow n1;have A4:=A3.only ow (λg hF hg=>by have:=wC.o g hF;have:=HA.o.2.2.1 g hg;omega)
      obtain⟨u',w5,eb,S5,ov,fv⟩:=ft (P:=Tryz.prog) s4 150 9 150 Tryz.underlying150 Tryz.underlying9 gD.cM ⟨pc.toArray⟩ (by show _+pc.toArray.size<=_;simp;omega);have S6:=S4.only ov (λg hg=>fH S4 s4 (by decide) g hg);have L6:=L4.only ov n2;have A6:=xh (A4.only ov (λg hF hg=>by have:=wC.o g hF;have:=HA.o.2.2.2 g hg;omega));have k1:=L4.ab (i:=1) rfl;have k0:=L6.ab (i:=0) rfl
      have O6:=xh (show ag F w w5 from((o3.bw ow (λg hg eT=>by have:=HA.o.2.2.1 g hg;omega)).bw ov (λg hg eT=>by have:=HA.o.2.2.2 g hg;omega)));have F4:=xh (show ∀g∈ah v',w.heap.size<=g from λg hg=>(fr g hg).elim (HA.o.2.2.1 g) (λh=>by have:=o3.size;omega));have F5:=xh (show ∀g∈ah u',w.heap.size<=g from λg hg=>(fv g hg).elim (HA.o.2.2.2 g) (λh=>by have:=o3.size;have:=ow.size;omega));obtain⟨V4,c4,rfl⟩:=aq S4
      rw[show(⟨pc.toArray⟩:ByteArray).size=pc.length from by show pc.toArray.size=_;simp,show(⟨pc.toArray⟩:ByteArray).data.toList=pc from rfl,<-bD]at S5;obtain⟨V5,c5,rfl⟩:=aq S5;have SV:=xh (show aQ w5 5 1 (.slice V5 (b.length+pc.length) c5) (b++pc).length (cf (b++pc))from by rw[aU];exact S5);have CV:=xh (ra (P:=Tryz.prog) S5.drew 150 9 Tryz.underlying150 Tryz.underlying5 Tryz.underlying9);rw[World.size_alloc]at ea;have EA:=xh ea
      have EB:=xh eb;clear ea eb ow ov fr fv S4 s4 L4 A4 L6 LK A3 A2 o2 o3 s1 s2 n1 n2;go_wp2_with fail;rw[EA.o];go_wp2_with fail;rw[EB.o];go_wp2_with fail;go_roundw
      case rel=>exact⟨i+1,l++[at_],b++pc,nx,qn,by omega,by simp[hl],by go_num,rfl,by rw[aU];exact hL2,by rw[gm];exact S6,SV.o,HW,xh ⟨A6.o,O6.o,F4.o,F5.o⟩⟩
      case measure=>simp[intOf];omega
   .have hq:(er != 0)=true:=by rw[bne_iff_ne];exact he
    have lp:(er==0)=false:=by rw[beq_eq_false_iff_ne];exact he
    have W2:=xh (show ∀w2,PQ w2 I F qn n (K+(i+1))->ag F wr w2->PQ (w2.alloc (.cells #[.int .i64 nx,.string ⟨pc.toArray⟩] 262)) I F qn n (K+(i+1))/\ag F w (w2.alloc (.cells #[.int .i64 nx,.string ⟨pc.toArray⟩] 262))from λw2 A2 o2=>by
     obtain⟨a1,a2,a3,a4⟩:=HA.o;have U:=ae (Below.refl w2.heap.size w2) (.cells #[.int .i64 nx,.string ⟨pc.toArray⟩] 262);exact⟨A2.below U,(a2.trans o2).trans (.aj U)⟩)
    by_cases h3:er=3/\0<i
    .rw[if_pos h3]at HW;subst HW;obtain⟨rfl,h3⟩:=h3;go_wp2_with fail;refine K1.o.mono ?_;rintro e w2 ⟨rfl,A2,o2⟩;obtain⟨A3,o3⟩:=W2.o w2 A2 o2;have A3:=xh A3;have o3:=xh o3;clear A2 o2;go_wp2_with fail
     go_ret3
     exact⟨none,0,0,by first|rfl|simp,aQ.nil _ _ _,A3.o.le (by omega),o3.o,by simp[ah]⟩
    .rw[if_neg h3,if_pos he]at HW;subst HW;have h33:er=3->¬0<i:=λe h=>h3 ⟨e,h⟩;have hq3:i=0\/((er==3)=false/\er≠3):=by
      by_cases e:er=3
      .exact .inl (by have:=h33 e;omega)
      .exact .inr ⟨by rw[beq_eq_false_iff_ne];exact e,e⟩
     rcases hq3 with zD|⟨hq3,hq4⟩
     all_goals
      clear h33 h3;go_wp2_with fail;refine K1.o.mono ?_;rintro e w2 ⟨rfl,A2,o2⟩;obtain⟨A3,o3⟩:=W2.o w2 A2 o2;have A3:=xh A3;have o3:=xh o3;clear A2 o2;go_wp2_with fail
      all_goals
       go_ret3
       exact⟨none,0,0,by first|rfl|simp,aQ.nil _ _ _,A3.o.le (by omega),o3.o,by simp[ah]⟩
  .have HW:=HW.o;rw[show 5-i=0 by omega]at HW;unfold QS.lj at HW;subst HW;go_wp2_with fail
   go_ret3
   exact⟨none,0,0,by first|rfl|simp,aQ.nil _ _ _,HA.o.1.le (by omega),HA.o.2.1,by simp[ah]⟩
end Go.Proofs.YtmonobkginiajaaGreat.Sh
namespace Go.Proofs.YtmonobkginiajaaGreat.Sh
open Go.RowKit Pk Dk Pg
attribute [local go_sem ↓] Go.wp_at_zero Go.wp_at_succ
variable{w:World}{I:Ix}{F:List Nat}{n K:Nat}
theorem Ib{q:QS}(h:PQ w I F q n K)(hK:K<=999999999900)(p:Int):
  Calls Tryz.prog 111 #[pp I.pb,.int .i64 p] w λe w'=>e=.returned (.tuple #[.string ⟨(q.cZ p).2.2.1.toArray⟩,.int .i64 (q.cZ p).2.2.2])/\PQ w' I F (q.cZ p).1 n (K+5)/\ag F w w':=by
 have KW:=xh (uN h hK p);generalize q.cZ p=R at *;clear h;unfold pp at *;go_enter Tryz.func111,Tryz.ntmps111;go_wp2_with fail;refine KW.o.mono ?_;rintro e w1 ⟨A,m,c,rfl,S1,A1,o1,f1⟩;have S1:=xh S1;have A1:=xh A1;have o1:=xh o1;go_wp2_with fail;go_ret2;exact⟨by first|rfl|simp,A1.o,o1.o⟩
def QS.n7(q:QS):List Int->QS×Int
 |[]=>(q,0)
 |p::l=>if(q.aI p).2≠0 then((q.aI p).1,(q.aI p).2)else(q.aI p).1.n7 l
def QS.lG(q:QS)(p:Int):QS×Int:=if(q.cZ p).2.2.2≠0 then((q.cZ p).1,(q.cZ p).2.2.2)else(q.cZ p).1.n7 (q.cZ p).2.1
theorem uO:∀(m:Nat) (q:QS) (p:Int) (l:List Int) (b:List UInt8),(q.lj m p l b).2.1.length<=l.length+m
 |0,_,_,_,_=>by simp[QS.lj]
 |m+1,q,p,l,b=>by
  unfold QS.lj
  split
  .simp
  .split
   .simp
   .split
    .simp
    .split
     .simp<;>omega
     .have:=uO m (q.dI p).1 (q.dI p).2.1 (l++[p]) (b++(q.dI p).2.2.1);simp only[aU,il,vJ]at this;omega
theorem Ep{q:QS}(h:PQ w I F q n K)(hK:K<=999999999900)(p:Int):
  Calls Tryz.prog 123 #[pp I.pb,.int .i64 p] w λe w'=>e=.returned (.int .i64 (q.lG p).2)/\PQ w' I F (q.lG p).1 n (K+5)/\ag F w w':=by
 have KW:=xh (uN h hK p);have KD:=xh (λ(W:World) (b:QS) (hW:PQ W I F b n (K+5)) (y:Int)=>uL hW y);have wC:=xh h.lt;obtain⟨R,hR⟩:∃R,q.lG p=R:=⟨_,rfl⟩;rw[hR];unfold QS.lG at hR;have hlen:(q.cZ p).2.1.length<=5:=uO 5 q p [] [];generalize q.cZ p=Q at *;obtain⟨q1,L,B,E⟩:=Q;dsimp only at *;clear h;unfold pp at *
 by_cases h0:E=0
 .subst h0;rw[if_neg (by simp)]at hR;have HR:=xh hR;clear hR;go_enter Tryz.func123,Tryz.ntmps123;go_wp2_with fail;refine KW.o.mono ?_;rintro e w1 ⟨A,m,c,rfl,S1,A1,o1,f1⟩;obtain⟨A',c',e⟩:=aq S1;injection e with e1 e2 e3
  subst e1 e2 e3;have HL:=xh S1;have H1:=xh (And.intro A1 (And.intro o1 f1));clear S1 A1 o1 f1;go_wp2_with fail
  go_loopw [23] (λiv wr=> ∃(i:Nat) (b:QS),i<=L.length/\iv=.int .i64 i/\Hid (b.n7 (L.drop i)=R)/\Hid (PQ wr I F b n (K+5)/\ag F w wr/\aQ wr 3 1 (.slice A L.length c) L.length (eQ L))) (λiv _=>L.length-(intOf iv).toNat)
  case atStart=>exact⟨0,q1,bm _,rfl,HR,xh ⟨H1.o.1,H1.o.2.1,HL.o⟩⟩
  case round=>
   obtain⟨i,b,hi,rfl,HW,HA⟩:=hrel
   by_cases h:i<L.length
   .obtain⟨x,hx⟩:∃x,L[i]?=some x:=⟨L[i],aN h⟩;have Ic:L.drop i=x::L.drop (i+1):=by
     rw[zM h]
     congr 1
     rw[aN h]at hx;injection hx
    obtain⟨g,cp,rest,hv,BB,_⟩:∃g cp rest,(Value.slice A L.length c)= .slice (some ⟨g,0,none⟩) L.length cp/\aD wr g 3 (eQ L++rest).toArray/\True:=by
     rcases HA.o.2.2.2 with⟨h1,h2⟩|⟨g,cap,rest,h1,h2,_⟩
     .omega
     .exact⟨g,cap,rest,h1,h2,trivial⟩
    injection hv with e1 e2 e3
    subst e1 e3;have cx:wr.cell? ⟨g,i,none⟩=some (.int .i64 x):=BB.ab (by
     rw[cW,bx (by simpa using h)];simp[eQ,hx])
    have sG:=HW.o;rw[Ic]at sG;unfold QS.n7 at sG;have K2:=xh (KD.o wr b HA.o.1 x);have hiI:(i:Int)<(L.length:Int):=by omega
    have hl5:(L.length:Int)<=5:=by have:=hlen;omega
    have HFR:=xh (show ∀g'∈ah (.slice (some ⟨g,0,none⟩) L.length c),g'∉F from λg' hg hF=>by have:=H1.o.2.2 g' hg;have:=wC.o g' hF;omega);generalize b.aI x=D at *;obtain⟨D1,D2⟩:=D;dsimp only at *
    by_cases hd:D2=0
    .subst hd;rw[if_neg (by simp)]at sG;have sG:=xh sG;clear BB hx Ic;go_wp2_with fail;refine K2.o.mono ?_;rintro e w2 ⟨rfl,A2,o2⟩;have H2:=xh (show PQ w2 I F D1 n (K+5)/\ag F w w2/\aQ w2 3 1 (.slice (some ⟨g,0,none⟩) L.length c) L.length (eQ L)from⟨A2,HA.o.2.1.trans o2,HA.o.2.2.only o2 HFR.o⟩);clear A2 o2 cx;go_wp2_with fail;go_roundw
     case rel=>exact⟨i+1,D1,by omega,by go_num,sG,H2⟩
     case measure=>simp[intOf];omega
    .rw[if_pos hd]at sG;subst sG;have hq:(D2 != 0)=true:=by rw[bne_iff_ne];exact hd
     have lp:(D2==0)=false:=by rw[beq_eq_false_iff_ne];exact hd
     clear BB hx Ic;go_wp2_with fail;refine K2.o.mono ?_;rintro e w2 ⟨rfl,A2,o2⟩;have H2:=xh (show PQ w2 I F D1 n (K+5)/\ag F w w2 from⟨A2,HA.o.2.1.trans o2⟩);clear A2 o2 cx;go_wp2_with fail;go_ret;exact⟨by first|rfl|simp,H2.o.1,H2.o.2⟩
   .have sG:=HW.o;rw[jY (by omega)]at sG;unfold QS.n7 at sG;subst sG;obtain rfl:i=L.length:=by omega
    go_wp2_with fail;go_ret;exact⟨by first|rfl|simp,HA.o.1,HA.o.2.1⟩
 .rw[if_pos h0]at hR;subst hR;have hq:(E != 0)=true:=by rw[bne_iff_ne];exact h0
  have lp:(E==0)=false:=by rw[beq_eq_false_iff_ne];exact h0
  go_enter Tryz.func123,Tryz.ntmps123;go_wp2_with fail;refine KW.o.mono ?_;rintro e w1 ⟨A,m,c,rfl,S1,A1,o1,f1⟩;have H1:=xh (And.intro A1 o1);clear S1 A1 o1 f1;go_wp2_with fail;go_ret;exact⟨by first|rfl|simp,H1.o.1,H1.o.2⟩
attribute [local go_sem ↓] aW
def gR(v:List UInt8)(i:Nat)(next:Int):List UInt8:=lF (next+1).toNat++lF (cJ v i).length++cJ v i
def QS.jT(q:QS):List Int->QS
 |[]=>q
 |p::l=>(q.aI p).1.jT l
theorem QS.n8(q:QS)(p:Int)(l:List Int):q.jT (p::l)=(q.aI p).1.jT l:=rfl
def QS.m6(v:List UInt8):Nat->QS->Int->List Int->QS×Int×Int
 |0,q,next,_=>(q,next,0)
 |i+1,q,next,made=>
  if(q.bh (gR v i next)).2.2≠0 then((q.bh (gR v i next)).1.jT made,0,(q.bh (gR v i next)).2.2)
  else QS.m6 v i (q.bh (gR v i next)).1 (q.bh (gR v i next)).2.1 (made++[(q.bh (gR v i next)).2.1])
def QS.lH(q:QS)(v:List UInt8):QS×Int×Int:=if 1024<v.length then(q,0,4)else QS.m6 v (eX v.length).toNat q (-1) []
theorem newF_bd(a:St)(p:List UInt8):0<=(a.bh p).2.1/\(a.bh p).2.1<=511:=by
 unfold St.bh
 split
 .exact⟨by show(0:Int)<=0;omega,by show(0:Int)<=511;omega⟩
 .split
  .exact⟨by show(0:Int)<=0;omega,by show(0:Int)<=511;omega⟩
  .exact⟨by show(0:Int)<=(a.slot:Nat);omega,by show((a.slot:Nat):Int)<=511;omega⟩
theorem Ie(q:QS)(p:List UInt8):0<=(q.bh p).2.1/\(q.bh p).2.1<=511:=newF_bd q.a p
theorem Ig{q:QS}(h:PQ w I F q n K)(v:ByteArray)(hv:v.size<=1024)(hK:K<=999999999900):
  Calls Tryz.prog 124 #[pp I.pb,.string v] w λe w'=>e=.returned (.tuple #[.int .i64 (q.lH v.data.toList).2.1,.int .i64 (q.lH v.data.toList).2.2])/\PT w w' I F (q.lH v.data.toList).1 n (K+5):=by
 have hvl:v.data.toList.length=v.size:=by simp
 obtain⟨R,hR⟩:∃R,q.lH v.data.toList=R:=⟨_,rfl⟩;rw[hR];unfold QS.lH at hR;rw[if_neg (by omega),hvl]at hR;have hn1:1<=eX v.size/\eX v.size<=5:=by unfold eX;omega
 have hn2:228*(eX v.size-1)<=v.size:=by unfold eX;omega
 have KN:=xh (uM (v.size:Nat) (by omega));obtain⟨m,hm⟩:=dn (show 0<=eX v.size by omega);rw[hm]at hn1 hn2 KN hR;rw[show((m:Nat):Int).toNat=m by omega]at hR;have HR:=xh hR;have O0:=xh (ae (Below.refl w.heap.size w) (.cells #[.string v] 9));have B0:=xh (aD.new w 9 #[.string v]);have q0:=B0.o.ab (i:=0) rfl;have HQ:=xh (h.below O0.o);have wC:=xh h.lt
 have KNEW:=xh (λ(W:World) (F':List Nat) (b:QS) (j:Nat) (hW:PQ W I F' b n j) (s:ByteArray) (hs:s.size<=232) (hj:j<=1000000000000)=>sy hW hj s hs);have KD:=xh (λ(W:World) (F':List Nat) (b:QS) (j:Nat) (hW:PQ W I F' b n j) (y:Int)=>uL hW y);have KP:=xh (λ(W:World) (hq:W.cell? ⟨w.heap.size,0,none⟩=some (.string v)) (i:Nat) (hi:228*i<=v.size)=>Em v hv hq i hi);have KT:=xh dL;have hm1:IntKind.i64.wrap ((m:Int)-1)=(m:Int)-1:=IntWalk.i64_in _ (by omega)
 clear h hR;unfold pp at *;go_enter Tryz.func124,Tryz.ntmps124;go_wp2_with fail;refine(KN.o _).mono ?_;rintro e w1 ⟨rfl,rfl⟩;go_wp2_with fail
 go_loopw [7,8,9] (λmv nv iv wr=> ∃(j:Nat) (b:QS) (nx:Nat) (made:List Int) (F':List Nat),j<=m/\iv=.int .i64 ((j:Int)-1)/\nv=.int .i64 ((nx:Int)-1)/\nx<=512/\made.length=m-j/\aQ wr 3 1 mv made.length (eQ made)/\Hid (QS.m6 v.data.toList j b ((nx:Int)-1) made=R)/\
   Hid (PQ wr I F' b n (K+(m-j))/\ag F w wr/\(∀g∈F',g∈F\/w.heap.size<=g)/\(∀g∈ah mv,w.heap.size<=g/\g∉F')/\aD wr w.heap.size 9 #[.string v]/\w.heap.size∉F')) (λ_ _ iv _=>(intOf iv+1).toNat)
 case atStart=>exact⟨m,q,0,[],F,ak _,rfl,rfl,by omega,by simp,aQ.nil _ _ _,HR,xh ⟨by rw[show K+(m-m)=K by omega];exact HQ.o,.aj O0.o,λg hg=> .inl hg,by simp[ah],B0.o,λhF=>by have:=wC.o _ hF;omega⟩⟩
 case round=>
  obtain⟨j,b,nx,made,F',hj,rfl,rfl,hnx,qI,S,HW,HA⟩:=hrel;obtain⟨VM,vm,rfl⟩:=aq S
  by_cases h0:0<j
  .obtain⟨i,rfl⟩:∃i,j=i+1:=⟨j-1,by omega⟩;have hz:((i+1:Nat):Int)-1=(i:Nat):=by omega
   rw[hz];have q1:=HA.o.2.2.2.2.1.ab (i:=0) rfl;have Ih:228*i<=v.size:=by omega
   have K1:=xh (KP.o wr q1 i Ih);have Fu:(cJ v.data.toList i).length<=228:=by unfold cJ;rw[cE];omega
   have sG:=HW.o;unfold QS.m6 at sG;have hlk:gR v.data.toList i ((nx:Int)-1)=(((⟨(lF nx).toArray⟩:ByteArray)++⟨(lF (cJ v.data.toList i).length).toArray⟩)++⟨(cJ v.data.toList i).toArray⟩:ByteArray).data.toList:=by
    unfold gR;rw[show((nx:Int)-1+1).toNat=nx by omega];simp
   rw[hlk]at sG;have hps:(⟨(cJ v.data.toList i).toArray⟩:ByteArray).size=(cJ v.data.toList i).length:=by show(cJ v.data.toList i).toArray.size=_;simp
   have hts:∀x,(⟨(lF x).toArray⟩:ByteArray).size=2:=λx=>rfl;have hss:(((⟨(lF nx).toArray⟩:ByteArray)++⟨(lF (cJ v.data.toList i).length).toArray⟩)++⟨(cJ v.data.toList i).toArray⟩:ByteArray).size<=232:=by
    rw[xD,xD,hts,hts,hps];omega
   have K2:=xh (KT.o nx (by omega));have K3:=xh (KT.o (cJ v.data.toList i).length (by omega));have K4:=xh (λ(W:World) (hW:PQ W I F' b n (K+(m-(i+1))))=>KNEW.o W F' b _ hW _ hss (by omega));have u1:IntKind.i64.wrap (nx:Int)=(nx:Int):=IntWalk.i64_in _ (by omega);have hbd:=Ie b ((((⟨(lF nx).toArray⟩:ByteArray)++⟨(lF (cJ v.data.toList i).length).toArray⟩)++⟨(cJ v.data.toList i).toArray⟩:ByteArray).data.toList);have t1:=hts nx
   have t2:=hts (cJ v.data.toList i).length;generalize (⟨(lF nx).toArray⟩:ByteArray)=T1 at *;generalize (⟨(lF (cJ v.data.toList i).length).toArray⟩:ByteArray)=T2 at *;generalize (⟨(cJ v.data.toList i).toArray⟩:ByteArray)=PC at *;have z1:¬9223372036854775807<T1.size+T2.size:=by omega
   have z2:¬9223372036854775807<(T1++T2).size+PC.size:=by rw[xD];omega
   clear hlk hts hss;generalize b.bh (T1++T2++PC).data.toList=D at *;obtain⟨D1,D2,D3⟩:=D;dsimp only at *;have HS:=xh (show ∀w4 w5 F5,Below wr.heap.size wr w4->PQ w5 I F5 D1 n (K+(m-(i+1))+1)->ag F' w4 w5->(∀g∈F5,g∈F'\/w4.heap.size<=g)->
     PQ w5 I F5 D1 n (K+(m-(i+1))+1)/\ag F w w5/\(∀g∈F5,g∈F\/w.heap.size<=g)/\aQ w5 3 1 (.slice VM made.length vm) made.length (eQ made)/\(∀g∈ah (.slice VM made.length vm),w.heap.size<=g/\g∉F5)/\aD w5 w.heap.size 9 #[.string v]/\w.heap.size∉F5 from λw4 w5 F5 hb A5 o5 f5=>by
    obtain⟨a1,a2,a3,a4,a5,a6⟩:=HA.o;have s4:=S.below hb;have b4:=a5.below hb a5.lt;have hw4:w.heap.size<=w4.heap.size:=au a2.size hb.size
    refine⟨A5,(a2.trans (.aj hb)).bw o5 (λg hg eT=>(a3 g hg).elim id (λh=>by omega)),λg hg=>(f5 g hg).elim (a3 g) (λh=> .inr (by omega)),s4.only o5 (λg hg=>(a4 g hg).2),λg hg=>⟨(a4 g hg).1,λhF=>(f5 g hF).elim (a4 g hg).2 (λh=>by have:=s4.lt g hg;omega)⟩,b4.only o5 a6,λhF=>(f5 _ hF).elim a6 (λh=>by have:=b4.lt;omega)⟩)
   by_cases hd:D3=0
   .subst hd;rw[if_neg (by simp)]at sG;obtain⟨d2,rfl⟩:=dn hbd.1;have HW3:=xh sG;clear sG;go_wp2_with fail;refine K1.o.mono ?_;rintro e w2 ⟨rfl,rfl⟩;go_wp2_with fail;refine(K2.o _).mono ?_;rintro e w3 ⟨rfl,dR⟩;have H3:=xh dR;go_wp2_with fail;refine(K3.o _).mono ?_;rintro e w4 ⟨rfl,fw⟩;have H4:=xh (ao H3.o fw);clear dR fw;go_wp2_with fail;refine(K4.o _ (HA.o.1.below H4.o)).mono ?_;rintro e w5 ⟨rfl,F5,A5,o5,f5⟩
    have H5:=xh (HS.o w4 w5 F5 H4.o A5 o5 f5);clear A5 o5 f5;obtain⟨v',w6,ea,S6,ow,fr⟩:=bZ (P:=Tryz.prog) H5.o.2.2.2.1 60 60 (.int .i64 0) 8 Tryz.underlying60 jn rfl (.int .i64 (d2:Nat)) rfl (by unfold maxLen;omega) (by omega);obtain⟨V6,c6,rfl⟩:=aq S6
    have H6:=xh (show aQ w6 3 1 (.slice V6 (made.length+1) c6) (made++[(d2:Int)]).length (eQ (made++[(d2:Int)]))/\PQ w6 I F5 D1 n (K+(m-i))/\ag F w w6/\(∀g∈F5,g∈F\/w.heap.size<=g)/\(∀g∈ah (.slice V6 (made.length+1) c6),w.heap.size<=g/\g∉F5)/\aD w6 w.heap.size 9 #[.string v]/\w.heap.size∉F5 from by
     obtain⟨a1,a2,a3,a4,a5,a6,a7⟩:=H5.o;refine⟨by rw[aU,gm];exact S6,(a1.only ow (λg hF hg=>(a5 g hg).2 hF)).le (by omega),a2.bw ow (λg hg eT=>by have:=(a5 g hg).1;omega),a3,λg hg=>?_,a6.only ow (λhg=>cy a4 a6 (by decide) hg),a7⟩
     rcases fr g hg with h|h
     .exact a5 g h
     .exact⟨by have:=a2.size;omega,λhF=>by have:=a1.lt g hF;omega⟩)
    rw[qI]at ea;have EA:=xh ea;clear ea S6 ow fr;go_wp2_with fail;rw[EA.o];go_wp2_with fail;go_roundw
    case rel=>exact⟨i,D1,d2+1,made++[(d2:Int)],F5,by omega,by go_num,by simp,by omega,by rw[aU,qI,lu];omega,by have:=H6.o.1;rw[qI]at this;exact this,by rw[show((d2+1:Nat):Int)-1=(d2:Nat) by omega];exact HW3,xh ⟨H6.o.2.1,H6.o.2.2.1,H6.o.2.2.2.1,by have:=H6.o.2.2.2.2.1;rw[qI]at this;exact this,H6.o.2.2.2.2.2.1,H6.o.2.2.2.2.2.2⟩⟩
    case measure=>simp[intOf]<;>omega
   .rw[if_pos hd]at sG;subst sG;have hq:(D3 != 0)=true:=by rw[bne_iff_ne];exact hd
    have lp:(D3==0)=false:=by rw[beq_eq_false_iff_ne];exact hd
    go_wp2_with fail;refine K1.o.mono ?_;rintro e w2 ⟨rfl,rfl⟩;go_wp2_with fail;refine(K2.o _).mono ?_;rintro e w3 ⟨rfl,dR⟩;have H3:=xh dR;go_wp2_with fail;refine(K3.o _).mono ?_;rintro e w4 ⟨rfl,fw⟩;have H4:=xh (ao H3.o fw);clear dR fw;go_wp2_with fail;refine(K4.o _ (HA.o.1.below H4.o)).mono ?_;rintro e w5 ⟨rfl,F5,A5,o5,f5⟩;have H5:=xh (HS.o w4 w5 F5 H4.o A5 o5 f5);clear A5 o5 f5;have hml2:(made.length:Int)<=5:=by omega
    have HM:=xh qI;rw[<-qI];clear qI;go_wp2_with fail
    go_loopw [52] (λtv wq=> ∃(t:Nat) (b':QS),t<=made.length/\tv=.int .i64 t/\Hid (b'.jT (made.drop t)=D1.jT made)/\Hid (PQ wq I F5 b' n (K+(m-(i+1))+1)/\ag F w wq/\aQ wq 3 1 (.slice VM made.length vm) made.length (eQ made))) (λtv _=>made.length-(intOf tv).toNat)
    case atStart=>exact⟨0,D1,bm _,rfl,xh rfl,xh ⟨H5.o.1,H5.o.2.1,H5.o.2.2.2.1⟩⟩
    case round=>
     obtain⟨t,b',ht,rfl,HT,HB⟩:=hrel
     by_cases eT:t<made.length
     .obtain⟨x,hx⟩:∃x,made[t]?=some x:=⟨made[t],aN eT⟩;have Ic:made.drop t=x::made.drop (t+1):=by
       rw[zM eT]
       congr 1
       rw[aN eT]at hx;injection hx
      obtain⟨g,cp,rest,Fx,BB,_⟩:∃g cp rest,(Value.slice VM made.length vm)= .slice (some ⟨g,0,none⟩) made.length cp/\aD wr g 3 (eQ made++rest).toArray/\True:=by
       rcases HB.o.2.2.2 with⟨h1,h2⟩|⟨g,cap,rest,h1,h2,_⟩
       .omega
       .exact⟨g,cap,rest,h1,h2,trivial⟩
      injection Fx with e1 e2 e3
      subst e1 e3;have cx:wr.cell? ⟨g,t,none⟩=some (.int .i64 x):=BB.ab (by
       rw[cW,bx (by simpa using eT)];simp[eQ,hx])
      have HT2:=HT.o;rw[Ic,QS.n8]at HT2;have HT3:=xh HT2;have K6:=xh (KD.o wr F5 b' _ HB.o.1 x);have htI:(t:Int)<(made.length:Int):=by omega
      clear BB hx Ic HT2;go_wp2_with fail;refine K6.o.mono ?_;rintro e w7 ⟨rfl,A7,o7⟩;have H7:=xh (show PQ w7 I F5 (b'.aI x).1 n (K+(m-(i+1))+1)/\ag F w w7/\aQ w7 3 1 (.slice (some ⟨g,0,none⟩) made.length vm) made.length (eQ made)from⟨A7,HB.o.2.1.bw o7 (λg hg eT=>(H5.o.2.2.1 g hg).elim id (λh=>by omega)),HB.o.2.2.only o7 (λg' hg=>(H5.o.2.2.2.2.1 g' hg).2)⟩);clear A7 o7 cx;go_wp2_with fail;go_roundw
      case rel=>exact⟨t+1,(b'.aI x).1,by omega,by go_num,HT3,H7⟩
      case measure=>simp[intOf];omega
     .have HT2:=HT.o;rw[jY (by omega)]at HT2;have HT2:b'=D1.jT made:=HT2;subst HT2;obtain rfl:t=made.length:=by omega
      go_wp2_with fail;go_ret2;exact⟨by first|rfl|simp,F5,HB.o.1.le (by omega),HB.o.2.1,H5.o.2.2.1⟩
  .obtain rfl:j=0:=by omega
   have sG:=HW.o;unfold QS.m6 at sG;subst sG;go_wp2_with fail;go_ret2;exact⟨by first|rfl|simp,F',HA.o.1.le (by omega),HA.o.2.1,HA.o.2.2.1⟩
end Go.Proofs.YtmonobkginiajaaGreat.Sh
namespace Go.Proofs.YtmonobkginiajaaGreat.Sl
open Go.RowKit
def dV(n:Nat):List UInt8:=[UInt8.ofNat (n / 256),UInt8.ofNat n]
def bl(b:List UInt8)(k:Nat):Nat:=(b.getD k 0).toNat*256+(b.getD (k+1) 0).toNat
abbrev Slot:=Nat×Nat
def slot(b:List UInt8)(i:Nat):Slot:=(bl b (4+4*i),bl b (6+4*i))
def aX(b:List UInt8):List Slot:=(List.range (bl b 0)).map (slot b)
def apart(x y:Slot):Bool:=decide (x.2=0) || (decide (y.2=0) || (decide (x.1+x.2<=y.1) || decide (y.1+y.2<=x.1)))
structure Fit(heap:Nat)(l:List Slot):Prop where
 ln:∀x∈l,heap<=x.1/\x.1+x.2<=232
 apart:l.Pairwise λx y=>Sl.apart x y=true
structure Sound(b:List UInt8):Prop where
 len:b.length=232
 heap:bl b 2<=232
 head:4+4*bl b 0<=bl b 2
 fit:Fit (bl b 2) (aX b)
def pE(l:List Slot):Nat:=(l.map Prod.snd).sum
def iW(b:List UInt8)(x:Slot):List UInt8:=(b.drop x.1).take x.2
def bQ(b:List UInt8):List (List UInt8):=(aX b).map (iW b)
theorem sH(b:List UInt8)(k:Nat):bl b k<65536:=by
 have h1:=(b.getD k 0).toNat_lt;have h2:=(b.getD (k+1) 0).toNat_lt;unfold bl;omega
theorem bR(b:List UInt8):(aX b).length=bl b 0:=by simp[aX]
theorem uP(b:List UInt8)(i:Nat)(h:i<bl b 0):(aX b)[i]?=some (slot b i):=by simp[aX,h]
theorem kT(x y:Slot):apart x y=apart y x:=by
 unfold apart
 cases h1:decide (x.2=0)<;>cases h2:decide (y.2=0)<;>cases h3:decide (x.1+x.2<=y.1)<;>cases h4:decide (y.1+y.2<=x.1)<;>rfl
theorem me(x y:Slot):apart x y=true↔x.2=0\/y.2=0\/x.1+x.2<=y.1\/y.1+y.2<=x.1:=by simp[apart]
theorem Ii(x y:Slot):apart x y=false↔ ∃k,(x.1<=k/\k<x.1+x.2)/\(y.1<=k/\k<y.1+y.2):=by
 constructor
 .intro h;have:¬(x.2=0\/y.2=0\/x.1+x.2<=y.1\/y.1+y.2<=x.1):=by rw[<-me];simp[h]
  refine⟨max x.1 y.1,⟨by omega,by omega⟩,⟨by omega,by omega⟩⟩
 .rintro⟨k,h1,h2⟩
  cases h:apart x y
  .rfl
  .rw[me]at h;omega
def sI(l:List Slot)(x:Slot):Bool:=l.all λy=>apart x y
def Ij(heap:Nat):List Slot->List Slot->Bool
 |_,[]=>true
 |p,x::l=>decide (heap<=x.1) && (decide (x.1+x.2<=232) && (sI p x && Ij heap (p++[x]) l))
def Br(b:List UInt8):Bool:=decide (b.length=232) && (decide (bl b 2<=232) && (decide (4+4*bl b 0<=bl b 2) && Ij (bl b 2) [] (aX b)))
theorem Fit.snoc{heap:Nat}{p:List Slot}{x:Slot}:Fit heap (p++[x])↔Fit heap p/\(heap<=x.1/\x.1+x.2<=232)/\∀y∈p,Sl.apart x y=true:=by
 constructor
 .rintro⟨h1,h2⟩;rw[da]at h2;exact⟨⟨λy hy=>h1 y (by simp[hy]),h2.1⟩,h1 x (by simp),λy hy=>by rw[kT];exact h2.2.2 y hy x (by simp)⟩
 .rintro⟨⟨h1,h2⟩,h3,h4⟩;refine⟨λy hy=>?_,?_⟩
  .rcases aS.1 hy with h|h
   .exact h1 y h
   .simp at h;subst h;exact h3
  .rw[da];exact⟨h2,by simp,λy hy z hz=>by simp at hz;subst hz;rw[kT];exact h4 y hy⟩
theorem Fit.nil(heap:Nat):Fit heap []:=⟨λx h=>by simp at h,by simp⟩
theorem Ik(heap:Nat)(l:List Slot):∀p:List Slot,Fit heap p->(Ij heap p l=true↔Fit heap (p++l)):=by
 induction l with
 |nil=>intro p h;simp[Ij,h]
 |cons x l ih=>
  intro p h;have key:(heap<=x.1/\x.1+x.2<=232/\sI p x=true)↔Fit heap (p++[x]):=by
   rw[Fit.snoc];simp only[sI,ru];exact⟨λ⟨h1,h2,h3⟩=>⟨h,⟨h1,h2⟩,h3⟩,λ⟨_,⟨h1,h2⟩,h3⟩=>⟨h1,h2,h3⟩⟩
  simp only[Ij,jM,decide_eq_true_eq]
  constructor
  .rintro⟨h1,h2,h3,h4⟩;have hf:=key.1 ⟨h1,h2,h3⟩;have:=(ih _ hf).1 h4;simpa using this
  .intro hf;have hp:Fit heap (p++[x]):=by
    refine⟨λy hy=>hf.ln y (by simp at hy ⊢;rcases hy with h|h<;>simp[h]),?_⟩;have:=hf.apart;rw[show p++x::l=(p++[x])++l by simp,da]at this;exact this.1
   obtain⟨h1,h2,h3⟩:=key.2 hp;exact⟨h1,h2,h3,(ih _ hp).2 (by simpa using hf)⟩
theorem m7(b:List UInt8):Br b=true↔Sound b:=by
 have h:=Ik (bl b 2) (aX b) [] (Fit.nil _);rw[eA]at h;simp only[Br,jM,decide_eq_true_eq,h];exact⟨λ⟨h1,h2,h3,h4⟩=>⟨h1,h2,h3,h4⟩,λh=>⟨h.len,h.heap,h.head,h.fit⟩⟩
def bq(b:List UInt8):Int:=if b.length=232 then(if Br b then 0 else 14)else 6
theorem cU(b:List UInt8):bq b=0↔Sound b:=by
 rw[<-m7];unfold bq
 constructor
 .intro h
  split at h
  .split at h
   .assumption
   .cases h
  .cases h
 .intro h;have:=((m7 b).1 h).len;rw[if_pos this,if_pos h]
def ff(b:List UInt8):Int:=228-((((aX b).map λx=>4+x.2).sum:Nat):Int)
def cover(l:List Slot)(k:Nat):Bool:=l.any λx=>decide (x.1<=k) && decide (k<x.1+x.2)
theorem count_range(a n m:Nat)(h:a+n<=m):((List.range m).countP λk=>decide (a<=k) && decide (k<a+n))=n:=by
 induction m generalizing n with
 |zero=>
  have:n=0:=by omega
  subst this;simp
 |succ m ih=>
  rw[List.range_succ,zL]
  rcases dZ (a+n) (m+1)with h1|h1
  .rw[ih n (by omega)];simp;omega
  .obtain rfl|hn:n=0\/0<n:=Nat.eq_zero_or_pos n
   .have:(List.range m).countP (λk=>decide (a<=k) && decide (k<a+0))=0:=by
     rw[List.countP_eq_zero];intro k _;simp<;>omega
    rw[this];simp<;>omega
   .have e:(List.range m).countP (λk=>decide (a<=k) && decide (k<a+n))=(List.range m).countP (λk=>decide (a<=k) && decide (k<a+(n-1))):=by
     apply oQ;intro k hk;have:=kC.1 hk;simp;omega
    rw[e,ih (n-1) (by omega)];simp;have:a<=m/\m<a+n:=by omega
    simp[this];omega
theorem ym(l:List Slot)(heap:Nat)(h:Fit heap l):(List.range 232).countP (cover l)=pE l:=by
 induction l with
 |nil=>simp[cover,pE]
 |cons x l ih=>
  have hx:=h.ln x (by simp);have hp:=du.1 h.apart;have ht:Fit heap l:=⟨λy hy=>h.ln y (by simp[hy]),hp.2⟩;have e:(List.range 232).countP (cover (x::l))=(List.range 232).countP (λk=>decide (x.1<=k) && decide (k<x.1+x.2))+(List.range 232).countP (cover l):=by
   generalize List.range 232=r
   induction r with
   |nil=>rfl
   |cons k r ihr=>
    simp only[List.countP_cons,ihr];have hdis:¬((x.1<=k/\k<x.1+x.2)/\cover l k=true):=by
     rintro⟨h1,h2⟩;simp only[cover,List.any_eq_true,jM,decide_eq_true_eq]at h2;obtain⟨y,hy,h3⟩:=h2;have hn:=(Ii x y).2 ⟨k,h1,h3⟩;rw[hp.1 y hy]at hn;cases hn
    have ec:cover (x::l) k=((decide (x.1<=k) && decide (k<x.1+x.2)) || cover l k):=rfl;rw[ec]
    cases h1:(decide (x.1<=k) && decide (k<x.1+x.2))<;>cases h2:cover l k
    .simp
    .simp;omega
    .simp;omega
    .exfalso;apply hdis;simp at h1;exact⟨h1,h2⟩
  rw[e,count_range _ _ _ hx.2,ih ht];simp[pE]
theorem uQ(l:List Slot)(heap:Nat)(h:Fit heap l)(hh:heap<=232):pE l<=232-heap:=by
 rw[<-ym l heap h];have e:(List.range 232).countP (cover l)<=(List.range 232).countP (λk=>decide (heap<=k) && decide (k<heap+(232-heap))):=by
  apply List.countP_mono_left;intro k hk hc;simp only[cover,List.any_eq_true,jM,decide_eq_true_eq]at hc;obtain⟨y,hy,h3⟩:=hc;have:=h.ln y hy;have:=kC.1 hk;simp;omega
 have:=count_range heap (232-heap) 232 (by omega);omega
variable{F c b:List UInt8}{o:Nat}
def lay(F:List UInt8)(o:Nat)(c:List UInt8):List UInt8:=F.take o++c++F.drop (o+c.length)
theorem fy(h:o+c.length<=F.length):(lay F o c).length=F.length:=by
 simp[lay];omega
theorem nQ(F:List UInt8)(o:Nat)(c:List UInt8):putAt (cf F) o (cf c)=cf (lay F o c):=by
 simp[putAt,lay,cf]
theorem kM(h:o+c.length<=F.length)(j:Nat):(lay F o c)[j]?=if o<=j/\j<o+c.length then c[j-o]? else F[j]?:=by
 unfold lay
 by_cases h1:j<o
 .rw[if_neg (by omega),cN,bx (by simp;omega),oS h1]
 .have e:(F.take o).length=o:=by simp;omega
  by_cases h2:j<o+c.length
  .rw[if_pos ⟨by omega,h2⟩,cN,dF (by omega),e,bx (by omega)]
  .rw[if_neg (by omega),dF (by simp;omega),gF]
   congr 1
   simp;omega
def jD(b:List UInt8)(k n:Nat):List UInt8:=(b.set k (UInt8.ofNat (n / 256))).set (k+1) (UInt8.ofNat n)
theorem cV(b:List UInt8)(k n:Nat):(jD b k n).length=b.length:=by simp[jD]
theorem kp(b:List UInt8)(k n j:Nat)(h:j<k\/k+1<j):(jD b k n)[j]?=b[j]?:=by
 unfold jD;rw[eL (by omega),eL (by omega)]
theorem at2_eq{k:Nat}(h0:b[k]?=c[k]?)(h1:b[k+1]?=c[k+1]?):bl b k=bl c k:=by
 simp only[bl,List.getD,h0,h1]
theorem dm(b:List UInt8)(k n j:Nat)(h:j+1<k\/k+1<j):bl (jD b k n) j=bl b j:=
 at2_eq (kp b k n j (by omega)) (kp b k n (j+1) (by omega))
theorem n9(b:List UInt8)(k n:Nat)(h:k+1<b.length)(hn:n<65536):bl (jD b k n) k=n:=by
 have e0:(jD b k n)[k]?=some (UInt8.ofNat (n / 256)):=by
  unfold jD;rw[eL (by omega),cD (by omega)]
 have e1:(jD b k n)[k+1]?=some (UInt8.ofNat n):=by
  unfold jD;rw[cD (by simpa using h)]
 simp only[bl,List.getD,e0,e1,kE,fV];omega
def eO(b:List UInt8)(l:List Slot)(heap:Nat):Nat->List UInt8
 |0=>jD (jD b 0 l.length) 2 heap
 |i+1=>jD (jD (eO b l heap i) (4+4*i) (l.getD i (0,0)).1) (6+4*i) (l.getD i (0,0)).2
def ib(b:List UInt8)(l:List Slot)(heap:Nat):List UInt8:=eO b l heap l.length
theorem iG(b:List UInt8)(l:List Slot)(heap:Nat):∀i,(eO b l heap i).length=b.length
 |0=>by simp[eO,cV]
 |i+1=>by rw[eO,cV,cV];exact iG b l heap i
theorem sJ(b:List UInt8)(l:List Slot)(heap:Nat)(j:Nat):∀i,4+4*i<=j->(eO b l heap i)[j]?=b[j]?
 |0,h=>by rw[eO,kp _ _ _ _ (by omega),kp _ _ _ _ (by omega)]
 |i+1,h=>by rw[eO,kp _ _ _ _ (by omega),kp _ _ _ _ (by omega)];exact sJ b l heap j i (by omega)
theorem mf(b:List UInt8)(l:List Slot)(heap:Nat)(hb:b.length=232)(hh:heap<65536)(hl:l.length<65536)(hx:∀x∈l,x.1<65536/\x.2<65536):
  ∀i,i<=l.length->4+4*i<=232->bl (eO b l heap i) 0=l.length/\bl (eO b l heap i) 2=heap/\∀k,k<i->slot (eO b l heap i) k=l.getD k (0,0)
 |0,_,_=>by
  rw[eO];refine⟨?_,?_,λk hk=>absurd hk (by omega)⟩
  .rw[dm _ _ _ _ (by omega),n9 _ _ _ (by omega) hl]
  .rw[n9 _ _ _ (by rw[cV];omega) hh]
 |i+1,hi,h4=>by
  obtain⟨h0,h2,hs⟩:=mf b l heap hb hh hl hx i (by omega) (by omega);have hlen:=iG b l heap i;rw[eO];refine⟨?_,?_,λk hk=>?_⟩
  .rw[dm _ _ _ _ (by omega),dm _ _ _ _ (by omega)];exact h0
  .rw[dm _ _ _ _ (by omega),dm _ _ _ _ (by omega)];exact h2
  .unfold slot
   by_cases e:k=i
   .subst e;have hm:l.getD k (0,0)∈l:=by
     rw[List.getD,aN (by omega)];exact ik _
    have:=hx _ hm;rw[dm _ _ _ _ (by omega),n9 _ _ _ (by omega) this.1,n9 _ _ _ (by rw[cV];omega) this.2]
   .rw[dm _ _ _ _ (by omega),dm _ _ _ _ (by omega),dm _ _ _ _ (by omega),dm _ _ _ _ (by omega)];exact hs k (by omega)
section
variable{b:List UInt8}{l:List Slot}{heap:Nat}
structure Laid(b:List UInt8)(l:List Slot)(heap:Nat):Prop where
 len:b.length=232
 hh:heap<=232
 head:4+4*l.length<=heap
 fit:Fit heap l
theorem Laid.small(h:Laid b l heap):∀x∈l,x.1<65536/\x.2<65536:=λx hx=>by
 have:=(h.fit.ln x hx).2;omega
theorem Laid.n0(h:Laid b l heap):bl (ib b l heap) 0=l.length:=(mf b l heap h.len (by have:=h.hh;omega) (by have:=h.head;have:=h.hh;omega) h.small l.length (ak _) (by have:=h.head;have:=h.hh;omega)).1
theorem Laid.n2(h:Laid b l heap):bl (ib b l heap) 2=heap:=(mf b l heap h.len (by have:=h.hh;omega) (by have:=h.head;have:=h.hh;omega) h.small l.length (ak _) (by have:=h.head;have:=h.hh;omega)).2.1
theorem Laid.sl(h:Laid b l heap):aX (ib b l heap)=l:=by
 have hs:=(mf b l heap h.len (by have:=h.hh;omega) (by have:=h.head;have:=h.hh;omega) h.small l.length (ak _) (by have:=h.head;have:=h.hh;omega)).2.2;apply rB
 .rw[bR,h.n0]
 .intro i h1 h2;have:(aX (ib b l heap))[i]=slot (ib b l heap) i:=by simp[aX]
  rw[this,show slot (ib b l heap) i=l.getD i (0,0)from hs i h2];simp[List.getD,aN h2]
theorem Laid.length(h:Laid b l heap):(ib b l heap).length=232:=(iG b l heap l.length).trans h.len
theorem Laid.sound(h:Laid b l heap):Sound (ib b l heap):=
 ⟨h.length,by rw[h.n2];exact h.hh,by rw[h.n2,h.n0];exact h.head,by rw[h.n2,h.sl];exact h.fit⟩
theorem Laid.rc(h:Laid b l heap):∀x∈l,iW (ib b l heap) x=iW b x:=by
 intro x hx;have h1:=(h.fit.ln x hx).1;unfold iW
 congr 1
 apply jZ;intro j;rw[gF,gF];exact sJ b l heap _ _ (by have:=h.head;omega)
theorem Laid.rcs(h:Laid b l heap):bQ (ib b l heap)=l.map (iW b):=by
 unfold bQ;rw[h.sl];exact jz h.rc
theorem yn(h:o+c.length<=F.length)(x:Slot)(hx:x.1+x.2<=o\/o+c.length<=x.1):iW (lay F o c) x=iW F x:=by
 unfold iW;apply jZ;intro j
 by_cases hj:j<x.2
 .rw[oS hj,oS hj,gF,gF,kM h,if_neg (by omega)]
 .rw[fo (by simp;omega),fo (by simp;omega)]
theorem uR(h:o+c.length<=F.length):iW (lay F o c) (o,c.length)=c:=by
 unfold iW;apply jZ;intro j
 by_cases hj:j<c.length
 .rw[oS hj,gF,kM h,if_pos ⟨by omega,by omega⟩]
  congr 1;omega
 .rw[fo (by simp;omega),fo (by omega)]
end
structure mD where
 o:List UInt8
 to:List Slot
 heap:Nat
def uS:mD:=⟨List.replicate 232 0,[],232⟩
def mD.add(c:mD)(r:List UInt8):mD:=⟨lay c.o (c.heap-r.length) r,c.to++[(c.heap-r.length,r.length)],c.heap-r.length⟩
def mI(l:List (List UInt8)):mD:=l.foldl mD.add uS
structure mD.Ok(c:mD)(l:List (List UInt8)):Prop where
 len:c.o.length=232
 heap:c.heap+(l.map List.length).sum=232
 fit:Fit c.heap c.to
 bQ:c.to.map (iW c.o)=l
theorem Il:uS.Ok []:=⟨eM,rfl,Fit.nil _,rfl⟩
theorem Fit.mono{heap heap':Nat}{l:List Slot}(h:Fit heap l)(hh:heap'<=heap):Fit heap' l:=⟨λx hx=>⟨au hh (h.ln x hx).1,(h.ln x hx).2⟩,h.apart⟩
theorem mD.Ok.add{c:mD}{l:List (List UInt8)}(h:c.Ok l)(r:List UInt8)(hr:r.length<=c.heap):(c.add r).Ok (l++[r]):=by
 have h1:=h.heap;have h2:=h.len;refine⟨by show(lay _ _ _).length=232;rw[fy (by omega)];exact h.len,by show c.heap-r.length+_=232;simp;omega,?_,?_⟩
 .show Fit (c.heap-r.length) (c.to++[(c.heap-r.length,r.length)]);rw[Fit.snoc];refine⟨h.fit.mono (Nat.sub_le _ _),⟨ak _,by show c.heap-r.length+r.length<=232;omega⟩,λy hy=>?_⟩;have:=(h.fit.ln y hy).1;rw[me];exact .inr (.inr (.inl (by show c.heap-r.length+r.length<=y.1;omega)))
 .show(c.to++[(c.heap-r.length,r.length)]).map (iW (lay c.o (c.heap-r.length) r))=l++[r];rw[eh,<-h.bQ]
  congr 1
  .apply jz;intro y hy;have:=(h.fit.ln y hy).1;exact yn (by omega) y (.inr (by omega))
  .simp only[eW,mP];rw[uR (by omega)]
theorem sK(l:List (List UInt8))(h:(l.map List.length).sum<=232):(mI l).Ok l:=by
 have key:∀(l m:List (List UInt8)) (c:mD),c.Ok m->((m++l).map List.length).sum<=232->(l.foldl mD.add c).Ok (m++l):=by
  intro l
  induction l with
  |nil=>intro m c h _;simpa using h
  |cons r l ih=>
   intro m c h hs;have h1:=h.heap;have:=ih (m++[r]) (c.add r) (h.add r (by simp at hs h1;omega)) (by simpa using hs);simpa using this
 have:=key l [] uS Il (by simpa using h);rw[eA]at this;exact this
def eF(b:List UInt8):List UInt8:=ib (mI (bQ b)).o (mI (bQ b)).to (mI (bQ b)).heap
theorem qm{x:Slot}(h:x.1+x.2<=b.length):(iW b x).length=x.2:=by
 simp[iW];omega
theorem Sound.lens(h:Sound b):((bQ b).map List.length)=(aX b).map Prod.snd:=by
 unfold bQ;rw[oT];apply jz;intro x hx;exact qm (by rw[h.len];exact(h.fit.ln x hx).2)
theorem Sound.sum(h:Sound b):((bQ b).map List.length).sum<=232-bl b 2:=by
 rw[h.lens];exact uQ _ _ h.fit h.heap
theorem mD.Ok.Im{c:mD}{l:List (List UInt8)}(h:c.Ok l):c.to.length=l.length:=by rw[<-h.bQ,j0]
theorem bI(b:List UInt8):(bQ b).length=bl b 0:=by simp[bQ,bR]
theorem Sound.comp(h:Sound b):Laid (mI (bQ b)).o (mI (bQ b)).to (mI (bQ b)).heap:=by
 have hs:=h.sum;have hh:=h.heap;have h4:=h.head;have hc:=sK (bQ b) (by omega);have h1:=hc.heap;have h2:=hc.Im;rw[bI]at h2;exact⟨hc.len,by omega,by omega,hc.fit⟩
theorem Sound.compact(h:Sound b):Sound (eF b)/\bQ (eF b)=bQ b/\bl (eF b) 2+((bQ b).map List.length).sum=232/\aX (eF b)=(mI (bQ b)).to:=by
 have hs:=h.sum;have hh:=h.heap;have hc:=sK (bQ b) (by omega);have L:=h.comp;exact⟨L.sound,L.rcs.trans hc.bQ,by unfold eF;rw[L.n2];exact hc.heap,L.sl⟩
theorem sL(h:Sound b):ff b=228-4*(bl b 0:Int)-(((bQ b).map List.length).sum:Nat):=by
 rw[h.lens];have e:∀l:List Slot,(l.map λx=>4+x.2).sum=4*l.length+(l.map Prod.snd).sum:=by
  intro l
  induction l with
  |nil=>rfl
  |cons x l ih=>simp only[eW,iB,ih,il];omega
 unfold ff;rw[e,bR];omega
def fT(l:List (List UInt8)):Int:=228-((l.map λr=>4+r.length).sum:Nat)
theorem CO(h:Sound b):ff b=fT (bQ b):=by
 rw[sL h];have e:∀l:List (List UInt8),(l.map λr=>4+r.length).sum=4*l.length+(l.map List.length).sum:=by
  intro l
  induction l with
  |nil=>rfl
  |cons x l ih=>simp only[eW,iB,ih,il];omega
 unfold fT;rw[e,bI];omega
def gu(b r:List UInt8):List UInt8:=if 4+4*(bl b 0+1)+r.length>bl b 2 then eF b else b
def m8(b:List UInt8)(i:Nat)(r:List UInt8):List UInt8:=
 ib (lay (gu b r) (bl (gu b r) 2-r.length) r) ((aX (gu b r)).take i++(bl (gu b r) 2-r.length,r.length)::(aX (gu b r)).drop i) (bl (gu b r) 2-r.length)
theorem Sound.base(h:Sound b)(r:List UInt8)(hr:(r.length:Int)<=ff b-4):Sound (gu b r)/\bQ (gu b r)=bQ b/\bl (gu b r) 0=bl b 0/\4+4*(bl b 0+1)+r.length<=bl (gu b r) 2:=by
 unfold gu
 split
 .obtain⟨h1,h2,h3,_⟩:=h.compact;have e0:bl (eF b) 0=bl b 0:=by rw[<-bI,<-bI,h2]
  rw[sL h]at hr;exact⟨h1,h2,e0,by omega⟩
 .exact⟨h,rfl,rfl,by omega⟩
theorem Laid.insert(h:Sound b)(i:Nat)(r:List UInt8)(hr:4+4*(bl b 0+1)+r.length<=bl b 2)(hi:i<=bl b 0):
  Laid (lay b (bl b 2-r.length) r) ((aX b).take i++(bl b 2-r.length,r.length)::(aX b).drop i) (bl b 2-r.length):=by
 have h1:=h.heap;have h2:=h.len;have hl:=bR b;refine⟨by rw[fy (by omega)];exact h2,by omega,by simp[hl];omega,?_,?_⟩
 .intro x hx;have hx:x∈(aX b).take i\/x=(bl b 2-r.length,r.length)\/x∈(aX b).drop i:=by simpa using hx
  rcases hx with hx|rfl|hx
  .have:=h.fit.ln x (vM hx);omega
  .exact⟨ak _,by show bl b 2-r.length+r.length<=232;omega⟩
  .have:=h.fit.ln x (nC hx);omega
 .have hp:=h.fit.apart;rw[<-jN i (aX b),da]at hp;rw[da,du];have hz:∀y∈aX b,apart (bl b 2-r.length,r.length) y=true:=by
   intro y hy;have:=(h.fit.ln y hy).1;rw[me];exact .inr (.inr (.inl (by show bl b 2-r.length+r.length<=y.1;omega)))
  refine⟨hp.1,⟨λy hy=>hz y (nC hy),hp.2.1⟩,λx hx y hy=>?_⟩
  rcases aC.1 hy with rfl|hy
  .rw[kT];exact hz x (vM hx)
  .exact hp.2.2 x hx y hy
theorem Sound.insert(h:Sound b)(i:Nat)(r:List UInt8)(hr:(r.length:Int)<=ff b-4)(hi:i<=bl b 0):
  Sound (m8 b i r)/\bQ (m8 b i r)=(bQ b).take i++r::(bQ b).drop i:=by
 obtain⟨hs,he,h0,hh⟩:=h.base r hr;rw[<-h0]at hi hh;have L:=Laid.insert hs i r hh hi;refine⟨L.sound,?_⟩;have h2:=hs.len;have h3:=hs.heap;have key:∀x∈aX (gu b r),iW (lay (gu b r) (bl (gu b r) 2-r.length) r) x=iW (gu b r) x:=by
  intro x hx;have:=(hs.fit.ln x hx).1;exact yn (by omega) x (.inr (by omega))
 unfold m8;rw[L.rcs,eh,eW,uR (by omega),<-he];unfold bQ;rw[jz (λx hx=>key x (vM hx)),jz (λx hx=>key x (nC hx)),rE,List.map_drop]
def iX:List UInt8:=jD (List.replicate 232 0) 2 232
theorem lI:Sound iX/\bQ iX=[]/\bl iX 0=0/\bl iX 2=232:=by
 have e0:bl iX 0=0:=by decide
 have e2:bl iX 2=232:=by decide
 have es:aX iX=[]:=by unfold aX;rw[e0];rfl
 exact⟨⟨by unfold iX;rw[cV,eM],by omega,by omega,by rw[es];exact Fit.nil _⟩,by unfold bQ;rw[es];rfl,e0,e2⟩
theorem or8(a b:Nat)(ha:a<256)(hb:b<256):bits .or .i64 ((a:Int)*256) (b:Int)=((a*256+b:Nat):Int):=by
 rw[bits_join .i64 32 (by decide) (λn h0 h1=>IntWalk.i64_in n (by omega)) 8 _ _ (by omega) (by omega) (by omega) (by omega) (by omega) (by omega)];omega
theorem cm(s:ByteArray)(k:Nat)(h:k<s.size):s.data.toList.getD k 0=s[k]:=by
 have:k<s.data.toList.length:=by simpa using h
 simp[List.getD,aN this];rfl
theorem dL(s:ByteArray)(i:Int)(w:World)(h0:0<=i)(h:i+1<s.size)(hs:s.size<=1000000):
  Calls Tryz.prog 210 #[.string s,.int .i64 i] w λe w'=>e=.returned (.int .i64 (bl s.data.toList i.toNat:Nat))/\Below w.heap.size w w':=by
 obtain⟨k,rfl⟩:=dn h0;rw[eK];have hk:k<s.size:=by omega
 have h:k+1<s.size:=by omega
 have b0:=s[k].toNat_lt;have b1:=s[k+1].toNat_lt;have HV:=xh (show bits .or .i64 ((s[k].toNat:Int)*256) (s[k+1].toNat:Int)=((bl s.data.toList k:Nat):Int)from by
  rw[or8 _ _ (by omega) (by omega)];unfold bl;rw[cm _ _ hk,cm _ _ h])
 have e1:IntKind.i64.wrap ((k:Int)+1)=(k:Int)+1:=IntWalk.i64_in _ (by omega);have e2:(0:Int)<=(k:Int)+1:=by omega
 have e3:((k:Int)+1).toNat=k+1:=by omega
 have e7:(k:Int)+1<(s.size:Int):=by omega
 have e8:(k:Int)<(s.size:Int):=by omega
 have e4:IntKind.i64.wrap (s[k].toNat:Int)=(s[k].toNat:Int):=IntWalk.i64_in _ (by omega);have e5:IntKind.i64.wrap ((s[k].toNat:Int)*256)=(s[k].toNat:Int)*256:=IntWalk.i64_in _ (by omega);have e6:IntKind.i64.wrap (s[k+1].toNat:Int)=(s[k+1].toNat:Int):=IntWalk.i64_in _ (by omega);go_enter Tryz.func210,Tryz.ntmps210
 go_wp2
 go_quiet (fail);rw[HV.o]
 go_wp2
 go_ret;exact⟨rfl,cB (Below.refl _ _) _⟩
def sc(l:List Slot):List Value:=l.flatMap λx=>[.int .i64 (x.1:Int),.int .i64 (x.2:Int)]
theorem gv(l:List Slot):(sc l).length=2*l.length:=by
 induction l with
 |nil=>rfl
 |cons x l ih=>simp only[sc,ie]at ih ⊢;simp[ih];omega
theorem kq(l m:List Slot):sc (l++m)=sc l++sc m:=by simp[sc]
theorem Io(l:List Slot)(i:Nat)(hi:i<l.length):(sc l)[i*2]?=some (.int .i64 (l[i].1:Int))/\(sc l)[i*2+1]?=some (.int .i64 (l[i].2:Int)):=by
 induction l generalizing i with
 |nil=>simp at hi
 |cons x l ih=>
  have e:sc (x::l)= .int .i64 (x.1:Int):: .int .i64 (x.2:Int)::sc l:=rfl;rw[e]
  cases i with
  |zero=>exact⟨rfl,rfl⟩
  |succ i=>
   have:=ih i (by simpa using hi);rw[show(i+1)*2=i*2+1+1 by omega,show i*2+1+1+1=(i*2+1)+1+1 by omega];simpa using this
theorem Ip(l:List Slot):∀v∈sc l,v.oneCell'=true:=by
 intro v hv;simp only[sc,mQ]at hv;obtain⟨x,_,h⟩:=hv;simp at h
 rcases h with rfl|rfl<;>rfl
theorem pF:(Tryz.prog.info? 271).map (λi=>(i.zero,i.size,i.bytes))=some (some (.agg #[.int .i64 0,.int .i64 0]),2,16):=by kernel_rfl
theorem m9(b:List UInt8)(k:Nat)(h:k<bl b 0):(aX b).take (k+1)=(aX b).take k++[slot b k]:=by
 rw[iD (by rw[bR];exact h)];simp[aX]
attribute [local go_sem ↓] aW
theorem jE(s:ByteArray)(w:World)(h4:4+4*bl s.data.toList 0<=s.size)(hs:s.size<=1000000):
  Calls Tryz.prog 208 #[.string s] w λe w'=> ∃v,e=.returned v/\aQ w' 271 2 v (bl s.data.toList 0) (sc (aX s.data.toList))/\Below w.heap.size w w'/\(∀g∈ah v,w.heap.size<=g):=by
 have hn:=sH s.data.toList 0;have HL:=xh (bR s.data.toList);go_enter Tryz.func208,Tryz.ntmps208;go_wp2_with fail;refine(dL s 0 _ (by omega) (by omega) hs).mono ?_;rintro e w1 ⟨rfl,aL⟩;rw[show(0:Int).toNat=0 from rfl];have HS:=xh (show ∀k,k<bl s.data.toList 0->(aX s.data.toList).take (k+1)=(aX s.data.toList).take k++[slot s.data.toList k]from λk hk=>m9 _ k hk)
 have HE:=xh (show(aX s.data.toList).take (bl s.data.toList 0)=aX s.data.toList from bJ (by rw[bR];exact ak _));have HSl:=xh (show ∀k,slot s.data.toList k=(bl s.data.toList (4+4*k),bl s.data.toList (6+4*k))from λk=>rfl);generalize hgn:bl s.data.toList 0=n at *;have HN:=xh hgn;clear hgn;go_wp2_with fail
 go_loopw [3,4,5,8] (λv _ _ i wr=> ∃k:Nat,k<=n/\i=.int .i64 k/\aQ wr 271 2 v k (sc ((aX s.data.toList).take k))/\Below w.heap.size w wr/\Hid (∀g∈ah v,w.heap.size<=g)) (λ_ _ _ i _=>n-(intOf i).toNat)
 case atStart=>exact⟨0,bm _,rfl,by rw[gJ];exact aQ.nil _ _ _,aL,xh (by simp[ah])⟩
 case round=>
  obtain⟨k,hk,rfl,S,O,F⟩:=hrel;obtain⟨A,c,rfl⟩:=aq S
  by_cases h:k<n
  .have oN:=xh (HS.o k h);go_wp2_with fail;refine(dL s _ _ (by omega) (by omega) hs).mono ?_;rintro e w2 ⟨rfl,bK⟩;have S2:=xh (S.below bK);have O2:=xh (ao O bK);clear bK S O;go_wp2_with fail;refine(dL s _ _ (by omega) (by omega) hs).mono ?_;rintro e w3 ⟨rfl,dR⟩;have S3:=S2.o.below dR;have O3:=xh (ao O2.o dR);clear dR S2 O2;rw[show(4+4*(k:Int)).toNat=4+4*k by omega,show(4+4*(k:Int)+2).toNat=6+4*k by omega]
   obtain⟨i0,hi,jb,gW,iS⟩:=info_parts pF;obtain⟨v',w',ea,S',O',F'⟩:=cQ (P:=Tryz.prog) (S3.alloc (.cells #[.int .i64 (bl s.data.toList (4+4*k):Nat),.int .i64 (bl s.data.toList (6+4*k):Nat)] 271)) 266 266 i0 (.agg #[.int .i64 0,.int .i64 0]) 16 Tryz.underlying266 hi jb gW iS rfl (by omega)
    ⟨w3.heap.size,0,none⟩ 1 1 [.int .i64 (bl s.data.toList (4+4*k):Nat),.int .i64 (bl s.data.toList (6+4*k):Nat)] rfl (aZ (l:=[_,_]) (aD.new _ _ _) 0 _ (by simp)) (by intro u hu;simp at hu;rcases hu with rfl|rfl<;>rfl) (by unfold maxLen;omega) (by omega)
   have e1:sc ((aX s.data.toList).take k)++[.int .i64 (bl s.data.toList (4+4*k):Nat),.int .i64 (bl s.data.toList (6+4*k):Nat)]=sc ((aX s.data.toList).take (k+1)):=by
    rw[oN.o,kq,HSl.o];rfl
   rw[e1]at S';have EA:=ea;have F2:=xh (show ∀g∈ah v',w.heap.size<=g from λg hg=>(F' g hg).elim (F.o g) (λh=>au O3.o.size (by simp at h;omega)));have O2:=xh (O3.o.trans ((((ag.refl (ah (.slice A k c)) w3).alloc (.cells #[.int .i64 (bl s.data.toList (4+4*k):Nat),.int .i64 (bl s.data.toList (6+4*k):Nat)] 271)).trans O').aE O3.o.size F.o));have S2:=xh S';clear S3 F' O' S' e1 oN hi jb gW iS ea
   change dG _ _ _ _ _ _=_ at EA
   obtain⟨A2,c2,rfl⟩:=aq S2.o;go_wp2_with fail;go_roundw
   case rel=>exact⟨k+1,by omega,by go_num,S2.o,O2.o,F2⟩
   case measure=>simp[intOf];omega
  .have ub:k=n:=by omega
   have H2:=xh ub;have SS:=xh S;clear ub S;go_wp2_with fail;go_ret;refine⟨_,rfl,?_,O,F.o⟩;have:=SS.o
   cases H2.o
   rw[HE.o]at this;rw[HN.o];exact this
variable{w w':World}{e:TypeId}{g n cap:Nat}{l:List Value}{v:Value}{F:List UInt8}
theorem aQ.set1(S:aQ w e 1 (.slice (some ⟨g,0,none⟩) n cap) n l)(k:Nat)(hk:k<n)(x:Value):aQ (w.setCell ⟨g,k,none⟩ x) e 1 (.slice (some ⟨g,0,none⟩) n cap) n (l.set k x):=by
 have hl:l.length=n:=by have:=S.1;omega
 rcases S.2 with⟨h0,_⟩|⟨g',Ae,rest,hv,B,hc,hm⟩
 .cases h0
 .simp only[Value.slice.injEq,Option.some.injEq,Addr.mk.injEq,and_true,true_and]at hv;obtain⟨rfl,rfl⟩:=hv;refine⟨by simp[hl],.inr ⟨g,cap,rest,rfl,?_,by simpa using hc,hm⟩⟩;have:=B.bu k x;rw[nE,qQ _ _ (by omega)]at this;exact this
theorem aQ.cell(S:aQ w e 1 (.slice (some ⟨g,0,none⟩) n cap) n l)(k:Nat)(hk:k<n)(x:Value)(hx:l[k]?=some x):w.cell? ⟨g,k,none⟩=some x/\w.frozen? ⟨g,k,none⟩=false:=by
 have hl:l.length=n:=by have:=S.1;omega
 rcases S.2 with⟨h0,_⟩|⟨g',Ae,rest,hv,B,hc,hm⟩
 .cases h0
 .simp only[Value.slice.injEq,Option.some.injEq,Addr.mk.injEq,and_true,true_and]at hv;obtain⟨rfl,rfl⟩:=hv;exact⟨B.ab (by rw[cW,bx (by omega)];exact hx),B.frozen k (by simp;omega)⟩
def jR(w:World)(v:Value)(F:List UInt8):Prop:=aQ w 5 1 v F.length (cf F)
theorem jR.form(S:jR w v F)(h:0<F.length):∃g cap,v=.slice (some ⟨g,0,none⟩) F.length cap/\F.length<=cap:=by
 obtain⟨g,cap,rest,rfl,B,hc,_⟩:=aQ.form S h (by omega);exact⟨g,cap,rfl,hc⟩
theorem cM:(Tryz.prog.info? 5).map (λi=>(i.zero,i.size,i.bytes))=some (some (.int .u8 0),1,1):=by kernel_rfl
theorem fW(S:jR w v F)(i m:Int)(zD:0<=i)(hi:i+1<F.length)(hF:F.length<=1000000)(hm0:0<=m)(hm:m<65536):
  Calls Tryz.prog 206 #[v,.int .i64 i,.int .i64 m] w λe w'=>e=.returned (.tuple #[])/\jR w' v (jD F i.toNat m.toNat)/\ag (ah v) w w':=by
 obtain⟨k,rfl⟩:=dn zD;obtain⟨n,rfl⟩:=dn hm0;obtain⟨g,cap,rfl,pG⟩:=S.form (by omega);have c0:=(aQ.cell S k (by omega) (bv F[k]) (by rw[q8,aN (by omega)];rfl));have c1:=(aQ.cell S (k+1) (by omega) (bv F[k+1]) (by rw[q8,aN (by omega)];rfl));obtain⟨c0,z0⟩:=c0;obtain⟨c1,z1⟩:=c1
 have HS:=xh (aQ.set1 (aQ.set1 S k (by omega) (bv (UInt8.ofNat (n / 256)))) (k+1) (by omega) (bv (UInt8.ofNat n)));have HO:=xh (show ag [g] w ((w.setCell ⟨g,k,none⟩ (bv (UInt8.ofNat (n / 256)))).setCell ⟨g,k+1,none⟩ (bv (UInt8.ofNat n)))from((ag.refl _ _).setCell (by simp) _).setCell (by simp) _);clear S;generalize F[k]=x0 at *;generalize F[k+1]=x1 at *;unfold bv at c0 c1;go_enter Tryz.func206,Tryz.ntmps206
 go_wp2
 have e0:bv (UInt8.ofNat (n / 256))= .int .u8 ((n:Int) / 256):=by
  unfold bv
  congr 1
  rw[fV];omega
 have e1:bv (UInt8.ofNat n)= .int .u8 ((n:Int) % 256):=by
  unfold bv;rfl
 have el:((cf F).set k (bv (UInt8.ofNat (n / 256)))).set (k+1) (bv (UInt8.ofNat n))=cf (jD F k n):=by
  simp[cf,jD]
 have h1:=HS.o;have h2:=HO.o;rw[el]at h1;rw[e0,e1]at h1 h2;clear el e0 e1
 go_end0
 refine⟨rfl,?_,by simpa [ah]using h2⟩;rw[eK,eK];unfold jR;rw[cV];exact h1
theorem kH(n:Nat)(h1:n<=140737488355328)(w:World):
  (Instr.makeSlice 150 (.int .i64 n) (.int .i64 n)).run Tryz.prog w=.ok (.slice (some ⟨w.heap.size,0,none⟩) n n) (w.alloc (.cells (cf (List.replicate n 0)).toArray 5)):=by
 obtain⟨i0,hi,jb,gW,iS⟩:=info_parts cM;have h:=run_make (P:=Tryz.prog) w 150 5 i0 (.int .u8 0) Tryz.underlying150 hi jb .i64 .i64 n n (by omega) (gE _) (by rw[iS];omega) (by omega);rw[h,gW];have e:madeCells (Value.int .u8 0).cells (((n:Int).toNat)*1)=(cf (List.replicate n 0)).toArray:=by
  show madeCells #[Value.int .u8 0] (n*1)=_;rw[qX,eU];simp[cf,bv]
 rw[e];rfl
theorem jR.string(S:jR w v F)(h:0<F.length):(convert 150 9 v).run Tryz.prog w=.ok (.string ⟨F.toArray⟩) w:=by
 obtain⟨g,cap,rest,rfl,B,_,_⟩:=aQ.form S h (by omega);exact bs (P:=Tryz.prog) w 150 9 5 Tryz.underlying150 Tryz.underlying5 Tryz.underlying9 ⟨g,0,none⟩ F.length cap F rfl (aZ B 0 (cf F) (by
  intro j u hu;rw[bt,bx]
  .exact hu
  .exact(aR.1 hu).1))
theorem jR.only{S:List Nat}(B:jR w v F)(ho:ag S w w')(hd:∀g∈ah v,g∉S):jR w' v F:=aQ.only B ho hd
theorem jR.below(B:jR w v F)(ho:Below w.heap.size w w'):jR w' v F:=aQ.below B ho
theorem jR.new(w:World)(F:List UInt8)(h:F.length<=maxLen):jR (w.alloc (.cells (cf F).toArray 5)) (.slice (some ⟨w.heap.size,0,none⟩) F.length F.length) F:=
 ⟨by simp,.inr ⟨w.heap.size,F.length,[],rfl,by rw[jy];exact aD.new _ _ _,by simp,h⟩⟩
theorem l8(w:World):
  Calls Tryz.prog 163 #[] w λe w'=>e=.returned (.string ⟨iX.toArray⟩)/\Below w.heap.size w w':=by
 have hmk:Hid (∀w':World,(Instr.makeSlice 150 (.int .i64 232) (.int .i64 232)).run Tryz.prog w'= .ok (.slice (some ⟨w'.heap.size,0,none⟩) 232 232) (w'.alloc (.cells (cf (List.replicate 232 0)).toArray 5))):=xh (λw':World=>kH 232 (by omega) w');have B0:=xh (jR.new w (List.replicate 232 0) (by unfold maxLen;rw[eM];omega));have O0:=xh ((Below.refl w.heap.size w).alloc (ak _) (.cells (cf (List.replicate 232 0)).toArray 5))
 have hl:(List.replicate 232 (0:UInt8)).length=232:=eM;have e1:iX=jD (List.replicate 232 0) 2 232:=rfl;rw[e1];clear e1;generalize List.replicate 232 (0:UInt8)=Z at *;rw[hl]at B0;have HL:=xh hl;clear hl;have hm:=hmk.o;clear hmk;go_enter Tryz.func163,Tryz.ntmps163;go_wp2_with fail;generalize w.alloc (.cells (cf Z).toArray 5)=W at *;clear hm;refine(fW B0.o 2 232 (by omega) (by rw[HL.o];omega) (by rw[HL.o];omega) (by omega) (by omega)).mono ?_
 rintro e w1 ⟨rfl,B1,o1⟩;have KS:=xh (B1.string (by rw[cV,HL.o];omega));have O1:=xh (O0.o.trans (o1.aE O0.o.size (by simp[ah])));clear B1 o1;go_wp2_with fail;rw[KS.o];go_wp2_with fail;go_ret;exact⟨rfl,O1.o⟩
end Go.Proofs.YtmonobkginiajaaGreat.Sl
