/- packed. -/
import Derived.Test.YtmonobkginiajaaGreatCs16
set_option linter.all false
set_option maxRecDepth 100000
set_option maxHeartbeats 8000000
namespace Go.Proofs.YtmonobkginiajaaGreat
open Go.Proofs.Tryz
open Value renaming slice→U3
open Ending renaming returned→fd
open IntKind renaming i64→U6
open Go renaming Value→By
open And renaming intro→rx
namespace Sh.Cn
open Go.RowKit Pk Dk Pg
def LV(w0 wr:World)(wb n pg:Nat)(I:Ix)(i:Nat):Prop:= ∃tb mb F vl vo q l o,TW wr wb tb mb I F vl vo q n (50+40000000*i) l o/\LU q n l o pg i/\i7 w0 wr/\∀g∈wb::mb::tb::F,w0.heap.size<=g
def LD(w0 wr:World)(wb n:Nat)(I:Ix)(i:Nat)(was nx:By)(dn:Bool):Prop:= ∃d v1 v2 v3 v4 m1 m2,aM wr wb 38 #[dp I.L.b,v1,v2,v3,v4]/\aX wr I.L n d/\d.down=dn/\FM n d (50+40000000*i) i m1 m2/\
 bm wr 42 2 was m1.length (kL m1)/\bm wr 42 2 nx m2.length (kL m2)/\m1.length<=1000000/\m2.length<=1000000/\d.calls<=40*(50+40000000*i)/\i7 w0 wr/\∀g∈wb::I.L.fp,w0.heap.size<=g
section
variable{w0 wr w':World}{wb tb mb n pg i:Nat}{I:Ix}{F:List Nat}{vl vo was nx:By}{q:QS}{l o:List PR}{K k mm:Nat}{dn:Bool}
def LV.below(h:LV w0 wr wb n pg I i)(hb:i7 wr w'):LV w0 w' wb n pg I i:=by
 obtain⟨tb,mb,F,vl,vo,q,l,o,T,hi,b,f⟩:=h;exact⟨tb,mb,F,vl,vo,q,l,o,T.below hb,hi,aE b hb,f⟩
def LV.succ(h:LV w0 wr wb n pg I i):LV w0 wr wb n pg I (i+1):=by
 obtain⟨tb,mb,F,vl,vo,q,l,o,T,hi,b,f⟩:=h;exact⟨tb,mb,F,vl,vo,q,l,o,T.le ls,hi.le ls,b,f⟩
def LV.b(h:LV w0 wr wb n pg I i):i7 w0 wr:=by
 obtain⟨tb,mb,F,vl,vo,q,l,o,T,hi,b,f⟩:=h;exact b
def LD.b(h:LD w0 wr wb n I i was nx dn):i7 w0 wr:=by
 obtain⟨d,v1,v2,v3,v4,m1,m2,_,_,_,_,_,_,_,_,_,b,_⟩:=h;exact b
def PQ.Gj(h:PQ wr I F q n K):aX wr I.L n q.a.c.d/\q.a.c.d.calls<=40*K/\q.a.c.ep<=K/\∀g∈I.L.fp,g∈F:=by
 obtain⟨y,e1,e2,e3,rfl,⟨c,A,z⟩,W⟩:=h;have hc:q.a.c=c:=by rw[z.e]
 rw[hc,<-e3];exact⟨A.hs.hd,z.bc,z.be,λg hg=>by simp[Y.fp,X.fp,hg]⟩
def ld_up(T:TW wr wb tb mb I F vl vo q n (50+40000000*i) l o)(u:LU q n l o pg i)(hi:i<=1000)(b:i7 w0 wr)(f:∀g∈wb::mb::tb::F,w0.heap.size<=g):LD w0 wr wb n I i vo vo false:=by
 obtain⟨D,c1,c2,c3⟩:=T.t.2.Gj;obtain⟨a1,a2,a3⟩:=u.fm c2;exact⟨_,_,_,_,_,o,o,T.b,D,a1,a3,T.s,T.s,T.no,T.no,c1,b,λg hg=>(ax.1 hg).elim (λe=>f g (by simp[e])) (λh=>f g (by simp[c3 g h]))⟩
def lv_do(T:TW wr wb tb mb I F vl vo q n (50+40000000*i) l o)(u:LU q n l o pg i)(hi:i<100)(b:i7 w0 wr)(f:∀g∈wb::mb::tb::F,w0.heap.size<=g)(kd nn:Int)(key til val:Nm)(hs:key.size<200/\til.size<200/\val.size<3000)(h12:kd≠12):
  Calls prog 15 #[lc wb,.agg #[kd,nn,.string key,.string til,.string val]] wr λe w'=> ∃β,e=fd (.bool β)/\(LV w0 w' wb n pg I (i+1)\/LD w0 w' wb n I (i+1) vo (if kd=11 then vl else vo) true):=by
 go_call (live_do T u hi ls kd nn key til val ls ls h12) as e w' ⟨β,r,D⟩;refine⟨β,r,?_⟩;have b':∀ho:ah (wb::mb::F) wr w',i7 w0 w':=λho=>b.trans (ho.bI b.size (λx hx=>f x (by simp only[ax]at hx ⊢;rcases hx with h|h|h<;>simp[h])))
 rcases D with⟨tr,AN,F',WJ,vo',q',l',o',T',u',ho,fr⟩|⟨F',q',v2,v3,v4,P,⟨g1,g2,g3,g4⟩,B,ho,fr⟩
 .refine .inl ⟨tr,AN,F',WJ,vo',q',l',o',T'.le ls,u',b' ho,λg hg=>?_⟩
  rcases ax.1 hg with h|h
  .exact f g (by simp[h])
  .exact(fr g h).elim (λh=>f g (aH _ h)) (λh=>aD b.size h)
 .obtain⟨D,c1,c2,c3⟩:=P.Gj;have hso:∀{v:By} {m:Nat} {L:List By},bm wr 42 2 v m L->bm w' 42 2 v m L:=λS=>S.only ho (λg hg hm=>by
   simp only[ax]at hm
   rcases hm with hm|hm|hm
   .exact qa S T.b ms g hg hm
   .exact qa S T.m.b ms g hg hm
   .exact T.t.2.Fx S g hg hm)
  have Kr:=u;obtain⟨_,_,_,_,t⟩:=Kr;have hl:=t.sorted.2;have key:∀{nv:By} {m2:List PR},FM n q'.a.c.d (50+40000000*i+40000000) (i+1) o m2->bm w' 42 2 nv m2.length (kL m2)->m2.length<=1000000->LD w0 w' wb n I (i+1) vo nv true:=λhf S hm=>
   ⟨_,_,_,_,_,o,_,B,D,g2,hf.le ls (ai _),hso T.s,S,T.no,hm,ls,b' ho,λg hg=>(ax.1 hg).elim (λe=>f g (by simp[e])) (λh=>by
    have hg:=c3 g h;exact(fr g hg).elim (λh=>f g (aH _ h)) (λh=>aD b.size h))⟩
  right
  by_cases Cm:kd=11
  .rw[U8 Cm]at g4 ⊢;exact key g4 (hso T.m.s) ls
  .rw[U9 Cm]at g4 ⊢;exact key g4 (hso T.s) T.no
def Un(h:LV w0 wr wb n pg I i):Calls prog 30 #[dp I.L.b] wr λe w'=>e=fd (.bool false)/\wr=w':=by
 obtain⟨tb,mb,F,vl,vo,q,l,o,T,u,b,f⟩:=h;obtain⟨D,c1,c2,c3⟩:=T.t.2.Gj;have K:=Lc D;rw[(u.fm c2).1]at K;exact K
def Uo(h:LD w0 wr wb n I i was nx dn):Calls prog 30 #[dp I.L.b] wr λe w'=>e=fd (.bool dn)/\wr=w':=by
 obtain⟨d,v1,v2,v3,v4,m1,m2,B,D,e,_⟩:=h;have K:=Lc D;rw[e]at K;exact K
def lv_arm(h:LV w0 wr wb n pg I i)(β:Int)(h1:1<=β)(h2:β<=1000):Calls prog 31 #[dp I.L.b,.int U6 β] wr λe w'=> ∃z,e=fd z/\LV w0 w' wb n pg I i:=by
 obtain⟨tb,mb,F,vl,vo,q,l,o,T,u,b,f⟩:=h;obtain⟨D,c1,c2,c3⟩:=T.t.2.Gj;go_call (arm_any D β) as e w' ⟨r,D',ho⟩;refine⟨_,r,?_⟩;obtain⟨b0,s,uq,hb,t⟩:=u;obtain⟨c,α,K1,ea,h0,hA,z,_,_,_,_,_,tw⟩:=uq.a;have hqc:q.a.c=c.aq α:=by rw[ea]
 have ed:(q.a.c.d.A0 β).1=(c.aq β).d:=by
  rw[hqc];unfold Dk.D.A0;rw[show(c.aq α).d.down=false from z.g.up,U9 ms,ge];show _=({c.d with aq:=β}:Dk.D);rw[<-z.g.up];rfl
 rw[ed]at D';have hoF:ah F wr w':=ho.mono (λx hx _=>c3 x hx);have hP:=T.t.2;obtain⟨y,e1,e2,e3,e4,⟨c0,A,zc⟩,W⟩:=hP;have Oz:c0=c.aq α:=by
  have:=zc.e;rw[ea]at this;injection this with this
  exact this.symm
 subst Oz;have zc':Zc (c.aq β) n ⟨c.aq β,n⟩ (50+40000000*i):=⟨rfl,zc.ep,zc.ml,zc.tb,zc.ob,zc.ol,by show β<=_;omega,zc.bc,zc.be⟩;have W':Wp {q with a:=⟨c.aq β,n⟩} n (50+40000000*i):=⟨⟨⟨_,zc'⟩,W.H.f,W.H.l1,W.H.l2,W.H.lh,by have:=W.H.nl;rw[ea]at this;exact this⟩,W.N,W.fl⟩;have A':ju w' y n (({q with a:=⟨c.aq β,n⟩}:QS).ps (c.aq β)):=by
  rw[<-e3]at D' ho;have hL:∀g∈y.x.L.fp,g∈y.x.fp:=λg hg=>by simp[X.fp,hg]
  exact⟨A.hp.only ho (λhm=>A.n1 (hL _ hm)),A.hf.only ho (λg hg hm=>A.n2 (by simp only[ak,aG]at hg;rw[<-hg];exact hL _ hm)),A.hs.Gj D' ho,A.n1,A.n2,A.l1,A.l2,A.lh⟩
 have P':PQ w' I F {q with a:=⟨c.aq β,n⟩} n (50+40000000*i):=⟨y,e1,e2,e3,e4,⟨_,A',zc'⟩,W'⟩;refine⟨tb,mb,F,vl,vo,_,l,o,T.next hoF P',⟨c.aq β,s,⟨⟨c,β,K1,rfl,ls,dG _,z,rfl,rfl,rfl,rfl,λ_ _ _=>⟨rfl,id⟩,λ_=>tw hb⟩,uq.l,uq.h⟩,z.g.br,t⟩,b.trans (hoF.bI b.size (λx hx=>f x (by simp[hx]))),f⟩
end
def Ot(C:Cr)(d:D)(n:Nat):(d.kt C n).calls=d.calls:=pB C d n
def reopen{c:C}{n k K:Nat}{o:List (Option (UV))}{ep:Int}{M:List PR}(g:Sh.Good c n)(R:fD c.d n c.ep c.slot c.aR c.parts)(Q6:c.bU n={many:=cN n,now:=jy o,aR:=o,ep:=ep})(hC:CM o M k)(hk:k<=1000)(ht:c.table.length<=512)(hc:c.d.calls<=40*K)(he:c.ep<=K):
  (oA c n 3).dJ.2=0/\((oA c n 3).dJ.1.dL ⟨#[]⟩ ⟨#[]⟩ 1099511627776).2=(M,0):=by
 have U:=Oe (fr:=3) g R true (λh=>eq h ms);have H:=Of (fr:=3) (K:=K) g R ls ls ht hc he;have W:=fresh_wp H;obtain⟨v,Tl,ho⟩:=hC;have ho':(jt c n 3).a.aR=o:=by show(c.bU n).aR=o;rw[Q6]
 have R0:Rd (jt c n 3) (jt c n 3).vw v ((jt c n 3).a.now.length+(jt c n 3).a.kept) 0:=⟨⟨n,K,W⟩,λ_=>rfl,ho _ ho',ai _,bG _⟩;have BH:=Tl;obtain⟨H',M',T,e,hH,hp,hl⟩:=Tl;have hs:(jt c n 3).bt=jt c n 3:=by
  unfold Sh.QS.bt jt;rw[Q6];rfl
 obtain⟨u',R1,x1⟩:=E9 R0 T;obtain⟨u2,R2⟩:=R0.abort;have h0:(v 0).2=0:=T.AK 0 (by rw[oX];simp);have hpg:=Nj R2.w (j:=0) (by rw[R2.v];exact h0);have Bg:=open_cln (W8 (jt c n 3)) hpg;rw[hs]at R1 x1 Bg;have t:TI (jt c n 3).dJ.1 M M 0 k:=⟨v,v,u',R1,BH,BH⟩;obtain⟨U1,y1⟩:=U.dJ.up0 g.arm;obtain⟨_,y2⟩:=(U1.dL ⟨#[]⟩ ⟨#[]⟩ 1099511627776).up0 g.arm;refine⟨y1.trans x1,y2.trans ?_⟩
 exact(t.wholeM ls).2.resolve_left (scan_cln Bg ⟨#[]⟩ ⟨#[]⟩ 1099511627776).2
def Sw(w:World):Calls prog 12 #[.int U6 4,.int U6 200] w λe w'=> ∃wb I,e=fd (lc wb)/\LV w w' wb 802 200 I 0:=by
 refine(FK w 4 200 ls ls ls ls).mono λe w' ⟨wb,tb,mb,I,F,q,r,B,M,T,⟨b0,u,br,_⟩,R,b,f⟩=>⟨wb,I,r,tb,mb,F,U3 none 0 0,U3 none 0 0,q,[],[],⟨B,⟨M,bm.nil _ _ _,lw⟩,bm.nil _ _ _,T,lw⟩,⟨b0,_,u,br,TI.start R T9⟩,b,λg hg=>f g ?_⟩;simp only[ax]at hg ⊢
 rcases hg with h|h|h|h<;>simp[h]
def Bj(arm:Nat)(ha:arm<256){w:World}(A:Option Addr)(m cc:Nat)(F:Nat->Tac)(hm:m<=9223372036854775807)(hA:FQ w A m F)(cr:Cr)(hC:cr.At w)(rS:cr.m<=9223372036854775807):
  Calls prog 7 #[U3 A m cc,.int .u8 (arm:Nat),.agg #[U3 cr.A cr.m cr.c,cr.uO,cr.bytes]] w λe w'=>e=fd (.bool true)/\i7 w w':=by
 obtain⟨qb,hqb⟩:∃q,w.heap.size=q:=⟨_,rfl⟩;have B1:=aM.new w 67 #[U3 cr.A cr.m cr.c,cr.uO,cr.bytes];have b1:=i6 w (.cells #[U3 cr.A cr.m cr.c,cr.uO,cr.bytes] 67);obtain⟨w1,Gv⟩:∃w1,w.alloc (.cells #[U3 cr.A cr.m cr.c,cr.uO,cr.bytes] 67)=w1:=⟨_,rfl⟩;rw[Gv,hqb]at B1;rw[Gv]at b1;have HQ1:=xh B1
 have HC1:=xh (λ(W:World) (hW:i7 w1 W)=>hC.below (aE b1 hW));have HA:=xh (λ(W:World) (hW:i7 w1 W)=>hA.below (aE b1 hW));have Jr:=xh b1;have KB:=xh<|Sw w1;have KA:=xh Oq;have KS:=xh Oo;obtain⟨r,hr⟩:∃r:Nat,arm % 40=r:=⟨_,rfl⟩;obtain⟨be,hbe⟩:∃be:Nat,arm / 40+1=be:=⟨_,rfl⟩;have hrI:(arm:Int) % 40=(r:Int):=ls
 have e1:IntKind.u8.wrap (r:Int)=(r:Int):=IntWalk.u8_in _ ls;have e2:U6.wrap (r:Int)=(r:Int):=d9;have e3:U6.wrap (arm:Int)=(arm:Int):=d9;have e6:U6.wrap ((arm:Int) / 40)=((arm:Int) / 40):=d9;have e4:U6.wrap (((arm:Int) / 40)+1)=(be:Int):=by rw[show(arm:Int) / 40+1=(be:Int) by omega];exact d9
 have hβ:=g9 (1<=(be:Int)/\(be:Int)<=1000) ⟨ls,ls⟩;clear hr hbe hA hC b1 B1;go_in;go_wp2_with fail;clear Gv hqb;go_call KB.o as e w3 ⟨wb,I,rfl,P3⟩;have P3:=xh P3;go_wp2_with fail;go_call (KA.o w3) as e w4 ⟨rfl,iZ⟩;have P4:=xh<|P3.o.below iZ;have hP4:=P4.o;obtain⟨tb0,mb0,F0,vl0,vo0,q0,l0,o0,T0,_⟩:=hP4;have x4:=T0.cells.2.2.2;clear iZ T0 P3 KB KA;go_wp2_with fail
 refine kw (λW=>W.cell? ⟨wb,4,none⟩=some (vo0)) (x4) (λaC=>?_);refine dj [(0,26),(1,27),(2,28),(3,29),(4,30),(5,31),(6,32),(7,33),(8,8),(9,9)] ?_
 iterate 10 refine bJ ?_
 refine jp ?_ _;have P4:=xh<|P4.o.below (Below.refl _ _).drew;clear x4
 go_upto_region 5 with(fail)
 iterate 7 (first|go_values|go_skip|go_guarded|go_step|go_upon|go_back)
 go_cut [8,9,10]from 34 to 107 (λs8 s9 s10 wx=> ∃a8 a9 a10,a8=s8/\a9=s9/\a10=s10/\Hid (∃i:Nat,i<=50/\(LV w1 wx wb 802 200 I i\/LD w1 wx wb 802 I i a8 a9 true)))
 case first=>
  go_wp2_with fail
  go_loopw [8,9,10] (λs8 s9 iv wr=> ∃(i:Nat) (a8 a9:By),i<=50/\s8=a8/\s9=a9/\iv=.int U6 i/\Hid (LV w1 wr wb 802 200 I i\/LD w1 wr wb 802 I i a8 a9 true)) (λ_ _ iv _=>50-(intOf iv).toNat)
  case atStart=>exact⟨0,_,_,bG _,rfl,rfl,rfl,xh (.inl P4.o)⟩
  case round=>
   obtain⟨i,a8,a9,hi,rfl,rfl,rfl,HP⟩:=hrel
   by_cases h1:i<m
   .have h1I:(i:Int)<(m:Int):=ls
    by_cases h2:i<50
    .have h2I:(i:Int)<50:=ls
     rcases HP.o with HL|HG
     .have H:=xh HL;have KD:=xh<|Un HL;have ei:U6.wrap ((i:Int)+1)=((i+1:Nat):Int):=d9;have HC:=g9 (∀W,i7 w1 W->∃ad,A=some ad/\On W (ad.add (i*5)) (F i)) (λW hb=>HA.o W hb i h1);obtain⟨ad,hAd,_⟩:=HC.o wr H.o.b;subst hAd;have HC:=xh (show ∀W,i7 w1 W->On W (ad.add (i*5)) (F i)from λW hb=>by
       obtain⟨ad',e,h⟩:=HC.o W hb;injection e with e
       rw[e];exact h)
      generalize F i=sa at HC;obtain⟨kd,nn,key,til,val⟩:=sa;obtain⟨bb,Bd⟩:∃bb,decide (key.size<200/\til.size<200/\val.size<3000)=bb:=⟨_,rfl⟩;have KS2:=xh (λ(W:World)=>KS.o kd nn key til val W bb Bd.symm);have HBB:=xh Bd;clear Bd;obtain⟨tb,mb,Fz,vl,vo,q,l,o,T,_⟩:=HL;have x0:=T.b.bi 0;clear T HP;unfold dp at KD x0;go_wp2_with fail;go_call KD.o as e _ ⟨rfl,rfl⟩
      go_upto_if 56 with(fail)
      go_cut []from 52 to 66 (λwx=>Hid (LV w1 wx wb 802 200 I i))
      case first=>
       by_cases hia:i=r
       .obtain rfl:i=r:=hia;have KM:=xh<|lv_arm H.o _ hβ.o.1 hβ.o.2;unfold dp at KM;go_wp2_with fail;go_call KM.o as e wa ⟨z,rfl,ha⟩;have Ha:=xh ha;clear ha;go_wp2;go_meet;exact Ha
       .have Xc:((i:Int)==(r:Int))=false:=by rw[beq_eq_false_iff_ne];omega
        clear hia;go_wp2;go_meet;exact H
      case rest=>
       have H:=xh hcut.o;clear hcut x0 KD;obtain⟨c0,c1,c2,c3,c4⟩:=HC.o _ H.o.b;dsimp only at c0 c1 c2 c3 c4;go_wp2_with fail;go_call (KS2.o _) as e w5 ⟨rfl,oQ⟩;have H:=xh<|H.o.below oQ;obtain⟨c0',c1',c2',c3',c4'⟩:=HC.o _ H.o.b;dsimp only at c0' c1' c2' c3' c4';clear oQ c0 c1 c2 c3 c4
       cases bb
       .have H:=xh H.o.succ;go_wp2;go_roundw
        case rel=>exact⟨i+1,_,_,ls,rfl,rfl,by go_num,xh (.inl H.o)⟩
        case measure=>simp[intOf];omega
       by_cases h12:kd=12
       .subst h12;have H:=xh H.o.succ;go_wp2;go_roundw
        case rel=>exact⟨i+1,_,_,ls,rfl,rfl,by go_num,xh (.inl H.o)⟩
        case measure=>simp[intOf];omega
       have h12b:(kd==12)=false:=i4 h12
       have HV:=H.o;obtain⟨tb,mb,Fz,vl,vo,q,l,o,T,u,b,f⟩:=HV;have x4:=T.cells.2.2.2;have TB:=xh<|rx T.drew (rx u (rx (aE b (Below.refl _ _).drew) f));have fy:=xh h12;clear T u b f h12;go_wp2;refine kw (λW=>W.cell? ⟨wb,4,none⟩=some (vo)) (x4) (λaC=>?_);refine dj [(0,80),(1,81),(2,82),(3,83),(4,84),(5,85),(6,86),(7,87),(8,8),(9,9)] ?_
       iterate 10 refine bJ ?_
       refine jp ?_ _;obtain⟨c0,c1,c2,c3,c4⟩:=HC.o _ TB.o.2.2.1;dsimp only at c0 c1 c2 c3 c4;have x3:=TB.o.1.cells.2.2.1;have x30:=TB.o.1.m.b.bi 0;have KD:=xh<|lv_do TB.o.1 TB.o.2.1 ls TB.o.2.2.1 TB.o.2.2.2 kd nn key til val (of_decide_eq_true HBB.o) fy.o;clear x4 c0' c1' c2' c3' c4'
       by_cases Cm:kd=11
       .subst Cm;rw[U8 rfl]at KD;go_wp2_with fail;go_call KD.o as e w6 ⟨β,rfl,R6⟩;have R6:=xh R6;clear c0 c1 c2 c3 c4 x3 x30;go_wp2;go_roundw
        case rel=>exact⟨i+1,_,_,ls,rfl,rfl,by go_num,R6⟩
        case measure=>simp[intOf];omega
       .have h11b:(kd==11)=false:=i4 Cm
        rw[U9 Cm]at KD;go_wp2_with fail;go_call KD.o as e w6 ⟨β,rfl,R6⟩;have R6:=xh R6;clear c0 c1 c2 c3 c4 x3 x30;go_wp2;go_roundw
        case rel=>exact⟨i+1,_,_,ls,rfl,rfl,by go_num,R6⟩
        case measure=>simp[intOf];omega
     .have KD:=xh<|Uo HG;have hG:=HG;obtain⟨d,v1,v2,v3,v4,m1,m2,B,_⟩:=hG;have x0:=B.bi 0;have HG:=xh HG;clear B HP;unfold dp at KD x0;go_wp2_with fail;go_call KD.o as e _ ⟨rfl,rfl⟩;go_wp2;go_meet;exact⟨_,_,_,rfl,rfl,rfl,xh ⟨i,hi,.inr HG.o⟩⟩
    .have h2I:¬(i:Int)<50:=ls
     go_wp2;go_meet;exact⟨_,_,_,rfl,rfl,rfl,xh ⟨i,hi,HP.o⟩⟩
   .have h1I:¬(i:Int)<(m:Int):=ls
    go_wp2;go_meet;exact⟨_,_,_,rfl,rfl,rfl,xh ⟨i,hi,HP.o⟩⟩
 case rest=>
  obtain⟨a8,a9,a10,rfl,rfl,rfl,HZ⟩:=hcut;obtain⟨i,hi,HX⟩:=HZ.o;have HDN:∃dn,Calls prog 30 #[dp I.L.b] wc (λe w'=>e=fd (.bool dn)/\wc=w')/\((dn=false/\LV w1 wc wb 802 200 I i)\/(dn=true/\LD w1 wc wb 802 I i a8 a9 true))/\wc.cell? (lc wb)=some (dp I.L.b):=by
   rcases HX with h|h
   .have h':=h;obtain⟨tb,mb,Fz,vl,vo,q,l,o,T,_⟩:=h';exact⟨false,Un h,.inl ⟨rfl,h⟩,T.b.bi 0⟩
   .have h':=h;obtain⟨d,v1,v2,v3,v4,m1,m2,B,_⟩:=h';exact⟨true,Uo h,.inr ⟨rfl,h⟩,B.bi 0⟩
  obtain⟨dn,KD,HS,x0⟩:=HDN;have KD:=xh KD;have HS:=xh HS;clear HX HZ P4;unfold dp at KD x0;go_wp2_with fail;go_call KD.o as e _ ⟨rfl,rfl⟩
  go_upto_if 112 with(fail)
  go_cut [8,9]from 106 to 121 (λs8 s9 wx=> ∃a8 a9,a8=s8/\a9=s9/\Hid (∃dn,LD w1 wx wb 802 I i a8 a9 dn))
  case first=>
   rcases HS.o with⟨rfl,h⟩|⟨rfl,h⟩
   .obtain⟨tb,mb,Fz,vl,vo,q,l,o,T,u,b,f⟩:=h;have x4:=T.cells.2.2.2;have HL:=xh<|ld_up T.drew u ls (aE b (Below.refl _ _).drew) f;clear T u b f;go_wp2;refine kw (λW=>W.cell? ⟨wb,4,none⟩=some (vo)) (x4) (λaC=>?_);refine dj [(0,113),(1,114),(2,115),(3,116),(4,117),(5,118),(6,119),(7,120),(8,8),(9,9)] ?_
    iterate 10 refine bJ ?_
    refine jp ?_ _;go_wp2;go_meet;exact⟨_,_,rfl,rfl,xh ⟨_,HL.o⟩⟩
   .have HL:=xh h;clear h;go_wp2;go_meet;exact⟨_,_,rfl,rfl,xh ⟨_,HL.o⟩⟩
  case rest=>
   obtain⟨a8,a9,rfl,rfl,HZ⟩:=hcut;obtain⟨dn,d,v1,v2,v3,v4,m1,m2,B,D,_,fm,S1,S2,l1,l2,hc,b,f⟩:=HZ.o;obtain⟨o,M,⟨ep,sl,parts,aR,vz,OD⟩,hCM,hM⟩:=fm cr;obtain⟨A1,k1,rfl⟩:=aI S1;obtain⟨A2,k2,rfl⟩:=aI S2;have Q:=HQ1.o.below b HQ1.o.lt;have Uq:∀g t cs,aM wc g t cs->t≠149->t≠152->t≠4->g∉I.L.fp:=λg t cs B h1 h2 h3 hm=>by
    simp only[Dk.Loc.fp,ax,iD,or_false]at hm
    rcases hm with rfl|rfl|rfl|rfl
    .exact h1 (B.inj D.hb).1
    .exact h2 (B.inj D.hN).1
    .exact h2 (B.inj D.hO).1
    .exact h3 (B.inj D.hL).1
   have hsd:∀{v:By} {k:Nat} {L:List By},bm wc 42 2 v k L->∀g∈ak v,g∉I.L.fp:=λS g hg=>by
    rcases S.2 with⟨rfl,_⟩|⟨g',cap,rest,rfl,B,_⟩
    .simp[ak]at hg
    .simp only[ak,aG]at hg;subst hg;exact Uq g _ _ B ms ms ms
   have hwb:=Uq wb _ _ B ms ms ms;have hqn:=Uq qb _ _ Q ms ms ms;have KC:=xh<|Xa D.drew cr (HC1.o _ (aE b (Below.refl _ _).drew)) rS (λad e h0 hL=>by
    obtain⟨ad',e',Bg⟩:=HC1.o wc b 0 h0;rw[e]at e';injection e' with e'
    subst e';have:=f _ (aH _ hL);obtain⟨ad'',e'',hcl2⟩:=HC1.o w1 (Below.refl _ _) 0 h0;rw[e]at e'';injection e'' with e''
    subst e'';have:=wK hcl2;omega)
   have x0:=B.bi 0;have y0:=Q.bi 0;have y1:=Q.bi 1;have y2:=Q.bi 2;have KO:=xh (λ(W:World) (hD:aX W I.L 802 (d.kt cr 802))=>open_any hD rfl ls);have HD:=xh<|rx D (rx B Q);have ru:=xh<|rx S1 (rx S2 (rx l1 l2));have HOD:=xh<|rx OD (rx hCM hM);have HB:=xh<|rx b (rx f hc);have HN:=xh<|rx hwb (rx hqn vz)
   have HSD:=xh (λ(v:By) (k:Nat) (L:List By) (S:bm wc 42 2 v k L)=>hsd S);clear D B Q S1 S2 l1 l2 OD hCM hM b f hc hwb hqn vz Uq hsd fm HZ HS KD;unfold dp at x0 KC KO;unfold Cr.val at KC;go_wp2_with fail
   refine kw (λW=>W.cell? (lc wb)=some (lc I.L.b:li)/\W.cell? (lc qb)=some (U3 cr.A cr.m cr.c)/\W.cell? ⟨qb,1,none⟩=some (cr.uO:li)/\W.cell? ⟨qb,2,none⟩=some (cr.bytes:li)) (⟨x0,y0,y1,y2⟩) (λaC=>?_);refine dj [(0,121),(1,122),(2,123),(3,124),(4,125)] ?_
   iterate 5 refine bJ ?_
   refine dV 5 126 λK hK=>?_;go_simp
   go_at_call 32
   go_call KC.o as e w5 ⟨rfl,d5,o5⟩;have D5:=xh d5;have O5:=xh o5;clear d5 o5;go_simp;refine cq hK (⟨(HD.o.2.1.drew.only O5.o HN.o.1).ae (i:=0) rfl,(HD.o.2.2.drew.only O5.o HN.o.2.1).ae (i:=0) rfl,(HD.o.2.2.drew.only O5.o HN.o.2.1).ae (i:=1) rfl,(HD.o.2.2.drew.only O5.o HN.o.2.1).ae (i:=2) rfl⟩) (λaC=>?_);refine jp ?_ _;have B5:=HD.o.2.1.drew.only O5.o HN.o.1;clear x0 y0 y1 y2
   have x0:=B5.bi 0;unfold dp at x0;clear B5;go_wp2_with fail;go_call (KO.o _ D5.o) as e w6 hr;obtain⟨x1,c1,hl,rfl,A1x,f1,o6,g1,R1,rE,hep1,Q6⟩:=WX HOD.o.1 rfl rfl (HD.o.1.ok.GG cr) (by have:=HN.o.2.2;omega) hr;have hto:c1.table.length<=512/\c1.aR.length<=512:=by
    have h1:=congrArg (λa=>a.now.length) Q6;have h2:=congrArg (λa=>a.aR.length) Q6;have h3:=R1.ro.2.2.2.1;simp only[C.bU,eZ,Ak]at h1 h2;omega
   have hcal:c1.d.calls<=40*((50+40000000*i:Nat):Int):=by rw[rE,Ot];have:=HB.o.2.2;omega
   have hepc:c1.ep<=((50+40000000*i:Nat):Int):=by rw[hep1];exact HN.o.2.2
   have RE:=reopen g1 R1 Q6 HOD.o.2.1 ls hto.1 hcal hepc;have KP:=xh<|Lv (w:=w6) x1.b 3 ls ls;have H6:=xh<|rx A1x (rx f1 o6);have HG:=xh<|rx g1 (rx hto (rx hcal hepc));have RE:=xh RE;have pD:=xh hl;clear A1x f1 o6 g1 R1 rE hep1 Q6 hto hcal hepc hl hr x0;unfold sp at KP;unfold sp;go_wp2_with fail;go_call KP.o as e w7 ⟨pb,v7,rfl,B7,S7,oC,hp7,hf7⟩
   obtain⟨F7,P7,f7⟩   :=Oc (K:=50+40000000*i) (H6.o.1.below oC) B7 S7 (λhF=>by have:=H6.o.1.lt _ hF;omega) (λg hg hF=>by have:=H6.o.1.lt _ hF;have:=hf7 g hg;omega) ls ls HG.o.1 HG.o.2.1.2 HG.o.2.1.1 HG.o.2.2.1 HG.o.2.2.2;have KO7:=uL P7 ls;rw[RE.o.1]at KO7;have KO7:=xh KO7;have H7:=xh<|rx P7 (rx f7 (rx oC (rx hp7 hf7)));clear B7 S7 oC hp7 hf7 P7 f7;unfold pp at KO7;go_wp2_with fail
   go_call KO7.o as e w8 ⟨v8,rfl,F8,o8,f8,P8,_,z5⟩;obtain⟨tb8,rfl,_,T8⟩:=z5 rfl;have KSc:=zQ T8 ls ⟨#[]⟩ ⟨#[]⟩ 1099511627776;have re2:=RE.o.2;obtain⟨RR,cA⟩:∃RR,(oA c1 802 3).dJ.1.dL ⟨#[]⟩ ⟨#[]⟩ 1099511627776=RR:=⟨_,rfl⟩;rw[cA]at KSc re2;rw[re2]at KSc;have KSc:=xh KSc;have H8:=xh<|rx o8 (rx f8 P8);clear o8 f8 P8 z5 T8 cA re2;unfold tp at KSc;unfold tp;go_wp2_with fail;go_call KSc.o as e w9 ⟨v9,rfl,S9,P9,o9,f9⟩
   obtain⟨A9,k9,rfl⟩:=aI S9;have hsz5:=O5.o.size;have hsz6:=H6.o.2.2.size;have hsz7:=H7.o.2.2.1.size;have hsz8:=H8.o.1.size;have hszc:=HB.o.1.size;have hszd:wc.drew.heap.size=wc.heap.size:=rfl;have fF7:∀g∈F7,w1.heap.size<=g:=λg hg=>by
    rcases H7.o.2.1 g hg with h|h|h
    .have:=H7.o.2.2.2.1;omega
    .have:=H7.o.2.2.2.2 g h;omega
    .rcases H6.o.2.1 g h with h|h
     .exact HB.o.2.1 g (aH _ h)
     .omega
   have fF8:∀g∈F8,w1.heap.size<=g:=λg hg=>(H8.o.2.1 g hg).elim (fF7 g) (λh=>by omega);have hL1:∀g∈I.L.fp,w1.heap.size<=g:=λg hg=>HB.o.2.1 g (aH _ hg);have hS:∀{v:By} {k:Nat} {L:List By},bm wc 42 2 v k L->bm w9 42 2 v k L:=λ{v k L} S=>by
    have s5:=S.drew.only O5.o (HSD.o _ _ _ S);have s6:=s5.only H6.o.2.2 (HSD.o _ _ _ S);have s7:=s6.below H7.o.2.2.1;have s8:=s7.only H8.o.1 (H7.o.1.Fx s7);exact s8.only o9 (H8.o.2.2.Fx s8)
   have b9:=xh<|aE Jr.o (show i7 w1 w9 from(((((HB.o.1.trans ((i5 wc).drew.mono ls)).trans (O5.o.bI ls hL1)).trans (H6.o.2.2.bI ls hL1)).trans (H7.o.2.2.1.mono ls)).trans (H8.o.1.bI ls fF7)).trans (o9.bI ls fF8));have hMl:M.length<=1000000:=by
    rcases HOD.o.2.2 with rfl|rfl
    .exact ru.o.2.2.1
    .exact ru.o.2.2.2
   by_cases Td:M=m1
   .have KE:=xh<|xT S9 (hS ru.o.1) hMl ru.o.2.2.1 true (by simpa using Td);clear hsz5 hsz6 hsz7 hsz8 hszc hszd fF7 fF8 hL1 hS hMl S9 P9 o9 f9 Td;go_wp2_with fail;go_call KE.o as e yd ⟨rfl,uR⟩;have b10:=xh<|aE b9.o uR;clear uR;go_wp2;go_ret;exact bz b10.o
   .have Lk:M=m2:=HOD.o.2.2.resolve_left Td;have KE:=xh<|xT S9 (hS ru.o.1) hMl ru.o.2.2.1 false (by simpa using Td);have KE2:=xh (λ(W:World) (hb:i7 w9 W)=>xT (S9.below hb) ((hS ru.o.2.1).below hb) hMl ru.o.2.2.2 true (by simpa using Lk));clear hsz5 hsz6 hsz7 hsz8 hszc hszd fF7 fF8 hL1 hS hMl S9 P9 o9 f9 Td Lk;go_wp2_with fail;go_call KE.o as e yd ⟨rfl,uR⟩;have b10:=xh<|aE b9.o uR
    have KE2:=xh<|KE2.o yd uR;clear uR;go_wp2_with fail;go_call KE2.o as e w11 ⟨rfl,hb11⟩;have b11:=xh<|aE b10.o hb11;clear hb11;go_wp2;go_ret;exact bz b11.o
end Sh.Cn
namespace Sh.Cn
open Go.RowKit Go.Deep Go.ChangeShapes Go.WideShapes Dk
variable{cs:List By}{w:World}
def three_of(h:cs.length=3):∃a b c,cs=[a,b,c]:=by
 match cs,h with
 |[a,b,c],_=>exact⟨a,b,c,rfl⟩
def Sx{H:Type}{enc:TypeId×By->H}{P:Program}{t e:TypeId}{f0 f1 f2:Field}{fuel:Nat}{x:DataW H×List MemPlace}
 (hs:P.underlying t=some (.struct #[f0,f1,f2]))(hC:P.cellsOf t=3)(o0:f0.offset=0)(o1:f1.offset=1)(o2:f2.offset=2)(k0:P.cellsOf f0.type=1)(k1:P.cellsOf f1.type=1)(k2:P.cellsOf f2.type=1)
 (u0:P.underlying f0.type=some (.slice e))(ue:P.underlying e=some .bool)(ce:P.cellsOf e=1)(u1:P.underlying f1.type=some (.int U6))(u2:P.underlying f2.type=some (.int U6))
 (h:DataW.trod enc P w 0 (λ_=>true) true fuel t cs=some x):∃C:Cr,cs=[U3 C.A C.m C.c,.int U6 C.uO,.int U6 C.bytes]/\C.At w/\C.m<=9223372036854775807:=by
 obtain⟨xs,n,_,_,hl,OE,hf⟩:=DataW.trod_struct hs h;obtain⟨c0,c1,c2,rfl⟩:=three_of (hl.trans hC);obtain⟨y0,y1,y2,rfl⟩:∃y0 y1 y2,xs=[y0,y1,y2]:=by
  match xs,OE with
  |[a,b,c],_=>exact⟨a,b,c,rfl⟩
 have g0:=hf 0 f0 rfl;have g1:=hf 1 f1 rfl;have g2:=hf 2 f2 rfl;rw[o0,k0]at g0;rw[o1,k1]at g1;rw[o2,k2]at g2;simp only[CB,CA,oK,jK]at g0 g1 g2;obtain⟨q1,FV,_⟩:=DataW.trod_int u1 (x:=y1) (by simpa using g1);obtain⟨q2,kP,_⟩:=DataW.trod_int u2 (x:=y2) (by simpa using g2);simp only[List.cons.injEq,and_true]at FV kP;subst FV kP
 rcases open_bools u0 ue ce (x:=y0) (by simpa using g0)with⟨h0,_⟩|⟨a,len,cap,B,h0,_,hlen,yZ,_,hB⟩
 .simp only[List.cons.injEq,and_true]at h0;subst h0;exact⟨⟨none,0,0,λ_=>false,q1,q2⟩,rfl,λi hi=>eq hi (lA i),bG _⟩
 .simp only[List.cons.injEq,and_true]at h0;subst h0;exact⟨⟨some a,len,cap,B,q1,q2⟩,rfl,λi hi=>⟨a,rfl,hB i (qy hi hlen)⟩,by show len<=_;unfold maxLen at yZ;omega⟩
def crash_of{H:Type}{enc:TypeId×By->H}{base:Nat}{v:By}{d:DataW H}{ps:List MemPlace}(fN:Value.okWide prog w .any base 67 v)(h:DataW.Trod enc prog w 0 (λ_=>true) true 67 v d ps):
  ∃C:Cr,v=C.val/\C.At w/\C.m<=9223372036854775807:=by
 obtain⟨cs,rfl,pC⟩:=okWide_struct underlying67 fN;obtain⟨fuel,hf⟩:=h;obtain⟨C,h1,h2,h3⟩:=Sx underlying67 pm rfl rfl rfl pm pm pm underlying65 underlying4 pm underlying3 underlying3 (cs:=cs.toList) (by simpa [Value.cells]using hf);refine⟨C,?_,h2,h3⟩;unfold Cr.val
 congr 1
 exact rk.1 h1
end Sh.Cn
end Go.Proofs.YtmonobkginiajaaGreat
