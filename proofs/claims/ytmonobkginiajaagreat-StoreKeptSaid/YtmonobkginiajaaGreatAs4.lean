/- packed. -/
import Derived.WalkMore
import Derived.Test.YtmonobkginiajaaGreatAs3
set_option linter.all false
set_option maxRecDepth 100000
set_option maxHeartbeats 8000000
namespace Go.Proofs.YtmonobkginiajaaGreat
open Go.Proofs.Tryz
open Value renaming string→U2,slice→U3,int→U5,bool→U6,pointer→U7,tuple→U8
open Ending renaming returned→BY
open IntKind renaming i64→By
open Obj renaming cells→WF
open Go renaming World→YB,Value→YO,Calls→eq,TypeId→pm
open List renaming replicate→fd
namespace Sh
open Go.RowKit Pk Dk Pg
variable{w:YB}{n:Nat}
structure C where
 d:D
 m:List Int
 table:List Int
 bj:List Int
 parts:List Int
 ep:Int
 slot:Int
 broken:Bool
structure X where
 b:Nat
 L:Dk.Loc
 mb:Nat
 mg:Nat
 tv:YO
 ov:YO
 pv:YO
def X.fp(x:X):List Nat:=x.b::x.mb::x.mg::(x.L.fp++cE x.tv++cE x.ov++cE x.pv)
def dH(l:List Int):List YO:=l.map (Value.int By)
@[simp] theorem nvs'_length(l:List Int):(dH l).length=l.length:=by simp[dH]
theorem rB(l:List Int)(k:Nat)(h:k<l.length):(dH l)[k]?=some (U5 By (l.getD k 0)):=by simp[dH,aH h]
theorem WQ(l:List Int):∀u∈dH l,u.oneCell'=true:=by
 intro u hu;obtain⟨x,_,rfl⟩:=cr.1 hu;rfl
theorem WR(l:List Int)(k:Nat)(x:Int):(dH l).set k x=dH (l.set k x):=by simp[dH,sI]
theorem gX(l m:List Int):dH (l++m)=dH l++dH m:=by simp[dH]
def Ht(x:X)(c:C):Array YO:= #[dp x.L.b,Fm.mp x.mb,x.tv,x.ov,x.pv,U5 By c.ep,U5 By c.slot,U6 c.broken]
def Pl(w:YB)(v:YO)(n:Nat)(l:List YO):Prop:=Sl w 3 v n l\/(l.length=n/\∃g cap rest,v=U3 (lc g) n cap/\n<=cap/\0<cap/\aF w g 231 (l++rest).toArray)
section
variable{w w':YB}{v:YO}{n:Nat}{l:List YO}{S:List Nat}
theorem Pl.only(h:Pl w v n l)(ho:ag S w w')(hd:∀g∈cE v,g∉S):Pl w' v n l:=by
 rcases h with h|⟨hl,g,cap,rest,rfl,h1,h2,B⟩
 .exact .inl (h.only ho hd)
 .exact .inr ⟨hl,g,cap,rest,rfl,h1,h2,B.only ho (hd g (by simp[cE];omega))⟩
theorem Pl.own(h:Pl w v n l):∀g∈cE v,∃t cs,(t=3\/t=231)/\aF w g t cs:=by
 intro g hg
 rcases h with S|⟨hl,g',cap,rest,rfl,h1,h2,B⟩
 .rcases S.2 with⟨A,rfl,_⟩|⟨g',cap,rest,rfl,h0,B,_⟩
  .cases A<;>simp[cE]at hg
  .simp[cE]at hg;rw[hg.2];exact⟨_,_,.inl rfl,B⟩
 .simp[cE]at hg;rw[hg.2];exact⟨_,_,.inr rfl,B⟩
theorem Pl.lt(h:Pl w v n l):∀g∈cE v,g<w.heap.size:=λg hg=>by
 obtain⟨t,cs,_,B⟩:=h.own g hg;exact B.lt
theorem Pl.val(h:Pl w v n l):∃A c,v=U3 A n c/\n<=c:=by
 rcases h with h|⟨hl,g,cap,rest,rfl,h1,h2,B⟩
 .exact h.val
 .exact⟨_,cap,rfl,h1⟩
theorem Pl.form(h:Pl w v n l)(hn:0<n):∃g cap rest,v=U3 (lc g) n cap/\(∃t,aF w g t (l++rest).toArray)/\n<=cap/\l.length=n:=by
 rcases h with h|⟨hl,g,cap,rest,rfl,h1,h2,B⟩
 .obtain⟨g,cap,rest,h1,h2,h3,h4⟩:=h.form hn;exact⟨g,cap,rest,h1,⟨_,h2⟩,h3,h.1⟩
 .exact⟨g,cap,rest,rfl,⟨_,B⟩,h1,hl⟩
theorem Pl.aY(h:Pl w v n l){b:Nat}{t:pm}{cs:Array YO}(B:aF w b t cs)(h1:t≠3)(h2:t≠231):b∉cE v:=λhb=>by
 obtain⟨t',cs',ht,B'⟩:=h.own b hb
 rcases ht with rfl|rfl
 .exact B.jJ B' h1 rfl
 .exact B.jJ B' h2 rfl
end
structure At(w:YB)(x:X)(n:Nat)(c:C):Prop where
 hb:aF w x.b 146 (Ht x c)
 hd:bf w x.L n c.d
 hm:Fm.dU w x.mb x.mg c.m
 ht:Sl w 3 x.tv c.table.length (dH c.table)
 ho:Sl w 3 x.ov c.bj.length (dH c.bj)
 hp:Pl w x.pv c.parts.length (dH c.parts)
 n1:x.mg∉cE x.tv
 n2:x.mg∉cE x.ov
 n3:x.mg∉cE x.pv
 n4:∀g∈cE x.tv,g∉cE x.ov
 n5:∀g∈cE x.tv,g∉cE x.pv
 n6:∀g∈cE x.ov,g∉cE x.pv
 tl:c.table.length<=512
section
variable{w w':YB}{x:X}{n:Nat}{c:C}{S:List Nat}
theorem At.only(h:At w x n c)(ho:ag S w w')(hd:∀g∈x.fp,g∉S):At w' x n c:=
 ⟨h.hb.only ho (hd _ (by simp[X.fp])),h.hd.only ho (λg hg=>hd g (by simp[X.fp,hg])),h.hm.only ho (hd _ (by simp[X.fp])) (hd _ (by simp[X.fp])),
  h.ht.only ho (λg hg=>hd g (by simp[X.fp,hg])),h.ho.only ho (λg hg=>hd g (by simp[X.fp,hg])),h.hp.only ho (λg hg=>hd g (by simp[X.fp,hg])),h.n1,h.n2,h.n3,h.n4,h.n5,h.n6,h.tl⟩
theorem At.below(h:At w x n c)(hb:i7 w w'):At w' x n c:=h.only (S:=[]) (.aj hb) (by simp)
theorem At.drew(h:At w x n c):At w.drew x n c:=h.below ((Below.refl _ _).drew)
theorem At.drewN(h:At w x n c)(k:Nat):At (w.drewN k) x n c:=h.below (de (Below.refl _ _) k)
theorem At.lt(h:At w x n c):∀g∈x.fp,g<w.heap.size:=by
 intro g hg;simp only[X.fp,ar,ay]at hg
 rcases hg with rfl|rfl|rfl|((hg|hg)|hg)|hg
 .exact h.hb.lt
 .exact h.hm.hb.lt
 .exact h.hm.hg.lt
 .exact h.hd.lt g hg
 .exact h.ht.lt g hg
 .exact h.ho.lt g hg
 .exact h.hp.lt g hg
theorem At.f0(h:At w x n c):w.cell? (lc x.b)=some (dp x.L.b):=h.hb.ab rfl
theorem At.f1(h:At w x n c):w.cell? ⟨x.b,1,none⟩=some (Fm.mp x.mb):=h.hb.ab rfl
theorem At.f2(h:At w x n c):w.cell? ⟨x.b,2,none⟩=some x.tv:=h.hb.ab rfl
theorem At.f3(h:At w x n c):w.cell? ⟨x.b,3,none⟩=some x.ov:=h.hb.ab rfl
theorem At.f4(h:At w x n c):w.cell? ⟨x.b,4,none⟩=some x.pv:=h.hb.ab rfl
theorem At.f5(h:At w x n c):w.cell? ⟨x.b,5,none⟩=some (c.ep:li):=h.hb.ab rfl
theorem At.f6(h:At w x n c):w.cell? ⟨x.b,6,none⟩=some (c.slot:li):=h.hb.ab rfl
theorem At.f7(h:At w x n c):w.cell? ⟨x.b,7,none⟩=some (U6 c.broken):=h.hb.ab rfl
theorem At.fz(h:At w x n c)(i:Nat)(hi:i<8):w.frozen? ⟨x.b,i,none⟩=false:=h.hb.frozen i (by simpa [Ht]using hi)
theorem At.tk(h:At w x n c)(k:Nat)(hk:k<c.table.length):∃g cp,x.tv=U3 (lc g) c.table.length cp/\w.cell? ⟨g,k,none⟩=some (U5 By (c.table.getD k 0)):=by
 obtain⟨g,cp,rest,hv,B,_,_⟩:=h.ht.form (by omega);refine⟨g,cp,hv,B.ab ?_⟩;rw[cN,bE (by simpa using hk),rB _ _ hk]
theorem At.disk(h:At w x n c){d':D}(hd:bf w' x.L n d')(ho:ag x.L.fp w w'):At w' x n {c with d:=d'}:=by
 have ne:∀g∈x.L.fp,∀{t:pm} {cs:Array YO} {b:Nat},aF w b t cs->t≠149->t≠152->t≠4->b∉x.L.fp:=by
  intro g hg t cs b B h1 h2 h3 hm;simp only[Loc.fp,ar,ij,or_false]at hm
  rcases hm with rfl|rfl|rfl|rfl
  .exact h1 (B.inj h.hd.hb).1
  .exact h2 (B.inj h.hd.hN).1
  .exact h2 (B.inj h.hd.hO).1
  .exact h3 (B.inj h.hd.hL).1
 have nb:∀{t:pm} {cs:Array YO} {b:Nat},aF w b t cs->t≠149->t≠152->t≠4->b∉x.L.fp:=λB h1 h2 h3=>ne x.L.b (by simp[Loc.fp]) B h1 h2 h3;have ns:∀{v:YO} {k:Nat} {l:List YO},Sl w 3 v k l->∀g∈cE v,g∉x.L.fp:=by
  intro v k l S g hg
  rcases S.2 with⟨A,rfl,_⟩|⟨g',cap,rest,rfl,h0,B,_⟩
  .cases A<;>simp[cE]at hg
  .simp[cE]at hg;rw[hg.2];exact nb B (by decide) (by decide) (by decide)
 have np:∀g∈cE x.pv,g∉x.L.fp:=λg hg=>by
  obtain⟨t,cs,ht,B⟩:=h.hp.own g hg
  rcases ht with rfl|rfl
  .exact nb B (by decide) (by decide) (by decide)
  .exact nb B (by decide) (by decide) (by decide)
 exact⟨h.hb.only ho (nb h.hb (by decide) (by decide) (by decide)),hd,h.hm.only ho (nb h.hm.hb (by decide) (by decide) (by decide)) (nb h.hm.hg (by decide) (by decide) (by decide)),h.ht.only ho (ns h.ht),h.ho.only ho (ns h.ho),h.hp.only ho np,h.n1,h.n2,h.n3,h.n4,h.n5,h.n6,h.tl⟩
theorem At.map(h:At w x n c){m':List Int}(hm:Fm.dU w' x.mb x.mg m')(ho:ag [x.mg] w w'):At w' x n {c with m:=m'}:=by
 have nb:∀{t:pm} {cs:Array YO} {b:Nat},aF w b t cs->t≠3->b∉[x.mg]:=by
  intro t cs b B h1 hm;simp at hm;subst hm;exact h1 (B.inj h.hm.hg).1
 refine⟨h.hb.only ho (nb h.hb (by decide)),h.hd.only ho ?_,hm,h.ht.only ho ?_,h.ho.only ho ?_,h.hp.only ho ?_,h.n1,h.n2,h.n3,h.n4,h.n5,h.n6,h.tl⟩
 .intro g hg;simp only[Loc.fp,ar,ij,or_false]at hg
  rcases hg with rfl|rfl|rfl|rfl
  .exact nb h.hd.hb (by decide)
  .exact nb h.hd.hN (by decide)
  .exact nb h.hd.hO (by decide)
  .exact nb h.hd.hL (by decide)
 .intro g hg hm;simp at hm;subst hm;exact h.n1 hg
 .intro g hg hm;simp at hm;subst hm;exact h.n2 hg
 .intro g hg hm;simp at hm;subst hm;exact h.n3 hg
end
def sp(b:Nat):YO:=U7 (some ⟨b,0,none⟩)
def fU(n:Nat):Nat:=min (cH n) 1024
def C.gl(c:C):Int:=if c.broken then 13 else 0
def C.tZ(c:C)(l:Int):Bool:=decide (0<=l) && decide (l<c.table.length) && decide (0<=c.table.getD l.toNat 0)
def C.kq(c:C)(l:Int):Int:=if c.broken then 13 else if c.tZ l then 0 else 3
theorem Tj{L:Dk.Loc}{d:D}(h:bf w L n d):
  eq prog 82 #[dp L.b] w λe w'=>e=BY (fU n:Nat)/\w=w':=by
 have K:=xh<|pk h;have hm:((cH n:Nat):Int)<=1024:=by have:=h.ok.small;unfold cH;omega
 have HP:=xh (show((fU n:Nat):Int)=((cH n:Nat):Int)from by unfold fU;omega);generalize cH n=mn at *;unfold dp at *;go_in;go_wp2_with fail;go_call K.o as e w1 ⟨rfl,rfl⟩;go_wp2_with fail
 all_goals
  go_ret;refine⟨?_,rfl⟩;rw[HP.o]
  first|(simp;done)|(simp;omega)
theorem jE{x:X}{c:C}(h:At w x n c):
  eq prog 148 #[sp x.b] w λe w'=>e=BY c.gl/\w=w':=by
 have f7:=h.f7;unfold sp C.gl;clear h
 cases hb:c.broken
 all_goals
  rw[hb]at f7;clear hb;go_in;go_wp2;go_ret;exact aI rfl
variable{w:YB}{x:X}{n:Nat}
theorem ry{c:C}(h:At w x n c)(l:Int):
  eq prog 191 #[sp x.b,l] w λe w'=>e=BY (U5 By (c.kq l))/\w=w':=by
 have K:=jE h;have f2:=h.f2;obtain⟨TA,tc,yN,htc⟩:=h.ht.val;rw[yN]at f2;have HR:=g9 (∀r,c.kq l=r->c.kq l=r) (λr h=>h);have tl:=h.tl
 by_cases hb:c.broken=true
 .have hw:c.gl=13:=by unfold C.gl;rw[if_pos hb]
  have HA:=g9 (c.kq l=13) (by unfold C.kq;rw[if_pos hb]);rw[hw]at K;have K:=xh K;clear h hb hw;generalize c.kq l=r at *;unfold sp at *;go_in;go_wp2_with fail;go_call K.o as e w1 ⟨rfl,rfl⟩;go_wp2;go_ret;exact⟨by rw[HA.o];first|rfl|simp,rfl⟩
 .have hw:c.gl=0:=by unfold C.gl;rw[if_neg hb]
  rw[hw]at K;have K:=xh K
  by_cases h1:l<0
  .have HA:=g9 (c.kq l=3) (by unfold C.kq C.tZ;rw[if_neg hb];simp;omega);clear h hb hw;generalize c.kq l=r at *;unfold sp at *;go_in;go_wp2_with fail;go_call K.o as e w1 ⟨rfl,rfl⟩;go_wp2;go_ret;exact⟨by rw[HA.o];first|rfl|simp,rfl⟩
  .obtain⟨k,rfl⟩:=dZ (show 0<=l by omega)
   by_cases h2:k<c.table.length
   .obtain⟨g,cp,hv,hk⟩:=h.tk k h2;rw[hv]at yN;injection yN with ht1 ht2 ht3
    subst ht1 ht3;obtain⟨v,Q3⟩:∃v,c.table.getD k 0=v:=⟨_,rfl⟩;rw[Q3]at hk;have WS:¬(c.table.length:Int)<=(k:Int):=by omega
    have h2J:(k:Int)<(c.table.length:Int):=by omega
    by_cases h3:v<0
    .have ht:c.table.getD ((k:Nat):Int).toNat 0=v:=by rw[show((k:Nat):Int).toNat=k from by omega];exact Q3
     have HA:=g9 (c.kq k=3) (by unfold C.kq C.tZ;rw[if_neg hb,ht,if_neg (by simp only[iG,decide_eq_true_eq];omega)]);clear ht;clear h hb hw hv Q3;generalize c.kq k=r at *;generalize c.table.length=tn at *;unfold sp at *;go_in;go_wp2_with fail;go_call K.o as e w1 ⟨rfl,rfl⟩;go_wp2;go_ret;exact⟨by rw[HA.o];first|rfl|simp,rfl⟩
    .have HA:=xh (show c.kq k=0 from by
      have ht:c.table.getD ((k:Nat):Int).toNat 0=v:=by rw[show((k:Nat):Int).toNat=k from by omega];exact Q3
      have hh:c.tZ k=true:=by unfold C.tZ;rw[ht];simp only[iG,decide_eq_true_eq];omega
      unfold C.kq;rw[if_neg hb,if_pos hh])
     clear h hb hw hv Q3;generalize c.kq k=r at *;generalize c.table.length=tn at *;unfold sp at *;go_in;go_wp2_with fail;go_call K.o as e w1 ⟨rfl,rfl⟩;go_wp2;go_ret;exact⟨by rw[HA.o];first|rfl|simp,rfl⟩
   .have HA:=g9 (c.kq k=3) (by unfold C.kq C.tZ;rw[if_neg hb];simp;omega);have WS:(c.table.length:Int)<=(k:Int):=by omega
    clear h hb hw;generalize c.kq k=r at *;generalize c.table.length=tn at *;unfold sp at *;go_in;go_wp2_with fail;go_call K.o as e w1 ⟨rfl,rfl⟩;go_wp2;go_ret;exact⟨by rw[HA.o];first|rfl|simp,rfl⟩
theorem jD{c:C}(h:At w x n c)(id kind:Int)(s:rd)(hid:id<=9223372036854775807)(Jk:0<=c.ep/\c.ep<=1099511627776)(hc:c.d.calls<=3999999999999999990)(hr:c.d.bu<=9223372036854775807):
  eq prog 193 #[sp x.b,id,kind,U2 s] w λe w'=>e=BY (U5 By (bt c.d n id (c.ep+1) kind s.data.toList).2)/\At w' x n {c with d:=(bt c.d n id (c.ep+1) kind s.data.toList).1}/\ag x.L.fp w w':=by
 have KPW:=NJ (w:=w.drew) h.hd.drew id (c.ep+1) kind s hid hc hr;have HD:=xh (λ(w':YB) (hd:bf w' x.L n (bt c.d n id (c.ep+1) kind s.data.toList).1) (ho:ag x.L.fp w.drew w')=>At.disk h.drew hd ho);have f0:=h.f0;have f5:=h.f5;have q1:IntKind.i64.wrap (c.ep+1)=c.ep+1:=dl;have HK:=g9 (w.drew.cell? (lc x.b)=some (dp x.L.b)/\w.drew.cell? ⟨x.b,5,none⟩=some (c.ep:li)) ⟨f0,f5⟩
 have HP:=xh (show ∀w',ag x.L.fp w.drew w'->(w'.cell? (lc x.b)=some (dp x.L.b)/\w'.cell? ⟨x.b,5,none⟩=some (c.ep:li))from λw' ho=>by
  have B:=h.hb.drew.only ho (λhm=>by
   simp only[Loc.fp,ar,ij,or_false]at hm
   rcases hm with hm|hm|hm|hm
   .exact h.hb.jJ h.hd.hb (by decide) hm
   .exact h.hb.jJ h.hd.hN (by decide) hm
   .exact h.hb.jJ h.hd.hO (by decide) hm
   .exact h.hb.jJ h.hd.hL (by decide) hm)
  exact⟨B.bi 0,B.bi 5⟩)
 clear h;generalize (bt c.d n id (c.ep+1) kind s.data.toList).2=er at *;generalize (bt c.d n id (c.ep+1) kind s.data.toList).1=d2 at *;generalize c.ep=ep at *;unfold sp dp jN at *;have KPW:=xh KPW;go_in;go_wp2_with fail;refine kw (λW'=>W'.cell? (lc x.b)=some (lc x.L.b:li)/\W'.cell? ⟨x.b,5,none⟩=some (ep:li)) (HK.o) (λau=>?_)
 refine dP [(0,9),(1,10),(2,11),(3,12),(4,13),(5,14),(6,15),(7,16),(8,17),(9,18),(10,19),(11,20),(12,21)] ?_
 iterate 13 refine bJ ?_
 refine dI 13 22 λK hK=>?_;go_simp
 go_at_call 225
 go_call KPW.o as e w1 ⟨rfl,dd,ow⟩;have DV:=xh dd;have OW:=xh ow;clear dd ow;go_simp;refine bn hK (HP.o _ OW.o) (λau=>?_);refine dP [(14,8)] ?_
 iterate 1 refine bJ ?_
 refine jp ?_ _;go_wp2;go_ret;exact aI ⟨HD.o _ DV.o OW.o,(ag.refl _ w).drew.trans OW.o⟩
def C.cB(c:C)(n:Nat)(p:pu):C×Int×Int:=
 if(Fm.da c.m).2.2≠0 then({c with m:=(Fm.da c.m).1},0,(Fm.da c.m).2.2)
 else if(bt c.d n (Fm.da c.m).2.1 (c.ep+1) 2 p).2≠0 then({c with m:=(Fm.dS (Fm.da c.m).1 (Fm.da c.m).2.1).1,d:=(bt c.d n (Fm.da c.m).2.1 (c.ep+1) 2 p).1},0,(bt c.d n (Fm.da c.m).2.1 (c.ep+1) 2 p).2)
 else({c with m:=(Fm.da c.m).1,d:=(bt c.d n (Fm.da c.m).2.1 (c.ep+1) 2 p).1},(Fm.da c.m).2.1,0)
theorem WT(m:List Int)(h:m.length<=1024):(Fm.da m).2.1<=1024/\0<=(Fm.da m).2.1:=by
 unfold Fm.da
 split
 .exact⟨by show(Fm.dm m 0:Int)<=_;omega,by show(0:Int)<=(Fm.dm m 0:Int);omega⟩
 .exact⟨by show(0:Int)<=_;omega,by show(0:Int)<=0;omega⟩
theorem ue(x:X):∀g∈[x.mg],g∈x.fp:=by intro g hg;simp at hg;subst hg;simp[X.fp]
theorem JG(x:X):∀g∈x.L.fp,g∈x.fp:=by intro g hg;simp[X.fp,hg]
theorem sY{c:C}(h:At w x n c)(s:rd)(Jk:0<=c.ep/\c.ep<=1099511627776)(hc:c.d.calls<=3999999999999999990)(hr:c.d.bu<=9223372036854775807):
  eq prog 166 #[sp x.b,U2 s] w λe w'=>e=BY (U8 #[U5 By (c.cB n s.data.toList).2.1,U5 By (c.cB n s.data.toList).2.2])/\At w' x n (c.cB n s.data.toList).1/\ag x.fp w w':=by
 have KT:=Fm.vI h.hm;have HT:=xh (λ(w':YB) (hm:Fm.dU w' x.mb x.mg (Fm.da c.m).1) (ho:ag [x.mg] w w')=>At.map h hm ho);have pX:c.m.length<=1024:=h.hm.hl;have hid:=WT c.m pX;have f1:=h.f1;obtain⟨R,hR⟩:∃R,c.cB n s.data.toList=R:=⟨_,rfl⟩;rw[hR];unfold C.cB at hR
 by_cases h1:(Fm.da c.m).2.2=0
 .rw[if_neg (by simpa using h1)]at hR;rw[h1]at KT;generalize (Fm.da c.m).2.1=id at *;generalize (Fm.da c.m).1=m1 at *;have KP:=xh (λ(w':YB) (hh:At w' x n {c with m:=m1})=>jD hh id 2 s (by omega) Jk hc hr);dsimp only at KP
  by_cases h2:(bt c.d n id (c.ep+1) 2 s.data.toList).2=0
  .rw[if_neg (by simpa using h2)]at hR;rw[h2]at KP;subst hR;generalize (bt c.d n id (c.ep+1) 2 s.data.toList).1=d1 at *;have KT:=xh KT;clear h h1 h2;unfold sp Fm.mp at *;go_in;go_wp2_with fail;go_call KT.o as e w1 ⟨rfl,mm,ow⟩;have A1:=xh<|HT.o _ mm ow;have O1:=xh ow;clear mm ow;go_wp2_with fail;go_call (KP.o _ A1.o) as e w2 ⟨rfl,aa,ow⟩;have A2:=xh aa
   have O2:=xh<|(O1.o.mono (λg hg _=>ue x g hg)).trans (ow.mono (λg hg _=>JG x g hg));clear aa ow;go_wp2;go_ret2;exact aI ⟨A2.o,O2.o⟩
  .rw[if_pos h2]at hR;subst hR;have hq:((bt c.d n id (c.ep+1) 2 s.data.toList).2 != 0)=true:=ls h2
   generalize (bt c.d n id (c.ep+1) 2 s.data.toList).1=d1 at *;generalize (bt c.d n id (c.ep+1) 2 s.data.toList).2=er at *;have KT:=xh KT;clear h h1 h2;unfold sp Fm.mp at *;go_in;go_wp2_with fail;go_call KT.o as e w1 ⟨rfl,mm,ow⟩;have A1:=xh<|HT.o _ mm ow;have O1:=xh ow;clear mm ow;go_wp2_with fail;go_call (KP.o _ A1.o) as e w2 ⟨rfl,aa,ow⟩;have A2:=xh aa
   have O2:=xh<|(O1.o.mono (λg hg _=>ue x g hg)).trans (ow.mono (λg hg _=>JG x g hg));have f1':=aa.f1;have KL:=Fm.sV aa.hm id;dsimp only at KL;have KL:=xh KL;unfold Fm.mp at *;clear aa ow;go_wp2_with fail;go_call KL.o as e w3 ⟨rfl,mm,ow⟩;have A3:=xh<|A2.o.map mm ow;have O3:=xh<|O2.o.trans (ow.mono (λg hg _=>ue x g hg));clear mm ow;go_wp2;go_ret2;exact aI ⟨A3.o,O3.o⟩
 .rw[if_pos h1]at hR;subst hR;have hq:((Fm.da c.m).2.2 != 0)=true:=ls h1
  generalize (Fm.da c.m).2.1=id at *;generalize (Fm.da c.m).2.2=er at *;generalize (Fm.da c.m).1=m1 at *;have KT:=xh KT;clear h h1;unfold sp Fm.mp at *;go_in;go_wp2_with fail;go_call KT.o as e w1 ⟨rfl,mm,ow⟩;have A1:=xh<|HT.o _ mm ow;have O1:=xh<|ow.mono (S':=x.fp) (λg hg _=>ue x g hg);clear mm ow;go_wp2;go_ret2;exact aI ⟨A1.o,O1.o⟩
variable{v:YO}{k:Nat}{l:List YO}
section
variable{w w':YB}{x:X}{n:Nat}{c:C}
theorem xJ(S:Sl w 3 v k l):∀g∈cE v,∃cs,aF w g 3 cs:=by
 intro g hg
 rcases S.2 with⟨A,rfl,_⟩|⟨g',cap,rest,rfl,h0,B,_⟩
 .cases A<;>simp[cE]at hg
 .simp[cE]at hg;rw[hg.2];exact⟨_,B⟩
theorem At.Hu(h:At w x n c)(S:Sl w 3 v k l):x.b∉cE v/\x.mb∉cE v/\∀g∈x.L.fp,g∉cE v:=by
 refine⟨λhg=>?_,λhg=>?_,λg hgL hg=>?_⟩
 .obtain⟨cs,B⟩:=xJ S _ hg;exact h.hb.jJ B (by decide) rfl
 .obtain⟨cs,B⟩:=xJ S _ hg;exact h.hm.hb.jJ B (by decide) rfl
 .obtain⟨cs,B⟩:=xJ S _ hg;simp only[Loc.fp,ar,ij,or_false]at hgL
  rcases hgL with rfl|rfl|rfl|rfl
  .exact h.hd.hb.jJ B (by decide) rfl
  .exact h.hd.hN.jJ B (by decide) rfl
  .exact h.hd.hO.jJ B (by decide) rfl
  .exact h.hd.hL.jJ B (by decide) rfl
theorem At.gE(h:At w x n c)(k:Nat)(hk:k<c.table.length)(u:Int):∃g cp,x.tv=U3 (lc g) c.table.length cp/\w.cell? ⟨g,k,none⟩=some (U5 By (c.table.getD k 0))/\w.frozen? ⟨g,k,none⟩=false/\
  At (w.setCell ⟨g,k,none⟩ u) x n {c with table:=c.table.set k u}/\ag x.fp w (w.setCell ⟨g,k,none⟩ u):=by
 obtain⟨g,cp,hv,S,hg,z,ow⟩:=h.ht.cw k hk u;obtain⟨g',cp',VC,ck⟩:=h.tk k hk;rw[hv]at VC;injection VC with e1 e2 e3
 injection e1 with e1
 injection e1 with e1
 subst e1;have ne:=h.Hu h.ht;rw[hg]at ne;refine⟨g,cp,hv,ck,z,⟨h.hb.only ow ne.1,h.hd.only ow ne.2.2,h.hm.only ow ne.2.1 (by rw[<-hg];exact h.n1),?_,h.ho.only ow (λy hy hm=>h.n4 y (by rw[hg];exact hm) hy),h.hp.only ow (λy hy hm=>h.n5 y (by rw[hg];exact hm) hy),h.n1,h.n2,h.n3,h.n4,h.n5,h.n6,by show(c.table.set k u).length<=512;rw[bV];exact h.tl⟩,ow.mono (λy hy _=>by
  have:y∈cE x.tv:=by rw[hg];exact hy
  simp[X.fp,this])⟩
 show Sl _ _ x.tv (c.table.set k u).length (dH (c.table.set k u));rw[bV,<-WR];exact S
theorem At.addT(h:At w x n c)(u:Int){v':YO}(S:Sl w' 3 v' (c.table.length+1) (dH (c.table++[u])))(ow:ag (cE x.tv) w w')(fr:∀g∈cE v',g∈cE x.tv\/w.heap.size<=g)(hl:c.table.length+1<=512):
  w'.cell? ⟨x.b,2,none⟩=some x.tv/\w'.frozen? ⟨x.b,2,none⟩=false/\At (w'.setCell ⟨x.b,2,none⟩ v') {x with tv:=v'} n {c with table:=c.table++[u]}/\ag x.fp w (w'.setCell ⟨x.b,2,none⟩ v')/\∀g∈({x with tv:=v'}:X).fp,g∈x.fp\/w.heap.size<=g:=by
 have ne:=h.Hu h.ht;have B1:=h.hb.only ow ne.1;have B2:aF (w'.setCell ⟨x.b,2,none⟩ v') x.b 146 #[dp x.L.b,Fm.mp x.mb,v',x.ov,x.pv,c.ep,c.slot,U6 c.broken]:=B1.cw 2 v';have o2:=(ag.refl [x.b] w').setCell (p:=⟨x.b,2,none⟩) (by simp) v';have D1:=h.hd.only ow ne.2.2;have M1:=h.hm.only ow ne.2.1 h.n1;have O1:=h.ho.only ow (λy hy hm=>h.n4 y hm hy);have P1:=h.hp.only ow (λy hy hm=>h.n5 y hm hy)
 have hbn:∀{t:pm} {cs:Array YO} {b:Nat},aF w' b t cs->t≠146->b∉[x.b]:=by
  intro t cs b B fF hm;simp at hm;subst hm;exact fF (B.inj B1).1
 have hs:∀{v:YO} {k:Nat} {l:List YO},Sl w' 3 v k l->∀g∈cE v,g∉[x.b]:=λS g hg=>by
  obtain⟨cs,B⟩:=xJ S g hg;exact hbn B (by decide)
 refine⟨B1.ab rfl,B1.frozen 2 (by simp[Ht]),⟨B2,D1.only o2 ?_,M1.only o2 (hbn M1.hb (by decide)) (hbn M1.hg (by decide)),?_,O1.only o2 (hs O1),P1.only o2 (λg hg hm=>P1.aY B1 (by decide) (by decide) (by rw[<-az.1 hm];exact hg)),?_,h.n2,h.n3,?_,?_,h.n6,by show(c.table++[u]).length<=512;rw[aT];exact hl⟩,?_,?_⟩
 .intro g hg;simp only[Loc.fp,ar,ij,or_false]at hg
  rcases hg with rfl|rfl|rfl|rfl
  .exact hbn D1.hb (by decide)
  .exact hbn D1.hN (by decide)
  .exact hbn D1.hO (by decide)
  .exact hbn D1.hL (by decide)
 .show Sl _ _ v' (c.table++[u]).length _;rw[aT];exact S.only o2 (hs S)
 .exact λhg=>(fr x.mg hg).elim h.n1 (λMN=>by have:=h.hm.hg.lt;omega)
 .exact λg hg ho=>(fr g hg).elim (λh1=>h.n4 g h1 ho) (λMN=>by have:=h.ho.lt g ho;omega)
 .exact λg hg ho=>(fr g hg).elim (λh1=>h.n5 g h1 ho) (λMN=>by have:=h.hp.lt g ho;omega)
 .exact(ow.mono (λg hg _=>by simp[X.fp,hg])).trans (o2.mono (λg hg _=>by simp at hg;subst hg;simp[X.fp]))
 .intro g hg;simp only[X.fp,ar,ay]at hg ⊢
  rcases hg with hg|hg|hg|((hg|hg)|hg)|hg
  .exact .inl (.inl hg)
  .exact .inl (.inr (.inl hg))
  .exact .inl (.inr (.inr (.inl hg)))
  .exact .inl (.inr (.inr (.inr (.inl (.inl (.inl hg))))))
  .exact(fr g hg).imp (λh1=> .inr (.inr (.inr (.inl (.inl (.inr h1)))))) id
  .exact .inl (.inr (.inr (.inr (.inl (.inr hg)))))
  .exact .inl (.inr (.inr (.inr (.inr hg))))
end
theorem WU{w:YB}{l:List Int}(S:Sl w 3 v l.length (dH l))(hl:l.length<=1000000)(k:Int):
  eq prog 165 #[v,k] w λe w'=>e=BY (U5 By (Fm.lN l k))/\w=w':=by
 by_cases h0:0<l.length
 .obtain⟨g,cap,rest,rfl,B,hc,_⟩:=S.form h0;exact Fm.sX g l.length cap l rfl hl k w (λj hj=>B.ab (by rw[cN,bE (by simpa using hj),rB _ _ hj]))
 .have hn:l=[]:=oO (by omega);subst hn;obtain⟨A,c,rfl,_⟩:=S.val;have e1:Fm.lN [] k= -1:=rfl;rw[e1];clear S;simp only[vv];go_in;go_wp2_with fail
  go_loopw [8] (λiv wr=>iv=U5 By 0/\wr=w) (λ_ _=>0)
  case atStart=>exact⟨rfl,rfl⟩
  case round=>
   obtain⟨rfl,rfl⟩:=hrel;go_wp2;go_ret;exact aI rfl
def jo(t:List Int):Nat:=Fm.dm t (-1)
theorem Bq(t:List Int):jo t<=t.length:=by unfold jo Fm.dm;exact p8
theorem JH(t:List Int):Fm.lN t (-1)=if jo t<t.length then(jo t:Int)else -1:=rfl
attribute [local go_sem ↓] bA
variable{w:YB}{x:X}{n:Nat}
theorem lQ:(prog.info? 3).map (λi=>(i.zero,i.size,i.bytes))=some (some (U5 By 0),1,8):=by kernel_rfl
def uJ(t:List Int)(l:Nat)(u:Int):List Int:=if l=t.length then t++[u]else t.set l u
def C.bZ(c:C)(n:Nat)(p:pu):C×Int×Int:=
 if c.broken=true then(c,0,13)
 else if 232<p.length then(c,0,4)
 else if 512<=jo c.table then(c,0,11)
 else if(c.cB n p).2.2≠0 then((c.cB n p).1,0,(c.cB n p).2.2)
 else({(c.cB n p).1 with table:=uJ c.table (jo c.table) (c.cB n p).2.1},jo c.table,0)
theorem nc(c:C)(n:Nat)(p:pu):(c.cB n p).1.table=c.table/\(c.cB n p).1.bj=c.bj/\(c.cB n p).1.parts=c.parts/\(c.cB n p).1.ep=c.ep/\(c.cB n p).1.slot=c.slot/\(c.cB n p).1.broken=c.broken:=by
 unfold C.cB
 split
 .exact⟨rfl,rfl,rfl,rfl,rfl,rfl⟩
 .split<;>exact⟨rfl,rfl,rfl,rfl,rfl,rfl⟩
def zK(w w':YB)(x:X)(n:Nat)(c':C):Prop:= ∃x',x'.b=x.b/\x'.L=x.L/\At w' x' n c'/\ag x.fp w w'/\∀g∈x'.fp,g∈x.fp\/w.heap.size<=g
theorem zK.self{w':YB}{c':C}(h:At w' x n c')(ho:ag x.fp w w'):zK w w' x n c':=⟨x,rfl,rfl,h,ho,λ_ hg=> .inl hg⟩
theorem new_any{c:C}(h:At w x n c)(s:rd)(hs:s.size<=9223372036854775807)(Jk:0<=c.ep/\c.ep<=1099511627776)(hc:c.d.calls<=3999999999999999990)(hr:c.d.bu<=9223372036854775807):
  eq prog 120 #[sp x.b,U2 s] w λe w'=>e=BY (U8 #[U5 By (c.bZ n s.data.toList).2.1,U5 By (c.bZ n s.data.toList).2.2])/\zK w w' x n (c.bZ n s.data.toList).1:=by
 have KW:=jE h;have hl:s.data.toList.length=s.size:=by simp
 obtain⟨R,hR⟩:∃R,c.bZ n s.data.toList=R:=⟨_,rfl⟩;rw[hR];unfold C.bZ at hR;rw[hl]at hR;have HH:=xh h
 by_cases h1:c.broken=true
 .rw[if_pos h1]at hR;subst hR;rw[show c.gl=13 from by unfold C.gl;rw[if_pos h1]]at KW;have KW:=xh KW;clear h h1;unfold sp at *;go_in;go_wp2_with fail;go_call KW.o as e w1 ⟨rfl,rfl⟩;go_wp2;go_ret2;exact aI (.self HH.o (ag.refl _ _))
 rw[if_neg h1]at hR;rw[show c.gl=0 from by unfold C.gl;rw[if_neg h1]]at KW;have KW:=xh KW;have KI:=WU h.ht (by have:=h.tl;omega) (-1);rw[JH]at KI;have zL:=Bq c.table;have f2:=h.f2;have tl:=h.tl;obtain⟨TA,tc,yN,htc⟩:=h.ht.val;obtain⟨l,JI⟩:∃l,jo c.table=l:=⟨_,rfl⟩;rw[JI]at KI hR zL
 by_cases h2:232<s.size
 .rw[if_pos h2]at hR;subst hR;have WS:(232:Int)<(s.size:Int):=by omega
  by_cases h3:l<c.table.length
  .rw[if_pos h3]at KI;have KI:=xh KI;have h3I:¬(l:Int)<0:=by omega
   clear h h1 h2 yN;unfold sp at *;go_in;go_wp2_with fail;go_call KW.o as e w1 ⟨rfl,rfl⟩;go_wp2_with fail;go_call KI.o as e w1 ⟨rfl,rfl⟩;go_wp2;go_ret2;exact aI (.self HH.o (ag.refl _ _))
  .rw[if_neg h3]at KI;have KI:=xh KI;clear h h1 h2;rw[yN]at f2 KI;unfold sp at *;go_in;go_wp2_with fail;go_call KW.o as e w1 ⟨rfl,rfl⟩;go_wp2_with fail;go_call KI.o as e w1 ⟨rfl,rfl⟩;go_wp2;go_ret2;exact aI (.self HH.o (ag.refl _ _))
 rw[if_neg h2]at hR;have WS:¬(232:Int)<(s.size:Int):=by omega
 by_cases h4:512<=l
 .rw[if_pos h4]at hR;subst hR;have h3:¬l<c.table.length:=by omega
  have h4I:(512:Int)<=(c.table.length:Int):=by omega
  rw[if_neg h3]at KI;have KI:=xh KI;clear h h1 h2;rw[yN]at f2 KI;unfold sp at *;go_in;go_wp2_with fail;go_call KW.o as e w1 ⟨rfl,rfl⟩;go_wp2_with fail;go_call KI.o as e w1 ⟨rfl,rfl⟩;go_wp2;go_ret2;exact aI (.self HH.o (ag.refl _ _))
 rw[if_neg h4]at hR;have KF:=sY h s Jk hc hr;have hft:=nc c n s.data.toList;generalize hF:c.cB n s.data.toList=F at *;obtain⟨c1,id,er⟩:=F;dsimp only at KF hft hR;have KF:=xh KF
 by_cases h5:er=0
 .rw[if_neg (by simpa using h5)]at hR;subst h5;have h4I:¬(512:Int)<=(l:Int):=by omega
  by_cases h3:l<c.table.length
  .rw[if_pos h3]at KI;have KI:=xh KI;have h3I:¬(l:Int)<0:=by omega
   have h3J:((l:Int)==(c.table.length:Int))=false:=by rw[beq_eq_false_iff_ne];omega
   have uH:uJ c.table l id=c.table.set l id:=by unfold uJ;rw[gc]
   rw[uH]at hR;subst hR;have HFT:=xh hft;clear h h1 h2 hF uH hft yN;unfold sp at *;go_in;go_wp2_with fail;go_call KW.o as e w1 ⟨rfl,rfl⟩;go_wp2_with fail;go_call KI.o as e w1 ⟨rfl,rfl⟩;go_wp2_with fail;go_call KF.o as e w1 ⟨rfl,aa,ow⟩;have f2':=aa.f2;obtain⟨g,cp,hv,ck,z,A2,o2⟩:=aa.gE l (by rw[HFT.o.1];exact h3) id;rw[hv,HFT.o.1]at f2'
   have AX:=g9 (At (w1.setCell ⟨g,l,none⟩ id) x n {c1 with table:=c.table.set l id}) (by rw[<-HFT.o.1];exact A2);have OX:=xh<|ow.trans o2;generalize c1.table.getD l 0=ov at ck;clear aa ow A2 o2 hv;clear f2;generalize c.table.length=tn at *;go_wp2;go_ret2;exact aI (.self AX.o OX.o)
  .obtain rfl:l=c.table.length:=by omega
   rw[if_neg h3]at KI;have uH:uJ c.table c.table.length id=c.table++[id]:=by unfold uJ;rw[if_pos rfl]
   rw[uH]at hR;subst hR;have HFT:=xh hft;have HTV:=xh yN;rw[yN]at f2 KI;have KI:=xh KI;clear h h1 h2 hF uH hft yN JI zL h3 h4;generalize htn:c.table.length=tn at *;have HTN:=xh htn;clear htn;unfold sp at *;go_in;go_wp2_with fail;go_call KW.o as e w1 ⟨rfl,rfl⟩;go_wp2_with fail;go_call KI.o as e w1 ⟨rfl,rfl⟩;go_wp2_with fail;go_call KF.o as e w1 ⟨rfl,aa,ow⟩;have f2':=aa.f2;have St:=aa.ht
   rw[HFT.o.1,HTN.o]at St;obtain⟨v',w2,ea,S2,VD,Fc⟩:=Nt (P:=prog) St 60 60 (U5 By 0) 8 underlying60 lQ rfl id rfl (by unfold maxLen;omega) (by omega);rw[show dH c.table++[Value.int By id]=dH (c.table++[id])from by rw[gX];rfl]at S2;obtain⟨gg,jh,rr,rfl,BB,_,_⟩:=S2.form (by omega)
   have w2c:w2.cell? ⟨gg,tn,none⟩=some (id:li):=BB.ab (by rw[<-HTN.o,cN,bE (by simp),gX,dQ (by simp)];simp[dH]);have w2z:w2.frozen? ⟨gg,tn,none⟩=false:=BB.frozen _ (by have:=HTN.o;simp;omega);have hlt1:((tn:Nat):Int)<((tn+1:Nat):Int):=by omega
   have hlt2:tn<tn+1:=by omega
   have hadd:=aa.addT id (by rw[HFT.o.1,HTN.o];exact S2) VD Fc (by rw[HFT.o.1,HTN.o];omega);obtain⟨g2,z2,A3,o3,fr3⟩:=hadd;rw[HFT.o.1]at A3;obtain⟨g,cp,hv,ck,z,A4,o4⟩:=A3.gE tn (by show _<(c.table++[id]).length;have:=HTN.o;simp;omega) id;have Hv:(c.table++[id]).set tn id=c.table++[id]:=by
    rw[<-HTN.o,qc _ _ (ai _),fM];rfl
   have A4:At ((w2.setCell ⟨x.b,2,none⟩ (U3 (lc gg) (tn+1) jh)).setCell ⟨g,tn,none⟩ id) {x with tv:=U3 (lc gg) (tn+1) jh} n {c1 with table:=c.table++[id]}:=by
    have:=A4;dsimp only at this;rw[Hv]at this;exact this
   dsimp only at hv;injection hv with qV re Jl
   injection qV with qV
   injection qV with qV
   clear re;subst qV Jl;have fF:x.b≠gg:=BB.jJ (aa.hb.only VD (aa.Hu aa.ht).1) (by decide)|>.symm;have hne2:gg≠x.b:=fF.symm;have f2'':(w2.setCell ⟨x.b,2,none⟩ (U3 (lc gg) (tn+1) jh)).cell? ⟨x.b,2,none⟩=some (U3 (lc gg) (tn+1) jh):=A3.f2;rw[HTV.o]at f2' g2 ea;have EA:=xh ea;have AX:=xh A4;have OX:=xh<|(ow.trans o3).aU o4 (λg hg ef=>(fr3 g hg).elim (λh=>h) (λh=>by have:=ow.size;omega))
   have FX:=g9 (∀g'∈({x with tv:=U3 (lc gg) (tn+1) jh}:X).fp,g'∈x.fp\/w.heap.size<=g') (λg' hg=>(fr3 g' hg).imp (λh=>h) (λh=>aq ow.size h));generalize (c.table++[id]).getD tn 0=ov at ck;clear aa ow A3 A4 o3 o4 VD Fc St S2 ea Hv fr3 BB;go_wp2_with fail;rw[EA.o];go_wp2;go_ret2;exact aI ⟨{x with tv:=U3 (lc gg) (tn+1) jh},rfl,rfl,AX.o,OX.o,FX.o⟩
 .rw[if_pos h5]at hR;subst hR;have hq:(er != 0)=true:=ls h5
  have h4I:¬(512:Int)<=(l:Int):=by omega
  by_cases h3:l<c.table.length
  .rw[if_pos h3]at KI;have KI:=xh KI;have h3I:¬(l:Int)<0:=by omega
   clear h h1 h2 hF yN;unfold sp at *;go_in;go_wp2_with fail;go_call KW.o as e w1 ⟨rfl,rfl⟩;go_wp2_with fail;go_call KI.o as e w1 ⟨rfl,rfl⟩;go_wp2_with fail;go_call KF.o as e w1 ⟨rfl,aa,ow⟩;have AX:=xh aa;have OX:=xh ow;clear aa ow;go_wp2;go_ret2;exact aI (.self AX.o OX.o)
  .rw[if_neg h3]at KI;have hlI:¬(512:Int)<=(c.table.length:Int):=by omega
   have KI:=xh KI;clear h h1 h2 hF;rw[yN]at f2 KI;unfold sp at *;go_in;go_wp2_with fail;go_call KW.o as e w1 ⟨rfl,rfl⟩;go_wp2_with fail;go_call KI.o as e w1 ⟨rfl,rfl⟩;go_wp2_with fail;go_call KF.o as e w1 ⟨rfl,aa,ow⟩;have AX:=xh aa;have OX:=xh ow;clear aa ow;go_wp2;go_ret2;exact aI (.self AX.o OX.o)
end Sh
namespace Sh
open Go.RowKit Pk Dk Pg
def Tk(e:Int):Int:=if e=13 then 13 else 14
theorem bad_any(e:Int)(w:YB):
  eq prog 140 #[e] w λr w'=>r=BY (U5 By (Tk e))/\w=w':=by
 have HB:=xh (rfl:Tk e=Tk e);obtain⟨b,hb⟩:∃b,Tk e=b:=⟨_,rfl⟩;rw[hb];unfold Tk at hb
 by_cases h:e=13
 .rw[if_pos h]at hb;subst hb h;go_in;go_wp2;go_ret;exact aI rfl
 .rw[if_neg h]at hb;subst hb;have hq:(e==13)=false:=i4 h
  go_in;go_wp2;go_ret;exact aI rfl
def C.aV(c:C)(l:Int):C×Int:=
 if c.kq l≠0 then(c,c.kq l)else({c with m:=(Fm.dS c.m (c.table.getD l.toNat 0)).1,table:=c.table.set l.toNat (-1)},0)
def C.aP(c:C)(n:Nat)(l:Int):pu×Int:=
 if c.kq l≠0 then([],c.kq l)
 else if(bw c.d n (c.table.getD l.toNat 0)).2≠0 then([],Tk (bw c.d n (c.table.getD l.toNat 0)).2)
 else((bw c.d n (c.table.getD l.toNat 0)).1.s,0)
theorem NX{c:C}{l:Int}(h:c.kq l=0):c.broken=false/\0<=l/\l<c.table.length/\0<=c.table.getD l.toNat 0:=by
 unfold C.kq at h
 split at h
 .simp at h
 .rename_i hb
  split at h
  .rename_i hh;unfold C.tZ at hh;simp only[iG,decide_eq_true_eq]at hh;exact⟨by simpa using hb,hh.1.1,hh.1.2,hh.2⟩
  .simp at h
theorem JJ{w:YB}{x:X}{n:Nat}{c:C}(h:At w x n c)(l:Int):
  eq prog 179 #[sp x.b,l] w λe w'=>e=BY (U5 By (c.aV l).2)/\At w' x n (c.aV l).1/\ag x.fp w w':=by
 have KA:=ry h l;have HH:=xh h;obtain⟨R,hR⟩:∃R,c.aV l=R:=⟨_,rfl⟩;rw[hR];unfold C.aV at hR
 by_cases h1:c.kq l=0
 .rw[if_neg (by simpa using h1)]at hR;obtain⟨_,h2,h3,h4⟩:=NX h1;rw[h1]at KA;obtain⟨k,rfl⟩:=dZ h2;have hk:k<c.table.length:=by omega
  rw[show((k:Nat):Int).toNat=k from by omega]at hR h4;obtain⟨g,cp,hv,ck⟩:=h.tk k hk;have f1:=h.f1;have f2:=h.f2;rw[hv]at f2;have KL:=Fm.sV h.hm.drew (c.table.getD k 0);have HM:=xh (λ(w':YB) (m':List Int) (mm:Fm.dU w' x.mb x.mg m') (ow:ag [x.mg] w.drew w')=>At.map h.drew mm ow);have hg:g∈cE x.tv:=by rw[hv];simp[cE];have:=(h.ht.val);obtain⟨A,cc,e1,e2⟩:=this;rw[hv]at e1;injection e1 with _ _ e3;omega
  have HP:=xh (show ∀w',ag [x.mg] w.drew w'->(w'.cell? ⟨x.b,1,none⟩=some (Fm.mp x.mb)/\w'.cell? ⟨x.b,2,none⟩=some (U3 (lc g) c.table.length cp)/\w'.cell? ⟨g,k,none⟩=some (U5 By (c.table.getD k 0)))from λw' ho=>by
   have B:=h.hb.drew.only ho (λhm=>by simp at hm;exact h.hb.jJ h.hm.hg (by decide) hm);have T:=h.ht.drew.only ho (λy hy hm=>by simp at hm;subst hm;exact h.n1 hy);obtain⟨g',cp',rest,VC,BB,_,_⟩:=T.form (by omega);rw[hv]at VC;injection VC with e1 e2 e3
   injection e1 with e1
   injection e1 with e1
   subst e1;refine⟨B.bi 1,?_,BB.ab (by rw[cN,bE (by simpa using hk),rB _ _ hk])⟩;rw[<-hv];exact B.bi 2)
  have HK:=g9 (w.drew.cell? ⟨x.b,1,none⟩=some (Fm.mp x.mb)/\w.drew.cell? ⟨x.b,2,none⟩=some (U3 (lc g) c.table.length cp)/\w.drew.cell? ⟨g,k,none⟩=some (U5 By (c.table.getD k 0))) ⟨f1,f2,ck⟩;have VE:=xh hk
  have HX:=xh (show ∀w' m',At w' x n {c with m:=m'}->w'.cell? ⟨g,k,none⟩=some (U5 By (c.table.getD k 0))/\w'.frozen? ⟨g,k,none⟩=false/\At (w'.setCell ⟨g,k,none⟩ (U5 By (-1))) x n {c with m:=m',table:=c.table.set k (-1)}/\ag x.fp w' (w'.setCell ⟨g,k,none⟩ (U5 By (-1)))from λw' m' hh=>by
   obtain⟨g',cp',VC,ck',z',A',o'⟩:=hh.gE k hk (-1);rw[hv]at VC;injection VC with e1 e2 e3
   injection e1 with e1
   injection e1 with e1
   subst e1;exact⟨ck',z',A',o'⟩)
  have Q4:(k:Int)<(c.table.length:Int):=by omega
  subst hR;generalize c.table.getD k 0=pid at *;generalize (Fm.dS c.m pid).2=le at *;generalize (Fm.dS c.m pid).1=m2 at *;have HQ:=xh hv;clear h h1 f1 f2 ck hv hg h4;generalize c.table.length=tn at *;have KA:=xh KA;unfold sp Fm.mp at *;have KL:=xh KL;go_in;go_wp2_with fail;go_call KA.o as e w1 ⟨rfl,rfl⟩;go_wp2_with fail
  refine kw (λW'=>W'.cell? ⟨x.b,1,none⟩=some (lc x.mb:li)/\W'.cell? ⟨x.b,2,none⟩=some (U3 (lc g) tn cp)/\W'.cell? ⟨g,k,none⟩=some (pid:li)) (HK.o) (λau=>?_);refine dP [(0,12),(1,13),(2,14),(3,15),(4,16),(5,17),(6,18),(7,19),(8,20),(9,21),(10,22)] ?_
  iterate 11 refine bJ ?_
  refine dI 11 23 λK hK=>?_;go_simp
  go_at_call 153
  go_call KL.o as e w1 ⟨rfl,mm,ow⟩;have A1:=xh<|HM.o _ _ mm ow;have OW:=xh ow;have HX1:=xh<|HX.o _ _ A1.o;have f2x:=(HP.o _ ow).2.1;have ckx:=HX1.o.1;have zkx:=HX1.o.2.1;have OX:=xh<|((ag.refl _ w).drew.trans (ow.mono (S':=x.fp) (λg hg _=>ue x g hg))).trans HX1.o.2.2.2;clear mm ow;go_simp;refine bn hK (HP.o _ OW.o) (λau=>?_);refine jp ?_ _;go_wp2;go_ret;exact aI ⟨HX1.o.2.2.1,OX.o⟩
 .rw[if_pos h1]at hR;subst hR;have hq:(c.kq l != 0)=true:=ls h1
  have KA:=xh KA;generalize c.kq l=er at *;clear h h1;unfold sp at *;go_in;go_wp2_with fail;go_call KA.o as e w1 ⟨rfl,rfl⟩;go_wp2;go_ret;exact aI ⟨HH.o,ag.refl _ _⟩
theorem ph{w:YB}{x:X}{n:Nat}{c:C}(h:At w x n c)(l:Int):
  eq prog 228 #[sp x.b,l] w λe w'=>e=BY (U8 #[U2 ⟨(c.aP n l).1.toArray⟩,U5 By (c.aP n l).2])/\i7 w w':=by
 have KA:=ry h l;obtain⟨R,hR⟩:∃R,c.aP n l=R:=⟨_,rfl⟩;rw[hR];unfold C.aP at hR
 by_cases h1:c.kq l=0
 .rw[if_neg (by simpa using h1)]at hR;obtain⟨_,h2,h3,h4⟩:=NX h1;rw[h1]at KA;obtain⟨k,rfl⟩:=dZ h2;have hk:k<c.table.length:=by omega
  rw[show((k:Nat):Int).toNat=k from by omega]at hR h4;obtain⟨g,cp,hv,ck⟩:=h.tk k hk;have Q4:(k:Int)<(c.table.length:Int):=by omega
  have HK:=xh (show ∀W',i7 w W'->(W'.cell? (lc x.b)=some (lc x.L.b:li)/\W'.cell? ⟨x.b,2,none⟩=some (U3 (lc g) c.table.length cp)/\W'.cell? ⟨g,k,none⟩=some (U5 By (c.table.getD k 0)))from λW' hb=>by
   have h':=h.below hb;obtain⟨g',cp',VC,ck'⟩:=h'.tk k hk;have e:=hv;rw[VC]at e;injection e with e1 e2 e3
   injection e1 with e1
   injection e1 with e1
   subst e1;exact⟨h'.f0,by rw[<-hv];exact h'.f2,ck'⟩)
  have OD:=g9 (i7 w w.drew) ((Below.refl _ _).drew);have KR:=λ(W:YB) (hb:i7 w W)=>Tg (h.hd.below hb) (c.table.getD k 0);obtain⟨P,hP⟩:∃P,bw c.d n (c.table.getD k 0)=P:=⟨_,rfl⟩;rw[hP]at KR hR;obtain⟨⟨rid,rep,rkd,rs⟩,er⟩:=P;have KB:=xh (λw=>bad_any er w);unfold PG.val jN at KR;dsimp only at KR hR;generalize c.table.getD k 0=pid at *;generalize c.table.length=tn at *;unfold dp at KR;have KR:=xh KR;have KA:=xh KA
  clear h h1 hv hP h4 ck;unfold sp at *;have HR:=xh hR;clear hR;go_in;go_wp2_with fail;go_call KA.o as e w1 ⟨rfl,rfl⟩;go_wp2_with fail;refine kw (λW'=>W'.cell? (lc x.b)=some (lc x.L.b:li)/\W'.cell? ⟨x.b,2,none⟩=some (U3 (lc g) tn cp)/\W'.cell? ⟨g,k,none⟩=some (pid:li)) (HK.o _ OD.o) (λau=>?_)
  refine dP [(0,16),(1,17),(2,18),(3,19),(4,20),(5,21),(6,22),(7,23),(8,24),(9,25),(10,26)] ?_
  iterate 11 refine bJ ?_
  refine wpAnyH_ready (rs:=[11,15]) (by kernel_rfl) (by simp) ?_;refine AllReadyH.cons (o:=⟨some 27,_,_,_,_,_⟩) rfl (λK hK=>?_) (AllReadyH.cons (o:=⟨some 7,_,_,_,_,_⟩) rfl (λK hK=>?_) AllReadyH.nil)
  focus
   go_simp
   go_at_call 139
   go_call (KR.o _ OD.o) as e v1 ⟨rfl,qV⟩;have P1:=xh<|aC OD.o qV;clear qV;go_simp;refine bn hK (HK.o _ P1.o) (λau=>?_);refine dP [(12,15),(13,28),(14,29)] ?_
   iterate 3 refine bJ ?_
   refine dI 15 7 λK hK=>?_;go_simp;have P2:=xh<|ae P1.o (WF kT 162);refine bn hK (HK.o _ P2.o) (λau=>?_);refine rm 16 λK hK=>?_;go_simp;have P3:=xh<|ae P1.o (WF #[rid,rep,rkd,U2 ⟨rs.toArray⟩] 162);have BX:=xh<|aF.new v1 162 #[rid,rep,rkd,U2 ⟨rs.toArray⟩];refine bn hK (HK.o _ P3.o) (λau=>?_);refine dP [(17,8)] ?_
   iterate 1 refine bJ ?_
   refine zpe ?_
  rotate_left
  focus
   go_simp;have P1:=xh<|ae OD.o (WF kT 162);have BX0:=g9 (aF (w.drew.alloc (WF kT 162)) w.heap.size 162 kT) (aF.new w.drew 162 kT);refine bn hK (HK.o _ P1.o) (λau=>?_);refine dI 11 27 λK hK=>?_;go_simp
   go_at_call 139
   go_call (KR.o _ P1.o) as e v1 ⟨rfl,qV⟩;have P2:=xh<|aC P1.o qV;have BX1:=xh<|BX0.o.below qV BX0.o.lt;clear qV;have z0:=BX1.o.frozen 0 (by simp);have z1:=BX1.o.frozen 1 (by simp);have z2:=BX1.o.frozen 2 (by simp);have z3:=BX1.o.frozen 3 (by simp);have c0:=BX1.ap 0;have c1:=BX1.ap 1;have c2:=BX1.ap 2;have c3:=BX1.ap 3;go_simp
   refine bn hK (HK.o _ P2.o) (λau=>?_);refine dP [(12,15),(13,28),(14,29)] ?_
   iterate 3 refine bJ ?_
   refine rm 16 λK hK=>?_;go_simp;have P3:=xh<|gW P2.o (ai _) rid rep rkd ⟨rs.toArray⟩;have BX:=xh<|ko BX1.o rfl rid rep rkd ⟨rs.toArray⟩;refine bn hK (HK.o _ P3.o) (λau=>?_);refine dP [(17,8)] ?_
   iterate 1 refine bJ ?_
   refine zpe ?_
  rotate_left
  all_goals
   refine jp ?_ _;have hR:=HR.o
   by_cases h5:er=0
   .rw[if_neg (by simpa using h5)]at hR;subst hR h5;have y3:=BX.ap 3;go_wp2;go_ret2;exact aI P3.o
   .rw[if_pos h5]at hR;have hq:(er != 0)=true:=ls h5
    subst hR;clear h5;go_wp2_with fail;go_call (KB.o _) as e wz ⟨rfl,rfl⟩;go_wp2;go_ret2;exact aI P3.o
 .rw[if_pos h1]at hR;subst hR;have hq:(c.kq l != 0)=true:=ls h1
  have KA:=xh KA;generalize c.kq l=er at *;clear h h1;unfold sp at *;go_in;go_wp2_with fail;go_call KA.o as e w1 ⟨rfl,rfl⟩;go_wp2;go_ret2;exact aI (Below.refl _ _)
attribute [local go_sem ↓] bA
def zM(t:List Int):Nat->List Int
 |0=>[]
 |k+1=>zM t k++if 0<=t.getD k 0 then [(k:Int)]else []
theorem WV(t:List Int):∀k,(zM t k).length<=k
 |0=>ai _
 |k+1=>by
  have:=WV t k;unfold zM;rw[aT]
  split<;>simp<;>omega
theorem NY{w:YB}{x:X}{n:Nat}{c:C}(h:At w x n c):
  eq prog 29 #[sp x.b] w λe w'=> ∃A cc,e=BY (U3 A (zM c.table c.table.length).length cc)/\aM w' 3 1 (U3 A (zM c.table c.table.length).length cc) (zM c.table c.table.length).length (dH (zM c.table c.table.length))/\i7 w w':=by
 have f2:=h.f2;have tl:=h.tl;obtain⟨TA,tc,yN,htc⟩:=h.ht.val;rw[yN]at f2;have HT:=xh (λ(k:Nat) (hk:k<c.table.length) (W:YB) (hb:i7 w W)=>(h.below hb).tk k hk);have HV:=xh yN;obtain⟨t,ht⟩:∃t,c.table=t:=⟨_,rfl⟩;rw[ht]at f2 tl htc HT HV ⊢;obtain⟨tn,htn⟩:∃tn,t.length=tn:=⟨_,rfl⟩;rw[htn]at f2 tl htc HT HV ⊢;clear h yN ht htn;unfold sp at *;go_in;go_wp2_with fail
 go_loopw [3,14] (λbv iv wr=> ∃k:Nat,k<=tn/\iv=U5 By k/\aM wr 3 1 bv (zM t k).length (dH (zM t k))/\Hid (i7 w wr)/\Hid (∀g∈ah bv,w.heap.size<=g)) (λ_ iv _=>tn-(intOf iv).toNat)
 case atStart=>exact⟨0,aW _,rfl,aM.nil _ _ _,xh (Below.refl _ _),xh (by simp[ah])⟩
 case round=>
  obtain⟨k,hk,rfl,S,O,F⟩:=hrel;have hle:=WV t k;obtain⟨VA,vc,rfl⟩:=ax S
  by_cases h':k<tn
  .have Q4:(k:Int)<(tn:Int):=by omega
   obtain⟨g,cp,hv,ck⟩:=HT.o k h' wr O.o;rw[HV.o]at hv;injection hv with e1 e2 e3
   subst e1 e3;obtain⟨u,hu⟩:∃u,t.getD k 0=u:=⟨_,rfl⟩;rw[hu]at ck
   by_cases hpos:0<=u
   .have Fe:zM t (k+1)=zM t k++[(k:Int)]:=by
     show zM t k++_=_;rw[hu,if_pos hpos]
    obtain⟨v',w2,ea,S2,ow,fr⟩:=dG (P:=prog) S 60 60 (U5 By 0) 8 underlying60 lQ rfl (k:Int) rfl (by unfold maxLen;omega) (by omega);obtain⟨V2,jh,rfl⟩:=ax S2;have hlen:(zM t (k+1)).length=(zM t k).length+1:=by rw[Fe];simp
    have EA:=xh ea;have SX:=xh (show aM w2 3 1 (U3 V2 ((zM t k).length+1) jh) (zM t (k+1)).length (dH (zM t (k+1)))from by
     rw[hlen,Fe,gX];exact S2)
    have OX:=xh<|O.o.trans (ow.aK O.o.size F.o);have FX:=g9 (∀g'∈ah (U3 V2 ((zM t k).length+1) jh),w.heap.size<=g') (λg' hg=>(fr g' hg).elim (F.o g') (λh=>aq O.o.size h));clear ea S2 ow fr S Fe hlen hu;generalize (zM t k).length=pl at *;go_wp2_with fail;rw[EA.o];go_wp2_with fail;go_roundw
    case rel=>exact⟨k+1,by omega,by go_num,SX.o,OX,FX⟩
    case measure=>simp[intOf];omega
   .have Fe:zM t (k+1)=zM t k:=by
     show zM t k++_=_;rw[hu,if_neg hpos,jR]
    have SX:=xh S;have HN:=xh Fe;clear S Fe hu;go_wp2_with fail;go_roundw
    case rel=>exact⟨k+1,by omega,by go_num,by rw[HN.o];exact SX.o,O,F⟩
    case measure=>simp[intOf];omega
  .obtain rfl:k=tn:=by omega
   have SX:=xh S;clear S;go_wp2;go_ret;exact⟨_,_,by first|rfl|simp,SX.o,O.o⟩
end Sh
namespace Sh
open Go.RowKit Pk Dk Pg
variable{d:D}{w:YB}{n:Nat}
def gh:pu:=Rt.fH 1 0 []
def Q5(d:D)(n:Nat):D:=(((d.aG n 0 gh).1.aG n 1 []).1.eM).1
def eO(d:D)(n:Nat):C:={d:=Q5 d n,m:=fd (fU n) 0,table:=[],bj:=[],parts:=[],ep:=1,slot:=0,broken:=false}
theorem po(hd:d.down=false)(ha:d.bu=0):d.eM.2=0/\d.eM.1.down=false/\d.eM.1.bu=0/\d.eM.1.now=d.now:=by
 obtain⟨c1,c2,c3⟩:=yL d ha;unfold D.eM;rw[if_neg (by simp[hd]),if_pos c1];exact⟨rfl,c3.trans hd,c2,E4 d⟩
theorem WW:Rt.jn 1 ((0:Nat):Int) (Rt.dM []):=by
 refine⟨by omega,by omega,by omega,by omega,by decide,?_⟩;intro i x hx;simp[Rt.dM]at hx
theorem N1{L:Dk.Loc}(h:bf w L n d)(hp:1<=fU n)(hd:d.down=false)(ha:d.bu=0)(hc:d.calls<=1000):
  eq prog 53 #[dp L.b] w λe w'=> ∃x,x.L=L/\e=BY (U8 #[sp x.b,U5 By 0])/\At w' x n (eO d n)/\ag L.fp w w'/\∀g∈x.fp,g∈L.fp\/w.heap.size<=g:=by
 have hn:=h.ok.small;have Wd:6<=n:=by unfold fU cH at hp;omega
 have hc0:=h.ok.calls;have Q6:fU n<=1024:=by unfold fU;omega
 have w1f:=jm (n:=n) (k:=0) hd ha (by omega) gh;have w2f:=jm (n:=n) (k:=1) w1f.2.1 w1f.2.2 (by omega) [];have sf:=po w2f.2.1 w2f.2.2;have b1:=jF d n ((0:Nat):Int) gh (by omega);have b2:=jF (d.aG n ((0:Nat):Int) gh).1 n ((1:Nat):Int) [] b1.2;have KP:=xh (λw' (hb:i7 w w')=>Tj (h.below hb));have KN:=xh (λw=>Fm.Hk (fU n) w Q6)
 have KR:=xh (λw=>Rt.JF (w:=w) 1 0 none 0 0 [] ⟨rfl,λk x hx=>by simp[Rt.dM]at hx⟩ (ai _) WW);have HD:=xh h;have rC:=xh (λg hg=>h.lt g hg);have O1:=xh<|i6 w (WF #[dp L.b,U7 none,U3 none 0 0,U3 none 0 0,U3 none 0 0,U5 By 1,U5 By 0,U6 false] 146)
 have B1:=xh<|aF.new w 146 #[dp L.b,U7 none,U3 none 0 0,U3 none 0 0,U3 none 0 0,U5 By 1,U5 By 0,U6 false];have hpz:((fU n:Nat):Int)≠0:=by omega
 have hpq:(((fU n:Nat):Int)==0)=false:=i4 hpz
 have KP0:=KP.o w (Below.refl _ _);have e1:(⟨gh.toArray⟩:rd).data.toList=gh:=by simp
 have e2:(⟨#[]⟩:rd).data.toList=([]:pu):=by simp
 have c1:=jF d n 0 gh (by omega);have c2:=jF (d.aG n 0 gh).1 n 1 [] c1.2;have v1:(d.aG n 0 gh).2=0:=w1f.1;have v2:((d.aG n 0 gh).1.aG n 1 []).2=0:=w2f.1;have v3:((d.aG n 0 gh).1.aG n 1 []).1.eM.2=0:=sf.1;have JK:=xh (λ(W:YB) (hW:bf W L n d)=>lM hW 0 ⟨gh.toArray⟩ (by omega) (by omega));have KW2:=xh (λ(W:YB) (hW:bf W L n (d.aG n 0 gh).1)=>lM hW 1 ⟨#[]⟩ (by omega) (by omega))
 have KS:=xh (λ(W:YB) (hW:bf W L n ((d.aG n 0 gh).1.aG n 1 []).1)=>Bf hW (by omega) (by omega));rw[e1,v1]at JK;rw[e2,v2]at KW2;rw[v3]at KS;have HFD:Q5 d n=((d.aG n 0 gh).1.aG n 1 []).1.eM.1:=rfl;have KR:=g9 (∀w:YB,eq prog 102 #[.agg #[U5 By 1,U5 By 0,U3 none 0 0]] w λe w'=>e=BY (U8 #[U2 ⟨gh.toArray⟩,U5 By 0])/\i7 w w') KR.o
 have hfc:eO d n={d:=Q5 d n,m:=fd (fU n) 0,table:=[],bj:=[],parts:=[],ep:=1,slot:=0,broken:=false}:=rfl;rw[hfc];clear hfc;generalize Q5 d n=dz at *;generalize ((d.aG n 0 gh).1.aG n 1 []).1.eM.1=dy at *;subst HFD;generalize ((d.aG n 0 gh).1.aG n 1 []).1=dx at *;generalize (d.aG n 0 gh).1=dw at *;generalize gh=rt at *;clear w1f w2f sf b1 b2 c1 c2 v1 v2 v3 e1 e2;generalize fU n=pn at *;unfold dp Fm.mp Rt.E9 at *
 have KP0:=xh KP0;clear h hpz;go_in;go_wp2_with fail;go_call KP0.o as e w1 ⟨rfl,rfl⟩;go_wp2_with fail;go_call (KP.o _ O1.o) as e w1 ⟨rfl,rfl⟩;go_wp2_with fail;go_call (KN.o _) as e w2 ⟨mb,mg,rfl,mm,cf,h1,h2⟩;have B2:=xh<|B1.o.below cf B1.o.lt;have O2:=xh<|aC O1.o cf;have O3:=xh<|Below.setCell O2.o (p:=⟨w.heap.size,1,none⟩) (ai _) (lc mb)
 have n1:w.heap.size≠mg:=by have:=h2;simp only[World.size_alloc]at this;omega
 have n2:w.heap.size≠mb:=by have:=h1;simp only[World.size_alloc]at this;omega
 have g1:w.heap.size<=mb:=by have:=h1;simp only[World.size_alloc]at this;omega
 have g2:w.heap.size<=mg:=by have:=h2;simp only[World.size_alloc]at this;omega
 have M3:=xh<|mm.only (S:=[w.heap.size]) ((ag.refl _ w2).setCell (p:=⟨w.heap.size,1,none⟩) (by simp) (lc mb)) (by simpa using n2.symm) (by simpa using n1.symm);have B3:=xh<|B2.o.cw 1 (lc mb);have q0:=B2.ap 1;have q1:=B2.o.frozen 1 (by simp);clear cf h1 h2 mm;go_wp2_with fail;generalize w2.setCell ⟨w.heap.size,1,none⟩ (lc mb)=w3 at *;clear q0 q1;refine(KR.o _).mono ?_
 rintro e w4 ⟨rfl,fo⟩;have O4:=xh<|aC O3.o fo;have M4:=xh<|M3.o.below fo;have B4:=xh<|B3.o.below fo B3.o.lt;have U4:=xh<|i6 w4 (WF #[U2 ⟨rt.toArray⟩,U2 ⟨#[]⟩] 9);have T4:=xh<|aF.new w4 9 #[U2 ⟨rt.toArray⟩,U2 ⟨#[]⟩];have nT:w4.heap.size∉L.fp:=λhg=>by have:=rC.o _ hg;have:=O4.o.size;omega
 have nT:=xh nT;have H5:=xh<|HD.o.below (aC O4.o U4.o);have t0:=T4.ap 0;clear fo;go_wp2_with fail;refine wp_loop_rounds 3 ?_;rw[rounds_succ];go_wp2_with fail;go_call (JK.o _ H5.o) as e w6 ⟨rfl,H6,O6⟩;have T6:=xh<|T4.o.only O6 nT.o;have t1:=T6.ap 1;have H6:=xh H6;have O6:=xh O6;clear t0;go_wp2_with fail;rw[rounds_succ];go_wp2_with fail;go_call (KW2.o _ H6.o) as e w7 ⟨rfl,H7,O7⟩
 have H7:=xh H7;have O7:=xh O7;clear t1;go_wp2_with fail;rw[rounds_succ];go_wp2_with fail;go_call (KS.o _ H7.o) as e w8 ⟨rfl,H8,O8⟩;have H8:=xh H8;have O8:=xh O8;go_wp2;go_ret2;have nb:∀g,w.heap.size<=g->g∉L.fp:=λg hg hm=>by have:=rC.o _ hm;omega
 have O5:=aC O4.o U4.o;have A5:ag L.fp w _:=ag.aj O5;have A8:=((A5.trans O6.o).trans O7.o).trans O8.o;have A58:=((O6.o).trans O7.o).trans O8.o;refine⟨⟨w.heap.size,L,mb,mg,U3 none 0 0,U3 none 0 0,U3 none 0 0⟩,rfl,by first|rfl|simp[sp],⟨?_,H8.o,?_,Sl.nil _ _,Sl.nil _ _,.inl (Sl.nil _ _),by simp[cE],by simp[cE],by simp[cE],by simp[cE],by simp[cE],by simp[cE],by simp⟩,A8,?_⟩
 .exact(((B4.o.below U4.o B4.o.lt).only A58 (nb _ (ai _))))
 .exact((M4.o.below U4.o).only A58 (nb _ g1) (nb _ g2))
 .intro g hg;simp only[X.fp,ar,ay]at hg
  rcases hg with rfl|rfl|rfl|((hg|hg)|hg)|hg
  .exact .inr (ai _)
  .exact .inr g1
  .exact .inr g2
  .exact .inl hg
  .simp[cE]at hg
  .simp[cE]at hg
  .simp[cE]at hg
theorem dL{e t:pm}{k:Nat}{v:YO}{b:Nat}{l:List YO}{cs:Array YO}(h:aM w e k v n l)(B:aF w b t cs)(fF:t≠e):b∉ah v:=by
 rcases h.2 with⟨rfl,_⟩|⟨g,cap,rest,rfl,BB,_⟩
 .simp[ah]
 .simp only[ah,az];exact B.jJ BB fF
variable{w:YB}{g:Nat}
structure Fr where
 ao:Int
 gI:rd
 held:Int
 cF:Bool
 used:Bool
def Fr.cs(f:Fr):List YO:=[U5 By f.ao,U2 f.gI,U5 By f.held,U6 f.cF,U6 f.used]
def Fr.agg(f:Fr):YO:= .agg #[U5 By f.ao,U2 f.gI,U5 By f.held,U6 f.cF,U6 f.used]
def Fr.nil:Fr:=⟨-1,⟨#[]⟩,0,false,false⟩
def Hw(l:List Fr):List YO:=l.flatMap Fr.cs
theorem nQ(l:List Fr):(Hw l).length=l.length*5:=by
 induction l with
 |nil=>rfl
 |cons f l ih=>simp only[Hw,im,aT]at ih ⊢;rw[ih];simp[Fr.cs];omega
theorem frc_get(l:List Fr)(k i:Nat)(hi:i<5)(f:Fr)(hf:l[k]?=some f):(Hw l)[k*5+i]?=f.cs[i]?:=by
 induction l generalizing k with
 |nil=>simp at hf
 |cons a l ih=>
  have e5:a.cs.length=5:=rfl;simp only[Hw,im]at ih ⊢
  cases k with
  |zero=>
   simp at hf;subst hf;rw[qh,bq,bE (by omega)]
  |succ k=>
   simp at hf;rw[dQ (by omega),e5,show(k+1)*5+i-5=k*5+i from by omega];exact ih k hf
def yO(w:YB)(g:Nat)(l:List Fr):Prop:= ∀k f,l[k]?=some f->w.cell? ⟨g,k*5,none⟩=some (U5 By f.ao)/\w.cell? ⟨g,k*5+1,none⟩=some (U2 f.gI)/\w.cell? ⟨g,k*5+2,none⟩=some (U5 By f.held)/\w.cell? ⟨g,k*5+3,none⟩=some (U6 f.cF)/\w.cell? ⟨g,k*5+4,none⟩=some (U6 f.used)
theorem yO.of{l:List Fr}{rest:List YO}{t:pm}(B:aF w g t (Hw l++rest).toArray):yO w g l:=by
 intro k f hf;have hk:k<l.length:=(aR.1 hf).1;have hl:=nQ l;have c:∀i v,i<5->f.cs[i]?=some v->w.cell? ⟨g,k*5+i,none⟩=some v:=λi v hi hv=>
  B.ab (by rw[cN,bE (by omega),frc_get l k i hi f hf,hv])
 exact⟨c 0 _ (by omega) rfl,c 1 _ (by omega) rfl,c 2 _ (by omega) rfl,c 3 _ (by omega) rfl,c 4 _ (by omega) rfl⟩
theorem yO.below{w':YB}{l:List Fr}(h:yO w g l)(hb:i7 w w'):yO w' g l:=by
 intro k f hf;obtain⟨c0,c1,c2,c3,c4⟩:=h k f hf;exact⟨(hb.cell (cZ c0)).trans c0,(hb.cell (cZ c1)).trans c1,(hb.cell (cZ c2)).trans c2,(hb.cell (cZ c3)).trans c3,(hb.cell (cZ c4)).trans c4⟩
def Jm(b:Fr->Bool)(l:List Fr):Int:=if l.findIdx b<l.length then(l.findIdx b:Int)else -1
def findF(l:List Fr)(p:Int):Int:=if p<0 then -1 else Jm (λf=>decide (f.ao=p)) l
theorem vS{b:Fr->Bool}{l:List Fr}{k:Nat}{f:Fr}(hf:l[k]?=some f)(hb:b f=true)(ha:∀(j:Nat) (a:Fr),j<k->l[j]?=some a->b a=false):Jm b l=k:=by
 have hk:k<l.length:=(aR.1 hf).1;have hg:l[k]=f:=(aR.1 hf).2;have e:l.findIdx b=k:=by
  rw[List.findIdx_eq hk];exact⟨by rw[hg];exact hb,λj hj=>by have:=ha j l[j] hj (aH (by omega));simp[this]⟩
 unfold Jm;rw[e,if_pos hk]
theorem Br{b:Fr->Bool}{l:List Fr}(ha:∀(j:Nat) (a:Fr),l[j]?=some a->b a=false):Jm b l= -1:=by
 have e:l.findIdx b=l.length:=by
  rw[List.findIdx_eq_length];intro x hx;obtain⟨i,hi,rfl⟩:=zU.1 hx;exact ha i _ (aH hi)
 unfold Jm;rw[e,if_neg (sL _)]
theorem Tm{fn:Func}{p:Tmp}{f:Fr}{tmps:Array YO}(h:fn.results= #[.cell p 167])(hp:tmps.getD p undef=U7 (some ⟨g,0,none⟩))(B:aF w g 167 f.cs.toArray):
  (results fn tmps).run prog w=.ok f.agg w:=by
 have c0:=B.bi 0;have c1:=B.bi 1;have c2:=B.bi 2;have c3:=B.bi 3;have c4:=B.bi 4;rw[eh h,hp];clear h hp B;unfold Fr.agg;go_simp;exact⟨rfl,rfl,rfl,rfl,rfl⟩
theorem pw(w:YB):eq prog 86 #[] w λe w'=>e=BY Fr.nil.agg/\i7 w w':=by
 unfold Fr.nil Fr.agg;go_in;go_wp2_with fail;exact bodyPost_ret (Tm (f:=Fr.nil) rfl rfl (aF.new w 167 Fr.nil.cs.toArray)) rfl ⟨rfl,i6 w _⟩
theorem sZ(f:Fr)(q:Nat)(p:Int)(w:YB)(hq:w.cell? (lc q)=some (p:li))(b:Bool)(hb:b=decide (f.ao=p)):
  eq prog 221 #[f.agg,lc q] w λe w'=>e=BY (U6 b)/\i7 w w':=by
 have O0:=xh<|(i5 w).alloc (ai _) (WF #[f.ao,U2 f.gI,f.held,U6 f.cF,U6 f.used] 167);have B0:=aF.new w 167 #[f.ao,U2 f.gI,f.held,U6 f.cF,U6 f.used];have c0:=B0.bi 0;have HB:=xh hb;have hq1:=(O0.o.cell (cZ hq)).trans hq;clear hb hq B0;unfold Fr.agg;go_in;go_wp2;go_ret;exact⟨by rw[HB.o];rfl,O0.o⟩
theorem N2(g n c q:Nat)(p:Int)(l:List Fr)(h:yO w g l)(hl:l.length=n)(hn:n<=1000000)(hq:w.cell? (lc q)=some (p:li)):
  eq prog 220 #[U3 (lc g) n c,.func (Fn.func 221) #[] #[lc q]] w λe w'=>e=BY (U5 By (Jm (λf=>decide (f.ao=p)) l))/\i7 w w':=by
 have HL:=xh hl;have H0:=xh h;have HQ:=xh hq;clear h hq hl;go_in;go_wp2_with fail
 go_loopw [8] (λiv wr=> ∃i:Nat,i<=n/\iv=U5 By i/\Hid (∀j a,j<i->l[j]?=some a->decide (a.ao=p)=false)/\Hid (i7 w wr)) (λiv _=>n-(intOf iv).toNat)
 case atStart=>exact⟨0,aW _,rfl,xh (λj a hj=>absurd hj (mc j)),xh (Below.refl _ _)⟩
 case round=>
  obtain⟨i,hi,rfl,HA,HB⟩:=hrel
  by_cases h:i<n
  .have hf:l[i]?=some (l[i]'(by have:=HL.o;omega)):=aH _;generalize (l[i]'(by have:=HL.o;omega))=f at hf;obtain⟨c0,c1,c2,c3,c4⟩:=(H0.o.below HB.o) i f hf;have KF:=xh<|sZ f q p wr ((HB.o.cell (cZ HQ.o)).trans HQ.o) _ rfl;have HF:=xh hf;clear hf;unfold Fr.agg at KF;obtain⟨b,hb⟩:∃b,decide (f.ao=p)=b:=⟨_,rfl⟩;rw[hb]at KF;have HD:=xh hb;clear hb;go_wp2_with fail;go_call KF.o as e w1 ⟨rfl,aO⟩
   have JL:=xh<|aC HB.o aO;clear aO
   cases b with
   |true=>
    have he:=xh<|vS (b:=λf=>decide (f.ao=p)) HF.o HD.o HA.o;go_wp2;go_ret;exact⟨by rw[he.o];rfl,JL.o⟩
   |false=>
    go_wp2_with fail;go_roundw
    case rel=>
     refine⟨i+1,by omega,by go_num,xh (λj a hj ha=>?_),JL⟩
     rcases qg.1 hj with hj|rfl
     .exact HA.o j a hj ha
     .have:=HF.o.symm.trans ha;injection this with this
      subst this;exact HD.o
    case measure=>simp[intOf];omega
  .have he:=xh<|Br (b:=λf=>decide (f.ao=p)) (l:=l) (λj a ha=>HA.o j a (by have:=(aR.1 ha).1;have:=HL.o;omega) ha);go_wp2;go_ret;exact⟨by rw[he.o];rfl,HB.o⟩
attribute [local go_sem ↓] bA
variable{w:YB}{v:YO}
theorem N3:(prog.info? 167).map (λi=>(i.zero,i.size,i.bytes))=some (some (.agg #[U5 By 0,U2 ⟨#[]⟩,U5 By 0,U6 false,U6 false]),5,40):=by kernel_rfl
theorem N4(l k:List Fr):Hw (l++k)=Hw l++Hw k:=by simp[Hw]
theorem bstep2{a b c:YB}(h:i7 w a)(k:i7 a b)(o:ag (ah v) b c)(hf:∀g∈ah v,w.heap.size<=g):i7 w c:=
 (aC h k).trans (o.aK (aq h.size k.size) hf)
theorem append_nil{n:Nat}{l:List Fr}(h:aM w 167 5 v n (Hw l))(hn:n<=1000):
  ∃v' w',dF prog 141 141 (w.alloc (WF #[U5 By (-1),U2 ⟨#[]⟩,U5 By 0,U6 false,U6 false] 167)) v (U3 (lc w.heap.size) 1 1)= .ok v' w'/\aM w' 167 5 v' (n+1) (Hw (l++[Fr.nil]))/\ag (ah v) w w'/\(∀g∈ah v',g∈ah v\/w.heap.size<=g):=by
 obtain⟨i0,hi,lz,jK,kl⟩:=info_parts N3;obtain⟨v',w',h1,h2,h3,h4⟩:=dE (P:=prog) (h.alloc (WF #[U5 By (-1),U2 ⟨#[]⟩,U5 By 0,U6 false,U6 false] 167)) 141 141 i0 _ 40 underlying141 hi lz jK kl rfl (by omega)
  ⟨w.heap.size,0,none⟩ 1 1 Fr.nil.cs rfl (bm (l:=Fr.nil.cs) (aF.new w _ #[U5 By (-1),U2 ⟨#[]⟩,U5 By 0,U6 false,U6 false]) 0 _ (by intro j u hu;rw[bq];exact hu)) (by intro u hu;simp[Fr.cs,Fr.nil]at hu;rcases hu with rfl|rfl|rfl|rfl<;>rfl) (by unfold maxLen;omega) (by omega)
 refine⟨v',w',h1,?_,((ag.refl _ _).alloc _).aU h3 (λx hx _=>hx),λg hg=>(h4 g hg).imp id (λh=>by simp at h;omega)⟩;rw[N4];exact h2
theorem WX(b k:Nat)(h1:1<=k)(h2:k<=32):
  eq prog 34 #[sp b,(k:Nat)] w λe w'=> ∃pb v,e=BY (U8 #[lc pb,U5 By 0])/\aF w' pb 143 #[sp b,v,U5 By 0]/\aM w' 167 5 v k (Hw (fd k Fr.nil))/\i7 w w'/\w.heap.size<=pb/\∀g∈ah v,w.heap.size<=g:=by
 have KE:=xh pw;have O0:=xh<|i6 w (WF #[sp b,U3 none 0 0,U5 By 0] 143);have B0:=xh<|aF.new w 143 #[sp b,U3 none 0 0,U5 By 0];have k1:¬(k:Int)<1:=by omega
 have k2:¬(32:Int)<(k:Int):=by omega
 unfold sp at *;go_in;go_wp2_with fail;generalize hwa:w.alloc (WF #[lc b,U3 none 0 0,U5 By 0] 143)=wa at *;clear hwa
 go_loopw [21] (λiv wr=> ∃i:Nat,i<=k/\iv=U5 By i/\∃v,Hid (aF wr w.heap.size 143 #[lc b,v,U5 By 0])/\Hid (aM wr 167 5 v i (Hw (fd i Fr.nil)))/\Hid (i7 w wr)/\Hid (∀g∈ah v,w.heap.size<=g)) (λiv _=>k-(intOf iv).toNat)
 case atStart=>exact⟨0,aW _,rfl,U3 none 0 0,B0,xh (aM.nil _ _ _),O0,xh (by simp[ah])⟩
 case round=>
  obtain⟨i,hi,rfl,v,BP,SP,OB,FR⟩:=hrel
  by_cases h:i<k
  .obtain⟨A,cc,rfl⟩:=ax SP.o;have hI:(i:Int)<(k:Int):=by omega
   have OD:=g9 (i7 wr wr.drew) ((Below.refl _ _).drew);have c0:=BP.ap 1;have NB:=g9 (w.heap.size∉ah (U3 A i cc)) (dL SP.o BP.o (by decide));go_wp2_with fail;refine kw (λ_=>True) (trivial) (λau=>?_);refine dP [(0,23),(1,24),(2,25),(3,26)] ?_
   iterate 4 refine bJ ?_
   refine wpAnyH_ready (rs:=[4,5]) (by kernel_rfl) (by simp) ?_;refine AllReadyH.cons (o:=⟨some 27,_,_,_,_,_⟩) rfl (λK hK=>?_) (AllReadyH.cons (o:=⟨some 28,_,_,_,_,_⟩) rfl (λK hK=>?_) AllReadyH.nil)
   focus
    go_simp;refine ip hK ?_;refine dI 5 28 λK hK=>?_;go_simp
    go_at_call 86
    go_call (KE.o _) as e v1 ⟨rfl,qV⟩;have P1:=xh<|aC OD.o qV;have BP1:=xh<|BP.o.below P1.o BP.o.lt;have SP1:=xh<|SP.o.below P1.o;have cl:=BP1.ap 1;clear qV;unfold Fr.nil Fr.agg;go_simp;refine ip hK ?_;refine dI 6 29 λK hK=>?_;go_simp;obtain⟨v2,w2,ea,S2,VD,Fc⟩:=append_nil SP1.o (by omega);obtain⟨A2,Tn,rfl⟩:=ax S2;have EA:=xh ea;have SP2:=xh S2;have OW2:=xh VD
    have FR2:=xh Fc;have BP2:=xh<|BP1.o.only OW2.o NB.o;clear ea S2 VD Fc cl;refine ip hK ?_;refine dI 7 30 λK hK=>?_;go_simp;rw[EA.o];go_simp;refine ip hK ?_;refine dP [(8,31),(9,32)] ?_
    iterate 2 refine bJ ?_
    refine rm 10 λK hK=>?_;go_simp;have q0:=BP2.ap 1;have q1:=BP2.o.frozen 1 (by simp);go_simp;refine ip hK ?_
   rotate_left
   focus
    go_simp
    go_at_call 86
    go_call (KE.o _) as e v1 ⟨rfl,qV⟩;have P1:=xh<|aC OD.o qV;have BP1:=xh<|BP.o.below P1.o BP.o.lt;have SP1:=xh<|SP.o.below P1.o;have cl:=BP1.ap 1;clear qV;unfold Fr.nil Fr.agg;go_simp;refine ip hK ?_;refine wpAnyH_ready (rs:=[4,6]) (by kernel_rfl) (by simp) ?_;refine AllReadyH.cons (o:=⟨some 27,_,_,_,_,_⟩) rfl (λK hK=>?_) (AllReadyH.cons (o:=⟨some 29,_,_,_,_,_⟩) rfl (λK hK=>?_) AllReadyH.nil)
    focus
     go_simp;refine ip hK ?_;refine dI 6 29 λK hK=>?_;go_simp;obtain⟨v2,w2,ea,S2,VD,Fc⟩:=append_nil SP1.o (by omega);obtain⟨A2,Tn,rfl⟩:=ax S2;have EA:=xh ea;have SP2:=xh S2;have OW2:=xh VD;have FR2:=xh Fc;have BP2:=xh<|BP1.o.only OW2.o NB.o;clear ea S2 VD Fc cl;refine ip hK ?_;refine dI 7 30 λK hK=>?_;go_simp;rw[EA.o];go_simp;refine ip hK ?_
     refine dP [(8,31),(9,32)] ?_
     iterate 2 refine bJ ?_
     refine rm 10 λK hK=>?_;go_simp;have q0:=BP2.ap 1;have q1:=BP2.o.frozen 1 (by simp);go_simp;refine ip hK ?_
    rotate_left
    focus
     go_simp;obtain⟨v2,w2,ea,S2,VD,Fc⟩:=append_nil SP1.o (by omega);obtain⟨A2,Tn,rfl⟩:=ax S2;have EA:=xh ea;have SP2:=xh S2;have OW2:=xh VD;have FR2:=xh Fc;have BP2:=xh<|BP1.o.only OW2.o NB.o;clear ea S2 VD Fc cl;have cl:=(BP1.o.alloc (WF #[U5 By (-1),U2 ⟨#[]⟩,U5 By 0,U6 false,U6 false] 167)).ab (i:=1) rfl;refine ip hK ?_;refine dI 4 27 λK hK=>?_;go_simp
     refine ip hK ?_;refine dI 7 30 λK hK=>?_;go_simp;rw[EA.o];go_simp;refine ip hK ?_;refine dP [(8,31),(9,32)] ?_
     iterate 2 refine bJ ?_
     refine rm 10 λK hK=>?_;go_simp;have q0:=BP2.ap 1;have q1:=BP2.o.frozen 1 (by simp);go_simp;refine ip hK ?_
    rotate_left
   rotate_left 2
   all_goals
    refine jp ?_ _;have BP3:=BP2.o.cw 1 (U3 A2 (i+1) Tn);have SP3:=SP2.o.only ((ag.refl [w.heap.size] w2).setCell (p:=⟨w.heap.size,1,none⟩) (by simp) (U3 A2 (i+1) Tn)) (λg hg hm=>by simp at hm;subst hm;exact dL SP2.o BP2.o (by decide) hg);have O3:=Below.setCell (bstep2 OB.o P1.o OW2.o FR.o) (p:=⟨w.heap.size,1,none⟩) (ai _) (U3 A2 (i+1) Tn)
    have JM:∀g∈ah (U3 A2 (i+1) Tn),w.heap.size<=g:=λg hg=>(FR2.o g hg).elim (FR.o g) (λh=>by have:=OB.o.size;have:=P1.o.size;omega);have BP4:=xh BP3;have SP4:=xh SP3;have O4:=xh O3;have HFR:=xh JM;clear BP3 SP3 O3 JM q0 q1;go_wp2_with fail;go_roundw
    case rel=>
     refine⟨i+1,by omega,by go_num,U3 A2 (i+1) Tn,BP4,?_,O4,HFR⟩;rw[show fd (i+1) Fr.nil=fd i Fr.nil++[Fr.nil]from zV];exact SP4
    case measure=>simp[intOf];omega
  .have e:i=k:=by omega
   subst e;go_wp2;go_ret2;exact⟨w.heap.size,v,by first|rfl|simp,BP.o,SP.o,OB.o,ai _,FR.o⟩
end Sh
namespace Sh
open Go.RowKit Pk Dk Pg
structure Y where
 x:X
 pb:Nat
 fg:Nat
 cp:Nat
structure PS where
 c:C
 l:List Fr
 hand:Nat
def pp(b:Nat):YO:=U7 (some ⟨b,0,none⟩)
def Y.fp(y:Y):List Nat:=y.pb::y.fg::y.x.fp
structure iR(w:YB)(y:Y)(n:Nat)(s:PS):Prop where
 hp:aF w y.pb 143 #[sp y.x.b,U3 (lc y.fg) s.l.length y.cp,U5 By (s.hand:Nat)]
 hf:aM w 167 5 (U3 (lc y.fg) s.l.length y.cp) s.l.length (Hw s.l)
 hs:At w y.x n s.c
 n1:y.pb∉y.x.fp
 n2:y.fg∉y.x.fp
 l1:1<=s.l.length
 l2:s.l.length<=32
 lh:s.hand<s.l.length
section
variable{w w':YB}{y:Y}{n:Nat}{s:PS}{S:List Nat}
theorem iR.n3(h:iR w y n s):y.pb≠y.fg:=λe=>dL h.hf h.hp (by decide) (by simp[ah,e])
theorem iR.only(h:iR w y n s)(ho:ag S w w')(hd:∀g∈y.fp,g∉S):iR w' y n s:=
 ⟨h.hp.only ho (hd _ (by simp[Y.fp])),h.hf.only ho (λg hg=>hd g (by simp[ah]at hg;simp[Y.fp,hg])),h.hs.only ho (λg hg=>hd g (by simp[Y.fp,hg])),h.n1,h.n2,h.l1,h.l2,h.lh⟩
theorem iR.below(h:iR w y n s)(hb:i7 w w'):iR w' y n s:=h.only (S:=[]) (.aj hb) (by simp)
theorem iR.drew(h:iR w y n s):iR w.drew y n s:=h.below ((Below.refl _ _).drew)
theorem iR.lt(h:iR w y n s):∀g∈y.fp,g<w.heap.size:=by
 intro g hg;simp only[Y.fp,ar]at hg
 rcases hg with rfl|rfl|hg
 .exact h.hp.lt
 .exact h.hf.lt _ (by simp[ah])
 .exact h.hs.lt g hg
theorem iR.p0(h:iR w y n s):w.cell? (lc y.pb)=some (lc y.x.b:li):=h.hp.ab rfl
theorem iR.p1(h:iR w y n s):w.cell? ⟨y.pb,1,none⟩=some (U3 (lc y.fg) s.l.length y.cp):=h.hp.ab rfl
theorem iR.p2(h:iR w y n s):w.cell? ⟨y.pb,2,none⟩=some ((s.hand:Nat):li):=h.hp.ab rfl
theorem iR.Ef(h:iR w y n s):yO w y.fg s.l:=by
 obtain⟨rest,B,_⟩:=h.hf.uD;exact .of B
theorem iR.store(h:iR w y n s){c':C}(p:∃x',x'.b=y.x.b/\x'.L=y.x.L/\At w' x' n c'/\ag y.x.fp w w'/\∀g∈x'.fp,g∈y.x.fp\/w.heap.size<=g):
  ∃y',y'.pb=y.pb/\y'.fg=y.fg/\y'.cp=y.cp/\y'.x.b=y.x.b/\y'.x.L=y.x.L/\iR w' y' n {s with c:=c'}/\ag y.fp w w'/\∀g∈y'.fp,g∈y.fp\/w.heap.size<=g:=by
 obtain⟨x',e1,e2,A,o,fr⟩:=p;have l1:=h.lt y.pb (by simp[Y.fp]);have l2:=h.lt y.fg (by simp[Y.fp]);refine⟨⟨x',y.pb,y.fg,y.cp⟩,rfl,rfl,rfl,e1,e2,⟨?_,h.hf.only o (λg hg=>by simp[ah]at hg;subst hg;exact h.n2),A,?_,?_,h.l1,h.l2,h.lh⟩,o.mono (λg hg _=>by simp[Y.fp,hg]),?_⟩
 .show aF w' y.pb _ #[sp x'.b,_,_];rw[e1];exact h.hp.only o h.n1
 .exact λhg=>(fr _ hg).elim h.n1 (λh=>absurd l1 (Ad.2 h))
 .exact λhg=>(fr _ hg).elim h.n2 (λh=>absurd l2 (Ad.2 h))
 .intro g hg;simp only[Y.fp,ar]at hg ⊢
  rcases hg with rfl|rfl|hg
  .exact .inl (.inl rfl)
  .exact .inl (.inr (.inl rfl))
  .exact(fr g hg).imp (λh=> .inr (.inr h)) id
end
theorem jq{w:YB}{y:Y}{n:Nat}{s:PS}(h:iR w y n s)(l:Int):
  eq prog 178 #[pp y.pb,l] w λe w'=>e=BY (U5 By (findF s.l l))/\i7 w w':=by
 have O0:=xh<|i6 w (WF #[l] 3);have B0:=xh<|aF.new w 3 #[l];have H0:=h.below O0.o;have q0:=B0.ap 0;have KI:=xh<|N2 y.fg s.l.length y.cp w.heap.size l s.l H0.Ef rfl (by have:=h.l2;omega) q0;have p1:=H0.p1;obtain⟨R,hR⟩:∃R,findF s.l l=R:=⟨_,rfl⟩;rw[hR];unfold findF at hR;generalize s.l.length=tn at *;clear H0 h;unfold pp
 by_cases h1:l<0
 .rw[if_pos h1]at hR;subst hR;go_in;go_wp2;go_ret;exact aI O0.o
 .rw[if_neg h1]at hR;rw[hR]at KI;clear hR;go_in;go_wp2_with fail;go_call KI.o as e w1 ⟨rfl,aO⟩;have O1:=xh<|aC O0.o aO;clear aO;go_wp2;go_ret;exact aI O1.o
theorem frc_set(l:List Fr)(k j:Nat)(hj:j<5)(f f':Fr)(u:YO)(hf:l[k]?=some f)(hu:f'.cs=f.cs.set j u):(Hw l).set (k*5+j) u=Hw (l.set k f'):=by
 induction l generalizing k with
 |nil=>simp at hf
 |cons a l ih=>
  have e5:a.cs.length=5:=rfl
  cases k with
  |zero=>
   simp at hf;subst hf;simp only[Hw,im,List.set_cons_zero,qh,bq]at ih ⊢;rw[vC _ _ (by omega),hu]
  |succ k=>
   simp at hf;have:=ih k hf;simp only[Hw,im,List.set_cons_succ]at this ⊢;rw[qc _ _ (by omega),e5,show(k+1)*5+j-5=k*5+j from by omega,this]
section
variable{w w':YB}{y:Y}{n:Nat}{s:PS}{S:List Nat}
theorem iR.gm(h:iR w y n s)(k j:Nat)(hj:j<5){f:Fr}(f':Fr)(u:YO)(hf:s.l[k]?=some f)(hu:f'.cs=f.cs.set j u):
  w.frozen? ⟨y.fg,k*5+j,none⟩=false/\iR (w.setCell ⟨y.fg,k*5+j,none⟩ u) y n {s with l:=s.l.set k f'}/\ag y.fp w (w.setCell ⟨y.fg,k*5+j,none⟩ u):=by
 have hk:k<s.l.length:=(aR.1 hf).1;have hl:=nQ s.l;obtain⟨rest,B,hr,_,hm⟩:=h.hf.uD;have o:ag [y.fg] w (w.setCell ⟨y.fg,k*5+j,none⟩ u):=(ag.refl _ _).setCell (by simp) _;have B2:=B.cw (k*5+j) u;rw[sJ,vC _ _ (by omega),frc_set s.l k j hj f f' u hf hu]at B2
 refine⟨B.frozen _ (by simp;omega),⟨?_,?_,h.hs.only o (λg hg hm=>by simp at hm;subst hm;exact h.n2 hg),h.n1,h.n2,by simpa using h.l1,by simpa using h.l2,by simpa using h.lh⟩,o.mono (λg hg _=>by simp at hg;subst hg;simp[Y.fp])⟩
 .have:=h.hp.only o (by simpa using h.n3);simpa using this
 .refine⟨by rw[nQ],.inr ⟨y.fg,y.cp,rest,by simp,B2,by rw[nQ,bV];omega,hm⟩⟩
theorem iR.setH(h:iR w y n s)(k:Nat)(hk:k<s.l.length):
  w.frozen? ⟨y.pb,2,none⟩=false/\iR (w.setCell ⟨y.pb,2,none⟩ (k:Nat)) y n {s with hand:=k}/\ag y.fp w (w.setCell ⟨y.pb,2,none⟩ (k:Nat)):=by
 have o:ag [y.pb] w (w.setCell ⟨y.pb,2,none⟩ (k:Nat)):=(ag.refl _ _).setCell (by simp) _;have n3:=h.n3;refine⟨h.hp.frozen 2 (by simp),⟨h.hp.cw 2 _,h.hf.only o (λg hg hm=>by simp[ah]at hg hm;omega),h.hs.only o (λg hg hm=>by simp at hm;subst hm;exact h.n1 hg),h.n1,h.n2,h.l1,h.l2,hk⟩,o.mono (λg hg _=>by simp at hg;subst hg;simp[Y.fp])⟩
end
theorem Hx(b:Fr->Bool)(l:List Fr):Jm b l= -1\/∃k f,Jm b l=((k:Nat):Int)/\l[k]?=some f/\b f=true:=by
 unfold Jm
 by_cases h:l.findIdx b<l.length
 .rw[if_pos h];exact .inr ⟨l.findIdx b,l[l.findIdx b],rfl,aH h,rj⟩
 .rw[if_neg h];exact .inl rfl
theorem ix(l:List Fr)(p:Int):findF l p= -1\/∃k f,findF l p=((k:Nat):Int)/\l[k]?=some f/\f.ao=p/\0<=p:=by
 unfold findF
 by_cases h:p<0
 .rw[if_pos h];exact .inl rfl
 .rw[if_neg h];exact(Hx _ l).imp id (λ⟨k,f,e1,e2,e3⟩=>⟨k,f,e1,e2,by simpa using e3,by omega⟩)
def PS.iS(s:PS)(p:Int):Option (Nat×Fr):=
 if findF s.l p<0 then none else match s.l[(findF s.l p).toNat]? with
  |none=>none
  |some f=>if f.held=0 then none else some ((findF s.l p).toNat,f)
def vT(y:Y):Option (Nat×Fr)->YO
 |none=>U8 #[U7 none,U5 By 16]
 |some (k,_)=>U8 #[U7 (some ⟨y.fg,k*5,none⟩),U5 By 0]
theorem Bs{w:YB}{y:Y}{n:Nat}{s:PS}(h:iR w y n s)(p:Int):
  eq prog 230 #[pp y.pb,p] w λe w'=>e=BY (vT y (s.iS p))/\i7 w w':=by
 have KF:=xh<|jq h p;have HB:=xh (λw' (hb:i7 w w')=>h.below hb);obtain⟨R,hR⟩:∃R,vT y (s.iS p)=R:=⟨_,rfl⟩;rw[hR];unfold PS.iS at hR;unfold pp at *
 rcases ix s.l p with e|⟨k,f,e,hf,_,_⟩
 .rw[e,g8]at hR;rw[e]at KF;subst hR;unfold vT;clear h e;go_in;go_wp2_with fail;go_call KF.o as e w1 ⟨rfl,aO⟩;have O1:=xh aO;clear aO;go_wp2;go_ret2;exact aI O1.o
 .rw[e,gc,show((k:Nat):Int).toNat=k from by omega,hf]at hR;rw[e]at KF;have hk:k<s.l.length:=(aR.1 hf).1;have Q4:(k:Int)<(s.l.length:Int):=by omega
  have VF:¬(k:Int)<0:=by omega
  have HX:=xh (λw' (hb:i7 w w')=>(show w'.cell? ⟨y.pb,1,none⟩=some (U3 (lc y.fg) s.l.length y.cp)/\w'.cell? ⟨y.fg,k*5+2,none⟩=some (f.held:li)from⟨(HB.o w' hb).p1,((HB.o w' hb).Ef k f hf).2.2.1⟩));have HL:=g9 (s.l.length<=32) h.l2;dsimp only at hR
  by_cases hh:f.held=0
  .rw[if_pos hh]at hR;subst hR;have hq:(f.held==0)=true:=by rw[beq_iff_eq];exact hh
   unfold vT;clear h e hf hk hh;generalize f.held=fh at *;generalize s.l.length=tn at *;go_in;go_wp2_with fail;go_call KF.o as e w1 ⟨rfl,aO⟩;have O1:=xh aO;obtain⟨x1,x2⟩:=HX.o w1 aO;clear aO;go_wp2;go_ret2;exact aI O1.o
  .rw[if_neg hh]at hR;subst hR;have hq:(f.held==0)=false:=i4 hh
   unfold vT;clear h e hf hk hh;generalize f.held=fh at *;generalize s.l.length=tn at *;go_in;go_wp2_with fail;go_call KF.o as e w1 ⟨rfl,aO⟩;have O1:=xh aO;obtain⟨x1,x2⟩:=HX.o w1 aO;clear aO;go_wp2;go_ret2;exact aI O1.o
variable{w:YB}{y:Y}{n:Nat}
def PS.iT(s:PS)(p:Int):PS×Int:=match s.iS p with
 |none=>(s,16)
 |some (k,f)=>({s with l:=s.l.set k {f with held:=f.held-1}},0)
theorem Bt{s:PS}{p:Int}{k:Nat}{f:Fr}(h:s.iS p=some (k,f)):s.l[k]?=some f/\f.held≠0/\findF s.l p=k:=by
 unfold PS.iS at h
 rcases ix s.l p with e|⟨j,g,e,hf,_,_⟩
 .rw[e,g8]at h
  cases h
 .rw[e,gc,show((j:Nat):Int).toNat=j from by omega,hf]at h;dsimp only at h
  split at h
  .cases h
  .rename_i hh;injection h with h
   injection h with h1 h2
   subst h1 h2;exact⟨hf,hh,e⟩
def PostP(w w':YB)(y:Y)(n:Nat)(s':PS):Prop:= ∃y',y'.pb=y.pb/\y'.fg=y.fg/\y'.cp=y.cp/\y'.x.b=y.x.b/\y'.x.L=y.x.L/\iR w' y' n s'/\ag y.fp w w'/\∀g∈y'.fp,g∈y.fp\/w.heap.size<=g
theorem let_any{s:PS}(h:iR w y n s)(p:Int)(hb:∀f∈s.l,-1000<=f.held/\f.held<=4000000000000):
  eq prog 214 #[pp y.pb,p] w λe w'=>e=BY (U5 By (s.iT p).2)/\iR w' y n (s.iT p).1/\ag y.fp w w':=by
 have KH:=xh<|Bs h p;have HB:=xh (λw' (hb:i7 w w')=>h.below hb);obtain⟨R,hR⟩:∃R,s.iT p=R:=⟨_,rfl⟩;rw[hR];unfold PS.iT at hR;unfold pp at *
 cases hd:s.iS p with
 |none=>
  rw[hd]at hR KH;dsimp only at hR;subst hR;unfold vT at KH;clear h hd hb;go_in;go_wp2_with fail;go_call KH.o as e w1 ⟨rfl,aO⟩;have O1:=xh aO;clear aO;go_wp2;go_ret;exact aI ⟨HB.o _ O1.o,.aj O1.o⟩
 |some r=>
  obtain⟨k,f⟩:=r;obtain⟨hf,hh,_⟩:=Bt hd;rw[hd]at hR KH;dsimp only at hR;subst hR;have hfb:=hb f (aA hf);have HS:=xh (λw' (hb:i7 w w')=>(HB.o w' hb).gm k 2 (by omega) {f with held:=f.held-1} (U5 By (f.held-1)) hf rfl);have HC:=xh (λw' (hb:i7 w w')=>((HB.o w' hb).Ef k f hf).2.2.1);have m1:IntKind.i64.wrap (f.held-1)=f.held-1:=dl;unfold vT at KH;clear h hd hb hf hfb hh
  generalize f.held=fh at *;go_in;go_wp2_with fail;go_call KH.o as e w1 ⟨rfl,aO⟩;have O1:=xh aO;obtain⟨z1,A1,o1⟩:=HS.o w1 aO;have A1:=xh A1;have o1:=xh o1;have c1:=HC.o w1 aO;clear aO;go_wp2;go_ret;exact aI ⟨A1.o,(ag.aj O1.o).trans o1.o⟩
theorem Tp{s:PS}(h:iR w y n s)(v:rd)(hs:v.size<=9223372036854775807)(Jk:0<=s.c.ep/\s.c.ep<=1099511627776)(hc:s.c.d.calls<=3999999999999999990)(hr:s.c.d.bu<=9223372036854775807):
  eq prog 69 #[pp y.pb,U2 v] w λe w'=>e=BY (U8 #[U5 By (s.c.bZ n v.data.toList).2.1,U5 By (s.c.bZ n v.data.toList).2.2])/\PostP w w' y n {s with c:=(s.c.bZ n v.data.toList).1}:=by
 have KN:=xh<|new_any h.hs v hs Jk hc hr;have HP:=xh (λw' (p:zK w w' y.x n (s.c.bZ n v.data.toList).1)=>(show PostP w w' y n {s with c:=(s.c.bZ n v.data.toList).1}from h.store p));have p0:=h.p0;generalize (s.c.bZ n v.data.toList)=R at *;clear h hs Jk hc hr;unfold pp sp at *;go_in;go_wp2_with fail;go_call KN.o as e w1 ⟨rfl,P1⟩;have P2:=xh<|HP.o w1 P1;clear P1;go_wp2;go_ret2;exact aI P2.o
theorem N7{s:PS}(h:iR w y n s):
  eq prog 28 #[pp y.pb] w λe w'=>e=BY (sp y.x.b)/\w=w':=by
 have p0:=h.p0;clear h;unfold pp sp at *;go_in;go_wp2;go_ret;exact aI rfl
variable{w:YB}
theorem Tq(f:Fr)(w:YB)(b:Bool)(hb:b=decide (f.ao<0)):
  eq prog 244 #[f.agg] w λe w'=>e=BY (U6 b)/\i7 w w':=by
 have O0:=xh<|(i5 w).alloc (ai _) (WF #[f.ao,U2 f.gI,f.held,U6 f.cF,U6 f.used] 167);have B0:=aF.new w 167 #[f.ao,U2 f.gI,f.held,U6 f.cF,U6 f.used];have c0:=B0.bi 0;have HB:=xh hb;clear hb B0;unfold Fr.agg;go_in;go_wp2;go_ret;exact⟨by rw[HB.o];first|rfl|simp,O0.o⟩
theorem N8(g n c:Nat)(l:List Fr)(h:yO w g l)(hl:l.length=n)(hn:n<=1000000):
  eq prog 220 #[U3 (lc g) n c,.func (Fn.func 244) #[] #[]] w λe w'=>e=BY (U5 By (Jm (λf=>decide (f.ao<0)) l))/\i7 w w':=by
 have HL:=xh hl;have H0:=xh h;clear h hl;go_in;go_wp2_with fail
 go_loopw [8] (λiv wr=> ∃i:Nat,i<=n/\iv=U5 By i/\Hid (∀(j:Nat) (a:Fr),j<i->l[j]?=some a->decide (a.ao<0)=false)/\Hid (i7 w wr)) (λiv _=>n-(intOf iv).toNat)
 case atStart=>exact⟨0,aW _,rfl,xh (λj a hj=>absurd hj (mc j)),xh (Below.refl _ _)⟩
 case round=>
  obtain⟨i,hi,rfl,HA,HB⟩:=hrel
  by_cases h:i<n
  .have hf:l[i]?=some (l[i]'(by have:=HL.o;omega)):=aH _;generalize (l[i]'(by have:=HL.o;omega))=f at hf;obtain⟨c0,c1,c2,c3,c4⟩:=(H0.o.below HB.o) i f hf;have KF:=xh<|Tq f wr _ rfl;have HF:=xh hf;clear hf;unfold Fr.agg at KF;obtain⟨b,hb⟩:∃b,decide (f.ao<0)=b:=⟨_,rfl⟩;rw[hb]at KF;have HD:=xh hb;clear hb;go_wp2_with fail;go_call KF.o as e w1 ⟨rfl,aO⟩;have JL:=xh<|aC HB.o aO;clear aO
   cases b with
   |true=>
    have he:=xh<|vS (b:=λf=>decide (f.ao<0)) HF.o HD.o HA.o;go_wp2;go_ret;exact⟨by rw[he.o];rfl,JL.o⟩
   |false=>
    go_wp2_with fail;go_roundw
    case rel=>
     refine⟨i+1,by omega,by go_num,xh (λj a hj ha=>?_),JL⟩
     rcases qg.1 hj with hj|rfl
     .exact HA.o j a hj ha
     .have:=HF.o.symm.trans ha;injection this with this
      subst this;exact HD.o
    case measure=>simp[intOf];omega
  .have he:=xh<|Br (b:=λf=>decide (f.ao<0)) (l:=l) (λj a ha=>HA.o j a (by have:=(aR.1 ha).1;have:=HL.o;omega) ha);go_wp2;go_ret;exact⟨by rw[he.o];rfl,HB.o⟩
theorem WY{y:Y}{n q:Nat}{s:PS}(h:iR w y n s)(hq:w.cell? (lc q)=some (pp y.pb))(hqp:q≠y.pb):
  eq prog 245 #[lc q] w λe w'=>e=BY (U7 (some ⟨y.fg,s.hand*5,none⟩))/\iR w' y n {s with hand:=(s.hand+1) % s.l.length}/\ag y.fp w w':=by
 have p1:=h.p1;have p2:=h.p2;have l1:=h.l1;have l2:=h.l2;have lh:=h.lh;obtain⟨m,hm⟩:∃m,(s.hand+1) % s.l.length=m:=⟨_,rfl⟩;have pX:m<s.l.length:=by rw[<-hm];exact sN _ (by omega)
 have hmI:((s.hand:Int)+1).tmod (s.l.length:Int)=(m:Int):=by rw[<-hm,show((s.hand:Int)+1)=((s.hand+1:Nat):Int)from by omega];exact(Int.ofNat_tmod _ _).symm
 have hlI:(s.hand:Int)<(s.l.length:Int):=by omega
 have m1:IntKind.i64.wrap ((s.hand:Int)+1)=(s.hand:Int)+1:=dl;have m2:IntKind.i64.wrap (m:Int)=(m:Int):=dl;have zG:¬s.l=[]:=by intro e;rw[e]at l1;simp at l1
 rw[hm];have HB:=xh (λw' (hb:i7 w w')=>h.below hb);have QB:=xh (λw' (hb:i7 w w')=>(hb.cell (cZ hq)).trans hq);clear h hm;unfold pp at *;go_in;go_wp2_with fail;go_quiet (fail);have O1:=xh<|de (i5 w) nq;generalize w.drewN nq=w1 at *;have o0:=HB.o _ O1.o;have od:=o0.drew;have z:=(od.setH m pX).1;have A:=xh (od.setH m pX).2.1
 have OA:=xh<|(ag.aj O1.o.drew).trans (od.setH m pX).2.2;have p2d:=od.p2;have HS:=g9 (w1.drew.cell? (lc q)=some (lc y.pb:li)/\w1.drew.cell? ⟨y.pb,1,none⟩=some (U3 (lc y.fg) s.l.length y.cp)) ⟨QB.o _ O1.o.drew,od.p1⟩
 have Bu:=xh (show(w1.drew.setCell ⟨y.pb,2,none⟩ (m:Nat)).cell? (lc q)=some (lc y.pb:li)/\(w1.drew.setCell ⟨y.pb,2,none⟩ (m:Nat)).cell? ⟨y.pb,1,none⟩=some (U3 (lc y.fg) s.l.length y.cp)from⟨by
  have c:=QB.o _ O1.o.drew;have o:=(ag.refl [y.pb] w1.drew).setCell (p:=⟨y.pb,2,none⟩) (by simp) (m:Nat);exact(o.cell (cZ c) (by simpa using hqp)).trans c,A.o.p1⟩)
 clear o0 od p1 p2 hq;go_wp2_with fail;refine kw (λW'=>W'.cell? (lc q)=some (lc y.pb:li)/\W'.cell? ⟨y.pb,1,none⟩=some (U3 (lc y.fg) s.l.length y.cp)) (HS.o) (λau=>?_);refine dP [(0,12),(1,13),(2,14),(3,15),(6,18),(7,19),(8,20),(9,21),(10,22)] ?_
 iterate 9 refine bJ ?_
 refine dI 4 16 λK hK=>?_;go_simp;refine bn hK (HS.o) (λau=>?_);refine dP [(5,17),(11,23),(12,24),(13,25)] ?_
 iterate 4 refine bJ ?_
 refine rm 14 λK hK=>?_;go_simp;refine bn hK (Bu.o) (λau=>?_);refine jp ?_ _;go_wp2;go_ret;exact aI ⟨A.o,OA.o⟩
def kA(l:List Fr)(k:Nat):Fr:=(l[k]?).getD Fr.nil
def PS.turn(s:PS):PS:={s with hand:=(s.hand+1) % s.l.length}
def PS.kt:Nat->PS->PS×Int
 |0,s=>(s,-1)
 |m+1,s=>
  if 0<(kA s.l s.hand).held then PS.kt m s.turn
  else if(kA s.l s.hand).used=true then PS.kt m {s.turn with l:=s.l.set s.hand {kA s.l s.hand with used:=false}}
  else(s.turn,(s.hand:Int))
def PS.aN(s:PS):PS×Int:=
 if 0<=Jm (λf=>decide (f.ao<0)) s.l then(s,Jm (λf=>decide (f.ao<0)) s.l)else s.kt (2*s.l.length+1)
theorem ng{l:List Fr}{k:Nat}(h:k<l.length):l[k]?=some (kA l k):=by unfold kA;rw[aH h];rfl
theorem Bv{w:YB}{y:Y}{n:Nat}{s:PS}(h:iR w y n s):
  eq prog 229 #[pp y.pb] w λe w'=>e=BY s.aN.2/\iR w' y n s.aN.1/\ag y.fp w w':=by
 have vL:=h.lt y.pb (by simp[Y.fp]);have O0:=xh<|i6 w (WF #[lc y.pb] 34);have B0:=xh<|aF.new w 34 #[lc y.pb];have H0:=xh<|h.below O0.o;have KI:=xh<|N8 y.fg s.l.length y.cp s.l H0.o.Ef rfl (by have:=h.l2;omega);have NP:=g9 (w.heap.size≠y.pb) (by omega);have NF:=g9 (w.heap.size∉y.fp) (λhm=>by have:=h.lt _ hm;omega)
 have q0:=B0.ap 0;have p1:=H0.o.p1;have l2:=h.l2;obtain⟨R,hR⟩:∃R,s.aN=R:=⟨_,rfl⟩;rw[hR];unfold PS.aN at hR;clear h vL;unfold pp at *
 rcases Hx (λf=>decide (f.ao<0)) s.l with e|⟨k,f,e,hf,_⟩
 .rw[e,gc]at hR;rw[e]at KI;obtain⟨N,hN⟩:∃N,2*s.l.length+1=N:=⟨_,rfl⟩;have m1:IntKind.i64.wrap (2*(s.l.length:Int))=2*(s.l.length:Int):=dl;have m2:IntKind.i64.wrap (2*(s.l.length:Int)+1)=(N:Int):=by rw[dl];omega
  have hN65:N<=65:=by omega
  rw[hN]at hR;have HN:=xh hN;have HR:=xh hR;clear e hR hN;go_in;go_wp2_with fail
  go_step3
  go_wp2_with fail;go_call KI.o as e w1 ⟨rfl,aO⟩;have O1:=xh<|aC O0.o aO;have H1:=xh<|H0.o.below aO;have B1:=xh<|B0.o.below aO B0.o.lt;have p1':=H1.o.p1;have q1:=B1.ap 0;clear aO p1 q0;go_wp2_with fail
  go_step3
  go_wp2_with fail;clear p1' q1
  go_loopw [5,24] (λov iv wr=> ∃(i:Nat) (s':PS),i<=N/\ov=U5 By (-1)/\iv=U5 By i/\Hid (iR wr y n s')/\Hid (s'.kt (N-i)=R)/\Hid (ag y.fp w wr)/\Hid (aF wr w.heap.size 34 #[lc y.pb])) (λ_ iv _=>N-(intOf iv).toNat)
  case atStart=>exact⟨0,s,aW _,rfl,rfl,H1,xh (by rw[Nat.sub_zero];exact HR.o),xh (.aj O1.o),B1⟩
  case round=>
   obtain⟨i,s',hi,rfl,rfl,HA,HS,HO,HQ⟩:=hrel
   by_cases h:i<N
   .have KN:=xh<|WY HA.o (HQ.ap 0) NP.o;have q2:=HQ.ap 0;have p2:=HA.o.p2;have hI:(i:Int)<(N:Int):=by omega
    have hf:=ng HA.o.lh;have hS:=HS.o;rw[show N-i=(N-(i+1))+1 from by omega]at hS;unfold PS.kt at hS;generalize JM:kA s'.l s'.hand=f at *;have HF:=xh hf;clear hf JM;go_wp2_with fail;go_call KN.o as e w2 ⟨rfl,A2,o2⟩;have A2:=xh A2;have o2r:=o2;have o2:=xh<|HO.o.trans o2r;obtain⟨_,_,x2,_,x4⟩:=A2.o.Ef s'.hand f HF.o;have HF5:=xh<|A2.o.gm s'.hand 4 (by omega) {f with used:=false} (U6 false) HF.o rfl;have z5:=HF5.o.1
    have HQ2:=xh<|HQ.o.only o2r NF.o;clear o2r q2 p2
    by_cases h1:0<f.held
    .rw[if_pos h1]at hS;have HS:=xh hS;clear hS;generalize f.held=fh at *;go_wp2_with fail;go_roundw
     case rel=>exact⟨i+1,s'.turn,by omega,rfl,by go_num,A2,HS,o2,HQ2⟩
     case measure=>simp[intOf];omega
    .rw[if_neg h1]at hS
     by_cases h2:f.used=true
     .rw[if_pos h2]at hS;rw[h2]at x4;have HS:=xh hS;have A5:=xh HF5.o.2.1;have O5:=xh<|o2.o.trans HF5.o.2.2;have HQ5:=xh<|HQ2.o.only HF5.o.2.2 NF.o;clear hS h2 HF5;generalize f.held=fh at *;go_wp2_with fail;go_roundw
      case rel=>exact⟨i+1,_,by omega,rfl,by go_num,A5,HS,O5,HQ5⟩
      case measure=>simp[intOf];omega
     .have h3:f.used=false:=by simpa using h2
      rw[if_neg h2]at hS;rw[h3]at x4;subst hS;clear h2 HF5 HS HR;generalize f.held=fh at *;go_wp2_with fail;rw[Exit.noGoto_ret];go_ret;exact aI ⟨A2.o,o2.o⟩
   .have hiN:i=N:=by omega
    subst hiN;have hS:=HS.o;rw[fM]at hS;unfold PS.kt at hS;subst hS;go_wp2_with fail;rw[Exit.noGoto_ret];go_ret;exact aI ⟨HA.o,HO.o⟩
 .rw[e,g8]at hR;rw[e]at KI;subst hR;have VF:(0:Int)<=(k:Int):=by omega
  clear e hf;go_in;go_wp2_with fail
  go_step3
  go_wp2_with fail;go_call KI.o as e w1 ⟨rfl,aO⟩;have O1:=xh<|aC O0.o aO;have H1:=xh<|H0.o.below aO;clear aO;go_wp2_with fail;rw[Exit.noGoto_ret];go_ret;exact aI ⟨H1.o,.aj O1.o⟩
theorem N9{w:YB}{y:Y}{n:Nat}{s:PS}(h:iR w y n s)(k:Nat){f:Fr}(hf:s.l[k]?=some f)(hd:f.cF=false):
  eq prog 99 #[pp y.pb,(k:Nat)] w λe w'=>e=BY (U5 By 0)/\i7 w w':=by
 have hk:k<s.l.length:=(aR.1 hf).1;have p1:=h.p1;have l2:=h.l2;have Q4:(k:Int)<(s.l.length:Int):=by omega
 obtain⟨_,_,_,c3,_⟩:=h.Ef k f hf;rw[hd]at c3;have OB:=xh<|i5 w;clear h hf hd;unfold pp at *;go_in;go_wp2;go_ret;exact aI OB.o
variable{w:YB}{y:Y}{n:Nat}{s:PS}
theorem WZ(h:iR w y n s)(p:Int)(k:Nat){f:Fr}(hk:findF s.l p=(k:Nat))(hf:s.l[k]?=some f)(hb: -1000<=f.held/\f.held<=4000000000000):
  eq prog 213 #[pp y.pb,p] w λe w'=>e=BY (U8 #[U2 f.gI,U5 By 0])/\iR w' y n {s with l:=s.l.set k {f with held:=f.held+1,used:=true}}/\ag y.fp w w':=by
 have KF:=xh<|jq h p;rw[hk]at KF;have lO:k<s.l.length:=(aR.1 hf).1;have Q4:(k:Int)<(s.l.length:Int):=by omega
 have VF:(0:Int)<=(k:Int):=by omega
 have HB:=xh (λw' (hb:i7 w w')=>h.below hb);have m1:IntKind.i64.wrap (f.held+1)=f.held+1:=dl;have HF:=xh hf;have HL:=xh h.l2;clear h hk hf hb;unfold pp at *;go_in;go_wp2_with fail;go_call KF.o as e w1 ⟨rfl,aO⟩;have O1:=xh aO;have A1:=HB.o w1 aO;have p1:=A1.p1;have A2:=A1.gm k 2 (by omega) {f with held:=f.held+1} (U5 By (f.held+1)) HF.o rfl;obtain⟨z1,A3,o3⟩:=A2
 have Ak:(s.l.set k {f with held:=f.held+1})[k]?=some {f with held:=f.held+1}:=by rw[eu lO]
 obtain⟨z2,A4,o4⟩:=A3.gm k 4 (by omega) {f with held:=f.held+1,used:=true} (U6 true) Ak rfl;have hf4:((s.l.set k {f with held:=f.held+1}).set k {f with held:=f.held+1,used:=true})[k]?=some {f with held:=f.held+1,used:=true}:=by rw[eu (by simpa using lO)]
 obtain⟨_,x1,_,_,_⟩:=A4.Ef k _ hf4;obtain⟨_,_,y2,_,_⟩:=A1.Ef k f HF.o;obtain⟨_,_,_,_,y4⟩:=A3.Ef k _ Ak;simp only[kP]at A4;have AZ:=xh A4;have OZ:=xh<|(ag.aj (S:=y.fp) O1.o).trans (o3.trans o4);clear aO A1 A3 A4 o3 o4 Ak hf4;go_wp2;go_ret2;exact aI ⟨AZ.o,OZ.o⟩
theorem W7(h:iR w y n s)(p:Int)(hk:findF s.l p= -1)(hr:(s.c.aP n p).2≠0):
  eq prog 213 #[pp y.pb,p] w λe w'=>e=BY (U8 #[U2 ⟨#[]⟩,U5 By (s.c.aP n p).2])/\i7 w w':=by
 have KF:=xh<|jq h p;rw[hk]at KF;have HB:=xh (λw' (hb:i7 w w')=>h.below hb);have KR:=xh (λw' (hb:i7 w w')=>ph (h.below hb).hs p);have hq:((s.c.aP n p).2==0)=false:=i4 hr
 have my:((s.c.aP n p).2 != 0)=true:=ls hr
 generalize s.c.aP n p=R at *;clear h hk;unfold pp sp at *;go_in;go_wp2_with fail;go_call KF.o as e w1 ⟨rfl,aO⟩;have O1:=xh aO;have p0:=(HB.o w1 aO).p0;clear aO;go_wp2_with fail;go_call (KR.o w1 O1.o) as e w2 ⟨rfl,cf⟩;have O2:=xh<|aC O1.o cf;clear cf;go_wp2;go_ret2;exact aI O2.o
theorem Tr(h:iR w y n s)(p:Int)(hk:findF s.l p= -1)(hr:(s.c.aP n p).2=0)(hv:s.aN.2<0):
  eq prog 213 #[pp y.pb,p] w λe w'=>e=BY (U8 #[U2 ⟨#[]⟩,U5 By 12])/\iR w' y n s.aN.1/\ag y.fp w w':=by
 have KF:=xh<|jq h p;rw[hk]at KF;have HB:=xh (λw' (hb:i7 w w')=>h.below hb);have KR:=xh (λw' (hb:i7 w w')=>ph (h.below hb).hs p);have KV:=xh (λw' (hb:i7 w w')=>Bv (h.below hb));rw[hr]at KR;generalize (s.c.aP n p).1=R at *;generalize s.aN=V at *;clear h hk;unfold pp sp at *;go_in;go_wp2_with fail;go_call KF.o as e w1 ⟨rfl,aO⟩;have O1:=xh aO
 have p0:=(HB.o w1 aO).p0;clear aO;go_wp2_with fail;go_call (KR.o w1 O1.o) as e w2 ⟨rfl,cf⟩;have O2:=xh<|aC O1.o cf;clear cf;go_wp2_with fail;go_call (KV.o w2 O2.o) as e w3 ⟨rfl,A3,o3⟩;have A3:=xh A3;have o3:=xh<|(ag.aj (S:=y.fp) O2.o).trans o3;go_wp2;go_ret2;exact aI ⟨A3.o,o3.o⟩
variable{w:YB}{y:Y}{n:Nat}{s:PS}{f:Fr}
theorem iR.same{w':YB}{c':C}(h:iR w y n s)(A:At w' y.x n c')(o:ag y.x.fp w w'):iR w' y n {s with c:=c'}/\ag y.fp w w':=
 ⟨⟨h.hp.only o h.n1,h.hf.only o (λg hg=>by simp[ah]at hg;subst hg;exact h.n2),A,h.n1,h.n2,h.l1,h.l2,h.lh⟩,o.mono (λg hg _=>by simp[Y.fp,hg])⟩
theorem Oc(h:iR w y n s)(p:Int)(k:Nat)(hk:findF s.l p=(k:Nat))(hf:s.l[k]?=some f)(hh:0<f.held):
  eq prog 132 #[pp y.pb,p] w λe w'=>e=BY (U5 By 16)/\i7 w w':=by
 have KF:=xh<|jq h p;rw[hk]at KF;have HB:=xh (λw' (hb:i7 w w')=>h.below hb);have lO:k<s.l.length:=(aR.1 hf).1;have Q4:(k:Int)<(s.l.length:Int):=by omega
 have VF:(0:Int)<=(k:Int):=by omega
 have HF:=xh hf;have l2:=h.l2;clear h hk hf;unfold pp at *;go_in;go_wp2_with fail;go_call KF.o as e w1 ⟨rfl,aO⟩;have O1:=xh aO;have A1:=xh<|HB.o w1 aO;have p0:=A1.o.p0;have p1:=A1.o.p1;obtain⟨_,_,c2,_,_⟩:=A1.o.Ef k f HF.o;clear aO;go_wp2;go_ret;exact aI O1.o
theorem Ts(h:iR w y n s)(p:Int)(hk:findF s.l p= -1):
  eq prog 132 #[pp y.pb,p] w λe w'=>e=BY (U5 By (s.c.aV p).2)/\iR w' y n {s with c:=(s.c.aV p).1}/\ag y.fp w w':=by
 have KF:=xh<|jq h p;rw[hk]at KF;have HB:=xh (λw' (hb:i7 w w')=>h.below hb);have KD:=xh (λw' (hb:i7 w w')=>JJ (h.below hb).hs p);have HP:=xh (λw1 (hb:i7 w w1) w2 (A:At w2 y.x n (s.c.aV p).1) (o:ag y.x.fp w1 w2)=>(h.below hb).same A o);generalize s.c.aV p=R at *;obtain⟨R1,R2⟩:=R;dsimp only at *;clear h hk;unfold sp at *;unfold pp at *;go_in;go_wp2_with fail
 go_call KF.o as e w1 ⟨rfl,aO⟩;have O1:=xh aO;have A1:=xh<|HB.o w1 aO;have p0:=A1.o.p0;have p1:=A1.o.p1;clear aO;go_wp2_with fail;go_call (KD.o w1 O1.o) as e w2 ⟨rfl,A2,o2⟩;have A3:=xh<|HP.o w1 O1.o w2 A2 o2;clear A2 o2
 by_cases h0:R2=0
 .subst h0;go_wp2;go_ret;exact⟨by first|rfl|(simp;done)|(simp[h0];done)|simp_all,A3.o.1,(ag.aj (S:=y.fp) O1.o).trans A3.o.2⟩
 .have hq:(R2 != 0)=true:=ls h0
  have my:(R2==0)=false:=i4 h0
  go_wp2;go_ret;exact⟨by first|rfl|(simp;done)|(simp[h0];done)|simp_all,A3.o.1,(ag.aj (S:=y.fp) O1.o).trans A3.o.2⟩
theorem iR.W8(h:iR w y n s)(k:Nat)(hf:s.l[k]?=some f):
  w.frozen? ⟨y.fg,k*5,none⟩=false/\w.frozen? ⟨y.fg,k*5+1,none⟩=false/\w.frozen? ⟨y.fg,k*5+2,none⟩=false/\w.frozen? ⟨y.fg,k*5+3,none⟩=false/\w.frozen? ⟨y.fg,k*5+4,none⟩=false/\
  iR (((((w.setCell ⟨y.fg,k*5,none⟩ (U5 By (-1))).setCell ⟨y.fg,k*5+1,none⟩ (U2 ⟨#[]⟩)).setCell ⟨y.fg,k*5+2,none⟩ (U5 By 0)).setCell ⟨y.fg,k*5+3,none⟩ (U6 false)).setCell ⟨y.fg,k*5+4,none⟩ (U6 false)) y n {s with l:=s.l.set k Fr.nil}/\
  ag y.fp w (((((w.setCell ⟨y.fg,k*5,none⟩ (U5 By (-1))).setCell ⟨y.fg,k*5+1,none⟩ (U2 ⟨#[]⟩)).setCell ⟨y.fg,k*5+2,none⟩ (U5 By 0)).setCell ⟨y.fg,k*5+3,none⟩ (U6 false)).setCell ⟨y.fg,k*5+4,none⟩ (U6 false)):=by
 have lO:k<s.l.length:=(aR.1 hf).1;obtain⟨z0,B0,q0⟩:=h.gm k 0 (by omega) {f with ao:= -1} (U5 By (-1)) hf rfl;rw[ma]at z0 B0 q0;have g0:(s.l.set k {f with ao:= -1})[k]?=some {f with ao:= -1}:=by rw[eu lO]
 obtain⟨_,B1,q1⟩:=B0.gm k 1 (by omega) {f with ao:= -1,gI:=⟨#[]⟩} (U2 ⟨#[]⟩) g0 rfl;simp only[kP]at B1;have g1:(s.l.set k {f with ao:= -1,gI:=⟨#[]⟩})[k]?=some {f with ao:= -1,gI:=⟨#[]⟩}:=by rw[eu lO]
 obtain⟨_,B2,q2⟩:=B1.gm k 2 (by omega) {f with ao:= -1,gI:=⟨#[]⟩,held:=0} (U5 By 0) g1 rfl;simp only[kP]at B2;have g2:(s.l.set k {f with ao:= -1,gI:=⟨#[]⟩,held:=0})[k]?=some {f with ao:= -1,gI:=⟨#[]⟩,held:=0}:=by rw[eu lO]
 obtain⟨_,B3,q3⟩:=B2.gm k 3 (by omega) {f with ao:= -1,gI:=⟨#[]⟩,held:=0,cF:=false} (U6 false) g2 rfl;simp only[kP]at B3;have g3:(s.l.set k {f with ao:= -1,gI:=⟨#[]⟩,held:=0,cF:=false})[k]?=some {f with ao:= -1,gI:=⟨#[]⟩,held:=0,cF:=false}:=by rw[eu lO]
 obtain⟨_,B4,q4⟩:=B3.gm k 4 (by omega) Fr.nil (U6 false) g3 rfl;simp only[kP]at B4;obtain⟨rest,B,hr,_,_⟩:=h.hf.uD;have hl:=nQ s.l;have fz:∀j,j<5->w.frozen? ⟨y.fg,k*5+j,none⟩=false:=λj hj=>B.frozen _ (by simp;omega);exact⟨fz 0 (by omega),fz 1 (by omega),fz 2 (by omega),fz 3 (by omega),fz 4 (by omega),B4,(((q0.trans q1).trans q2).trans q3).trans q4⟩
theorem Xa(h:iR w y n s)(p:Int)(k:Nat)(hk:findF s.l p=(k:Nat))(hf:s.l[k]?=some f)(hh:f.held=0):
  eq prog 132 #[pp y.pb,p] w λe w'=>e=BY (U5 By (s.c.aV p).2)/\iR w' y n (if(s.c.aV p).2=0 then {s with c:=(s.c.aV p).1,l:=s.l.set k Fr.nil}else {s with c:=(s.c.aV p).1})/\ag y.fp w w':=by
 have KF:=xh<|jq h p;rw[hk]at KF;have KE:=xh pw;unfold Fr.nil Fr.agg at KE;have HB:=xh (λw' (hb:i7 w w')=>h.below hb);have lO:k<s.l.length:=(aR.1 hf).1;have Q4:(k:Int)<(s.l.length:Int):=by omega
 have VF:(0:Int)<=(k:Int):=by omega
 have HF:=xh hf;have KD:=xh (λw' (hb:i7 w w')=>JJ (h.below hb).hs p);have HP:=xh (λw1 (hb:i7 w w1) w2 (A:At w2 y.x n (s.c.aV p).1) (o:ag y.x.fp w1 w2)=>(h.below hb).same A o);have l2:=h.l2;generalize s.c.aV p=R at *;obtain⟨R1,R2⟩:=R;dsimp only at *;clear h hk hf;unfold sp at *
 by_cases h0:R2=0
 .subst h0;rw[if_pos rfl];unfold pp at *;go_in;go_wp2_with fail;go_call KF.o as e w1 ⟨rfl,aO⟩;have O1:=xh aO;have A1:=xh<|HB.o w1 aO;have p0:=A1.o.p0;have p1:=A1.o.p1;obtain⟨_,_,c2,_,_⟩:=A1.o.Ef k f HF.o;rw[hh]at c2;clear aO hh;go_wp2_with fail;go_call (KD.o w1 O1.o) as e w2 ⟨rfl,A2,o2⟩;have A3:=xh<|HP.o w1 O1.o w2 A2 o2;clear A2 o2 p0 p1 c2;have AD:=xh<|A3.o.1.drew
  have OD:=xh<|(((ag.refl y.fp w).trans (ag.aj O1.o)).trans A3.o.2).drew;have P1D:=xh AD.o.p1;clear A3;go_wp2_with fail;refine kw (λW'=>W'.cell? ⟨y.pb,1,none⟩=some (U3 (lc y.fg) s.l.length y.cp)) (P1D.o) (λau=>?_);refine dP [(0,39),(1,40),(2,41),(3,42),(4,43)] ?_
  iterate 5 refine bJ ?_
  refine dI 5 44 λK hK=>?_;go_simp
  go_at_call 86
  go_call (KE.o _) as e w6 ⟨rfl,zI⟩;have A6:=xh<|AD.o.below zI;have O6:=xh<|OD.o.trans (ag.aj (S:=y.fp) zI);have p1y:=A6.o.p1;clear zI;refine bn hK (p1y) (λau=>?_);refine dP [(6,45)] ?_
  iterate 1 refine bJ ?_
  refine rm 7 λK hK=>?_;go_simp;have p1x:=A6.o.p1;have l2x:=A6.o.l2;obtain⟨c0,c1,c2,c3,c4⟩:=A6.o.Ef k f HF.o;obtain⟨z0,z1,z2,z3,z4,B4,q4⟩:=A6.o.W8 k HF.o;have AZ:=xh B4;have OZ:=xh<|O6.o.trans q4;clear B4 q4;go_simp;refine hK.o _ _ (by have:=AZ.o.p1;simpa using this) (λau=>?_)
  try simp only[Act.put,pa,pb,pc]
  refine jp ?_ _;go_wp2;go_ret;exact aI ⟨AZ.o,OZ.o⟩
 .have hq:(R2 != 0)=true:=ls h0
  have my:(R2==0)=false:=i4 h0
  rw[if_neg h0];unfold pp at *;go_in;go_wp2_with fail;go_call KF.o as e w1 ⟨rfl,aO⟩;have O1:=xh aO;have A1:=xh<|HB.o w1 aO;have p0:=A1.o.p0;have p1:=A1.o.p1;obtain⟨_,_,c2,_,_⟩:=A1.o.Ef k f HF.o;rw[hh]at c2;clear aO hh;go_wp2_with fail;go_call (KD.o w1 O1.o) as e w2 ⟨rfl,A2,o2⟩;have A3:=xh<|HP.o w1 O1.o w2 A2 o2;clear A2 o2;go_wp2;go_ret
  exact aI ⟨A3.o.1,(ag.aj (S:=y.fp) O1.o).trans A3.o.2⟩
end Sh
end Go.Proofs.YtmonobkginiajaaGreat
