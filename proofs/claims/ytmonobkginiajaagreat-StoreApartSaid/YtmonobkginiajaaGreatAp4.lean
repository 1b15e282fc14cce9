/- packed. -/
import Derived.WalkMore
import Derived.Test.YtmonobkginiajaaGreatAp3
set_option linter.all false
set_option maxRecDepth 100000
set_option maxHeartbeats 8000000
namespace Go.Proofs.YtmonobkginiajaaGreat
open Go.Proofs.Tryz
namespace Sh
open Go.RowKit Pk Dk Pg
attribute [local go_sem ↓] Go.wp_at_zero Go.wp_at_succ
variable{w:World}{n:Nat}
structure C where
 d:D
 m:List Int
 table:List Int
 cG:List Int
 parts:List Int
 ep:Int
 slot:Int
 broken:Bool
structure X where
 b:Nat
 L:Dk.Loc
 mb:Nat
 mg:Nat
 tv:Value
 ov:Value
 pv:Value
def X.fp(x:X):List Nat:=x.b::x.mb::x.mg::(x.L.fp++dr x.tv++dr x.ov++dr x.pv)
def gI(l:List Int):List Value:=l.map (Value.int .i64)
@[simp] theorem nvs'_length(l:List Int):(gI l).length=l.length:=by simp[gI]
theorem yu(l:List Int)(k:Nat)(h:k<l.length):(gI l)[k]?=some (.int .i64 (l.getD k 0)):=by simp[gI,aT h]
theorem Q5(l:List Int)(k:Nat)(x:Int):(gI l).set k (.int .i64 x)=gI (l.set k x):=by simp[gI,qt]
theorem ju(l m:List Int):gI (l++m)=gI l++gI m:=by simp[gI]
def Lw(x:X)(c:C):Array Value:= #[dp x.L.b,Fm.mp x.mb,x.tv,x.ov,x.pv,.int .i64 c.ep,.int .i64 c.slot,.bool c.broken]
def Pl(w:World)(v:Value)(n:Nat)(l:List Value):Prop:=Sl w 3 v n l\/(l.length=n/\∃g cap rest,v=.slice (some ⟨g,0,none⟩) n cap/\n<=cap/\0<cap/\aE w g 231 (l++rest).toArray)
section
variable{w w':World}{v:Value}{n:Nat}{l:List Value}{S:List Nat}
theorem Pl.only(h:Pl w v n l)(ho:ag S w w')(hd:∀g∈dr v,g∉S):Pl w' v n l:=by
 rcases h with h|⟨hl,g,cap,rest,rfl,h1,h2,B⟩
 .exact .inl (h.only ho hd)
 .exact .inr ⟨hl,g,cap,rest,rfl,h1,h2,B.only ho (hd g (by simp[dr];omega))⟩
theorem Pl.own(h:Pl w v n l):∀g∈dr v,∃t cs,(t=3\/t=231)/\aE w g t cs:=by
 intro g hg
 rcases h with S|⟨hl,g',cap,rest,rfl,h1,h2,B⟩
 .rcases S.2 with⟨A,rfl,_⟩|⟨g',cap,rest,rfl,h0,B,_⟩
  .cases A<;>simp[dr]at hg
  .simp[dr]at hg;rw[hg.2];exact⟨_,_,.inl rfl,B⟩
 .simp[dr]at hg;rw[hg.2];exact⟨_,_,.inr rfl,B⟩
theorem Pl.lt(h:Pl w v n l):∀g∈dr v,g<w.heap.size:=λg hg=>by
 obtain⟨t,cs,_,B⟩:=h.own g hg;exact B.lt
theorem Pl.aU(h:Pl w v n l){b:Nat}{t:TypeId}{cs:Array Value}(B:aE w b t cs)(h1:t≠3)(h2:t≠231):b∉dr v:=λhb=>by
 obtain⟨t',cs',ht,B'⟩:=h.own b hb
 rcases ht with rfl|rfl
 .exact B.lI B' h1 rfl
 .exact B.lI B' h2 rfl
end
structure At(w:World)(x:X)(n:Nat)(c:C):Prop where
 hb:aE w x.b 146 (Lw x c)
 hd:aY w x.L n c.d
 hm:Fm.eX w x.mb x.mg c.m
 ht:Sl w 3 x.tv c.table.length (gI c.table)
 ho:Sl w 3 x.ov c.cG.length (gI c.cG)
 hp:Pl w x.pv c.parts.length (gI c.parts)
 n1:x.mg∉dr x.tv
 n2:x.mg∉dr x.ov
 n3:x.mg∉dr x.pv
 n4:∀g∈dr x.tv,g∉dr x.ov
 n5:∀g∈dr x.tv,g∉dr x.pv
 n6:∀g∈dr x.ov,g∉dr x.pv
 tl:c.table.length<=512
section
variable{w w':World}{x:X}{n:Nat}{c:C}{S:List Nat}
theorem At.only(h:At w x n c)(ho:ag S w w')(hd:∀g∈x.fp,g∉S):At w' x n c:=
 ⟨h.hb.only ho (hd _ (by simp[X.fp])),h.hd.only ho (λg hg=>hd g (by simp[X.fp,hg])),h.hm.only ho (hd _ (by simp[X.fp])) (hd _ (by simp[X.fp])),
  h.ht.only ho (λg hg=>hd g (by simp[X.fp,hg])),h.ho.only ho (λg hg=>hd g (by simp[X.fp,hg])),h.hp.only ho (λg hg=>hd g (by simp[X.fp,hg])),h.n1,h.n2,h.n3,h.n4,h.n5,h.n6,h.tl⟩
theorem At.below(h:At w x n c)(hb:Below w.heap.size w w'):At w' x n c:=h.only (S:=[]) (.ai hb) (by simp)
theorem At.drew(h:At w x n c):At w.drew x n c:=h.below ((Below.refl _ _).drew)
theorem At.drewN(h:At w x n c)(k:Nat):At (w.drewN k) x n c:=h.below (cD (Below.refl _ _) k)
theorem At.lt(h:At w x n c):∀g∈x.fp,g<w.heap.size:=by
 intro g hg;simp only[X.fp,ar,az]at hg
 rcases hg with rfl|rfl|rfl|((hg|hg)|hg)|hg
 .exact h.hb.lt
 .exact h.hm.hb.lt
 .exact h.hm.hg.lt
 .exact h.hd.lt g hg
 .exact h.ht.lt g hg
 .exact h.ho.lt g hg
 .exact h.hp.lt g hg
theorem At.f0(h:At w x n c):w.cell? ⟨x.b,0,none⟩=some (dp x.L.b):=h.hb.ab rfl
theorem At.f1(h:At w x n c):w.cell? ⟨x.b,1,none⟩=some (Fm.mp x.mb):=h.hb.ab rfl
theorem At.f2(h:At w x n c):w.cell? ⟨x.b,2,none⟩=some x.tv:=h.hb.ab rfl
theorem At.f5(h:At w x n c):w.cell? ⟨x.b,5,none⟩=some (.int .i64 c.ep):=h.hb.ab rfl
theorem At.f7(h:At w x n c):w.cell? ⟨x.b,7,none⟩=some (.bool c.broken):=h.hb.ab rfl
theorem At.tk(h:At w x n c)(k:Nat)(hk:k<c.table.length):∃g cp,x.tv=.slice (some ⟨g,0,none⟩) c.table.length cp/\w.cell? ⟨g,k,none⟩=some (.int .i64 (c.table.getD k 0)):=by
 obtain⟨g,cp,rest,hv,B,_,_⟩:=h.ht.form (by omega);refine⟨g,cp,hv,B.ab ?_⟩;rw[cM,bD (by simpa using hk),yu _ _ hk]
theorem At.disk(h:At w x n c){d':D}(hd:aY w' x.L n d')(ho:ag x.L.fp w w'):At w' x n {c with d:=d'}:=by
 have ne:∀g∈x.L.fp,∀{t:TypeId} {cs:Array Value} {b:Nat},aE w b t cs->t≠149->t≠152->t≠4->b∉x.L.fp:=by
  intro g hg t cs b B h1 h2 h3 hm;simp only[Loc.fp,ar,gC,or_false]at hm
  rcases hm with rfl|rfl|rfl|rfl
  .exact h1 (B.inj h.hd.hb).1
  .exact h2 (B.inj h.hd.hN).1
  .exact h2 (B.inj h.hd.hO).1
  .exact h3 (B.inj h.hd.hL).1
 have nb:∀{t:TypeId} {cs:Array Value} {b:Nat},aE w b t cs->t≠149->t≠152->t≠4->b∉x.L.fp:=λB h1 h2 h3=>ne x.L.b (by simp[Loc.fp]) B h1 h2 h3;have ns:∀{v:Value} {k:Nat} {l:List Value},Sl w 3 v k l->∀g∈dr v,g∉x.L.fp:=by
  intro v k l S g hg
  rcases S.2 with⟨A,rfl,_⟩|⟨g',cap,rest,rfl,h0,B,_⟩
  .cases A<;>simp[dr]at hg
  .simp[dr]at hg;rw[hg.2];exact nb B (by decide) (by decide) (by decide)
 have np:∀g∈dr x.pv,g∉x.L.fp:=λg hg=>by
  obtain⟨t,cs,ht,B⟩:=h.hp.own g hg
  rcases ht with rfl|rfl
  .exact nb B (by decide) (by decide) (by decide)
  .exact nb B (by decide) (by decide) (by decide)
 exact⟨h.hb.only ho (nb h.hb (by decide) (by decide) (by decide)),hd,h.hm.only ho (nb h.hm.hb (by decide) (by decide) (by decide)) (nb h.hm.hg (by decide) (by decide) (by decide)),h.ht.only ho (ns h.ht),h.ho.only ho (ns h.ho),h.hp.only ho np,h.n1,h.n2,h.n3,h.n4,h.n5,h.n6,h.tl⟩
theorem At.map(h:At w x n c){m':List Int}(hm:Fm.eX w' x.mb x.mg m')(ho:ag [x.mg] w w'):At w' x n {c with m:=m'}:=by
 have nb:∀{t:TypeId} {cs:Array Value} {b:Nat},aE w b t cs->t≠3->b∉[x.mg]:=by
  intro t cs b B h1 hm;simp at hm;subst hm;exact h1 (B.inj h.hm.hg).1
 refine⟨h.hb.only ho (nb h.hb (by decide)),h.hd.only ho ?_,hm,h.ht.only ho ?_,h.ho.only ho ?_,h.hp.only ho ?_,h.n1,h.n2,h.n3,h.n4,h.n5,h.n6,h.tl⟩
 .intro g hg;simp only[Loc.fp,ar,gC,or_false]at hg
  rcases hg with rfl|rfl|rfl|rfl
  .exact nb h.hd.hb (by decide)
  .exact nb h.hd.hN (by decide)
  .exact nb h.hd.hO (by decide)
  .exact nb h.hd.hL (by decide)
 .intro g hg hm;simp at hm;subst hm;exact h.n1 hg
 .intro g hg hm;simp at hm;subst hm;exact h.n2 hg
 .intro g hg hm;simp at hm;subst hm;exact h.n3 hg
end
def sp(b:Nat):Value:= .pointer (some ⟨b,0,none⟩)
def fC(n:Nat):Nat:=min (cq n) 1024
def C.fY(c:C):Int:=if c.broken then 13 else 0
def C.rq(c:C)(l:Int):Bool:=decide (0<=l) && decide (l<c.table.length) && decide (0<=c.table.getD l.toNat 0)
def C.jm(c:C)(l:Int):Int:=if c.broken then 13 else if c.rq l then 0 else 3
theorem Ng{L:Dk.Loc}{d:D}(h:aY w L n d):
  Calls prog 82 #[dp L.b] w λe w'=>e=.returned (.int .i64 (fC n:Nat))/\w=w':=by
 have K:=xh (nj h);have hm:((cq n:Nat):Int)<=1024:=by have:=h.ok.small;unfold cq;omega
 have HP:=xh (show((fC n:Nat):Int)=((cq n:Nat):Int)from by unfold fC;omega);generalize cq n=mn at *;unfold dp at *;go_enter func82,ntmps82;go_wp2_with fail;refine K.o.mono ?_;rintro e w1 ⟨rfl,rfl⟩;go_wp2_with fail
 all_goals
  go_ret;refine⟨?_,rfl⟩;rw[HP.o]
  first|(simp;done)|(simp;omega)
theorem jt{x:X}{c:C}(h:At w x n c):
  Calls prog 148 #[sp x.b] w λe w'=>e=.returned (.int .i64 c.fY)/\w=w':=by
 have f7:=h.f7;unfold sp C.fY;clear h
 cases hb:c.broken
 all_goals
  rw[hb]at f7;clear hb;go_enter func148,ntmps148;go_wp2_with fail;go_ret;exact aC rfl
variable{w:World}{x:X}{n:Nat}
theorem pG{c:C}(h:At w x n c)(l:Int):
  Calls prog 191 #[sp x.b,.int .i64 l] w λe w'=>e=.returned (.int .i64 (c.jm l))/\w=w':=by
 have K:=jt h;have f2:=h.f2;obtain⟨TA,tc,Fz,htc⟩:=h.ht.val;rw[Fz]at f2;have HR:=xh (show ∀r,c.jm l=r->c.jm l=r from λr h=>h);have tl:=h.tl
 by_cases hb:c.broken=true
 .have hw:c.fY=13:=by unfold C.fY;rw[if_pos hb]
  have HA:=xh (show c.jm l=13 from by unfold C.jm;rw[if_pos hb]);rw[hw]at K;have K:=xh K;clear h hb hw;generalize c.jm l=r at *;unfold sp at *;go_enter func191,ntmps191;go_wp2_with fail;refine K.o.mono ?_;rintro e w1 ⟨rfl,rfl⟩;go_wp2_with fail;go_ret;exact⟨by rw[HA.o];first|rfl|simp,rfl⟩
 .have hw:c.fY=0:=by unfold C.fY;rw[if_neg hb]
  rw[hw]at K;have K:=xh K
  by_cases h1:l<0
  .have HA:=xh (show c.jm l=3 from by unfold C.jm C.rq;rw[if_neg hb];simp;omega);clear h hb hw;generalize c.jm l=r at *;unfold sp at *;go_enter func191,ntmps191;go_wp2_with fail;refine K.o.mono ?_;rintro e w1 ⟨rfl,rfl⟩;go_wp2_with fail;go_ret;exact⟨by rw[HA.o];first|rfl|simp,rfl⟩
  .obtain⟨k,rfl⟩:=dL (show 0<=l by omega)
   by_cases h2:k<c.table.length
   .obtain⟨g,cp,hv,hk⟩:=h.tk k h2;rw[hv]at Fz;injection Fz with ht1 ht2 ht3
    subst ht1 ht3;obtain⟨v,Q6⟩:∃v,c.table.getD k 0=v:=⟨_,rfl⟩;rw[Q6]at hk;have h2I:¬(c.table.length:Int)<=(k:Int):=by omega
    have h2J:(k:Int)<(c.table.length:Int):=by omega
    by_cases h3:v<0
    .have ht:c.table.getD ((k:Nat):Int).toNat 0=v:=by rw[show((k:Nat):Int).toNat=k from by omega];exact Q6
     have HA:=xh (show c.jm k=3 from by unfold C.jm C.rq;rw[if_neg hb,ht,if_neg (by simp only[gH,decide_eq_true_eq];omega)]);clear ht;clear h hb hw hv Q6;generalize c.jm k=r at *;generalize c.table.length=tn at *;unfold sp at *;go_enter func191,ntmps191;go_wp2_with fail;refine K.o.mono ?_;rintro e w1 ⟨rfl,rfl⟩;go_wp2_with fail;go_ret;exact⟨by rw[HA.o];first|rfl|simp,rfl⟩
    .have HA:=xh (show c.jm k=0 from by
      have ht:c.table.getD ((k:Nat):Int).toNat 0=v:=by rw[show((k:Nat):Int).toNat=k from by omega];exact Q6
      have hh:c.rq k=true:=by unfold C.rq;rw[ht];simp only[gH,decide_eq_true_eq];omega
      unfold C.jm;rw[if_neg hb,if_pos hh])
     clear h hb hw hv Q6;generalize c.jm k=r at *;generalize c.table.length=tn at *;unfold sp at *;go_enter func191,ntmps191;go_wp2_with fail;refine K.o.mono ?_;rintro e w1 ⟨rfl,rfl⟩;go_wp2_with fail;go_ret;exact⟨by rw[HA.o];first|rfl|simp,rfl⟩
   .have HA:=xh (show c.jm k=3 from by unfold C.jm C.rq;rw[if_neg hb];simp;omega);have h2I:(c.table.length:Int)<=(k:Int):=by omega
    clear h hb hw;generalize c.jm k=r at *;generalize c.table.length=tn at *;unfold sp at *;go_enter func191,ntmps191;go_wp2_with fail;refine K.o.mono ?_;rintro e w1 ⟨rfl,rfl⟩;go_wp2_with fail;go_ret;exact⟨by rw[HA.o];first|rfl|simp,rfl⟩
theorem jg{c:C}(h:At w x n c)(id kind:Int)(s:ByteArray)(hid:id<=9223372036854775807)(MM:0<=c.ep/\c.ep<=1099511627776)(hc:c.d.calls<=3999999999999999990)(hr:c.d.bA<=9223372036854775807):
  Calls prog 193 #[sp x.b,.int .i64 id,.int .i64 kind,.string s] w λe w'=>e=.returned (.int .i64 (bo c.d n id (c.ep+1) kind s.data.toList).2)/\At w' x n {c with d:=(bo c.d n id (c.ep+1) kind s.data.toList).1}/\ag x.L.fp w w':=by
 have KPW:=I3 (w:=w.drew) h.hd.drew id (c.ep+1) kind s hid hc hr;have HD:=xh (λ(w':World) (hd:aY w' x.L n (bo c.d n id (c.ep+1) kind s.data.toList).1) (ho:ag x.L.fp w.drew w')=>At.disk h.drew hd ho);have f0:=h.f0;have f5:=h.f5;have q1:IntKind.i64.wrap (c.ep+1)=c.ep+1:=IntWalk.i64_in _ (by omega);have HK:=xh (show w.drew.cell? ⟨x.b,0,none⟩=some (dp x.L.b)/\w.drew.cell? ⟨x.b,5,none⟩=some (.int .i64 c.ep)from⟨f0,f5⟩)
 have HP:=xh (show ∀w',ag x.L.fp w.drew w'->(w'.cell? ⟨x.b,0,none⟩=some (dp x.L.b)/\w'.cell? ⟨x.b,5,none⟩=some (.int .i64 c.ep))from λw' ho=>by
  have B:=h.hb.drew.only ho (λhm=>by
   simp only[Loc.fp,ar,gC,or_false]at hm
   rcases hm with hm|hm|hm|hm
   .exact h.hb.lI h.hd.hb (by decide) hm
   .exact h.hb.lI h.hd.hN (by decide) hm
   .exact h.hb.lI h.hd.hO (by decide) hm
   .exact h.hb.lI h.hd.hL (by decide) hm)
  exact⟨B.ab (i:=0) rfl,B.ab (i:=5) rfl⟩)
 clear h;generalize (bo c.d n id (c.ep+1) kind s.data.toList).2=er at *;generalize (bo c.d n id (c.ep+1) kind s.data.toList).1=d2 at *;generalize c.ep=ep at *;unfold sp dp iP at *;have KPW:=xh KPW;go_enter func193,ntmps193;go_wp2_with fail;refine wp_region_held_drew (S:=λW'=>W'.cell? ⟨x.b,0,none⟩=some (.pointer (some ⟨x.L.b,0,none⟩))/\W'.cell? ⟨x.b,5,none⟩=some (.int .i64 ep)) (by kernel_rfl) (HK.o) (λaq=>?_)
 refine cV [(0,9),(1,10),(2,11),(3,12),(4,13),(5,14),(6,15),(7,16),(8,17),(9,18),(10,19),(11,20),(12,21)] ?_
 iterate 13 refine bj ?_
 refine dn 13 22 λK hK=>?_;go_simp
 go_at_call 225
 refine KPW.o.mono ?_;rintro e w1 ⟨rfl,dd,ow⟩;have DV:=xh dd;have OW:=xh ow;clear dd ow;go_simp;refine aW hK (HP.o _ OW.o) (λaq=>?_);refine cV [(14,8)] ?_
 iterate 1 refine bj ?_
 refine wpAnyH_done (by kernel_rfl) ?_ _;go_wp2_with fail;go_ret;exact aC ⟨HD.o _ DV.o OW.o,(ag.refl _ w).drew.trans OW.o⟩
def C.bW(c:C)(n:Nat)(p:List UInt8):C×Int×Int:=
 if(Fm.du c.m).2.2≠0 then({c with m:=(Fm.du c.m).1},0,(Fm.du c.m).2.2)
 else if(bo c.d n (Fm.du c.m).2.1 (c.ep+1) 2 p).2≠0 then({c with m:=(Fm.eD (Fm.du c.m).1 (Fm.du c.m).2.1).1,d:=(bo c.d n (Fm.du c.m).2.1 (c.ep+1) 2 p).1},0,(bo c.d n (Fm.du c.m).2.1 (c.ep+1) 2 p).2)
 else({c with m:=(Fm.du c.m).1,d:=(bo c.d n (Fm.du c.m).2.1 (c.ep+1) 2 p).1},(Fm.du c.m).2.1,0)
theorem Q7(m:List Int)(h:m.length<=1024):(Fm.du m).2.1<=1024/\0<=(Fm.du m).2.1:=by
 unfold Fm.du
 split
 .exact⟨by show(Fm.dP m 0:Int)<=_;omega,by show(0:Int)<=(Fm.dP m 0:Int);omega⟩
 .exact⟨by show(0:Int)<=_;omega,by show(0:Int)<=0;omega⟩
theorem Bx(x:X):∀g∈[x.mg],g∈x.fp:=by intro g hg;simp at hg;subst hg;simp[X.fp]
theorem L_fp(x:X):∀g∈x.L.fp,g∈x.fp:=by intro g hg;simp[X.fp,hg]
theorem qK{c:C}(h:At w x n c)(s:ByteArray)(MM:0<=c.ep/\c.ep<=1099511627776)(hc:c.d.calls<=3999999999999999990)(hr:c.d.bA<=9223372036854775807):
  Calls prog 166 #[sp x.b,.string s] w λe w'=>e=.returned (.tuple #[.int .i64 (c.bW n s.data.toList).2.1,.int .i64 (c.bW n s.data.toList).2.2])/\At w' x n (c.bW n s.data.toList).1/\ag x.fp w w':=by
 have KT:=Fm.yi h.hm;have HT:=xh (λ(w':World) (hm:Fm.eX w' x.mb x.mg (Fm.du c.m).1) (ho:ag [x.mg] w w')=>At.map h hm ho);have wX:c.m.length<=1024:=h.hm.hl;have hid:=Q7 c.m wX;have f1:=h.f1;obtain⟨R,hR⟩:∃R,c.bW n s.data.toList=R:=⟨_,rfl⟩;rw[hR];unfold C.bW at hR
 by_cases h1:(Fm.du c.m).2.2=0
 .rw[if_neg (by simpa using h1)]at hR;rw[h1]at KT;generalize (Fm.du c.m).2.1=id at *;generalize (Fm.du c.m).1=m1 at *;have KP:=xh (λ(w':World) (hh:At w' x n {c with m:=m1})=>jg hh id 2 s (by omega) MM hc hr);dsimp only at KP
  by_cases h2:(bo c.d n id (c.ep+1) 2 s.data.toList).2=0
  .rw[if_neg (by simpa using h2)]at hR;rw[h2]at KP;subst hR;generalize (bo c.d n id (c.ep+1) 2 s.data.toList).1=d1 at *;have KT:=xh KT;clear h h1 h2;unfold sp Fm.mp at *;go_enter func166,ntmps166;go_wp2_with fail;refine KT.o.mono ?_;rintro e w1 ⟨rfl,mm,ow⟩;have A1:=xh (HT.o _ mm ow);have O1:=xh ow;clear mm ow;go_wp2_with fail;refine(KP.o _ A1.o).mono ?_;rintro e w2 ⟨rfl,aa,ow⟩;have A2:=xh aa
   have O2:=xh ((O1.o.mono (λg hg _=>Bx x g hg)).trans (ow.mono (λg hg _=>L_fp x g hg)));clear aa ow;go_wp2_with fail;go_ret2;exact aC ⟨A2.o,O2.o⟩
  .rw[if_pos h2]at hR;subst hR;have hq:((bo c.d n id (c.ep+1) 2 s.data.toList).2 != 0)=true:=by rw[bne_iff_ne];exact h2
   generalize (bo c.d n id (c.ep+1) 2 s.data.toList).1=d1 at *;generalize (bo c.d n id (c.ep+1) 2 s.data.toList).2=er at *;have KT:=xh KT;clear h h1 h2;unfold sp Fm.mp at *;go_enter func166,ntmps166;go_wp2_with fail;refine KT.o.mono ?_;rintro e w1 ⟨rfl,mm,ow⟩;have A1:=xh (HT.o _ mm ow);have O1:=xh ow;clear mm ow;go_wp2_with fail;refine(KP.o _ A1.o).mono ?_;rintro e w2 ⟨rfl,aa,ow⟩;have A2:=xh aa
   have O2:=xh ((O1.o.mono (λg hg _=>Bx x g hg)).trans (ow.mono (λg hg _=>L_fp x g hg)));have f1':=aa.f1;have KL:=Fm.uF aa.hm id;dsimp only at KL;have KL:=xh KL;unfold Fm.mp at *;clear aa ow;go_wp2_with fail;refine KL.o.mono ?_;rintro e w3 ⟨rfl,mm,ow⟩;have A3:=xh (A2.o.map mm ow);have O3:=xh (O2.o.trans (ow.mono (λg hg _=>Bx x g hg)));clear mm ow;go_wp2_with fail;go_ret2;exact aC ⟨A3.o,O3.o⟩
 .rw[if_pos h1]at hR;subst hR;have hq:((Fm.du c.m).2.2 != 0)=true:=by rw[bne_iff_ne];exact h1
  generalize (Fm.du c.m).2.1=id at *;generalize (Fm.du c.m).2.2=er at *;generalize (Fm.du c.m).1=m1 at *;have KT:=xh KT;clear h h1;unfold sp Fm.mp at *;go_enter func166,ntmps166;go_wp2_with fail;refine KT.o.mono ?_;rintro e w1 ⟨rfl,mm,ow⟩;have A1:=xh (HT.o _ mm ow);have O1:=xh (ow.mono (S':=x.fp) (λg hg _=>Bx x g hg));clear mm ow;go_wp2_with fail;go_ret2;exact aC ⟨A1.o,O1.o⟩
variable{v:Value}{k:Nat}{l:List Value}
section
variable{w w':World}{x:X}{n:Nat}{c:C}
theorem yv(S:Sl w 3 v k l):∀g∈dr v,∃cs,aE w g 3 cs:=by
 intro g hg
 rcases S.2 with⟨A,rfl,_⟩|⟨g',cap,rest,rfl,h0,B,_⟩
 .cases A<;>simp[dr]at hg
 .simp[dr]at hg;rw[hg.2];exact⟨_,B⟩
theorem At.DO(h:At w x n c)(S:Sl w 3 v k l):x.b∉dr v/\x.mb∉dr v/\∀g∈x.L.fp,g∉dr v:=by
 refine⟨λhg=>?_,λhg=>?_,λg hgL hg=>?_⟩
 .obtain⟨cs,B⟩:=yv S _ hg;exact h.hb.lI B (by decide) rfl
 .obtain⟨cs,B⟩:=yv S _ hg;exact h.hm.hb.lI B (by decide) rfl
 .obtain⟨cs,B⟩:=yv S _ hg;simp only[Loc.fp,ar,gC,or_false]at hgL
  rcases hgL with rfl|rfl|rfl|rfl
  .exact h.hd.hb.lI B (by decide) rfl
  .exact h.hd.hN.lI B (by decide) rfl
  .exact h.hd.hO.lI B (by decide) rfl
  .exact h.hd.hL.lI B (by decide) rfl
theorem At.fQ(h:At w x n c)(k:Nat)(hk:k<c.table.length)(u:Int):∃g cp,x.tv=.slice (some ⟨g,0,none⟩) c.table.length cp/\w.cell? ⟨g,k,none⟩=some (.int .i64 (c.table.getD k 0))/\w.frozen? ⟨g,k,none⟩=false/\
  At (w.setCell ⟨g,k,none⟩ (.int .i64 u)) x n {c with table:=c.table.set k u}/\ag x.fp w (w.setCell ⟨g,k,none⟩ (.int .i64 u)):=by
 obtain⟨g,cp,hv,S,hg,z,ow⟩:=h.ht.bG k hk (.int .i64 u);obtain⟨g',cp',PW,ck⟩:=h.tk k hk;rw[hv]at PW;injection PW with e1 e2 e3
 injection e1 with e1
 injection e1 with e1
 subst e1;have ne:=h.DO h.ht;rw[hg]at ne;refine⟨g,cp,hv,ck,z,⟨h.hb.only ow ne.1,h.hd.only ow ne.2.2,h.hm.only ow ne.2.1 (by rw[<-hg];exact h.n1),?_,h.ho.only ow (λy hy hm=>h.n4 y (by rw[hg];exact hm) hy),h.hp.only ow (λy hy hm=>h.n5 y (by rw[hg];exact hm) hy),h.n1,h.n2,h.n3,h.n4,h.n5,h.n6,by show(c.table.set k u).length<=512;rw[bU];exact h.tl⟩,ow.mono (λy hy _=>by
  have:y∈dr x.tv:=by rw[hg];exact hy
  simp[X.fp,this])⟩
 show Sl _ _ x.tv (c.table.set k u).length (gI (c.table.set k u));rw[bU,<-Q5];exact S
theorem At.addT(h:At w x n c)(u:Int){v':Value}(S:Sl w' 3 v' (c.table.length+1) (gI (c.table++[u])))(ow:ag (dr x.tv) w w')(fr:∀g∈dr v',g∈dr x.tv\/w.heap.size<=g)(hl:c.table.length+1<=512):
  w'.cell? ⟨x.b,2,none⟩=some x.tv/\w'.frozen? ⟨x.b,2,none⟩=false/\At (w'.setCell ⟨x.b,2,none⟩ v') {x with tv:=v'} n {c with table:=c.table++[u]}/\ag x.fp w (w'.setCell ⟨x.b,2,none⟩ v')/\∀g∈({x with tv:=v'}:X).fp,g∈x.fp\/w.heap.size<=g:=by
 have ne:=h.DO h.ht;have B1:=h.hb.only ow ne.1;have B2:aE (w'.setCell ⟨x.b,2,none⟩ v') x.b 146 #[dp x.L.b,Fm.mp x.mb,v',x.ov,x.pv,.int .i64 c.ep,.int .i64 c.slot,.bool c.broken]:=B1.bG 2 v';have o2:=(ag.refl [x.b] w').setCell (p:=⟨x.b,2,none⟩) (by simp) v';have D1:=h.hd.only ow ne.2.2;have M1:=h.hm.only ow ne.2.1 h.n1;have O1:=h.ho.only ow (λy hy hm=>h.n4 y hm hy);have P1:=h.hp.only ow (λy hy hm=>h.n5 y hm hy)
 have hbn:∀{t:TypeId} {cs:Array Value} {b:Nat},aE w' b t cs->t≠146->b∉[x.b]:=by
  intro t cs b B eV hm;simp at hm;subst hm;exact eV (B.inj B1).1
 have hs:∀{v:Value} {k:Nat} {l:List Value},Sl w' 3 v k l->∀g∈dr v,g∉[x.b]:=λS g hg=>by
  obtain⟨cs,B⟩:=yv S g hg;exact hbn B (by decide)
 refine⟨B1.ab rfl,B1.frozen 2 (by simp[Lw]),⟨B2,D1.only o2 ?_,M1.only o2 (hbn M1.hb (by decide)) (hbn M1.hg (by decide)),?_,O1.only o2 (hs O1),P1.only o2 (λg hg hm=>P1.aU B1 (by decide) (by decide) (by rw[<-aP.1 hm];exact hg)),?_,h.n2,h.n3,?_,?_,h.n6,by show(c.table++[u]).length<=512;rw[aQ];exact hl⟩,?_,?_⟩
 .intro g hg;simp only[Loc.fp,ar,gC,or_false]at hg
  rcases hg with rfl|rfl|rfl|rfl
  .exact hbn D1.hb (by decide)
  .exact hbn D1.hN (by decide)
  .exact hbn D1.hO (by decide)
  .exact hbn D1.hL (by decide)
 .show Sl _ _ v' (c.table++[u]).length _;rw[aQ];exact S.only o2 (hs S)
 .exact λhg=>(fr x.mg hg).elim h.n1 (λLi=>by have:=h.hm.hg.lt;omega)
 .exact λg hg ho=>(fr g hg).elim (λh1=>h.n4 g h1 ho) (λLi=>by have:=h.ho.lt g ho;omega)
 .exact λg hg ho=>(fr g hg).elim (λh1=>h.n5 g h1 ho) (λLi=>by have:=h.hp.lt g ho;omega)
 .exact(ow.mono (λg hg _=>by simp[X.fp,hg])).trans (o2.mono (λg hg _=>by simp at hg;subst hg;simp[X.fp]))
 .intro g hg;simp only[X.fp,ar,az]at hg ⊢
  rcases hg with hg|hg|hg|((hg|hg)|hg)|hg
  .exact .inl (.inl hg)
  .exact .inl (.inr (.inl hg))
  .exact .inl (.inr (.inr (.inl hg)))
  .exact .inl (.inr (.inr (.inr (.inl (.inl (.inl hg))))))
  .exact(fr g hg).imp (λh1=> .inr (.inr (.inr (.inl (.inl (.inr h1)))))) id
  .exact .inl (.inr (.inr (.inr (.inl (.inr hg)))))
  .exact .inl (.inr (.inr (.inr (.inr hg))))
end
theorem Q8{w:World}{l:List Int}(S:Sl w 3 v l.length (gI l))(hl:l.length<=1000000)(k:Int):
  Calls prog 165 #[v,.int .i64 k] w λe w'=>e=.returned (.int .i64 (Fm.kh l k))/\w=w':=by
 by_cases h0:0<l.length
 .obtain⟨g,cap,rest,rfl,B,hc,_⟩:=S.form h0;exact Fm.qJ g l.length cap l rfl hl k w (λj hj=>B.ab (by rw[cM,bD (by simpa using hj),yu _ _ hj]))
 .have hn:l=[]:=nW (by omega);subst hn;obtain⟨A,c,rfl,_⟩:=S.val;have e1:Fm.kh [] k= -1:=rfl;rw[e1];clear S;simp only[kz];go_enter func165,ntmps165;go_wp2_with fail
  go_loopw [8] (λiv wr=>iv=.int .i64 0/\wr=w) (λ_ _=>0)
  case atStart=>exact⟨rfl,rfl⟩
  case round=>
   obtain⟨rfl,rfl⟩:=hrel;go_wp2_with fail;go_ret;exact aC rfl
def iA(t:List Int):Nat:=Fm.dP t (-1)
theorem yw(t:List Int):iA t<=t.length:=by unfold iA Fm.dP;exact nX
theorem FA(t:List Int):Fm.kh t (-1)=if iA t<t.length then(iA t:Int)else -1:=rfl
attribute [local go_sem ↓] bq
variable{w:World}{x:X}{n:Nat}
theorem lM:(prog.info? 3).map (λi=>(i.zero,i.size,i.bytes))=some (some (.int .i64 0),1,8):=by kernel_rfl
def rZ(t:List Int)(l:Nat)(u:Int):List Int:=if l=t.length then t++[u]else t.set l u
def C.bP(c:C)(n:Nat)(p:List UInt8):C×Int×Int:=
 if c.broken=true then(c,0,13)
 else if 232<p.length then(c,0,4)
 else if 512<=iA c.table then(c,0,11)
 else if(c.bW n p).2.2≠0 then((c.bW n p).1,0,(c.bW n p).2.2)
 else({(c.bW n p).1 with table:=rZ c.table (iA c.table) (c.bW n p).2.1},iA c.table,0)
theorem lA(c:C)(n:Nat)(p:List UInt8):(c.bW n p).1.table=c.table/\(c.bW n p).1.cG=c.cG/\(c.bW n p).1.parts=c.parts/\(c.bW n p).1.ep=c.ep/\(c.bW n p).1.slot=c.slot/\(c.bW n p).1.broken=c.broken:=by
 unfold C.bW
 split
 .exact⟨rfl,rfl,rfl,rfl,rfl,rfl⟩
 .split<;>exact⟨rfl,rfl,rfl,rfl,rfl,rfl⟩
def Post(w w':World)(x:X)(n:Nat)(c':C):Prop:= ∃x',x'.b=x.b/\x'.L=x.L/\At w' x' n c'/\ag x.fp w w'/\∀g∈x'.fp,g∈x.fp\/w.heap.size<=g
theorem Post.self{w':World}{c':C}(h:At w' x n c')(ho:ag x.fp w w'):Post w w' x n c':=⟨x,rfl,rfl,h,ho,λ_ hg=> .inl hg⟩
theorem new_any{c:C}(h:At w x n c)(s:ByteArray)(hs:s.size<=9223372036854775807)(MM:0<=c.ep/\c.ep<=1099511627776)(hc:c.d.calls<=3999999999999999990)(hr:c.d.bA<=9223372036854775807):
  Calls prog 120 #[sp x.b,.string s] w λe w'=>e=.returned (.tuple #[.int .i64 (c.bP n s.data.toList).2.1,.int .i64 (c.bP n s.data.toList).2.2])/\Post w w' x n (c.bP n s.data.toList).1:=by
 have KW:=jt h;have hl:s.data.toList.length=s.size:=by simp
 obtain⟨R,hR⟩:∃R,c.bP n s.data.toList=R:=⟨_,rfl⟩;rw[hR];unfold C.bP at hR;rw[hl]at hR;have HH:=xh h
 by_cases h1:c.broken=true
 .rw[if_pos h1]at hR;subst hR;rw[show c.fY=13 from by unfold C.fY;rw[if_pos h1]]at KW;have KW:=xh KW;clear h h1;unfold sp at *;go_enter func120,ntmps120;go_wp2_with fail;refine KW.o.mono ?_;rintro e w1 ⟨rfl,rfl⟩;go_wp2_with fail;go_ret2;exact aC (.self HH.o (ag.refl _ _))
 rw[if_neg h1]at hR;rw[show c.fY=0 from by unfold C.fY;rw[if_neg h1]]at KW;have KW:=xh KW;have KI:=Q8 h.ht (by have:=h.tl;omega) (-1);rw[FA]at KI;have AK:=yw c.table;have f2:=h.f2;have tl:=h.tl;obtain⟨TA,tc,Fz,htc⟩:=h.ht.val;obtain⟨l,Nh⟩:∃l,iA c.table=l:=⟨_,rfl⟩;rw[Nh]at KI hR AK
 by_cases h2:232<s.size
 .rw[if_pos h2]at hR;subst hR;have h2I:(232:Int)<(s.size:Int):=by omega
  by_cases h3:l<c.table.length
  .rw[if_pos h3]at KI;have KI:=xh KI;have h3I:¬(l:Int)<0:=by omega
   clear h h1 h2 Fz;unfold sp at *;go_enter func120,ntmps120;go_wp2_with fail;refine KW.o.mono ?_;rintro e w1 ⟨rfl,rfl⟩;go_wp2_with fail;refine KI.o.mono ?_;rintro e w1 ⟨rfl,rfl⟩;go_wp2_with fail;go_ret2;exact aC (.self HH.o (ag.refl _ _))
  .rw[if_neg h3]at KI;have KI:=xh KI;clear h h1 h2;rw[Fz]at f2 KI;unfold sp at *;go_enter func120,ntmps120;go_wp2_with fail;refine KW.o.mono ?_;rintro e w1 ⟨rfl,rfl⟩;go_wp2_with fail;refine KI.o.mono ?_;rintro e w1 ⟨rfl,rfl⟩;go_wp2_with fail;go_ret2;exact aC (.self HH.o (ag.refl _ _))
 rw[if_neg h2]at hR;have h2I:¬(232:Int)<(s.size:Int):=by omega
 by_cases h4:512<=l
 .rw[if_pos h4]at hR;subst hR;have h3:¬l<c.table.length:=by omega
  have h4I:(512:Int)<=(c.table.length:Int):=by omega
  rw[if_neg h3]at KI;have KI:=xh KI;clear h h1 h2;rw[Fz]at f2 KI;unfold sp at *;go_enter func120,ntmps120;go_wp2_with fail;refine KW.o.mono ?_;rintro e w1 ⟨rfl,rfl⟩;go_wp2_with fail;refine KI.o.mono ?_;rintro e w1 ⟨rfl,rfl⟩;go_wp2_with fail;go_ret2;exact aC (.self HH.o (ag.refl _ _))
 rw[if_neg h4]at hR;have KF:=qK h s MM hc hr;have hft:=lA c n s.data.toList;generalize hF:c.bW n s.data.toList=F at *;obtain⟨c1,id,er⟩:=F;dsimp only at KF hft hR;have KF:=xh KF
 by_cases h5:er=0
 .rw[if_neg (by simpa using h5)]at hR;subst h5;have h4I:¬(512:Int)<=(l:Int):=by omega
  by_cases h3:l<c.table.length
  .rw[if_pos h3]at KI;have KI:=xh KI;have h3I:¬(l:Int)<0:=by omega
   have h3J:((l:Int)==(c.table.length:Int))=false:=by rw[beq_eq_false_iff_ne];omega
   have rX:rZ c.table l id=c.table.set l id:=by unfold rZ;rw[if_neg (by omega)]
   rw[rX]at hR;subst hR;have HFT:=xh hft;clear h h1 h2 hF rX hft Fz;unfold sp at *;go_enter func120,ntmps120;go_wp2_with fail;refine KW.o.mono ?_;rintro e w1 ⟨rfl,rfl⟩;go_wp2_with fail;refine KI.o.mono ?_;rintro e w1 ⟨rfl,rfl⟩;go_wp2_with fail;refine KF.o.mono ?_;rintro e w1 ⟨rfl,aa,ow⟩;have f2':=aa.f2;obtain⟨g,cp,hv,ck,z,A2,o2⟩:=aa.fQ l (by rw[HFT.o.1];exact h3) id;rw[hv,HFT.o.1]at f2'
   have AX:=xh (show At (w1.setCell ⟨g,l,none⟩ (.int .i64 id)) x n {c1 with table:=c.table.set l id}from by rw[<-HFT.o.1];exact A2);have OX:=xh (ow.trans o2);generalize c1.table.getD l 0=ov at ck;clear aa ow A2 o2 hv;clear f2;generalize c.table.length=tn at *;go_wp2_with fail;go_ret2;exact aC (.self AX.o OX.o)
  .obtain rfl:l=c.table.length:=by omega
   rw[if_neg h3]at KI;have rX:rZ c.table c.table.length id=c.table++[id]:=by unfold rZ;rw[if_pos rfl]
   rw[rX]at hR;subst hR;have HFT:=xh hft;have HTV:=xh Fz;rw[Fz]at f2 KI;have KI:=xh KI;clear h h1 h2 hF rX hft Fz Nh AK h3 h4;generalize htn:c.table.length=tn at *;have HTN:=xh htn;clear htn;unfold sp at *;go_enter func120,ntmps120;go_wp2_with fail;refine KW.o.mono ?_;rintro e w1 ⟨rfl,rfl⟩;go_wp2_with fail;refine KI.o.mono ?_;rintro e w1 ⟨rfl,rfl⟩;go_wp2_with fail;refine KF.o.mono ?_;rintro e w1 ⟨rfl,aa,ow⟩;have f2':=aa.f2;have St:=aa.ht
   rw[HFT.o.1,HTN.o]at St;obtain⟨v',w2,ea,S2,PX,Lx⟩:=IL (P:=prog) St 60 60 (.int .i64 0) 8 underlying60 lM rfl (.int .i64 id) rfl (by unfold maxLen;omega) (by omega);rw[show gI c.table++[Value.int .i64 id]=gI (c.table++[id])from by rw[ju];rfl]at S2;obtain⟨gg,hJ,rr,rfl,BB,_,_⟩:=S2.form (by omega)
   have w2c:w2.cell? ⟨gg,tn,none⟩=some (.int .i64 id):=BB.ab (by rw[<-HTN.o,cM,bD (by simp),ju,dE (by simp)];simp[gI]);have w2z:w2.frozen? ⟨gg,tn,none⟩=false:=BB.frozen _ (by have:=HTN.o;simp;omega);have hlt1:((tn:Nat):Int)<((tn+1:Nat):Int):=by omega
   have hlt2:tn<tn+1:=by omega
   have hadd:=aa.addT id (by rw[HFT.o.1,HTN.o];exact S2) PX Lx (by rw[HFT.o.1,HTN.o];omega);obtain⟨g2,z2,A3,o3,fr3⟩:=hadd;rw[HFT.o.1]at A3;obtain⟨g,cp,hv,ck,z,A4,o4⟩:=A3.fQ tn (by show _<(c.table++[id]).length;have:=HTN.o;simp;omega) id;have DP:(c.table++[id]).set tn id=c.table++[id]:=by
    rw[<-HTN.o,ta _ _ (aj _),eU];rfl
   have A4:At ((w2.setCell ⟨x.b,2,none⟩ (.slice (some ⟨gg,0,none⟩) (tn+1) hJ)).setCell ⟨g,tn,none⟩ (.int .i64 id)) {x with tv:= .slice (some ⟨gg,0,none⟩) (tn+1) hJ} n {c1 with table:=c.table++[id]}:=by
    have:=A4;dsimp only at this;rw[DP]at this;exact this
   dsimp only at hv;injection hv with mB pk Fc
   injection mB with mB
   injection mB with mB
   clear pk;subst mB Fc;have eV:x.b≠gg:=BB.lI (aa.hb.only PX (aa.DO aa.ht).1) (by decide)|>.symm;have hne2:gg≠x.b:=eV.symm;have f2'':(w2.setCell ⟨x.b,2,none⟩ (.slice (some ⟨gg,0,none⟩) (tn+1) hJ)).cell? ⟨x.b,2,none⟩=some (.slice (some ⟨gg,0,none⟩) (tn+1) hJ):=A3.f2;rw[HTV.o]at f2' g2 ea;have EA:=xh ea;have AX:=xh A4;have OX:=xh ((ow.trans o3).aN o4 (λg hg dV=>(fr3 g hg).elim (λh=>h) (λh=>by have:=ow.size;omega)))
   have FX:=xh (show ∀g'∈({x with tv:= .slice (some ⟨gg,0,none⟩) (tn+1) hJ}:X).fp,g'∈x.fp\/w.heap.size<=g' from λg' hg=>(fr3 g' hg).imp (λh=>h) (λh=>ay ow.size h));generalize (c.table++[id]).getD tn 0=ov at ck;clear aa ow A3 A4 o3 o4 PX Lx St S2 ea DP fr3 BB;go_wp2_with fail;rw[EA.o];go_wp2_with fail;go_ret2;exact aC ⟨{x with tv:= .slice (some ⟨gg,0,none⟩) (tn+1) hJ},rfl,rfl,AX.o,OX.o,FX.o⟩
 .rw[if_pos h5]at hR;subst hR;have hq:(er != 0)=true:=by rw[bne_iff_ne];exact h5
  have h4I:¬(512:Int)<=(l:Int):=by omega
  by_cases h3:l<c.table.length
  .rw[if_pos h3]at KI;have KI:=xh KI;have h3I:¬(l:Int)<0:=by omega
   clear h h1 h2 hF Fz;unfold sp at *;go_enter func120,ntmps120;go_wp2_with fail;refine KW.o.mono ?_;rintro e w1 ⟨rfl,rfl⟩;go_wp2_with fail;refine KI.o.mono ?_;rintro e w1 ⟨rfl,rfl⟩;go_wp2_with fail;refine KF.o.mono ?_;rintro e w1 ⟨rfl,aa,ow⟩;have AX:=xh aa;have OX:=xh ow;clear aa ow;go_wp2_with fail;go_ret2;exact aC (.self AX.o OX.o)
  .rw[if_neg h3]at KI;have hlI:¬(512:Int)<=(c.table.length:Int):=by omega
   have KI:=xh KI;clear h h1 h2 hF;rw[Fz]at f2 KI;unfold sp at *;go_enter func120,ntmps120;go_wp2_with fail;refine KW.o.mono ?_;rintro e w1 ⟨rfl,rfl⟩;go_wp2_with fail;refine KI.o.mono ?_;rintro e w1 ⟨rfl,rfl⟩;go_wp2_with fail;refine KF.o.mono ?_;rintro e w1 ⟨rfl,aa,ow⟩;have AX:=xh aa;have OX:=xh ow;clear aa ow;go_wp2_with fail;go_ret2;exact aC (.self AX.o OX.o)
end Sh
namespace Sh
open Go.RowKit Pk Dk Pg
attribute [local go_sem ↓] Go.wp_at_zero Go.wp_at_succ
def Jc(e:Int):Int:=if e=13 then 13 else 14
theorem bad_any(e:Int)(w:World):
  Calls prog 140 #[.int .i64 e] w λr w'=>r=.returned (.int .i64 (Jc e))/\w=w':=by
 have HB:=xh (rfl:Jc e=Jc e);obtain⟨b,hb⟩:∃b,Jc e=b:=⟨_,rfl⟩;rw[hb];unfold Jc at hb
 by_cases h:e=13
 .rw[if_pos h]at hb;subst hb h;go_enter func140,ntmps140;go_wp2_with fail;go_ret;exact aC rfl
 .rw[if_neg h]at hb;subst hb;have hq:(e==13)=false:=by rw[beq_eq_false_iff_ne];exact h
  go_enter func140,ntmps140;go_wp2_with fail;go_ret;exact aC rfl
def C.aS(c:C)(l:Int):C×Int:=
 if c.jm l≠0 then(c,c.jm l)else({c with m:=(Fm.eD c.m (c.table.getD l.toNat 0)).1,table:=c.table.set l.toNat (-1)},0)
def C.aR(c:C)(n:Nat)(l:Int):List UInt8×Int:=
 if c.jm l≠0 then([],c.jm l)
 else if(bR c.d n (c.table.getD l.toNat 0)).2≠0 then([],Jc (bR c.d n (c.table.getD l.toNat 0)).2)
 else((bR c.d n (c.table.getD l.toNat 0)).1.s,0)
theorem Jd{c:C}{l:Int}(h:c.jm l=0):c.broken=false/\0<=l/\l<c.table.length/\0<=c.table.getD l.toNat 0:=by
 unfold C.jm at h
 split at h
 .simp at h
 .rename_i hb
  split at h
  .rename_i hh;unfold C.rq at hh;simp only[gH,decide_eq_true_eq]at hh;exact⟨by simpa using hb,hh.1.1,hh.1.2,hh.2⟩
  .simp at h
theorem FC{w:World}{x:X}{n:Nat}{c:C}(h:At w x n c)(l:Int):
  Calls prog 179 #[sp x.b,.int .i64 l] w λe w'=>e=.returned (.int .i64 (c.aS l).2)/\At w' x n (c.aS l).1/\ag x.fp w w':=by
 have KA:=pG h l;have HH:=xh h;obtain⟨R,hR⟩:∃R,c.aS l=R:=⟨_,rfl⟩;rw[hR];unfold C.aS at hR
 by_cases h1:c.jm l=0
 .rw[if_neg (by simpa using h1)]at hR;obtain⟨_,h2,h3,h4⟩:=Jd h1;rw[h1]at KA;obtain⟨k,rfl⟩:=dL h2;have hk:k<c.table.length:=by omega
  rw[show((k:Nat):Int).toNat=k from by omega]at hR h4;obtain⟨g,cp,hv,ck⟩:=h.tk k hk;have f1:=h.f1;have f2:=h.f2;rw[hv]at f2;have KL:=Fm.uF h.hm.drew (c.table.getD k 0);have HM:=xh (λ(w':World) (m':List Int) (mm:Fm.eX w' x.mb x.mg m') (ow:ag [x.mg] w.drew w')=>At.map h.drew mm ow);have hg:g∈dr x.tv:=by rw[hv];simp[dr];have:=(h.ht.val);obtain⟨A,cc,e1,e2⟩:=this;rw[hv]at e1;injection e1 with _ _ e3;omega
  have HP:=xh (show ∀w',ag [x.mg] w.drew w'->(w'.cell? ⟨x.b,1,none⟩=some (Fm.mp x.mb)/\w'.cell? ⟨x.b,2,none⟩=some (.slice (some ⟨g,0,none⟩) c.table.length cp)/\w'.cell? ⟨g,k,none⟩=some (.int .i64 (c.table.getD k 0)))from λw' ho=>by
   have B:=h.hb.drew.only ho (λhm=>by simp at hm;exact h.hb.lI h.hm.hg (by decide) hm);have T:=h.ht.drew.only ho (λy hy hm=>by simp at hm;subst hm;exact h.n1 hy);obtain⟨g',cp',rest,PW,BB,_,_⟩:=T.form (by omega);rw[hv]at PW;injection PW with e1 e2 e3
   injection e1 with e1
   injection e1 with e1
   subst e1;refine⟨B.ab (i:=1) rfl,?_,BB.ab (by rw[cM,bD (by simpa using hk),yu _ _ hk])⟩;rw[<-hv];exact B.ab (i:=2) rfl)
  have HK:=xh (show w.drew.cell? ⟨x.b,1,none⟩=some (Fm.mp x.mb)/\w.drew.cell? ⟨x.b,2,none⟩=some (.slice (some ⟨g,0,none⟩) c.table.length cp)/\w.drew.cell? ⟨g,k,none⟩=some (.int .i64 (c.table.getD k 0))from⟨f1,f2,ck⟩);have PY:=xh hk
  have HX:=xh (show ∀w' m',At w' x n {c with m:=m'}->w'.cell? ⟨g,k,none⟩=some (.int .i64 (c.table.getD k 0))/\w'.frozen? ⟨g,k,none⟩=false/\At (w'.setCell ⟨g,k,none⟩ (.int .i64 (-1))) x n {c with m:=m',table:=c.table.set k (-1)}/\ag x.fp w' (w'.setCell ⟨g,k,none⟩ (.int .i64 (-1)))from λw' m' hh=>by
   obtain⟨g',cp',PW,ck',z',A',o'⟩:=hh.fQ k hk (-1);rw[hv]at PW;injection PW with e1 e2 e3
   injection e1 with e1
   injection e1 with e1
   subst e1;exact⟨ck',z',A',o'⟩)
  have Ly:(k:Int)<(c.table.length:Int):=by omega
  subst hR;generalize c.table.getD k 0=pid at *;generalize (Fm.eD c.m pid).2=le at *;generalize (Fm.eD c.m pid).1=m2 at *;have HQ:=xh hv;clear h h1 f1 f2 ck hv hg h4;generalize c.table.length=tn at *;have KA:=xh KA;unfold sp Fm.mp at *;have KL:=xh KL;go_enter func179,ntmps179;go_wp2_with fail;refine KA.o.mono ?_;rintro e w1 ⟨rfl,rfl⟩;go_wp2_with fail
  refine wp_region_held_drew (S:=λW'=>W'.cell? ⟨x.b,1,none⟩=some (.pointer (some ⟨x.mb,0,none⟩))/\W'.cell? ⟨x.b,2,none⟩=some (.slice (some ⟨g,0,none⟩) tn cp)/\W'.cell? ⟨g,k,none⟩=some (.int .i64 pid)) (by kernel_rfl) (HK.o) (λaq=>?_);refine cV [(0,12),(1,13),(2,14),(3,15),(4,16),(5,17),(6,18),(7,19),(8,20),(9,21),(10,22)] ?_
  iterate 11 refine bj ?_
  refine dn 11 23 λK hK=>?_;go_simp
  go_at_call 153
  refine KL.o.mono ?_;rintro e w1 ⟨rfl,mm,ow⟩;have A1:=xh (HM.o _ _ mm ow);have OW:=xh ow;have HX1:=xh (HX.o _ _ A1.o);have f2x:=(HP.o _ ow).2.1;have ckx:=HX1.o.1;have zkx:=HX1.o.2.1;have OX:=xh (((ag.refl _ w).drew.trans (ow.mono (S':=x.fp) (λg hg _=>Bx x g hg))).trans HX1.o.2.2.2);clear mm ow;go_simp;refine aW hK (HP.o _ OW.o) (λaq=>?_);refine wpAnyH_done (by kernel_rfl) ?_ _;go_wp2_with fail;go_ret;exact aC ⟨HX1.o.2.2.1,OX.o⟩
 .rw[if_pos h1]at hR;subst hR;have hq:(c.jm l != 0)=true:=by rw[bne_iff_ne];exact h1
  have KA:=xh KA;generalize c.jm l=er at *;clear h h1;unfold sp at *;go_enter func179,ntmps179;go_wp2_with fail;refine KA.o.mono ?_;rintro e w1 ⟨rfl,rfl⟩;go_wp2_with fail;go_ret;exact aC ⟨HH.o,ag.refl _ _⟩
theorem ni{w:World}{x:X}{n:Nat}{c:C}(h:At w x n c)(l:Int):
  Calls prog 228 #[sp x.b,.int .i64 l] w λe w'=>e=.returned (.tuple #[.string ⟨(c.aR n l).1.toArray⟩,.int .i64 (c.aR n l).2])/\Below w.heap.size w w':=by
 have KA:=pG h l;obtain⟨R,hR⟩:∃R,c.aR n l=R:=⟨_,rfl⟩;rw[hR];unfold C.aR at hR
 by_cases h1:c.jm l=0
 .rw[if_neg (by simpa using h1)]at hR;obtain⟨_,h2,h3,h4⟩:=Jd h1;rw[h1]at KA;obtain⟨k,rfl⟩:=dL h2;have hk:k<c.table.length:=by omega
  rw[show((k:Nat):Int).toNat=k from by omega]at hR h4;obtain⟨g,cp,hv,ck⟩:=h.tk k hk;have Ly:(k:Int)<(c.table.length:Int):=by omega
  have HK:=xh (show ∀W',Below w.heap.size w W'->(W'.cell? ⟨x.b,0,none⟩=some (.pointer (some ⟨x.L.b,0,none⟩))/\W'.cell? ⟨x.b,2,none⟩=some (.slice (some ⟨g,0,none⟩) c.table.length cp)/\W'.cell? ⟨g,k,none⟩=some (.int .i64 (c.table.getD k 0)))from λW' hb=>by
   have h':=h.below hb;obtain⟨g',cp',PW,ck'⟩:=h'.tk k hk;have e:=hv;rw[PW]at e;injection e with e1 e2 e3
   injection e1 with e1
   injection e1 with e1
   subst e1;exact⟨h'.f0,by rw[<-hv];exact h'.f2,ck'⟩)
  have OD:=xh (show Below w.heap.size w w.drew from(Below.refl _ _).drew);have KR:=λ(W:World) (hb:Below w.heap.size w W)=>Nb (h.hd.below hb) (c.table.getD k 0);obtain⟨P,hP⟩:∃P,bR c.d n (c.table.getD k 0)=P:=⟨_,rfl⟩;rw[hP]at KR hR;obtain⟨⟨rid,rep,rkd,rs⟩,er⟩:=P;have KB:=xh (λw=>bad_any er w);unfold PG.val iP at KR;dsimp only at KR hR;generalize c.table.getD k 0=pid at *;generalize c.table.length=tn at *;unfold dp at KR;have KR:=xh KR;have KA:=xh KA
  clear h h1 hv hP h4 ck;unfold sp at *
  by_cases h5:er=0
  .rw[if_neg (by simpa using h5)]at hR;subst hR h5;go_enter func228,ntmps228;go_wp2_with fail;refine KA.o.mono ?_;rintro e w1 ⟨rfl,rfl⟩;go_wp2_with fail;refine wp_region_held_drew (S:=λW'=>W'.cell? ⟨x.b,0,none⟩=some (.pointer (some ⟨x.L.b,0,none⟩))/\W'.cell? ⟨x.b,2,none⟩=some (.slice (some ⟨g,0,none⟩) tn cp)/\W'.cell? ⟨g,k,none⟩=some (.int .i64 pid)) (by kernel_rfl) (HK.o _ OD.o) (λaq=>?_)
   refine cV [(0,16),(1,17),(2,18),(3,19),(4,20),(5,21),(6,22),(7,23),(8,24),(9,25),(10,26)] ?_
   iterate 11 refine bj ?_
   refine wpAnyH_ready (rs:=[11,15]) (by kernel_rfl) (by simp) ?_;refine AllReadyH.cons (o:=⟨some 27,_,_,_,_,_⟩) rfl (λK hK=>?_) (AllReadyH.cons (o:=⟨some 7,_,_,_,_,_⟩) rfl (λK hK=>?_) AllReadyH.nil)
   .skip
    go_simp
    go_at_call 139
    refine(KR.o _ OD.o).mono ?_;rintro e v1 ⟨rfl,mB⟩;have P1:=xh (au OD.o mB);clear mB;go_simp;refine aW hK (HK.o _ P1.o) (λaq=>?_);refine cV [(12,15),(13,28),(14,29)] ?_
    iterate 3 refine bj ?_
    refine dn 15 7 λK hK=>?_;go_simp;have P2:=xh (ae P1.o (.cells hX 162));refine aW hK (HK.o _ P2.o) (λaq=>?_);refine mW 16 λK hK=>?_;go_simp;have P3:=xh (ae P1.o (.cells #[.int .i64 rid,.int .i64 rep,.int .i64 rkd,.string ⟨rs.toArray⟩] 162));have BX:=xh (aE.new v1 162 #[.int .i64 rid,.int .i64 rep,.int .i64 rkd,.string ⟨rs.toArray⟩]);refine aW hK (HK.o _ P3.o) (λaq=>?_);refine cV [(17,8)] ?_
    iterate 1 refine bj ?_
    refine wpAnyH_done (by kernel_rfl) ?_ _;have y3:=BX.o.ab (i:=3) rfl;go_wp2_with fail;go_ret2;exact aC P3.o
   .skip
    go_simp;have P1:=xh (ae OD.o (.cells hX 162));have BX0:=xh (show aE (w.drew.alloc (.cells hX 162)) w.heap.size 162 hX from aE.new w.drew 162 hX);refine aW hK (HK.o _ P1.o) (λaq=>?_);refine dn 11 27 λK hK=>?_;go_simp
    go_at_call 139
    refine(KR.o _ P1.o).mono ?_;rintro e v1 ⟨rfl,mB⟩;have P2:=xh (au P1.o mB);have DQ:=xh (BX0.o.below mB BX0.o.lt);clear mB;have z0:=DQ.o.frozen 0 (by simp);have z1:=DQ.o.frozen 1 (by simp);have z2:=DQ.o.frozen 2 (by simp);have z3:=DQ.o.frozen 3 (by simp);have c0:=DQ.o.ab (i:=0) rfl;have c1:=DQ.o.ab (i:=1) rfl;have c2:=DQ.o.ab (i:=2) rfl;have c3:=DQ.o.ab (i:=3) rfl;go_simp
    refine aW hK (HK.o _ P2.o) (λaq=>?_);refine cV [(12,15),(13,28),(14,29)] ?_
    iterate 3 refine bj ?_
    refine mW 16 λK hK=>?_;go_simp;have P3:=xh (fj P2.o (aj _) rid rep rkd ⟨rs.toArray⟩);have BX:=xh (iU DQ.o rfl rid rep rkd ⟨rs.toArray⟩);refine aW hK (HK.o _ P3.o) (λaq=>?_);refine cV [(17,8)] ?_
    iterate 1 refine bj ?_
    refine wpAnyH_done (by kernel_rfl) ?_ _;have y3:=BX.o.ab (i:=3) rfl;go_wp2_with fail;go_ret2;exact aC P3.o
  .rw[if_pos h5]at hR;have hq:(er != 0)=true:=by rw[bne_iff_ne];exact h5
   subst hR;clear h5;generalize Jc er=be at *;go_enter func228,ntmps228;go_wp2_with fail;refine KA.o.mono ?_;rintro e w1 ⟨rfl,rfl⟩;go_wp2_with fail;refine wp_region_held_drew (S:=λW'=>W'.cell? ⟨x.b,0,none⟩=some (.pointer (some ⟨x.L.b,0,none⟩))/\W'.cell? ⟨x.b,2,none⟩=some (.slice (some ⟨g,0,none⟩) tn cp)/\W'.cell? ⟨g,k,none⟩=some (.int .i64 pid)) (by kernel_rfl) (HK.o _ OD.o) (λaq=>?_)
   refine cV [(0,16),(1,17),(2,18),(3,19),(4,20),(5,21),(6,22),(7,23),(8,24),(9,25),(10,26)] ?_
   iterate 11 refine bj ?_
   refine wpAnyH_ready (rs:=[11,15]) (by kernel_rfl) (by simp) ?_;refine AllReadyH.cons (o:=⟨some 27,_,_,_,_,_⟩) rfl (λK hK=>?_) (AllReadyH.cons (o:=⟨some 7,_,_,_,_,_⟩) rfl (λK hK=>?_) AllReadyH.nil)
   .skip
    go_simp
    go_at_call 139
    refine(KR.o _ OD.o).mono ?_;rintro e v1 ⟨rfl,mB⟩;have P1:=xh (au OD.o mB);clear mB;go_simp;refine aW hK (HK.o _ P1.o) (λaq=>?_);refine cV [(12,15),(13,28),(14,29)] ?_
    iterate 3 refine bj ?_
    refine dn 15 7 λK hK=>?_;go_simp;have P2:=xh (ae P1.o (.cells hX 162));refine aW hK (HK.o _ P2.o) (λaq=>?_);refine mW 16 λK hK=>?_;go_simp;have P3:=xh (ae P1.o (.cells #[.int .i64 rid,.int .i64 rep,.int .i64 rkd,.string ⟨rs.toArray⟩] 162));have BX:=xh (aE.new v1 162 #[.int .i64 rid,.int .i64 rep,.int .i64 rkd,.string ⟨rs.toArray⟩]);refine aW hK (HK.o _ P3.o) (λaq=>?_);refine cV [(17,8)] ?_
    iterate 1 refine bj ?_
    refine wpAnyH_done (by kernel_rfl) ?_ _;go_wp2_with fail;refine(KB.o _).mono ?_;rintro e wz ⟨rfl,rfl⟩;go_wp2_with fail;go_ret2;exact aC P3.o
   .skip
    go_simp;have P1:=xh (ae OD.o (.cells hX 162));have BX0:=xh (show aE (w.drew.alloc (.cells hX 162)) w.heap.size 162 hX from aE.new w.drew 162 hX);refine aW hK (HK.o _ P1.o) (λaq=>?_);refine dn 11 27 λK hK=>?_;go_simp
    go_at_call 139
    refine(KR.o _ P1.o).mono ?_;rintro e v1 ⟨rfl,mB⟩;have P2:=xh (au P1.o mB);have DQ:=xh (BX0.o.below mB BX0.o.lt);clear mB;have z0:=DQ.o.frozen 0 (by simp);have z1:=DQ.o.frozen 1 (by simp);have z2:=DQ.o.frozen 2 (by simp);have z3:=DQ.o.frozen 3 (by simp);have c0:=DQ.o.ab (i:=0) rfl;have c1:=DQ.o.ab (i:=1) rfl;have c2:=DQ.o.ab (i:=2) rfl;have c3:=DQ.o.ab (i:=3) rfl;go_simp
    refine aW hK (HK.o _ P2.o) (λaq=>?_);refine cV [(12,15),(13,28),(14,29)] ?_
    iterate 3 refine bj ?_
    refine mW 16 λK hK=>?_;go_simp;have P3:=xh (fj P2.o (aj _) rid rep rkd ⟨rs.toArray⟩);have BX:=xh (iU DQ.o rfl rid rep rkd ⟨rs.toArray⟩);refine aW hK (HK.o _ P3.o) (λaq=>?_);refine cV [(17,8)] ?_
    iterate 1 refine bj ?_
    refine wpAnyH_done (by kernel_rfl) ?_ _;go_wp2_with fail;refine(KB.o _).mono ?_;rintro e wz ⟨rfl,rfl⟩;go_wp2_with fail;go_ret2;exact aC P3.o
 .rw[if_pos h1]at hR;subst hR;have hq:(c.jm l != 0)=true:=by rw[bne_iff_ne];exact h1
  have KA:=xh KA;generalize c.jm l=er at *;clear h h1;unfold sp at *;go_enter func228,ntmps228;go_wp2_with fail;refine KA.o.mono ?_;rintro e w1 ⟨rfl,rfl⟩;go_wp2_with fail;go_ret2;exact aC (Below.refl _ _)
attribute [local go_sem ↓] bq
def wZ(t:List Int):Nat->List Int
 |0=>[]
 |k+1=>wZ t k++if 0<=t.getD k 0 then [(k:Int)]else []
theorem Q9(t:List Int):∀k,(wZ t k).length<=k
 |0=>aj _
 |k+1=>by
  have:=Q9 t k;unfold wZ;rw[aQ]
  split<;>simp<;>omega
theorem Je{w:World}{x:X}{n:Nat}{c:C}(h:At w x n c):
  Calls prog 29 #[sp x.b] w λe w'=> ∃A cc,e=.returned (.slice A (wZ c.table c.table.length).length cc)/\aK w' 3 1 (.slice A (wZ c.table c.table.length).length cc) (wZ c.table c.table.length).length (gI (wZ c.table c.table.length))/\Below w.heap.size w w':=by
 have f2:=h.f2;have tl:=h.tl;obtain⟨TA,tc,Fz,htc⟩:=h.ht.val;rw[Fz]at f2;have HT:=xh (λ(k:Nat) (hk:k<c.table.length) (W:World) (hb:Below w.heap.size w W)=>(h.below hb).tk k hk);have HV:=xh Fz;obtain⟨t,ht⟩:∃t,c.table=t:=⟨_,rfl⟩;rw[ht]at f2 tl htc HT HV ⊢;obtain⟨tn,htn⟩:∃tn,t.length=tn:=⟨_,rfl⟩;rw[htn]at f2 tl htc HT HV ⊢;clear h Fz ht htn;unfold sp at *;go_enter func29,ntmps29;go_wp2_with fail
 go_loopw [3,14] (λbv iv wr=> ∃k:Nat,k<=tn/\iv=.int .i64 k/\aK wr 3 1 bv (wZ t k).length (gI (wZ t k))/\Hid (Below w.heap.size w wr)/\Hid (∀g∈ah bv,w.heap.size<=g)) (λ_ iv _=>tn-(intOf iv).toNat)
 case atStart=>exact⟨0,bm _,rfl,aK.nil _ _ _,xh (Below.refl _ _),xh (by simp[ah])⟩
 case round=>
  obtain⟨k,hk,rfl,S,O,F⟩:=hrel;have hle:=Q9 t k;obtain⟨VA,vc,rfl⟩:=ao S
  by_cases h':k<tn
  .have Ly:(k:Int)<(tn:Int):=by omega
   obtain⟨g,cp,hv,ck⟩:=HT.o k h' wr O.o;rw[HV.o]at hv;injection hv with e1 e2 e3
   subst e1 e3;obtain⟨u,hu⟩:∃u,t.getD k 0=u:=⟨_,rfl⟩;rw[hu]at ck
   by_cases hpos:0<=u
   .have Bz:wZ t (k+1)=wZ t k++[(k:Int)]:=by
     show wZ t k++_=_;rw[hu,if_pos hpos]
    obtain⟨v',w2,ea,S2,ow,fr⟩:=cU (P:=prog) S 60 60 (.int .i64 0) 8 underlying60 lM rfl (.int .i64 (k:Int)) rfl (by unfold maxLen;omega) (by omega);obtain⟨V2,hJ,rfl⟩:=ao S2;have hlen:(wZ t (k+1)).length=(wZ t k).length+1:=by rw[Bz];simp
    have EA:=xh ea;have SX:=xh (show aK w2 3 1 (.slice V2 ((wZ t k).length+1) hJ) (wZ t (k+1)).length (gI (wZ t (k+1)))from by
     rw[hlen,Bz,ju];exact S2)
    have OX:=xh (O.o.trans (ow.aO O.o.size F.o));have FX:=xh (show ∀g'∈ah (.slice V2 ((wZ t k).length+1) hJ),w.heap.size<=g' from λg' hg=>(fr g' hg).elim (F.o g') (λh=>ay O.o.size h));clear ea S2 ow fr S Bz hlen hu;generalize (wZ t k).length=pl at *;go_wp2_with fail;rw[EA.o];go_wp2_with fail;go_roundw
    case rel=>exact⟨k+1,by omega,by go_num,SX.o,OX,FX⟩
    case measure=>simp[intOf];omega
   .have Bz:wZ t (k+1)=wZ t k:=by
     show wZ t k++_=_;rw[hu,if_neg hpos,jh]
    have SX:=xh S;have HN:=xh Bz;clear S Bz hu;go_wp2_with fail;go_roundw
    case rel=>exact⟨k+1,by omega,by go_num,by rw[HN.o];exact SX.o,O,F⟩
    case measure=>simp[intOf];omega
  .obtain rfl:k=tn:=by omega
   have SX:=xh S;clear S;go_wp2_with fail;go_ret;exact⟨_,_,by first|rfl|simp,SX.o,O.o⟩
end Sh
namespace Sh
open Go.RowKit Pk Dk Pg
attribute [local go_sem ↓] Go.wp_at_zero Go.wp_at_succ
variable{d:D}{w:World}{n:Nat}
def ft:List UInt8:=Rt.vS 1 0 []
def Lz(d:D)(n:Nat):D:=(((d.aG n 0 ft).1.aG n 1 []).1.gj).1
def dX(d:D)(n:Nat):C:={d:=Lz d n,m:=List.replicate (fC n) 0,table:=[],cG:=[],parts:=[],ep:=1,slot:=0,broken:=false}
theorem uI(hd:d.down=false)(ha:d.bA=0):d.gj.2=0/\d.gj.1.down=false/\d.gj.1.bA=0/\d.gj.1.now=d.now:=by
 obtain⟨c1,c2,c3⟩:=vQ d ha;unfold D.gj;rw[if_neg (by simp[hd]),if_pos c1];exact⟨rfl,c3.trans hd,c2,Bu d⟩
theorem Rb:Rt.k8 1 ((0:Nat):Int) (Rt.tD []):=by
 refine⟨by omega,by omega,by omega,by omega,by decide,?_⟩;intro i x hx;simp[Rt.tD]at hx
theorem Jf{L:Dk.Loc}(h:aY w L n d)(hp:1<=fC n)(hd:d.down=false)(ha:d.bA=0)(hc:d.calls<=1000):
  Calls prog 53 #[dp L.b] w λe w'=> ∃x,x.L=L/\e=.returned (.tuple #[sp x.b,.int .i64 0])/\At w' x n (dX d n)/\ag L.fp w w'/\∀g∈x.fp,g∈L.fp\/w.heap.size<=g:=by
 have hn:=h.ok.small;have Qt:6<=n:=by unfold fC cq at hp;omega
 have hc0:=h.ok.calls;have LA:fC n<=1024:=by unfold fC;omega
 have w1f:=jn (n:=n) (k:=0) hd ha (by omega) ft;have w2f:=jn (n:=n) (k:=1) w1f.2.1 w1f.2.2 (by omega) [];have sf:=uI w2f.2.1 w2f.2.2;have b1:=kg d n ((0:Nat):Int) ft (by omega);have b2:=kg (d.aG n ((0:Nat):Int) ft).1 n ((1:Nat):Int) [] b1.2;have KP:=xh (λw' (hb:Below w.heap.size w w')=>Ng (h.below hb));have KN:=xh (λw=>Fm.DF (fC n) w LA)
 have KR:=xh (λw=>Rt.Q3 (w:=w) 1 0 none 0 0 [] ⟨rfl,λk x hx=>by simp[Rt.tD]at hx⟩ (aj _) Rb);have HD:=xh h;have sO:=xh (λg hg=>h.lt g hg);have O1:=xh (ae (Below.refl w.heap.size w) (.cells #[dp L.b,.pointer none,.slice none 0 0,.slice none 0 0,.slice none 0 0,.int .i64 1,.int .i64 0,.bool false] 146))
 have B1:=xh (aE.new w 146 #[dp L.b,.pointer none,.slice none 0 0,.slice none 0 0,.slice none 0 0,.int .i64 1,.int .i64 0,.bool false]);have hpz:((fC n:Nat):Int)≠0:=by omega
 have hpq:(((fC n:Nat):Int)==0)=false:=by rw[beq_eq_false_iff_ne];exact hpz
 have KP0:=KP.o w (Below.refl _ _);have e1:(⟨ft.toArray⟩:ByteArray).data.toList=ft:=by simp
 have e2:(⟨#[]⟩:ByteArray).data.toList=([]:List UInt8):=by simp
 have c1:=kg d n 0 ft (by omega);have c2:=kg (d.aG n 0 ft).1 n 1 [] c1.2;have v1:(d.aG n 0 ft).2=0:=w1f.1;have v2:((d.aG n 0 ft).1.aG n 1 []).2=0:=w2f.1;have v3:((d.aG n 0 ft).1.aG n 1 []).1.gj.2=0:=sf.1;have FD:=xh (λ(W:World) (hW:aY W L n d)=>lK hW 0 ⟨ft.toArray⟩ (by omega) (by omega));have KW2:=xh (λ(W:World) (hW:aY W L n (d.aG n 0 ft).1)=>lK hW 1 ⟨#[]⟩ (by omega) (by omega))
 have KS:=xh (λ(W:World) (hW:aY W L n ((d.aG n 0 ft).1.aG n 1 []).1)=>QM hW (by omega) (by omega));rw[e1,v1]at FD;rw[e2,v2]at KW2;rw[v3]at KS;have HFD:Lz d n=((d.aG n 0 ft).1.aG n 1 []).1.gj.1:=rfl;have KR:=xh (show ∀w:World,Calls prog 102 #[.agg #[.int .i64 1,.int .i64 0,.slice none 0 0]] w λe w'=>e=.returned (.tuple #[.string ⟨ft.toArray⟩,.int .i64 0])/\Below w.heap.size w w' from KR.o)
 have hfc:dX d n={d:=Lz d n,m:=List.replicate (fC n) 0,table:=[],cG:=[],parts:=[],ep:=1,slot:=0,broken:=false}:=rfl;rw[hfc];clear hfc;generalize Lz d n=dz at *;generalize ((d.aG n 0 ft).1.aG n 1 []).1.gj.1=dy at *;subst HFD;generalize ((d.aG n 0 ft).1.aG n 1 []).1=dx at *;generalize (d.aG n 0 ft).1=dw at *;generalize ft=rt at *;clear w1f w2f sf b1 b2 c1 c2 v1 v2 v3 e1 e2;generalize fC n=pn at *;unfold dp Fm.mp Rt.Fy at *
 have KP0:=xh KP0;clear h hpz;go_enter func53,ntmps53;go_wp2_with fail;refine KP0.o.mono ?_;rintro e w1 ⟨rfl,rfl⟩;go_wp2_with fail;refine(KP.o _ O1.o).mono ?_;rintro e w1 ⟨rfl,rfl⟩;go_wp2_with fail;refine(KN.o _).mono ?_;rintro e w2 ⟨mb,mg,rfl,mm,bS,h1,h2⟩;have B2:=xh (B1.o.below bS B1.o.lt);have O2:=xh (au O1.o bS);have O3:=xh (Below.setCell O2.o (p:=⟨w.heap.size,1,none⟩) (aj _) (.pointer (some ⟨mb,0,none⟩)))
 have n1:w.heap.size≠mg:=by have:=h2;simp only[World.size_alloc]at this;omega
 have n2:w.heap.size≠mb:=by have:=h1;simp only[World.size_alloc]at this;omega
 have g1:w.heap.size<=mb:=by have:=h1;simp only[World.size_alloc]at this;omega
 have g2:w.heap.size<=mg:=by have:=h2;simp only[World.size_alloc]at this;omega
 have M3:=xh (mm.only (S:=[w.heap.size]) ((ag.refl _ w2).setCell (p:=⟨w.heap.size,1,none⟩) (by simp) (.pointer (some ⟨mb,0,none⟩))) (by simpa using n2.symm) (by simpa using n1.symm));have B3:=xh (B2.o.bG 1 (.pointer (some ⟨mb,0,none⟩)));have q0:=B2.o.ab (i:=1) rfl;have q1:=B2.o.frozen 1 (by simp);clear bS h1 h2 mm;go_wp2_with fail;generalize w2.setCell ⟨w.heap.size,1,none⟩ (.pointer (some ⟨mb,0,none⟩))=w3 at *;clear q0 q1;refine(KR.o _).mono ?_
 rintro e w4 ⟨rfl,eM⟩;have O4:=xh (au O3.o eM);have M4:=xh (M3.o.below eM);have B4:=xh (B3.o.below eM B3.o.lt);have U4:=xh (ae (Below.refl w4.heap.size w4) (.cells #[.string ⟨rt.toArray⟩,.string ⟨#[]⟩] 9));have T4:=xh (aE.new w4 9 #[.string ⟨rt.toArray⟩,.string ⟨#[]⟩]);have nT:w4.heap.size∉L.fp:=λhg=>by have:=sO.o _ hg;have:=O4.o.size;omega
 have nT:=xh nT;have H5:=xh (HD.o.below (au O4.o U4.o));have t0:=T4.o.ab (i:=0) rfl;clear eM;go_wp2_with fail;refine wp_loop_rounds 3 ?_;rw[rounds_succ];go_wp2_with fail;refine(FD.o _ H5.o).mono ?_;rintro e w6 ⟨rfl,H6,O6⟩;have T6:=xh (T4.o.only O6 nT.o);have t1:=T6.o.ab (i:=1) rfl;have H6:=xh H6;have O6:=xh O6;clear t0;go_wp2_with fail;rw[rounds_succ];go_wp2_with fail;refine(KW2.o _ H6.o).mono ?_;rintro e w7 ⟨rfl,H7,O7⟩
 have H7:=xh H7;have O7:=xh O7;clear t1;go_wp2_with fail;rw[rounds_succ];go_wp2_with fail;refine(KS.o _ H7.o).mono ?_;rintro e w8 ⟨rfl,H8,O8⟩;have H8:=xh H8;have O8:=xh O8;go_wp2_with fail;go_ret2;have nb:∀g,w.heap.size<=g->g∉L.fp:=λg hg hm=>by have:=sO.o _ hm;omega
 have O5:=au O4.o U4.o;have A5:ag L.fp w _:=ag.ai O5;have A8:=((A5.trans O6.o).trans O7.o).trans O8.o;have A58:=((O6.o).trans O7.o).trans O8.o;refine⟨⟨w.heap.size,L,mb,mg,.slice none 0 0,.slice none 0 0,.slice none 0 0⟩,rfl,by first|rfl|simp[sp],⟨?_,H8.o,?_,Sl.nil _ _,Sl.nil _ _,.inl (Sl.nil _ _),by simp[dr],by simp[dr],by simp[dr],by simp[dr],by simp[dr],by simp[dr],by simp⟩,A8,?_⟩
 .exact(((B4.o.below U4.o B4.o.lt).only A58 (nb _ (aj _))))
 .exact((M4.o.below U4.o).only A58 (nb _ g1) (nb _ g2))
 .intro g hg;simp only[X.fp,ar,az]at hg
  rcases hg with rfl|rfl|rfl|((hg|hg)|hg)|hg
  .exact .inr (aj _)
  .exact .inr g1
  .exact .inr g2
  .exact .inl hg
  .simp[dr]at hg
  .simp[dr]at hg
  .simp[dr]at hg
theorem cC{e t:TypeId}{k:Nat}{v:Value}{b:Nat}{l:List Value}{cs:Array Value}(h:aK w e k v n l)(B:aE w b t cs)(eV:t≠e):b∉ah v:=by
 rcases h.2 with⟨rfl,_⟩|⟨g,cap,rest,rfl,BB,_⟩
 .simp[ah]
 .simp only[ah,aP];exact B.lI BB eV
variable{w:World}{g:Nat}
structure Fr where
 aw:Int
 gh:ByteArray
 held:Int
 cQ:Bool
 used:Bool
def Fr.cs(f:Fr):List Value:=[.int .i64 f.aw,.string f.gh,.int .i64 f.held,.bool f.cQ,.bool f.used]
def Fr.agg(f:Fr):Value:= .agg #[.int .i64 f.aw,.string f.gh,.int .i64 f.held,.bool f.cQ,.bool f.used]
def Fr.nil:Fr:=⟨-1,⟨#[]⟩,0,false,false⟩
def DR(l:List Fr):List Value:=l.flatMap Fr.cs
theorem l8(l:List Fr):(DR l).length=l.length*5:=by
 induction l with
 |nil=>rfl
 |cons f l ih=>simp only[DR,gS,aQ]at ih ⊢;rw[ih];simp[Fr.cs];omega
theorem frc_get(l:List Fr)(k i:Nat)(hi:i<5)(f:Fr)(hf:l[k]?=some f):(DR l)[k*5+i]?=f.cs[i]?:=by
 induction l generalizing k with
 |nil=>simp at hf
 |cons a l ih=>
  have e5:a.cs.length=5:=rfl;simp only[DR,gS]at ih ⊢
  cases k with
  |zero=>
   simp at hf;subst hf;rw[n7,bh,bD (by omega)]
  |succ k=>
   simp at hf;rw[dE (by omega),e5,show(k+1)*5+i-5=k*5+i from by omega];exact ih k hf
def vT(w:World)(g:Nat)(l:List Fr):Prop:= ∀k f,l[k]?=some f->w.cell? ⟨g,k*5,none⟩=some (.int .i64 f.aw)/\w.cell? ⟨g,k*5+1,none⟩=some (.string f.gh)/\w.cell? ⟨g,k*5+2,none⟩=some (.int .i64 f.held)/\w.cell? ⟨g,k*5+3,none⟩=some (.bool f.cQ)/\w.cell? ⟨g,k*5+4,none⟩=some (.bool f.used)
theorem vT.of{l:List Fr}{rest:List Value}{t:TypeId}(B:aE w g t (DR l++rest).toArray):vT w g l:=by
 intro k f hf;have hk:k<l.length:=(aX.1 hf).1;have hl:=l8 l;have c:∀i v,i<5->f.cs[i]?=some v->w.cell? ⟨g,k*5+i,none⟩=some v:=λi v hi hv=>
  B.ab (by rw[cM,bD (by omega),frc_get l k i hi f hf,hv])
 exact⟨c 0 _ (by omega) rfl,c 1 _ (by omega) rfl,c 2 _ (by omega) rfl,c 3 _ (by omega) rfl,c 4 _ (by omega) rfl⟩
theorem vT.below{w':World}{l:List Fr}(h:vT w g l)(hb:Below w.heap.size w w'):vT w' g l:=by
 intro k f hf;obtain⟨c0,c1,c2,c3,c4⟩:=h k f hf;exact⟨(hb.cell (dN c0)).trans c0,(hb.cell (dN c1)).trans c1,(hb.cell (dN c2)).trans c2,(hb.cell (dN c3)).trans c3,(hb.cell (dN c4)).trans c4⟩
def FE(b:Fr->Bool)(l:List Fr):Int:=if l.findIdx b<l.length then(l.findIdx b:Int)else -1
def findF(l:List Fr)(p:Int):Int:=if p<0 then -1 else FE (λf=>decide (f.aw=p)) l
theorem xI{b:Fr->Bool}{l:List Fr}{k:Nat}{f:Fr}(hf:l[k]?=some f)(hb:b f=true)(ha:∀(j:Nat) (a:Fr),j<k->l[j]?=some a->b a=false):FE b l=k:=by
 have hk:k<l.length:=(aX.1 hf).1;have hg:l[k]=f:=(aX.1 hf).2;have e:l.findIdx b=k:=by
  rw[List.findIdx_eq hk];exact⟨by rw[hg];exact hb,λj hj=>by have:=ha j l[j] hj (aT (by omega));simp[this]⟩
 unfold FE;rw[e,if_pos hk]
theorem yx{b:Fr->Bool}{l:List Fr}(ha:∀(j:Nat) (a:Fr),l[j]?=some a->b a=false):FE b l= -1:=by
 have e:l.findIdx b=l.length:=by
  rw[List.findIdx_eq_length];intro x hx;obtain⟨i,hi,rfl⟩:=xj.1 hx;exact ha i _ (aT hi)
 unfold FE;rw[e,if_neg (qC _)]
theorem Ni{fn:Func}{p:Tmp}{f:Fr}{tmps:Array Value}(h:fn.results= #[.cell p 167])(hp:tmps.getD p undef=.pointer (some ⟨g,0,none⟩))(B:aE w g 167 f.cs.toArray):
  (results fn tmps).run prog w=.ok f.agg w:=by
 have c0:=B.ab (i:=0) rfl;have c1:=B.ab (i:=1) rfl;have c2:=B.ab (i:=2) rfl;have c3:=B.ab (i:=3) rfl;have c4:=B.ab (i:=4) rfl;rw[nm h,hp];clear h hp B;unfold Fr.agg;go_simp;exact⟨rfl,rfl,rfl,rfl,rfl⟩
theorem qL(w:World):Calls prog 86 #[] w λe w'=>e=.returned Fr.nil.agg/\Below w.heap.size w w':=by
 unfold Fr.nil Fr.agg;go_enter func86,ntmps86;go_wp2_with fail;exact bodyPost_ret (Ni (f:=Fr.nil) rfl rfl (aE.new w 167 Fr.nil.cs.toArray)) rfl ⟨rfl,ae (Below.refl w.heap.size w) _⟩
theorem qM(f:Fr)(q:Nat)(p:Int)(w:World)(hq:w.cell? ⟨q,0,none⟩=some (.int .i64 p))(b:Bool)(hb:b=decide (f.aw=p)):
  Calls prog 221 #[f.agg,.pointer (some ⟨q,0,none⟩)] w λe w'=>e=.returned (.bool b)/\Below w.heap.size w w':=by
 have O0:=xh ((Below.refl w.heap.size w).alloc (aj _) (.cells #[.int .i64 f.aw,.string f.gh,.int .i64 f.held,.bool f.cQ,.bool f.used] 167));have B0:=aE.new w 167 #[.int .i64 f.aw,.string f.gh,.int .i64 f.held,.bool f.cQ,.bool f.used];have c0:=B0.ab (i:=0) rfl;have HB:=xh hb;have hq1:=(O0.o.cell (dN hq)).trans hq;clear hb hq B0;unfold Fr.agg;go_enter func221,ntmps221;go_wp2_with fail;go_ret;exact⟨by rw[HB.o];rfl,O0.o⟩
theorem Jg(g n c q:Nat)(p:Int)(l:List Fr)(h:vT w g l)(hl:l.length=n)(hn:n<=1000000)(hq:w.cell? ⟨q,0,none⟩=some (.int .i64 p)):
  Calls prog 220 #[.slice (some ⟨g,0,none⟩) n c,.func (Fn.func 221) #[] #[.pointer (some ⟨q,0,none⟩)]] w λe w'=>e=.returned (.int .i64 (FE (λf=>decide (f.aw=p)) l))/\Below w.heap.size w w':=by
 have HL:=xh hl;have H0:=xh h;have HQ:=xh hq;clear h hq hl;go_enter func220,ntmps220;go_wp2_with fail
 go_loopw [8] (λiv wr=> ∃i:Nat,i<=n/\iv=.int .i64 i/\Hid (∀j a,j<i->l[j]?=some a->decide (a.aw=p)=false)/\Hid (Below w.heap.size w wr)) (λiv _=>n-(intOf iv).toNat)
 case atStart=>exact⟨0,bm _,rfl,xh (λj a hj=>absurd hj (kF j)),xh (Below.refl _ _)⟩
 case round=>
  obtain⟨i,hi,rfl,HA,HB⟩:=hrel
  by_cases h:i<n
  .have hf:l[i]?=some (l[i]'(by have:=HL.o;omega)):=aT _;generalize (l[i]'(by have:=HL.o;omega))=f at hf;obtain⟨c0,c1,c2,c3,c4⟩:=(H0.o.below HB.o) i f hf;have KF:=xh (qM f q p wr ((HB.o.cell (dN HQ.o)).trans HQ.o) _ rfl);have HF:=xh hf;clear hf;unfold Fr.agg at KF;obtain⟨b,hb⟩:∃b,decide (f.aw=p)=b:=⟨_,rfl⟩;rw[hb]at KF;have HD:=xh hb;clear hb;go_wp2_with fail;refine KF.o.mono ?_;rintro e w1 ⟨rfl,aJ⟩
   have FF:=xh (au HB.o aJ);clear aJ
   cases b with
   |true=>
    have he:=xh (xI (b:=λf=>decide (f.aw=p)) HF.o HD.o HA.o);go_wp2_with fail;go_ret;exact⟨by rw[he.o];rfl,FF.o⟩
   |false=>
    go_wp2_with fail;go_roundw
    case rel=>
     refine⟨i+1,by omega,by go_num,xh (λj a hj ha=>?_),FF⟩
     rcases nZ.1 hj with hj|rfl
     .exact HA.o j a hj ha
     .have:=HF.o.symm.trans ha;injection this with this
      subst this;exact HD.o
    case measure=>simp[intOf];omega
  .have he:=xh (yx (b:=λf=>decide (f.aw=p)) (l:=l) (λj a ha=>HA.o j a (by have:=(aX.1 ha).1;have:=HL.o;omega) ha));go_wp2_with fail;go_ret;exact⟨by rw[he.o];rfl,HB.o⟩
attribute [local go_sem ↓] bq
variable{w:World}{v:Value}
theorem Jh:(prog.info? 167).map (λi=>(i.zero,i.size,i.bytes))=some (some (.agg #[.int .i64 0,.string ⟨#[]⟩,.int .i64 0,.bool false,.bool false]),5,40):=by kernel_rfl
theorem Ji(l k:List Fr):DR (l++k)=DR l++DR k:=by simp[DR]
theorem Jj{a b c:World}(h:Below w.heap.size w a)(k:Below a.heap.size a b)(o:ag (ah v) b c)(hf:∀g∈ah v,w.heap.size<=g):Below w.heap.size w c:=
 (au h k).trans (o.aO (ay h.size k.size) hf)
theorem append_nil{n:Nat}{l:List Fr}(h:aK w 167 5 v n (DR l))(hn:n<=1000):
  ∃v' w',df prog 141 141 (w.alloc (.cells #[.int .i64 (-1),.string ⟨#[]⟩,.int .i64 0,.bool false,.bool false] 167)) v (.slice (some ⟨w.heap.size,0,none⟩) 1 1)= .ok v' w'/\aK w' 167 5 v' (n+1) (DR (l++[Fr.nil]))/\ag (ah v) w w'/\(∀g∈ah v',g∈ah v\/w.heap.size<=g):=by
 obtain⟨i0,hi,ke,iX,jF⟩:=info_parts Jh;obtain⟨v',w',h1,h2,h3,h4⟩:=di (P:=prog) (h.alloc (.cells #[.int .i64 (-1),.string ⟨#[]⟩,.int .i64 0,.bool false,.bool false] 167)) 141 141 i0 _ 40 underlying141 hi ke iX jF rfl (by omega)
  ⟨w.heap.size,0,none⟩ 1 1 Fr.nil.cs rfl (bn (l:=Fr.nil.cs) (aE.new w _ #[.int .i64 (-1),.string ⟨#[]⟩,.int .i64 0,.bool false,.bool false]) 0 _ (by intro j u hu;rw[bh];exact hu)) (by intro u hu;simp[Fr.cs,Fr.nil]at hu;rcases hu with rfl|rfl|rfl|rfl<;>rfl) (by unfold maxLen;omega) (by omega)
 refine⟨v',w',h1,?_,((ag.refl _ _).alloc _).aN h3 (λx hx _=>hx),λg hg=>(h4 g hg).imp id (λh=>by simp at h;omega)⟩;rw[Ji];exact h2
theorem Rc(b k:Nat)(h1:1<=k)(h2:k<=32):
  Calls prog 34 #[sp b,.int .i64 (k:Nat)] w λe w'=> ∃pb v,e=.returned (.tuple #[.pointer (some ⟨pb,0,none⟩),.int .i64 0])/\aE w' pb 143 #[sp b,v,.int .i64 0]/\aK w' 167 5 v k (DR (List.replicate k Fr.nil))/\Below w.heap.size w w'/\w.heap.size<=pb/\∀g∈ah v,w.heap.size<=g:=by
 have KE:=xh qL;have O0:=xh (ae (Below.refl w.heap.size w) (.cells #[sp b,.slice none 0 0,.int .i64 0] 143));have B0:=xh (aE.new w 143 #[sp b,.slice none 0 0,.int .i64 0]);have k1:¬(k:Int)<1:=by omega
 have k2:¬(32:Int)<(k:Int):=by omega
 unfold sp at *;go_enter func34,ntmps34;go_wp2_with fail;generalize hwa:w.alloc (.cells #[.pointer (some ⟨b,0,none⟩),.slice none 0 0,.int .i64 0] 143)=wa at *;clear hwa
 go_loopw [21] (λiv wr=> ∃i:Nat,i<=k/\iv=.int .i64 i/\∃v,Hid (aE wr w.heap.size 143 #[.pointer (some ⟨b,0,none⟩),v,.int .i64 0])/\Hid (aK wr 167 5 v i (DR (List.replicate i Fr.nil)))/\Hid (Below w.heap.size w wr)/\Hid (∀g∈ah v,w.heap.size<=g)) (λiv _=>k-(intOf iv).toNat)
 case atStart=>exact⟨0,bm _,rfl,.slice none 0 0,B0,xh (aK.nil _ _ _),O0,xh (by simp[ah])⟩
 case round=>
  obtain⟨i,hi,rfl,v,BP,SP,OB,FR⟩:=hrel
  by_cases h:i<k
  .obtain⟨A,cc,rfl⟩:=ao SP.o;have hI:(i:Int)<(k:Int):=by omega
   have OD:=xh (show Below wr.heap.size wr wr.drew from(Below.refl _ _).drew);have c0:=BP.o.ab (i:=1) rfl;have NB:=xh (show w.heap.size∉ah (.slice A i cc)from cC SP.o BP.o (by decide));go_wp2_with fail;refine wp_region_held_drew (S:=λ_=>True) (by kernel_rfl) (trivial) (λaq=>?_);refine cV [(0,23),(1,24),(2,25),(3,26)] ?_
   iterate 4 refine bj ?_
   refine wpAnyH_ready (rs:=[4,5]) (by kernel_rfl) (by simp) ?_;refine AllReadyH.cons (o:=⟨some 27,_,_,_,_,_⟩) rfl (λK hK=>?_) (AllReadyH.cons (o:=⟨some 28,_,_,_,_,_⟩) rfl (λK hK=>?_) AllReadyH.nil)
   .skip
    go_simp;refine aW hK (trivial) (λaq=>?_);refine dn 5 28 λK hK=>?_;go_simp
    go_at_call 86
    refine(KE.o _).mono ?_;rintro e v1 ⟨rfl,mB⟩;have P1:=xh (au OD.o mB);have BP1:=xh (BP.o.below P1.o BP.o.lt);have SP1:=xh (SP.o.below P1.o);have cl:=BP1.o.ab (i:=1) rfl;clear mB;unfold Fr.nil Fr.agg;go_simp;refine aW hK (trivial) (λaq=>?_);refine dn 6 29 λK hK=>?_;go_simp;obtain⟨v2,w2,ea,S2,PX,Lx⟩:=append_nil SP1.o (by omega);obtain⟨A2,DS,rfl⟩:=ao S2;have EA:=xh ea;have SP2:=xh S2;have OW2:=xh PX
    have FR2:=xh Lx;have LB:=xh (BP1.o.only OW2.o NB.o);clear ea S2 PX Lx cl;refine aW hK (trivial) (λaq=>?_);refine dn 7 30 λK hK=>?_;go_simp;rw[EA.o];go_simp;refine aW hK (trivial) (λaq=>?_);refine cV [(8,31),(9,32)] ?_
    iterate 2 refine bj ?_
    refine mW 10 λK hK=>?_;go_simp;have q0:=LB.o.ab (i:=1) rfl;have q1:=LB.o.frozen 1 (by simp);go_simp;refine aW hK (trivial) (λaq=>?_);refine wpAnyH_done (by kernel_rfl) ?_ _;have BP3:=LB.o.bG 1 (.slice A2 (i+1) DS);have SP3:=SP2.o.only ((ag.refl [w.heap.size] w2).setCell (p:=⟨w.heap.size,1,none⟩) (by simp) (.slice A2 (i+1) DS)) (λg hg hm=>by simp at hm;subst hm;exact cC SP2.o LB.o (by decide) hg)
    have O3:=Below.setCell (Jj OB.o P1.o OW2.o FR.o) (p:=⟨w.heap.size,1,none⟩) (aj _) (.slice A2 (i+1) DS);have Ih:∀g∈ah (.slice A2 (i+1) DS),w.heap.size<=g:=λg hg=>(FR2.o g hg).elim (FR.o g) (λh=>by have:=OB.o.size;have:=P1.o.size;omega);have BP4:=xh BP3;have SP4:=xh SP3;have O4:=xh O3;have HFR:=xh Ih;clear BP3 SP3 O3 Ih q0 q1;go_wp2_with fail;go_roundw
    case rel=>
     refine⟨i+1,by omega,by go_num,.slice A2 (i+1) DS,BP4,?_,O4,HFR⟩;rw[show List.replicate (i+1) Fr.nil=List.replicate i Fr.nil++[Fr.nil]from sY];exact SP4
    case measure=>simp[intOf];omega
   .skip
    go_simp
    go_at_call 86
    refine(KE.o _).mono ?_;rintro e v1 ⟨rfl,mB⟩;have P1:=xh (au OD.o mB);have BP1:=xh (BP.o.below P1.o BP.o.lt);have SP1:=xh (SP.o.below P1.o);have cl:=BP1.o.ab (i:=1) rfl;clear mB;unfold Fr.nil Fr.agg;go_simp;refine aW hK (trivial) (λaq=>?_);refine wpAnyH_ready (rs:=[4,6]) (by kernel_rfl) (by simp) ?_;refine AllReadyH.cons (o:=⟨some 27,_,_,_,_,_⟩) rfl (λK hK=>?_) (AllReadyH.cons (o:=⟨some 29,_,_,_,_,_⟩) rfl (λK hK=>?_) AllReadyH.nil)
    .skip
     go_simp;refine aW hK (trivial) (λaq=>?_);refine dn 6 29 λK hK=>?_;go_simp;obtain⟨v2,w2,ea,S2,PX,Lx⟩:=append_nil SP1.o (by omega);obtain⟨A2,DS,rfl⟩:=ao S2;have EA:=xh ea;have SP2:=xh S2;have OW2:=xh PX;have FR2:=xh Lx;have LB:=xh (BP1.o.only OW2.o NB.o);clear ea S2 PX Lx cl;refine aW hK (trivial) (λaq=>?_);refine dn 7 30 λK hK=>?_;go_simp;rw[EA.o];go_simp;refine aW hK (trivial) (λaq=>?_)
     refine cV [(8,31),(9,32)] ?_
     iterate 2 refine bj ?_
     refine mW 10 λK hK=>?_;go_simp;have q0:=LB.o.ab (i:=1) rfl;have q1:=LB.o.frozen 1 (by simp);go_simp;refine aW hK (trivial) (λaq=>?_);refine wpAnyH_done (by kernel_rfl) ?_ _;have BP3:=LB.o.bG 1 (.slice A2 (i+1) DS);have SP3:=SP2.o.only ((ag.refl [w.heap.size] w2).setCell (p:=⟨w.heap.size,1,none⟩) (by simp) (.slice A2 (i+1) DS)) (λg hg hm=>by simp at hm;subst hm;exact cC SP2.o LB.o (by decide) hg)
     have O3:=Below.setCell (Jj OB.o P1.o OW2.o FR.o) (p:=⟨w.heap.size,1,none⟩) (aj _) (.slice A2 (i+1) DS);have Ih:∀g∈ah (.slice A2 (i+1) DS),w.heap.size<=g:=λg hg=>(FR2.o g hg).elim (FR.o g) (λh=>by have:=OB.o.size;have:=P1.o.size;omega);have BP4:=xh BP3;have SP4:=xh SP3;have O4:=xh O3;have HFR:=xh Ih;clear BP3 SP3 O3 Ih q0 q1;go_wp2_with fail;go_roundw
     case rel=>
      refine⟨i+1,by omega,by go_num,.slice A2 (i+1) DS,BP4,?_,O4,HFR⟩;rw[show List.replicate (i+1) Fr.nil=List.replicate i Fr.nil++[Fr.nil]from sY];exact SP4
     case measure=>simp[intOf];omega
    .skip
     go_simp;obtain⟨v2,w2,ea,S2,PX,Lx⟩:=append_nil SP1.o (by omega);obtain⟨A2,DS,rfl⟩:=ao S2;have EA:=xh ea;have SP2:=xh S2;have OW2:=xh PX;have FR2:=xh Lx;have LB:=xh (BP1.o.only OW2.o NB.o);clear ea S2 PX Lx cl;have cl:=(BP1.o.alloc (.cells #[.int .i64 (-1),.string ⟨#[]⟩,.int .i64 0,.bool false,.bool false] 167)).ab (i:=1) rfl;refine aW hK (trivial) (λaq=>?_);refine dn 4 27 λK hK=>?_;go_simp
     refine aW hK (trivial) (λaq=>?_);refine dn 7 30 λK hK=>?_;go_simp;rw[EA.o];go_simp;refine aW hK (trivial) (λaq=>?_);refine cV [(8,31),(9,32)] ?_
     iterate 2 refine bj ?_
     refine mW 10 λK hK=>?_;go_simp;have q0:=LB.o.ab (i:=1) rfl;have q1:=LB.o.frozen 1 (by simp);go_simp;refine aW hK (trivial) (λaq=>?_);refine wpAnyH_done (by kernel_rfl) ?_ _;have BP3:=LB.o.bG 1 (.slice A2 (i+1) DS);have SP3:=SP2.o.only ((ag.refl [w.heap.size] w2).setCell (p:=⟨w.heap.size,1,none⟩) (by simp) (.slice A2 (i+1) DS)) (λg hg hm=>by simp at hm;subst hm;exact cC SP2.o LB.o (by decide) hg)
     have O3:=Below.setCell (Jj OB.o P1.o OW2.o FR.o) (p:=⟨w.heap.size,1,none⟩) (aj _) (.slice A2 (i+1) DS);have Ih:∀g∈ah (.slice A2 (i+1) DS),w.heap.size<=g:=λg hg=>(FR2.o g hg).elim (FR.o g) (λh=>by have:=OB.o.size;have:=P1.o.size;omega);have BP4:=xh BP3;have SP4:=xh SP3;have O4:=xh O3;have HFR:=xh Ih;clear BP3 SP3 O3 Ih q0 q1;go_wp2_with fail;go_roundw
     case rel=>
      refine⟨i+1,by omega,by go_num,.slice A2 (i+1) DS,BP4,?_,O4,HFR⟩;rw[show List.replicate (i+1) Fr.nil=List.replicate i Fr.nil++[Fr.nil]from sY];exact SP4
     case measure=>simp[intOf];omega
  .have e:i=k:=by omega
   subst e;go_wp2_with fail;go_ret2;exact⟨w.heap.size,v,by first|rfl|simp,BP.o,SP.o,OB.o,aj _,FR.o⟩
end Sh
namespace Sh
open Go.RowKit Pk Dk Pg
attribute [local go_sem ↓] Go.wp_at_zero Go.wp_at_succ
structure Y where
 x:X
 pb:Nat
 fg:Nat
 cp:Nat
structure PS where
 c:C
 l:List Fr
 hand:Nat
def pp(b:Nat):Value:= .pointer (some ⟨b,0,none⟩)
def Y.fp(y:Y):List Nat:=y.pb::y.fg::y.x.fp
structure iJ(w:World)(y:Y)(n:Nat)(s:PS):Prop where
 hp:aE w y.pb 143 #[sp y.x.b,.slice (some ⟨y.fg,0,none⟩) s.l.length y.cp,.int .i64 (s.hand:Nat)]
 hf:aK w 167 5 (.slice (some ⟨y.fg,0,none⟩) s.l.length y.cp) s.l.length (DR s.l)
 hs:At w y.x n s.c
 n1:y.pb∉y.x.fp
 n2:y.fg∉y.x.fp
 l1:1<=s.l.length
 l2:s.l.length<=32
 lh:s.hand<s.l.length
section
variable{w w':World}{y:Y}{n:Nat}{s:PS}{S:List Nat}
theorem iJ.n3(h:iJ w y n s):y.pb≠y.fg:=λe=>cC h.hf h.hp (by decide) (by simp[ah,e])
theorem iJ.only(h:iJ w y n s)(ho:ag S w w')(hd:∀g∈y.fp,g∉S):iJ w' y n s:=
 ⟨h.hp.only ho (hd _ (by simp[Y.fp])),h.hf.only ho (λg hg=>hd g (by simp[ah]at hg;simp[Y.fp,hg])),h.hs.only ho (λg hg=>hd g (by simp[Y.fp,hg])),h.n1,h.n2,h.l1,h.l2,h.lh⟩
theorem iJ.below(h:iJ w y n s)(hb:Below w.heap.size w w'):iJ w' y n s:=h.only (S:=[]) (.ai hb) (by simp)
theorem iJ.drew(h:iJ w y n s):iJ w.drew y n s:=h.below ((Below.refl _ _).drew)
theorem iJ.lt(h:iJ w y n s):∀g∈y.fp,g<w.heap.size:=by
 intro g hg;simp only[Y.fp,ar]at hg
 rcases hg with rfl|rfl|hg
 .exact h.hp.lt
 .exact h.hf.lt _ (by simp[ah])
 .exact h.hs.lt g hg
theorem iJ.p0(h:iJ w y n s):w.cell? ⟨y.pb,0,none⟩=some (.pointer (some ⟨y.x.b,0,none⟩)):=h.hp.ab rfl
theorem iJ.p1(h:iJ w y n s):w.cell? ⟨y.pb,1,none⟩=some (.slice (some ⟨y.fg,0,none⟩) s.l.length y.cp):=h.hp.ab rfl
theorem iJ.p2(h:iJ w y n s):w.cell? ⟨y.pb,2,none⟩=some (.int .i64 (s.hand:Nat)):=h.hp.ab rfl
theorem iJ.DT(h:iJ w y n s):vT w y.fg s.l:=by
 obtain⟨rest,B,_⟩:=h.hf.rp;exact .of B
theorem iJ.store(h:iJ w y n s){c':C}(p:∃x',x'.b=y.x.b/\x'.L=y.x.L/\At w' x' n c'/\ag y.x.fp w w'/\∀g∈x'.fp,g∈y.x.fp\/w.heap.size<=g):
  ∃y',y'.pb=y.pb/\y'.fg=y.fg/\y'.cp=y.cp/\y'.x.b=y.x.b/\y'.x.L=y.x.L/\iJ w' y' n {s with c:=c'}/\ag y.fp w w'/\∀g∈y'.fp,g∈y.fp\/w.heap.size<=g:=by
 obtain⟨x',e1,e2,A,o,fr⟩:=p;have l1:=h.lt y.pb (by simp[Y.fp]);have l2:=h.lt y.fg (by simp[Y.fp]);refine⟨⟨x',y.pb,y.fg,y.cp⟩,rfl,rfl,rfl,e1,e2,⟨?_,h.hf.only o (λg hg=>by simp[ah]at hg;subst hg;exact h.n2),A,?_,?_,h.l1,h.l2,h.lh⟩,o.mono (λg hg _=>by simp[Y.fp,hg]),?_⟩
 .show aE w' y.pb _ #[sp x'.b,_,_];rw[e1];exact h.hp.only o h.n1
 .exact λhg=>(fr _ hg).elim h.n1 (λh=>absurd l1 (xx.2 h))
 .exact λhg=>(fr _ hg).elim h.n2 (λh=>absurd l2 (xx.2 h))
 .intro g hg;simp only[Y.fp,ar]at hg ⊢
  rcases hg with rfl|rfl|hg
  .exact .inl (.inl rfl)
  .exact .inl (.inr (.inl rfl))
  .exact(fr g hg).imp (λh=> .inr (.inr h)) id
end
theorem iB{w:World}{y:Y}{n:Nat}{s:PS}(h:iJ w y n s)(l:Int):
  Calls prog 178 #[pp y.pb,.int .i64 l] w λe w'=>e=.returned (.int .i64 (findF s.l l))/\Below w.heap.size w w':=by
 have O0:=xh (ae (Below.refl w.heap.size w) (.cells #[.int .i64 l] 3));have B0:=xh (aE.new w 3 #[.int .i64 l]);have H0:=h.below O0.o;have q0:=B0.o.ab (i:=0) rfl;have KI:=xh (Jg y.fg s.l.length y.cp w.heap.size l s.l H0.DT rfl (by have:=h.l2;omega) q0);have p1:=H0.p1;obtain⟨R,hR⟩:∃R,findF s.l l=R:=⟨_,rfl⟩;rw[hR];unfold findF at hR;generalize s.l.length=tn at *;clear H0 h;unfold pp
 by_cases h1:l<0
 .rw[if_pos h1]at hR;subst hR;go_enter func178,ntmps178;go_wp2_with fail;go_ret;exact aC O0.o
 .rw[if_neg h1]at hR;rw[hR]at KI;clear hR;go_enter func178,ntmps178;go_wp2_with fail;refine KI.o.mono ?_;rintro e w1 ⟨rfl,aJ⟩;have O1:=xh (au O0.o aJ);clear aJ;go_wp2_with fail;go_ret;exact aC O1.o
theorem frc_set(l:List Fr)(k j:Nat)(hj:j<5)(f f':Fr)(u:Value)(hf:l[k]?=some f)(hu:f'.cs=f.cs.set j u):(DR l).set (k*5+j) u=DR (l.set k f'):=by
 induction l generalizing k with
 |nil=>simp at hf
 |cons a l ih=>
  have e5:a.cs.length=5:=rfl
  cases k with
  |zero=>
   simp at hf;subst hf;simp only[DR,gS,List.set_cons_zero,n7,bh]at ih ⊢;rw[sZ _ _ (by omega),hu]
  |succ k=>
   simp at hf;have:=ih k hf;simp only[DR,gS,List.set_cons_succ]at this ⊢;rw[ta _ _ (by omega),e5,show(k+1)*5+j-5=k*5+j from by omega,this]
section
variable{w w':World}{y:Y}{n:Nat}{s:PS}{S:List Nat}
theorem iJ.fD(h:iJ w y n s)(k j:Nat)(hj:j<5){f:Fr}(f':Fr)(u:Value)(hf:s.l[k]?=some f)(hu:f'.cs=f.cs.set j u):
  w.frozen? ⟨y.fg,k*5+j,none⟩=false/\iJ (w.setCell ⟨y.fg,k*5+j,none⟩ u) y n {s with l:=s.l.set k f'}/\ag y.fp w (w.setCell ⟨y.fg,k*5+j,none⟩ u):=by
 have hk:k<s.l.length:=(aX.1 hf).1;have hl:=l8 s.l;obtain⟨rest,B,hr,_,hm⟩:=h.hf.rp;have o:ag [y.fg] w (w.setCell ⟨y.fg,k*5+j,none⟩ u):=(ag.refl _ _).setCell (by simp) _;have B2:=B.bG (k*5+j) u;rw[qx,sZ _ _ (by omega),frc_set s.l k j hj f f' u hf hu]at B2
 refine⟨B.frozen _ (by simp;omega),⟨?_,?_,h.hs.only o (λg hg hm=>by simp at hm;subst hm;exact h.n2 hg),h.n1,h.n2,by simpa using h.l1,by simpa using h.l2,by simpa using h.lh⟩,o.mono (λg hg _=>by simp at hg;subst hg;simp[Y.fp])⟩
 .have:=h.hp.only o (by simpa using h.n3);simpa using this
 .refine⟨by rw[l8],.inr ⟨y.fg,y.cp,rest,by simp,B2,by rw[l8,bU];omega,hm⟩⟩
theorem iJ.setH(h:iJ w y n s)(k:Nat)(hk:k<s.l.length):
  w.frozen? ⟨y.pb,2,none⟩=false/\iJ (w.setCell ⟨y.pb,2,none⟩ (.int .i64 (k:Nat))) y n {s with hand:=k}/\ag y.fp w (w.setCell ⟨y.pb,2,none⟩ (.int .i64 (k:Nat))):=by
 have o:ag [y.pb] w (w.setCell ⟨y.pb,2,none⟩ (.int .i64 (k:Nat))):=(ag.refl _ _).setCell (by simp) _;have n3:=h.n3;refine⟨h.hp.frozen 2 (by simp),⟨h.hp.bG 2 _,h.hf.only o (λg hg hm=>by simp[ah]at hg hm;omega),h.hs.only o (λg hg hm=>by simp at hm;subst hm;exact h.n1 hg),h.n1,h.n2,h.l1,h.l2,hk⟩,o.mono (λg hg _=>by simp at hg;subst hg;simp[Y.fp])⟩
end
theorem DU(b:Fr->Bool)(l:List Fr):FE b l= -1\/∃k f,FE b l=((k:Nat):Int)/\l[k]?=some f/\b f=true:=by
 unfold FE
 by_cases h:l.findIdx b<l.length
 .rw[if_pos h];exact .inr ⟨l.findIdx b,l[l.findIdx b],rfl,aT h,rQ⟩
 .rw[if_neg h];exact .inl rfl
theorem gJ(l:List Fr)(p:Int):findF l p= -1\/∃k f,findF l p=((k:Nat):Int)/\l[k]?=some f/\f.aw=p/\0<=p:=by
 unfold findF
 by_cases h:p<0
 .rw[if_pos h];exact .inl rfl
 .rw[if_neg h];exact(DU _ l).imp id (λ⟨k,f,e1,e2,e3⟩=>⟨k,f,e1,e2,by simpa using e3,by omega⟩)
def PS.ib(s:PS)(p:Int):Option (Nat×Fr):=
 if findF s.l p<0 then none else match s.l[(findF s.l p).toNat]? with
  |none=>none
  |some f=>if f.held=0 then none else some ((findF s.l p).toNat,f)
def tE(y:Y):Option (Nat×Fr)->Value
 |none=> .tuple #[.pointer none,.int .i64 16]
 |some (k,_)=> .tuple #[.pointer (some ⟨y.fg,k*5,none⟩),.int .i64 0]
theorem yy{w:World}{y:Y}{n:Nat}{s:PS}(h:iJ w y n s)(p:Int):
  Calls prog 230 #[pp y.pb,.int .i64 p] w λe w'=>e=.returned (tE y (s.ib p))/\Below w.heap.size w w':=by
 have KF:=xh (iB h p);have HB:=xh (λw' (hb:Below w.heap.size w w')=>h.below hb);obtain⟨R,hR⟩:∃R,tE y (s.ib p)=R:=⟨_,rfl⟩;rw[hR];unfold PS.ib at hR;unfold pp at *
 rcases gJ s.l p with e|⟨k,f,e,hf,_,_⟩
 .rw[e,if_pos (by omega)]at hR;rw[e]at KF;subst hR;unfold tE;clear h e;go_enter func230,ntmps230;go_wp2_with fail;refine KF.o.mono ?_;rintro e w1 ⟨rfl,aJ⟩;have O1:=xh aJ;clear aJ;go_wp2_with fail;go_ret2;exact aC O1.o
 .rw[e,if_neg (by omega),show((k:Nat):Int).toNat=k from by omega,hf]at hR;rw[e]at KF;have hk:k<s.l.length:=(aX.1 hf).1;have Ly:(k:Int)<(s.l.length:Int):=by omega
  have hk0:¬(k:Int)<0:=by omega
  have HX:=xh (λw' (hb:Below w.heap.size w w')=>(show w'.cell? ⟨y.pb,1,none⟩=some (.slice (some ⟨y.fg,0,none⟩) s.l.length y.cp)/\w'.cell? ⟨y.fg,k*5+2,none⟩=some (.int .i64 f.held)from⟨(HB.o w' hb).p1,((HB.o w' hb).DT k f hf).2.2.1⟩));have HL:=xh (show s.l.length<=32 from h.l2);dsimp only at hR
  by_cases hh:f.held=0
  .rw[if_pos hh]at hR;subst hR;have hq:(f.held==0)=true:=by rw[beq_iff_eq];exact hh
   unfold tE;clear h e hf hk hh;generalize f.held=fh at *;generalize s.l.length=tn at *;go_enter func230,ntmps230;go_wp2_with fail;refine KF.o.mono ?_;rintro e w1 ⟨rfl,aJ⟩;have O1:=xh aJ;obtain⟨x1,x2⟩:=HX.o w1 aJ;clear aJ;go_wp2_with fail;go_ret2;exact aC O1.o
  .rw[if_neg hh]at hR;subst hR;have hq:(f.held==0)=false:=by rw[beq_eq_false_iff_ne];exact hh
   unfold tE;clear h e hf hk hh;generalize f.held=fh at *;generalize s.l.length=tn at *;go_enter func230,ntmps230;go_wp2_with fail;refine KF.o.mono ?_;rintro e w1 ⟨rfl,aJ⟩;have O1:=xh aJ;obtain⟨x1,x2⟩:=HX.o w1 aJ;clear aJ;go_wp2_with fail;go_ret2;exact aC O1.o
variable{w:World}{y:Y}{n:Nat}
def PS.iq(s:PS)(p:Int):PS×Int:=match s.ib p with
 |none=>(s,16)
 |some (k,f)=>({s with l:=s.l.set k {f with held:=f.held-1}},0)
theorem yz{s:PS}{p:Int}{k:Nat}{f:Fr}(h:s.ib p=some (k,f)):s.l[k]?=some f/\f.held≠0/\findF s.l p=k:=by
 unfold PS.ib at h
 rcases gJ s.l p with e|⟨j,g,e,hf,_,_⟩
 .rw[e,if_pos (by omega)]at h
  cases h
 .rw[e,if_neg (by omega),show((j:Nat):Int).toNat=j from by omega,hf]at h;dsimp only at h
  split at h
  .cases h
  .rename_i hh;injection h with h
   injection h with h1 h2
   subst h1 h2;exact⟨hf,hh,e⟩
def PostP(w w':World)(y:Y)(n:Nat)(s':PS):Prop:= ∃y',y'.pb=y.pb/\y'.fg=y.fg/\y'.cp=y.cp/\y'.x.b=y.x.b/\y'.x.L=y.x.L/\iJ w' y' n s'/\ag y.fp w w'/\∀g∈y'.fp,g∈y.fp\/w.heap.size<=g
theorem let_any{s:PS}(h:iJ w y n s)(p:Int)(hb:∀f∈s.l,-1000<=f.held/\f.held<=4000000000000):
  Calls prog 214 #[pp y.pb,.int .i64 p] w λe w'=>e=.returned (.int .i64 (s.iq p).2)/\iJ w' y n (s.iq p).1/\ag y.fp w w':=by
 have KH:=xh (yy h p);have HB:=xh (λw' (hb:Below w.heap.size w w')=>h.below hb);obtain⟨R,hR⟩:∃R,s.iq p=R:=⟨_,rfl⟩;rw[hR];unfold PS.iq at hR;unfold pp at *
 cases hd:s.ib p with
 |none=>
  rw[hd]at hR KH;dsimp only at hR;subst hR;unfold tE at KH;clear h hd hb;go_enter func214,ntmps214;go_wp2_with fail;refine KH.o.mono ?_;rintro e w1 ⟨rfl,aJ⟩;have O1:=xh aJ;clear aJ;go_wp2_with fail;go_ret;exact aC ⟨HB.o _ O1.o,.ai O1.o⟩
 |some r=>
  obtain⟨k,f⟩:=r;obtain⟨hf,hh,_⟩:=yz hd;rw[hd]at hR KH;dsimp only at hR;subst hR;have hfb:=hb f (aA hf);have HS:=xh (λw' (hb:Below w.heap.size w w')=>(HB.o w' hb).fD k 2 (by omega) {f with held:=f.held-1} (.int .i64 (f.held-1)) hf rfl);have HC:=xh (λw' (hb:Below w.heap.size w w')=>((HB.o w' hb).DT k f hf).2.2.1);have m1:IntKind.i64.wrap (f.held-1)=f.held-1:=IntWalk.i64_in _ (by omega);unfold tE at KH;clear h hd hb hf hfb hh
  generalize f.held=fh at *;go_enter func214,ntmps214;go_wp2_with fail;refine KH.o.mono ?_;rintro e w1 ⟨rfl,aJ⟩;have O1:=xh aJ;obtain⟨z1,A1,o1⟩:=HS.o w1 aJ;have A1:=xh A1;have o1:=xh o1;have c1:=HC.o w1 aJ;clear aJ;go_wp2_with fail;go_ret;exact aC ⟨A1.o,(ag.ai O1.o).trans o1.o⟩
theorem Nj{s:PS}(h:iJ w y n s)(v:ByteArray)(hs:v.size<=9223372036854775807)(MM:0<=s.c.ep/\s.c.ep<=1099511627776)(hc:s.c.d.calls<=3999999999999999990)(hr:s.c.d.bA<=9223372036854775807):
  Calls prog 69 #[pp y.pb,.string v] w λe w'=>e=.returned (.tuple #[.int .i64 (s.c.bP n v.data.toList).2.1,.int .i64 (s.c.bP n v.data.toList).2.2])/\PostP w w' y n {s with c:=(s.c.bP n v.data.toList).1}:=by
 have KN:=xh (new_any h.hs v hs MM hc hr);have HP:=xh (λw' (p:Post w w' y.x n (s.c.bP n v.data.toList).1)=>(show PostP w w' y n {s with c:=(s.c.bP n v.data.toList).1}from h.store p));have p0:=h.p0;generalize (s.c.bP n v.data.toList)=R at *;clear h hs MM hc hr;unfold pp sp at *;go_enter func69,ntmps69;go_wp2_with fail;refine KN.o.mono ?_;rintro e w1 ⟨rfl,P1⟩;have P2:=xh (HP.o w1 P1);clear P1;go_wp2_with fail;go_ret2;exact aC P2.o
theorem Jk{s:PS}(h:iJ w y n s):
  Calls prog 28 #[pp y.pb] w λe w'=>e=.returned (sp y.x.b)/\w=w':=by
 have p0:=h.p0;clear h;unfold pp sp at *;go_enter func28,ntmps28;go_wp2_with fail;go_ret;exact aC rfl
variable{w:World}
theorem Nk(f:Fr)(w:World)(b:Bool)(hb:b=decide (f.aw<0)):
  Calls prog 244 #[f.agg] w λe w'=>e=.returned (.bool b)/\Below w.heap.size w w':=by
 have O0:=xh ((Below.refl w.heap.size w).alloc (aj _) (.cells #[.int .i64 f.aw,.string f.gh,.int .i64 f.held,.bool f.cQ,.bool f.used] 167));have B0:=aE.new w 167 #[.int .i64 f.aw,.string f.gh,.int .i64 f.held,.bool f.cQ,.bool f.used];have c0:=B0.ab (i:=0) rfl;have HB:=xh hb;clear hb B0;unfold Fr.agg;go_enter func244,ntmps244;go_wp2_with fail;go_ret;exact⟨by rw[HB.o];first|rfl|simp,O0.o⟩
theorem Jl(g n c:Nat)(l:List Fr)(h:vT w g l)(hl:l.length=n)(hn:n<=1000000):
  Calls prog 220 #[.slice (some ⟨g,0,none⟩) n c,.func (Fn.func 244) #[] #[]] w λe w'=>e=.returned (.int .i64 (FE (λf=>decide (f.aw<0)) l))/\Below w.heap.size w w':=by
 have HL:=xh hl;have H0:=xh h;clear h hl;go_enter func220,ntmps220;go_wp2_with fail
 go_loopw [8] (λiv wr=> ∃i:Nat,i<=n/\iv=.int .i64 i/\Hid (∀(j:Nat) (a:Fr),j<i->l[j]?=some a->decide (a.aw<0)=false)/\Hid (Below w.heap.size w wr)) (λiv _=>n-(intOf iv).toNat)
 case atStart=>exact⟨0,bm _,rfl,xh (λj a hj=>absurd hj (kF j)),xh (Below.refl _ _)⟩
 case round=>
  obtain⟨i,hi,rfl,HA,HB⟩:=hrel
  by_cases h:i<n
  .have hf:l[i]?=some (l[i]'(by have:=HL.o;omega)):=aT _;generalize (l[i]'(by have:=HL.o;omega))=f at hf;obtain⟨c0,c1,c2,c3,c4⟩:=(H0.o.below HB.o) i f hf;have KF:=xh (Nk f wr _ rfl);have HF:=xh hf;clear hf;unfold Fr.agg at KF;obtain⟨b,hb⟩:∃b,decide (f.aw<0)=b:=⟨_,rfl⟩;rw[hb]at KF;have HD:=xh hb;clear hb;go_wp2_with fail;refine KF.o.mono ?_;rintro e w1 ⟨rfl,aJ⟩;have FF:=xh (au HB.o aJ);clear aJ
   cases b with
   |true=>
    have he:=xh (xI (b:=λf=>decide (f.aw<0)) HF.o HD.o HA.o);go_wp2_with fail;go_ret;exact⟨by rw[he.o];rfl,FF.o⟩
   |false=>
    go_wp2_with fail;go_roundw
    case rel=>
     refine⟨i+1,by omega,by go_num,xh (λj a hj ha=>?_),FF⟩
     rcases nZ.1 hj with hj|rfl
     .exact HA.o j a hj ha
     .have:=HF.o.symm.trans ha;injection this with this
      subst this;exact HD.o
    case measure=>simp[intOf];omega
  .have he:=xh (yx (b:=λf=>decide (f.aw<0)) (l:=l) (λj a ha=>HA.o j a (by have:=(aX.1 ha).1;have:=HL.o;omega) ha));go_wp2_with fail;go_ret;exact⟨by rw[he.o];rfl,HB.o⟩
theorem Rf{y:Y}{n q:Nat}{s:PS}(h:iJ w y n s)(hq:w.cell? ⟨q,0,none⟩=some (pp y.pb))(hqp:q≠y.pb):
  Calls prog 245 #[.pointer (some ⟨q,0,none⟩)] w λe w'=>e=.returned (.pointer (some ⟨y.fg,s.hand*5,none⟩))/\iJ w' y n {s with hand:=(s.hand+1) % s.l.length}/\ag y.fp w w':=by
 have p1:=h.p1;have p2:=h.p2;have l1:=h.l1;have l2:=h.l2;have lh:=h.lh;obtain⟨m,hm⟩:∃m,(s.hand+1) % s.l.length=m:=⟨_,rfl⟩;have wX:m<s.l.length:=by rw[<-hm];exact qD _ (by omega)
 have hmI:((s.hand:Int)+1).tmod (s.l.length:Int)=(m:Int):=by rw[<-hm,show((s.hand:Int)+1)=((s.hand+1:Nat):Int)from by omega];exact(Int.ofNat_tmod _ _).symm
 have hlI:(s.hand:Int)<(s.l.length:Int):=by omega
 have m1:IntKind.i64.wrap ((s.hand:Int)+1)=(s.hand:Int)+1:=IntWalk.i64_in _ (by omega);have m2:IntKind.i64.wrap (m:Int)=(m:Int):=IntWalk.i64_in _ (by omega);have wR:¬s.l=[]:=by intro e;rw[e]at l1;simp at l1
 rw[hm];have HB:=xh (λw' (hb:Below w.heap.size w w')=>h.below hb);have QB:=xh (λw' (hb:Below w.heap.size w w')=>(hb.cell (dN hq)).trans hq);clear h hm;unfold pp at *;go_enter func245,ntmps245;go_wp2_with fail;go_quiet (fail);have O1:=xh (cD (Below.refl w.heap.size w) nq);generalize w.drewN nq=w1 at *;have o0:=HB.o _ O1.o;have od:=o0.drew;have z:=(od.setH m wX).1;have A:=xh (od.setH m wX).2.1
 have OA:=xh ((ag.ai O1.o.drew).trans (od.setH m wX).2.2);have p2d:=od.p2;have HS:=xh (show w1.drew.cell? ⟨q,0,none⟩=some (.pointer (some ⟨y.pb,0,none⟩))/\w1.drew.cell? ⟨y.pb,1,none⟩=some (.slice (some ⟨y.fg,0,none⟩) s.l.length y.cp)from⟨QB.o _ O1.o.drew,od.p1⟩)
 have vU:=xh (show(w1.drew.setCell ⟨y.pb,2,none⟩ (.int .i64 (m:Nat))).cell? ⟨q,0,none⟩=some (.pointer (some ⟨y.pb,0,none⟩))/\(w1.drew.setCell ⟨y.pb,2,none⟩ (.int .i64 (m:Nat))).cell? ⟨y.pb,1,none⟩=some (.slice (some ⟨y.fg,0,none⟩) s.l.length y.cp)from⟨by
  have c:=QB.o _ O1.o.drew;have o:=(ag.refl [y.pb] w1.drew).setCell (p:=⟨y.pb,2,none⟩) (by simp) (.int .i64 (m:Nat));exact(o.cell (dN c) (by simpa using hqp)).trans c,A.o.p1⟩)
 clear o0 od p1 p2 hq;go_wp2_with fail;refine wp_region_held_drew (S:=λW'=>W'.cell? ⟨q,0,none⟩=some (.pointer (some ⟨y.pb,0,none⟩))/\W'.cell? ⟨y.pb,1,none⟩=some (.slice (some ⟨y.fg,0,none⟩) s.l.length y.cp)) (by kernel_rfl) (HS.o) (λaq=>?_);refine cV [(0,12),(1,13),(2,14),(3,15),(6,18),(7,19),(8,20),(9,21),(10,22)] ?_
 iterate 9 refine bj ?_
 refine dn 4 16 λK hK=>?_;go_simp;refine aW hK (HS.o) (λaq=>?_);refine cV [(5,17),(11,23),(12,24),(13,25)] ?_
 iterate 4 refine bj ?_
 refine mW 14 λK hK=>?_;go_simp;refine aW hK (vU.o) (λaq=>?_);refine wpAnyH_done (by kernel_rfl) ?_ _;go_wp2_with fail;go_ret;exact aC ⟨A.o,OA.o⟩
def j6(l:List Fr)(k:Nat):Fr:=(l[k]?).getD Fr.nil
def PS.turn(s:PS):PS:={s with hand:=(s.hand+1) % s.l.length}
def PS.jH:Nat->PS->PS×Int
 |0,s=>(s,-1)
 |m+1,s=>
  if 0<(j6 s.l s.hand).held then PS.jH m s.turn
  else if(j6 s.l s.hand).used=true then PS.jH m {s.turn with l:=s.l.set s.hand {j6 s.l s.hand with used:=false}}
  else(s.turn,(s.hand:Int))
def PS.aL(s:PS):PS×Int:=
 if 0<=FE (λf=>decide (f.aw<0)) s.l then(s,FE (λf=>decide (f.aw<0)) s.l)else s.jH (2*s.l.length+1)
theorem mO{l:List Fr}{k:Nat}(h:k<l.length):l[k]?=some (j6 l k):=by unfold j6;rw[aT h];rfl
theorem yA{w:World}{y:Y}{n:Nat}{s:PS}(h:iJ w y n s):
  Calls prog 229 #[pp y.pb] w λe w'=>e=.returned (.int .i64 s.aL.2)/\iJ w' y n s.aL.1/\ag y.fp w w':=by
 have Dy:=h.lt y.pb (by simp[Y.fp]);have O0:=xh (ae (Below.refl w.heap.size w) (.cells #[.pointer (some ⟨y.pb,0,none⟩)] 34));have B0:=xh (aE.new w 34 #[.pointer (some ⟨y.pb,0,none⟩)]);have H0:=xh (h.below O0.o);have KI:=xh (Jl y.fg s.l.length y.cp s.l H0.o.DT rfl (by have:=h.l2;omega));have NP:=xh (show w.heap.size≠y.pb from by omega);have NF:=xh (show w.heap.size∉y.fp from λhm=>by have:=h.lt _ hm;omega)
 have q0:=B0.o.ab (i:=0) rfl;have p1:=H0.o.p1;have l2:=h.l2;obtain⟨R,hR⟩:∃R,s.aL=R:=⟨_,rfl⟩;rw[hR];unfold PS.aL at hR;clear h Dy;unfold pp at *
 rcases DU (λf=>decide (f.aw<0)) s.l with e|⟨k,f,e,hf,_⟩
 .rw[e,if_neg (by omega)]at hR;rw[e]at KI;obtain⟨N,hN⟩:∃N,2*s.l.length+1=N:=⟨_,rfl⟩;have m1:IntKind.i64.wrap (2*(s.l.length:Int))=2*(s.l.length:Int):=IntWalk.i64_in _ (by omega);have m2:IntKind.i64.wrap (2*(s.l.length:Int)+1)=(N:Int):=by rw[IntWalk.i64_in _ (by omega)];omega
  have hN65:N<=65:=by omega
  rw[hN]at hR;have HN:=xh hN;have HR:=xh hR;clear e hR hN;go_enter func229,ntmps229;go_wp2_with fail
  go_step3
  go_wp2_with fail;refine KI.o.mono ?_;rintro e w1 ⟨rfl,aJ⟩;have O1:=xh (au O0.o aJ);have H1:=xh (H0.o.below aJ);have B1:=xh (B0.o.below aJ B0.o.lt);have p1':=H1.o.p1;have q1:=B1.o.ab (i:=0) rfl;clear aJ p1 q0;go_wp2_with fail
  go_step3
  go_wp2_with fail;clear p1' q1
  go_loopw [5,24] (λov iv wr=> ∃(i:Nat) (s':PS),i<=N/\ov=.int .i64 (-1)/\iv=.int .i64 i/\Hid (iJ wr y n s')/\Hid (s'.jH (N-i)=R)/\Hid (ag y.fp w wr)/\Hid (aE wr w.heap.size 34 #[.pointer (some ⟨y.pb,0,none⟩)])) (λ_ iv _=>N-(intOf iv).toNat)
  case atStart=>exact⟨0,s,bm _,rfl,rfl,H1,xh (by rw[Nat.sub_zero];exact HR.o),xh (.ai O1.o),B1⟩
  case round=>
   obtain⟨i,s',hi,rfl,rfl,HA,HS,HO,HQ⟩:=hrel
   by_cases h:i<N
   .have KN:=xh (Rf HA.o (HQ.o.ab (i:=0) rfl) NP.o);have q2:=HQ.o.ab (i:=0) rfl;have p2:=HA.o.p2;have hI:(i:Int)<(N:Int):=by omega
    have hf:=mO HA.o.lh;have hS:=HS.o;rw[show N-i=(N-(i+1))+1 from by omega]at hS;unfold PS.jH at hS;generalize Ih:j6 s'.l s'.hand=f at *;have HF:=xh hf;clear hf Ih;go_wp2_with fail;refine KN.o.mono ?_;rintro e w2 ⟨rfl,A2,o2⟩;have A2:=xh A2;have o2r:=o2;have o2:=xh (HO.o.trans o2r);obtain⟨_,_,x2,_,x4⟩:=A2.o.DT s'.hand f HF.o;have HF5:=xh (A2.o.fD s'.hand 4 (by omega) {f with used:=false} (.bool false) HF.o rfl);have z5:=HF5.o.1
    have HQ2:=xh (HQ.o.only o2r NF.o);clear o2r q2 p2
    by_cases h1:0<f.held
    .rw[if_pos h1]at hS;have HS:=xh hS;clear hS;generalize f.held=fh at *;go_wp2_with fail;go_roundw
     case rel=>exact⟨i+1,s'.turn,by omega,rfl,by go_num,A2,HS,o2,HQ2⟩
     case measure=>simp[intOf];omega
    .rw[if_neg h1]at hS
     by_cases h2:f.used=true
     .rw[if_pos h2]at hS;rw[h2]at x4;have HS:=xh hS;have A5:=xh HF5.o.2.1;have O5:=xh (o2.o.trans HF5.o.2.2);have HQ5:=xh (HQ2.o.only HF5.o.2.2 NF.o);clear hS h2 HF5;generalize f.held=fh at *;go_wp2_with fail;go_roundw
      case rel=>exact⟨i+1,_,by omega,rfl,by go_num,A5,HS,O5,HQ5⟩
      case measure=>simp[intOf];omega
     .have h3:f.used=false:=by simpa using h2
      rw[if_neg h2]at hS;rw[h3]at x4;subst hS;clear h2 HF5 HS HR;generalize f.held=fh at *;go_wp2_with fail;rw[Exit.noGoto_ret];go_ret;exact aC ⟨A2.o,o2.o⟩
   .have hiN:i=N:=by omega
    subst hiN;have hS:=HS.o;rw[eU]at hS;unfold PS.jH at hS;subst hS;go_wp2_with fail;rw[Exit.noGoto_ret];go_ret;exact aC ⟨HA.o,HO.o⟩
 .rw[e,if_pos (by omega)]at hR;rw[e]at KI;subst hR;have hk0:(0:Int)<=(k:Int):=by omega
  clear e hf;go_enter func229,ntmps229;go_wp2_with fail
  go_step3
  go_wp2_with fail;refine KI.o.mono ?_;rintro e w1 ⟨rfl,aJ⟩;have O1:=xh (au O0.o aJ);have H1:=xh (H0.o.below aJ);clear aJ;go_wp2_with fail;rw[Exit.noGoto_ret];go_ret;exact aC ⟨H1.o,.ai O1.o⟩
theorem Jm{w:World}{y:Y}{n:Nat}{s:PS}(h:iJ w y n s)(k:Nat){f:Fr}(hf:s.l[k]?=some f)(hd:f.cQ=false):
  Calls prog 99 #[pp y.pb,.int .i64 (k:Nat)] w λe w'=>e=.returned (.int .i64 0)/\Below w.heap.size w w':=by
 have hk:k<s.l.length:=(aX.1 hf).1;have p1:=h.p1;have l2:=h.l2;have Ly:(k:Int)<(s.l.length:Int):=by omega
 obtain⟨_,_,_,c3,_⟩:=h.DT k f hf;rw[hd]at c3;have OB:=xh (Below.refl w.heap.size w);clear h hf hd;unfold pp at *;go_enter func99,ntmps99;go_wp2_with fail;go_ret;exact aC OB.o
variable{w:World}{y:Y}{n:Nat}{s:PS}
theorem Rg(h:iJ w y n s)(p:Int)(k:Nat){f:Fr}(hk:findF s.l p=(k:Nat))(hf:s.l[k]?=some f)(hb: -1000<=f.held/\f.held<=4000000000000):
  Calls prog 213 #[pp y.pb,.int .i64 p] w λe w'=>e=.returned (.tuple #[.string f.gh,.int .i64 0])/\iJ w' y n {s with l:=s.l.set k {f with held:=f.held+1,used:=true}}/\ag y.fp w w':=by
 have KF:=xh (iB h p);rw[hk]at KF;have nS:k<s.l.length:=(aX.1 hf).1;have Ly:(k:Int)<(s.l.length:Int):=by omega
 have hk0:(0:Int)<=(k:Int):=by omega
 have HB:=xh (λw' (hb:Below w.heap.size w w')=>h.below hb);have m1:IntKind.i64.wrap (f.held+1)=f.held+1:=IntWalk.i64_in _ (by omega);have HF:=xh hf;have HL:=xh h.l2;clear h hk hf hb;unfold pp at *;go_enter func213,ntmps213;go_wp2_with fail;refine KF.o.mono ?_;rintro e w1 ⟨rfl,aJ⟩;have O1:=xh aJ;have A1:=HB.o w1 aJ;have p1:=A1.p1;have A2:=A1.fD k 2 (by omega) {f with held:=f.held+1} (.int .i64 (f.held+1)) HF.o rfl;obtain⟨z1,A3,o3⟩:=A2
 have DW:(s.l.set k {f with held:=f.held+1})[k]?=some {f with held:=f.held+1}:=by rw[dM nS]
 obtain⟨z2,A4,o4⟩:=A3.fD k 4 (by omega) {f with held:=f.held+1,used:=true} (.bool true) DW rfl;have hf4:((s.l.set k {f with held:=f.held+1}).set k {f with held:=f.held+1,used:=true})[k]?=some {f with held:=f.held+1,used:=true}:=by rw[dM (by simpa using nS)]
 obtain⟨_,x1,_,_,_⟩:=A4.DT k _ hf4;obtain⟨_,_,y2,_,_⟩:=A1.DT k f HF.o;obtain⟨_,_,_,_,y4⟩:=A3.DT k _ DW;simp only[jL]at A4;have AZ:=xh A4;have OZ:=xh ((ag.ai (S:=y.fp) O1.o).trans (o3.trans o4));clear aJ A1 A3 A4 o3 o4 DW hf4;go_wp2_with fail;go_ret2;exact aC ⟨AZ.o,OZ.o⟩
theorem Rh(h:iJ w y n s)(p:Int)(hk:findF s.l p= -1)(hr:(s.c.aR n p).2≠0):
  Calls prog 213 #[pp y.pb,.int .i64 p] w λe w'=>e=.returned (.tuple #[.string ⟨#[]⟩,.int .i64 (s.c.aR n p).2])/\Below w.heap.size w w':=by
 have KF:=xh (iB h p);rw[hk]at KF;have HB:=xh (λw' (hb:Below w.heap.size w w')=>h.below hb);have KR:=xh (λw' (hb:Below w.heap.size w w')=>ni (h.below hb).hs p);have hq:((s.c.aR n p).2==0)=false:=by rw[beq_eq_false_iff_ne];exact hr
 have ki:((s.c.aR n p).2 != 0)=true:=by rw[bne_iff_ne];exact hr
 generalize s.c.aR n p=R at *;clear h hk;unfold pp sp at *;go_enter func213,ntmps213;go_wp2_with fail;refine KF.o.mono ?_;rintro e w1 ⟨rfl,aJ⟩;have O1:=xh aJ;have p0:=(HB.o w1 aJ).p0;clear aJ;go_wp2_with fail;refine(KR.o w1 O1.o).mono ?_;rintro e w2 ⟨rfl,bS⟩;have O2:=xh (au O1.o bS);clear bS;go_wp2_with fail;go_ret2;exact aC O2.o
theorem Nl(h:iJ w y n s)(p:Int)(hk:findF s.l p= -1)(hr:(s.c.aR n p).2=0)(hv:s.aL.2<0):
  Calls prog 213 #[pp y.pb,.int .i64 p] w λe w'=>e=.returned (.tuple #[.string ⟨#[]⟩,.int .i64 12])/\iJ w' y n s.aL.1/\ag y.fp w w':=by
 have KF:=xh (iB h p);rw[hk]at KF;have HB:=xh (λw' (hb:Below w.heap.size w w')=>h.below hb);have KR:=xh (λw' (hb:Below w.heap.size w w')=>ni (h.below hb).hs p);have KV:=xh (λw' (hb:Below w.heap.size w w')=>yA (h.below hb));rw[hr]at KR;generalize (s.c.aR n p).1=R at *;generalize s.aL=V at *;clear h hk;unfold pp sp at *;go_enter func213,ntmps213;go_wp2_with fail;refine KF.o.mono ?_;rintro e w1 ⟨rfl,aJ⟩;have O1:=xh aJ
 have p0:=(HB.o w1 aJ).p0;clear aJ;go_wp2_with fail;refine(KR.o w1 O1.o).mono ?_;rintro e w2 ⟨rfl,bS⟩;have O2:=xh (au O1.o bS);clear bS;go_wp2_with fail;refine(KV.o w2 O2.o).mono ?_;rintro e w3 ⟨rfl,A3,o3⟩;have A3:=xh A3;have o3:=xh ((ag.ai (S:=y.fp) O2.o).trans o3);go_wp2_with fail;go_ret2;exact aC ⟨A3.o,o3.o⟩
variable{w:World}{y:Y}{n:Nat}{s:PS}{f:Fr}
theorem iJ.same{w':World}{c':C}(h:iJ w y n s)(A:At w' y.x n c')(o:ag y.x.fp w w'):iJ w' y n {s with c:=c'}/\ag y.fp w w':=
 ⟨⟨h.hp.only o h.n1,h.hf.only o (λg hg=>by simp[ah]at hg;subst hg;exact h.n2),A,h.n1,h.n2,h.l1,h.l2,h.lh⟩,o.mono (λg hg _=>by simp[Y.fp,hg])⟩
theorem Jn(h:iJ w y n s)(p:Int)(k:Nat)(hk:findF s.l p=(k:Nat))(hf:s.l[k]?=some f)(hh:0<f.held):
  Calls prog 132 #[pp y.pb,.int .i64 p] w λe w'=>e=.returned (.int .i64 16)/\Below w.heap.size w w':=by
 have KF:=xh (iB h p);rw[hk]at KF;have HB:=xh (λw' (hb:Below w.heap.size w w')=>h.below hb);have nS:k<s.l.length:=(aX.1 hf).1;have Ly:(k:Int)<(s.l.length:Int):=by omega
 have hk0:(0:Int)<=(k:Int):=by omega
 have HF:=xh hf;have l2:=h.l2;clear h hk hf;unfold pp at *;go_enter func132,ntmps132;go_wp2_with fail;refine KF.o.mono ?_;rintro e w1 ⟨rfl,aJ⟩;have O1:=xh aJ;have A1:=xh (HB.o w1 aJ);have p0:=A1.o.p0;have p1:=A1.o.p1;obtain⟨_,_,c2,_,_⟩:=A1.o.DT k f HF.o;clear aJ;go_wp2_with fail;go_ret;exact aC O1.o
theorem Nn(h:iJ w y n s)(p:Int)(hk:findF s.l p= -1):
  Calls prog 132 #[pp y.pb,.int .i64 p] w λe w'=>e=.returned (.int .i64 (s.c.aS p).2)/\iJ w' y n {s with c:=(s.c.aS p).1}/\ag y.fp w w':=by
 have KF:=xh (iB h p);rw[hk]at KF;have HB:=xh (λw' (hb:Below w.heap.size w w')=>h.below hb);have KD:=xh (λw' (hb:Below w.heap.size w w')=>FC (h.below hb).hs p);have HP:=xh (λw1 (hb:Below w.heap.size w w1) w2 (A:At w2 y.x n (s.c.aS p).1) (o:ag y.x.fp w1 w2)=>(h.below hb).same A o);generalize s.c.aS p=R at *;obtain⟨R1,R2⟩:=R;dsimp only at *;clear h hk;unfold sp at *;unfold pp at *;go_enter func132,ntmps132;go_wp2_with fail
 refine KF.o.mono ?_;rintro e w1 ⟨rfl,aJ⟩;have O1:=xh aJ;have A1:=xh (HB.o w1 aJ);have p0:=A1.o.p0;have p1:=A1.o.p1;clear aJ;go_wp2_with fail;refine(KD.o w1 O1.o).mono ?_;rintro e w2 ⟨rfl,A2,o2⟩;have A3:=xh (HP.o w1 O1.o w2 A2 o2);clear A2 o2
 by_cases h0:R2=0
 .subst h0;go_wp2_with fail;go_ret;exact⟨by first|rfl|(simp;done)|(simp[h0];done)|simp_all,A3.o.1,(ag.ai (S:=y.fp) O1.o).trans A3.o.2⟩
 .have hq:(R2 != 0)=true:=by rw[bne_iff_ne];exact h0
  have ki:(R2==0)=false:=by rw[beq_eq_false_iff_ne];exact h0
  go_wp2_with fail;go_ret;exact⟨by first|rfl|(simp;done)|(simp[h0];done)|simp_all,A3.o.1,(ag.ai (S:=y.fp) O1.o).trans A3.o.2⟩
theorem iJ.setNil(h:iJ w y n s)(k:Nat)(hf:s.l[k]?=some f):
  w.frozen? ⟨y.fg,k*5,none⟩=false/\w.frozen? ⟨y.fg,k*5+1,none⟩=false/\w.frozen? ⟨y.fg,k*5+2,none⟩=false/\w.frozen? ⟨y.fg,k*5+3,none⟩=false/\w.frozen? ⟨y.fg,k*5+4,none⟩=false/\
  iJ (((((w.setCell ⟨y.fg,k*5,none⟩ (.int .i64 (-1))).setCell ⟨y.fg,k*5+1,none⟩ (.string ⟨#[]⟩)).setCell ⟨y.fg,k*5+2,none⟩ (.int .i64 0)).setCell ⟨y.fg,k*5+3,none⟩ (.bool false)).setCell ⟨y.fg,k*5+4,none⟩ (.bool false)) y n {s with l:=s.l.set k Fr.nil}/\
  ag y.fp w (((((w.setCell ⟨y.fg,k*5,none⟩ (.int .i64 (-1))).setCell ⟨y.fg,k*5+1,none⟩ (.string ⟨#[]⟩)).setCell ⟨y.fg,k*5+2,none⟩ (.int .i64 0)).setCell ⟨y.fg,k*5+3,none⟩ (.bool false)).setCell ⟨y.fg,k*5+4,none⟩ (.bool false)):=by
 have nS:k<s.l.length:=(aX.1 hf).1;obtain⟨z0,B0,q0⟩:=h.fD k 0 (by omega) {f with aw:= -1} (.int .i64 (-1)) hf rfl;rw[kE]at z0 B0 q0;have g0:(s.l.set k {f with aw:= -1})[k]?=some {f with aw:= -1}:=by rw[dM nS]
 obtain⟨_,B1,q1⟩:=B0.fD k 1 (by omega) {f with aw:= -1,gh:=⟨#[]⟩} (.string ⟨#[]⟩) g0 rfl;simp only[jL]at B1;have g1:(s.l.set k {f with aw:= -1,gh:=⟨#[]⟩})[k]?=some {f with aw:= -1,gh:=⟨#[]⟩}:=by rw[dM nS]
 obtain⟨_,B2,q2⟩:=B1.fD k 2 (by omega) {f with aw:= -1,gh:=⟨#[]⟩,held:=0} (.int .i64 0) g1 rfl;simp only[jL]at B2;have g2:(s.l.set k {f with aw:= -1,gh:=⟨#[]⟩,held:=0})[k]?=some {f with aw:= -1,gh:=⟨#[]⟩,held:=0}:=by rw[dM nS]
 obtain⟨_,B3,q3⟩:=B2.fD k 3 (by omega) {f with aw:= -1,gh:=⟨#[]⟩,held:=0,cQ:=false} (.bool false) g2 rfl;simp only[jL]at B3;have g3:(s.l.set k {f with aw:= -1,gh:=⟨#[]⟩,held:=0,cQ:=false})[k]?=some {f with aw:= -1,gh:=⟨#[]⟩,held:=0,cQ:=false}:=by rw[dM nS]
 obtain⟨_,B4,q4⟩:=B3.fD k 4 (by omega) Fr.nil (.bool false) g3 rfl;simp only[jL]at B4;obtain⟨rest,B,hr,_,_⟩:=h.hf.rp;have hl:=l8 s.l;have fz:∀j,j<5->w.frozen? ⟨y.fg,k*5+j,none⟩=false:=λj hj=>B.frozen _ (by simp;omega);exact⟨fz 0 (by omega),fz 1 (by omega),fz 2 (by omega),fz 3 (by omega),fz 4 (by omega),B4,(((q0.trans q1).trans q2).trans q3).trans q4⟩
theorem Ri(h:iJ w y n s)(p:Int)(k:Nat)(hk:findF s.l p=(k:Nat))(hf:s.l[k]?=some f)(hh:f.held=0):
  Calls prog 132 #[pp y.pb,.int .i64 p] w λe w'=>e=.returned (.int .i64 (s.c.aS p).2)/\iJ w' y n (if(s.c.aS p).2=0 then {s with c:=(s.c.aS p).1,l:=s.l.set k Fr.nil}else {s with c:=(s.c.aS p).1})/\ag y.fp w w':=by
 have KF:=xh (iB h p);rw[hk]at KF;have KE:=xh qL;unfold Fr.nil Fr.agg at KE;have HB:=xh (λw' (hb:Below w.heap.size w w')=>h.below hb);have nS:k<s.l.length:=(aX.1 hf).1;have Ly:(k:Int)<(s.l.length:Int):=by omega
 have hk0:(0:Int)<=(k:Int):=by omega
 have HF:=xh hf;have KD:=xh (λw' (hb:Below w.heap.size w w')=>FC (h.below hb).hs p);have HP:=xh (λw1 (hb:Below w.heap.size w w1) w2 (A:At w2 y.x n (s.c.aS p).1) (o:ag y.x.fp w1 w2)=>(h.below hb).same A o);have l2:=h.l2;generalize s.c.aS p=R at *;obtain⟨R1,R2⟩:=R;dsimp only at *;clear h hk hf;unfold sp at *
 by_cases h0:R2=0
 .subst h0;rw[if_pos rfl];unfold pp at *;go_enter func132,ntmps132;go_wp2_with fail;refine KF.o.mono ?_;rintro e w1 ⟨rfl,aJ⟩;have O1:=xh aJ;have A1:=xh (HB.o w1 aJ);have p0:=A1.o.p0;have p1:=A1.o.p1;obtain⟨_,_,c2,_,_⟩:=A1.o.DT k f HF.o;rw[hh]at c2;clear aJ hh;go_wp2_with fail;refine(KD.o w1 O1.o).mono ?_;rintro e w2 ⟨rfl,A2,o2⟩;have A3:=xh (HP.o w1 O1.o w2 A2 o2);clear A2 o2 p0 p1 c2;have AD:=xh (A3.o.1.drew)
  have OD:=xh ((((ag.refl y.fp w).trans (ag.ai O1.o)).trans A3.o.2).drew);have P1D:=xh AD.o.p1;clear A3;go_wp2_with fail;refine wp_region_held_drew (S:=λW'=>W'.cell? ⟨y.pb,1,none⟩=some (.slice (some ⟨y.fg,0,none⟩) s.l.length y.cp)) (by kernel_rfl) (P1D.o) (λaq=>?_);refine cV [(0,39),(1,40),(2,41),(3,42),(4,43)] ?_
  iterate 5 refine bj ?_
  refine dn 5 44 λK hK=>?_;go_simp
  go_at_call 86
  refine(KE.o _).mono ?_;rintro e w6 ⟨rfl,xE⟩;have A6:=xh (AD.o.below xE);have O6:=xh (OD.o.trans (ag.ai (S:=y.fp) xE));have p1y:=A6.o.p1;clear xE;refine aW hK (p1y) (λaq=>?_);refine cV [(6,45)] ?_
  iterate 1 refine bj ?_
  refine mW 7 λK hK=>?_;go_simp;have p1x:=A6.o.p1;have l2x:=A6.o.l2;obtain⟨c0,c1,c2,c3,c4⟩:=A6.o.DT k f HF.o;obtain⟨z0,z1,z2,z3,z4,B4,q4⟩:=A6.o.setNil k HF.o;have AZ:=xh B4;have OZ:=xh (O6.o.trans q4);clear B4 q4;go_simp;refine hK.o _ _ (by have:=AZ.o.p1;simpa using this) (λaq=>?_)
  try simp only[Act.put,pa,pb,pc]
  refine wpAnyH_done (by kernel_rfl) ?_ _;go_wp2_with fail;go_ret;exact aC ⟨AZ.o,OZ.o⟩
 .have hq:(R2 != 0)=true:=by rw[bne_iff_ne];exact h0
  have ki:(R2==0)=false:=by rw[beq_eq_false_iff_ne];exact h0
  rw[if_neg h0];unfold pp at *;go_enter func132,ntmps132;go_wp2_with fail;refine KF.o.mono ?_;rintro e w1 ⟨rfl,aJ⟩;have O1:=xh aJ;have A1:=xh (HB.o w1 aJ);have p0:=A1.o.p0;have p1:=A1.o.p1;obtain⟨_,_,c2,_,_⟩:=A1.o.DT k f HF.o;rw[hh]at c2;clear aJ hh;go_wp2_with fail;refine(KD.o w1 O1.o).mono ?_;rintro e w2 ⟨rfl,A2,o2⟩;have A3:=xh (HP.o w1 O1.o w2 A2 o2);clear A2 o2;go_wp2_with fail;go_ret
  exact aC ⟨A3.o.1,(ag.ai (S:=y.fp) O1.o).trans A3.o.2⟩
end Sh
end Go.Proofs.YtmonobkginiajaaGreat
