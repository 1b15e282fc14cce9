/- packed. -/
import Derived.Test.YtmonobkginiajaaGreatC5
import Derived.Test.YtmonobkginiajaaGreatC6
import Derived.Test.YtmonobkginiajaaGreatC1
import Derived.Deep.RegionHeld3
set_option linter.all false
set_option maxRecDepth 100000
set_option maxHeartbeats 8000000
namespace Go.Proofs.YtmonobkginiajaaGreat.Sh
open Go.RowKit Pk Dk Pg
attribute [local go_sem ↓] Go.wp_at_zero Go.wp_at_succ
variable{w:World}{n:Nat}
structure C where
 d:D
 m:List Int
 table:List Int
 bM:List Int
 parts:List Int
 ep:Int
 slot:Int
 broken:Bool
structure X where
 b:Nat
 L:Dk.Loc
 mb:Nat
 mg:Nat
 tv:Value
 ov:Value
 pv:Value
def X.fp(x:X):List Nat:=x.b::x.mb::x.mg::(x.L.fp++cq x.tv++cq x.ov++cq x.pv)
def eQ(l:List Int):List Value:=l.map (Value.int .i64)
@[simp] theorem nvs'_length(l:List Int):(eQ l).length=l.length:=by simp[eQ]
theorem rW(l:List Int)(k:Nat)(h:k<l.length):(eQ l)[k]?=some (.int .i64 (l.getD k 0)):=by simp[eQ,aN h]
theorem GC(l:List Int)(k:Nat)(x:Int):(eQ l).set k (.int .i64 x)=eQ (l.set k x):=by simp[eQ,oU]
theorem gm(l m:List Int):eQ (l++m)=eQ l++eQ m:=by simp[eQ]
def CE(x:X)(c:C):Array Value:= #[dp x.L.b,Fm.mp x.mb,x.tv,x.ov,x.pv,.int .i64 c.ep,.int .i64 c.slot,.bool c.broken]
def Pl(w:World)(v:Value)(n:Nat)(l:List Value):Prop:=Sl w 3 v n l\/(l.length=n/\∃g cap rest,v=.slice (some ⟨g,0,none⟩) n cap/\n<=cap/\0<cap/\aD w g 231 (l++rest).toArray)
section
variable{w w':World}{v:Value}{n:Nat}{l:List Value}{S:List Nat}
theorem Pl.only(h:Pl w v n l)(ho:ag S w w')(hd:∀g∈cq v,g∉S):Pl w' v n l:=by
 rcases h with h|⟨hl,g,cap,rest,rfl,h1,h2,B⟩
 .exact .inl (h.only ho hd)
 .exact .inr ⟨hl,g,cap,rest,rfl,h1,h2,B.only ho (hd g (by simp[cq];omega))⟩
theorem Pl.own(h:Pl w v n l):∀g∈cq v,∃t cs,(t=3\/t=231)/\aD w g t cs:=by
 intro g hg
 rcases h with S|⟨hl,g',cap,rest,rfl,h1,h2,B⟩
 .rcases S.2 with⟨A,rfl,_⟩|⟨g',cap,rest,rfl,h0,B,_⟩
  .cases A<;>simp[cq]at hg
  .simp[cq]at hg;rw[hg.2];exact⟨_,_,.inl rfl,B⟩
 .simp[cq]at hg;rw[hg.2];exact⟨_,_,.inr rfl,B⟩
theorem Pl.lt(h:Pl w v n l):∀g∈cq v,g<w.heap.size:=λg hg=>by
 obtain⟨t,cs,_,B⟩:=h.own g hg;exact B.lt
theorem Pl.aY(h:Pl w v n l){b:Nat}{t:TypeId}{cs:Array Value}(B:aD w b t cs)(h1:t≠3)(h2:t≠231):b∉cq v:=λhb=>by
 obtain⟨t',cs',ht,B'⟩:=h.own b hb
 rcases ht with rfl|rfl
 .exact B.mB B' h1 rfl
 .exact B.mB B' h2 rfl
end
structure At(w:World)(x:X)(n:Nat)(c:C):Prop where
 hb:aD w x.b 146 (CE x c)
 hd:aG w x.L n c.d
 hm:Fm.dD w x.mb x.mg c.m
 ht:Sl w 3 x.tv c.table.length (eQ c.table)
 ho:Sl w 3 x.ov c.bM.length (eQ c.bM)
 hp:Pl w x.pv c.parts.length (eQ c.parts)
 n1:x.mg∉cq x.tv
 n2:x.mg∉cq x.ov
 n3:x.mg∉cq x.pv
 n4:∀g∈cq x.tv,g∉cq x.ov
 n5:∀g∈cq x.tv,g∉cq x.pv
 n6:∀g∈cq x.ov,g∉cq x.pv
 tl:c.table.length<=512
section
variable{w w':World}{x:X}{n:Nat}{c:C}{S:List Nat}
theorem At.only(h:At w x n c)(ho:ag S w w')(hd:∀g∈x.fp,g∉S):At w' x n c:=
 ⟨h.hb.only ho (hd _ (by simp[X.fp])),h.hd.only ho (λg hg=>hd g (by simp[X.fp,hg])),h.hm.only ho (hd _ (by simp[X.fp])) (hd _ (by simp[X.fp])),
  h.ht.only ho (λg hg=>hd g (by simp[X.fp,hg])),h.ho.only ho (λg hg=>hd g (by simp[X.fp,hg])),h.hp.only ho (λg hg=>hd g (by simp[X.fp,hg])),h.n1,h.n2,h.n3,h.n4,h.n5,h.n6,h.tl⟩
theorem At.below(h:At w x n c)(hb:Below w.heap.size w w'):At w' x n c:=h.only (S:=[]) (.aj hb) (by simp)
theorem At.drew(h:At w x n c):At w.drew x n c:=h.below ((Below.refl _ _).drew)
theorem At.drewN(h:At w x n c)(k:Nat):At (w.drewN k) x n c:=h.below (cB (Below.refl _ _) k)
theorem At.lt(h:At w x n c):∀g∈x.fp,g<w.heap.size:=by
 intro g hg;simp only[X.fp,aC,aS]at hg
 rcases hg with rfl|rfl|rfl|((hg|hg)|hg)|hg
 .exact h.hb.lt
 .exact h.hm.hb.lt
 .exact h.hm.hg.lt
 .exact h.hd.lt g hg
 .exact h.ht.lt g hg
 .exact h.ho.lt g hg
 .exact h.hp.lt g hg
theorem At.f0(h:At w x n c):w.cell? ⟨x.b,0,none⟩=some (dp x.L.b):=h.hb.ab rfl
theorem At.f1(h:At w x n c):w.cell? ⟨x.b,1,none⟩=some (Fm.mp x.mb):=h.hb.ab rfl
theorem At.f2(h:At w x n c):w.cell? ⟨x.b,2,none⟩=some x.tv:=h.hb.ab rfl
theorem At.f5(h:At w x n c):w.cell? ⟨x.b,5,none⟩=some (.int .i64 c.ep):=h.hb.ab rfl
theorem At.f7(h:At w x n c):w.cell? ⟨x.b,7,none⟩=some (.bool c.broken):=h.hb.ab rfl
theorem At.tk(h:At w x n c)(k:Nat)(hk:k<c.table.length):∃g cp,x.tv=.slice (some ⟨g,0,none⟩) c.table.length cp/\w.cell? ⟨g,k,none⟩=some (.int .i64 (c.table.getD k 0)):=by
 obtain⟨g,cp,rest,hv,B,_,_⟩:=h.ht.form (by omega);refine⟨g,cp,hv,B.ab ?_⟩;rw[cW,bx (by simpa using hk),rW _ _ hk]
theorem At.disk(h:At w x n c){d':D}(hd:aG w' x.L n d')(ho:ag x.L.fp w w'):At w' x n {c with d:=d'}:=by
 have ne:∀g∈x.L.fp,∀{t:TypeId} {cs:Array Value} {b:Nat},aD w b t cs->t≠149->t≠152->t≠4->b∉x.L.fp:=by
  intro g hg t cs b B h1 h2 h3 hm;simp only[Loc.fp,aC,gH,or_false]at hm
  rcases hm with rfl|rfl|rfl|rfl
  .exact h1 (B.inj h.hd.hb).1
  .exact h2 (B.inj h.hd.hN).1
  .exact h2 (B.inj h.hd.hO).1
  .exact h3 (B.inj h.hd.hL).1
 have nb:∀{t:TypeId} {cs:Array Value} {b:Nat},aD w b t cs->t≠149->t≠152->t≠4->b∉x.L.fp:=λB h1 h2 h3=>ne x.L.b (by simp[Loc.fp]) B h1 h2 h3;have ns:∀{v:Value} {k:Nat} {l:List Value},Sl w 3 v k l->∀g∈cq v,g∉x.L.fp:=by
  intro v k l S g hg
  rcases S.2 with⟨A,rfl,_⟩|⟨g',cap,rest,rfl,h0,B,_⟩
  .cases A<;>simp[cq]at hg
  .simp[cq]at hg;rw[hg.2];exact nb B (by decide) (by decide) (by decide)
 have np:∀g∈cq x.pv,g∉x.L.fp:=λg hg=>by
  obtain⟨t,cs,ht,B⟩:=h.hp.own g hg
  rcases ht with rfl|rfl
  .exact nb B (by decide) (by decide) (by decide)
  .exact nb B (by decide) (by decide) (by decide)
 exact⟨h.hb.only ho (nb h.hb (by decide) (by decide) (by decide)),hd,h.hm.only ho (nb h.hm.hb (by decide) (by decide) (by decide)) (nb h.hm.hg (by decide) (by decide) (by decide)),h.ht.only ho (ns h.ht),h.ho.only ho (ns h.ho),h.hp.only ho np,h.n1,h.n2,h.n3,h.n4,h.n5,h.n6,h.tl⟩
theorem At.map(h:At w x n c){m':List Int}(hm:Fm.dD w' x.mb x.mg m')(ho:ag [x.mg] w w'):At w' x n {c with m:=m'}:=by
 have nb:∀{t:TypeId} {cs:Array Value} {b:Nat},aD w b t cs->t≠3->b∉[x.mg]:=by
  intro t cs b B h1 hm;simp at hm;subst hm;exact h1 (B.inj h.hm.hg).1
 refine⟨h.hb.only ho (nb h.hb (by decide)),h.hd.only ho ?_,hm,h.ht.only ho ?_,h.ho.only ho ?_,h.hp.only ho ?_,h.n1,h.n2,h.n3,h.n4,h.n5,h.n6,h.tl⟩
 .intro g hg;simp only[Loc.fp,aC,gH,or_false]at hg
  rcases hg with rfl|rfl|rfl|rfl
  .exact nb h.hd.hb (by decide)
  .exact nb h.hd.hN (by decide)
  .exact nb h.hd.hO (by decide)
  .exact nb h.hd.hL (by decide)
 .intro g hg hm;simp at hm;subst hm;exact h.n1 hg
 .intro g hg hm;simp at hm;subst hm;exact h.n2 hg
 .intro g hg hm;simp at hm;subst hm;exact h.n3 hg
end
def sp(b:Nat):Value:= .pointer (some ⟨b,0,none⟩)
def dW(n:Nat):Nat:=min (bz n) 1024
def C.eu(c:C):Int:=if c.broken then 13 else 0
def C.mC(c:C)(l:Int):Bool:=decide (0<=l) && decide (l<c.table.length) && decide (0<=c.table.getD l.toNat 0)
def C.gh(c:C)(l:Int):Int:=if c.broken then 13 else if c.mC l then 0 else 3
theorem DQ{L:Dk.Loc}{d:D}(h:aG w L n d):
  Calls Tryz.prog 82 #[dp L.b] w λe w'=>e=.returned (.int .i64 (dW n:Nat))/\w=w':=by
 have K:=xh (ki h);have hm:((bz n:Nat):Int)<=1024:=by have:=h.ok.small;unfold bz;omega
 have HP:=xh (show((dW n:Nat):Int)=((bz n:Nat):Int)from by unfold dW;omega);generalize bz n=mn at *;unfold dp at *;go_enter Tryz.func82,Tryz.ntmps82;go_wp2_with fail;refine K.o.mono ?_;rintro e w1 ⟨rfl,rfl⟩;go_wp2_with fail
 all_goals
  go_ret;refine⟨?_,rfl⟩;rw[HP.o]
  first|(simp;done)|(simp;omega)
theorem gl{x:X}{c:C}(h:At w x n c):
  Calls Tryz.prog 148 #[sp x.b] w λe w'=>e=.returned (.int .i64 c.eu)/\w=w':=by
 have f7:=h.f7;unfold sp C.eu;clear h
 cases hb:c.broken
 all_goals
  rw[hb]at f7;clear hb;go_enter Tryz.func148,Tryz.ntmps148;go_wp2_with fail;go_ret;exact⟨by first|rfl|simp,rfl⟩
variable{w:World}{x:X}{n:Nat}
theorem lB{c:C}(h:At w x n c)(l:Int):
  Calls Tryz.prog 191 #[sp x.b,.int .i64 l] w λe w'=>e=.returned (.int .i64 (c.gh l))/\w=w':=by
 have K:=gl h;have f2:=h.f2;obtain⟨TA,tc,xS,htc⟩:=h.ht.val;rw[xS]at f2;have HR:=xh (show ∀r,c.gh l=r->c.gh l=r from λr h=>h);have tl:=h.tl
 by_cases hb:c.broken=true
 .have hw:c.eu=13:=by unfold C.eu;rw[if_pos hb]
  have HA:=xh (show c.gh l=13 from by unfold C.gh;rw[if_pos hb]);rw[hw]at K;have K:=xh K;clear h hb hw;generalize c.gh l=r at *;unfold sp at *;go_enter Tryz.func191,Tryz.ntmps191;go_wp2_with fail;refine K.o.mono ?_;rintro e w1 ⟨rfl,rfl⟩;go_wp2_with fail;go_ret;exact⟨by rw[HA.o];first|rfl|simp,rfl⟩
 .have hw:c.eu=0:=by unfold C.eu;rw[if_neg hb]
  rw[hw]at K;have K:=xh K
  by_cases h1:l<0
  .have HA:=xh (show c.gh l=3 from by unfold C.gh C.mC;rw[if_neg hb];simp;omega);clear h hb hw;generalize c.gh l=r at *;unfold sp at *;go_enter Tryz.func191,Tryz.ntmps191;go_wp2_with fail;refine K.o.mono ?_;rintro e w1 ⟨rfl,rfl⟩;go_wp2_with fail;go_ret;exact⟨by rw[HA.o];first|rfl|simp,rfl⟩
  .obtain⟨k,rfl⟩:=dn (show 0<=l by omega)
   by_cases h2:k<c.table.length
   .obtain⟨g,cp,hv,hk⟩:=h.tk k h2;rw[hv]at xS;injection xS with ht1 ht2 ht3
    subst ht1 ht3;obtain⟨v,GF⟩:∃v,c.table.getD k 0=v:=⟨_,rfl⟩;rw[GF]at hk;have h2I:¬(c.table.length:Int)<=(k:Int):=by omega
    have h2J:(k:Int)<(c.table.length:Int):=by omega
    by_cases h3:v<0
    .have ht:c.table.getD ((k:Nat):Int).toNat 0=v:=by rw[show((k:Nat):Int).toNat=k from by omega];exact GF
     have HA:=xh (show c.gh k=3 from by unfold C.gh C.mC;rw[if_neg hb,ht,if_neg (by simp only[jM,decide_eq_true_eq];omega)]);clear ht;clear h hb hw hv GF;generalize c.gh k=r at *;generalize c.table.length=tn at *;unfold sp at *;go_enter Tryz.func191,Tryz.ntmps191;go_wp2_with fail;refine K.o.mono ?_;rintro e w1 ⟨rfl,rfl⟩;go_wp2_with fail;go_ret;exact⟨by rw[HA.o];first|rfl|simp,rfl⟩
    .have HA:=xh (show c.gh k=0 from by
      have ht:c.table.getD ((k:Nat):Int).toNat 0=v:=by rw[show((k:Nat):Int).toNat=k from by omega];exact GF
      have hh:c.mC k=true:=by unfold C.mC;rw[ht];simp only[jM,decide_eq_true_eq];omega
      unfold C.gh;rw[if_neg hb,if_pos hh])
     clear h hb hw hv GF;generalize c.gh k=r at *;generalize c.table.length=tn at *;unfold sp at *;go_enter Tryz.func191,Tryz.ntmps191;go_wp2_with fail;refine K.o.mono ?_;rintro e w1 ⟨rfl,rfl⟩;go_wp2_with fail;go_ret;exact⟨by rw[HA.o];first|rfl|simp,rfl⟩
   .have HA:=xh (show c.gh k=3 from by unfold C.gh C.mC;rw[if_neg hb];simp;omega);have h2I:(c.table.length:Int)<=(k:Int):=by omega
    clear h hb hw;generalize c.gh k=r at *;generalize c.table.length=tn at *;unfold sp at *;go_enter Tryz.func191,Tryz.ntmps191;go_wp2_with fail;refine K.o.mono ?_;rintro e w1 ⟨rfl,rfl⟩;go_wp2_with fail;go_ret;exact⟨by rw[HA.o];first|rfl|simp,rfl⟩
theorem fW{c:C}(h:At w x n c)(id kind:Int)(s:ByteArray)(hid:id<=9223372036854775807)(Dw:0<=c.ep/\c.ep<=1099511627776)(hc:c.d.calls<=3999999999999999990)(hr:c.d.aT<=9223372036854775807):
  Calls Tryz.prog 193 #[sp x.b,.int .i64 id,.int .i64 kind,.string s] w λe w'=>e=.returned (.int .i64 (aP c.d n id (c.ep+1) kind s.data.toList).2)/\At w' x n {c with d:=(aP c.d n id (c.ep+1) kind s.data.toList).1}/\ag x.L.fp w w':=by
 have KPW:=Ap (w:=w.drew) h.hd.drew id (c.ep+1) kind s hid hc hr;have HD:=xh (λ(w':World) (hd:aG w' x.L n (aP c.d n id (c.ep+1) kind s.data.toList).1) (ho:ag x.L.fp w.drew w')=>At.disk h.drew hd ho);have f0:=h.f0;have f5:=h.f5;have q1:IntKind.i64.wrap (c.ep+1)=c.ep+1:=IntWalk.i64_in _ (by omega);have HK:=xh (show w.drew.cell? ⟨x.b,0,none⟩=some (dp x.L.b)/\w.drew.cell? ⟨x.b,5,none⟩=some (.int .i64 c.ep)from⟨f0,f5⟩)
 have HP:=xh (show ∀w',ag x.L.fp w.drew w'->(w'.cell? ⟨x.b,0,none⟩=some (dp x.L.b)/\w'.cell? ⟨x.b,5,none⟩=some (.int .i64 c.ep))from λw' ho=>by
  have B:=h.hb.drew.only ho (λhm=>by
   simp only[Loc.fp,aC,gH,or_false]at hm
   rcases hm with hm|hm|hm|hm
   .exact h.hb.mB h.hd.hb (by decide) hm
   .exact h.hb.mB h.hd.hN (by decide) hm
   .exact h.hb.mB h.hd.hO (by decide) hm
   .exact h.hb.mB h.hd.hL (by decide) hm)
  exact⟨B.ab (i:=0) rfl,B.ab (i:=5) rfl⟩)
 clear h;generalize (aP c.d n id (c.ep+1) kind s.data.toList).2=er at *;generalize (aP c.d n id (c.ep+1) kind s.data.toList).1=d2 at *;generalize c.ep=ep at *;unfold sp dp fL at *;have KPW:=xh KPW;go_enter Tryz.func193,Tryz.ntmps193;go_wp2_with fail;refine wp_region_held_drew (S:=λW'=>W'.cell? ⟨x.b,0,none⟩=some (.pointer (some ⟨x.L.b,0,none⟩))/\W'.cell? ⟨x.b,5,none⟩=some (.int .i64 ep)) (by kernel_rfl) (HK.o) (λaw=>?_)
 refine dq [(0,9),(1,10),(2,11),(3,12),(4,13),(5,14),(6,15),(7,16),(8,17),(9,18),(10,19),(11,20),(12,21)] ?_
 iterate 13 refine za ?_
 refine zd 13 22 λK hK=>?_;go_simp
 go_at_call 225
 refine KPW.o.mono ?_;rintro e w1 ⟨rfl,dd,ow⟩;have DV:=xh dd;have OW:=xh ow;clear dd ow;go_simp;refine zh hK (HP.o _ OW.o) (λaw=>?_);refine dq [(14,8)] ?_
 iterate 1 refine za ?_
 refine wpAnyH_done (by kernel_rfl) ?_ _;go_wp2_with fail;go_ret;exact⟨by first|rfl|simp,HD.o _ DV.o OW.o,(ag.refl _ w).drew.trans OW.o⟩
def C.bo(c:C)(n:Nat)(p:List UInt8):C×Int×Int:=
 if(Fm.cr c.m).2.2≠0 then({c with m:=(Fm.cr c.m).1},0,(Fm.cr c.m).2.2)
 else if(aP c.d n (Fm.cr c.m).2.1 (c.ep+1) 2 p).2≠0 then({c with m:=(Fm.cX (Fm.cr c.m).1 (Fm.cr c.m).2.1).1,d:=(aP c.d n (Fm.cr c.m).2.1 (c.ep+1) 2 p).1},0,(aP c.d n (Fm.cr c.m).2.1 (c.ep+1) 2 p).2)
 else({c with m:=(Fm.cr c.m).1,d:=(aP c.d n (Fm.cr c.m).2.1 (c.ep+1) 2 p).1},(Fm.cr c.m).2.1,0)
theorem GG(m:List Int)(h:m.length<=1024):(Fm.cr m).2.1<=1024/\0<=(Fm.cr m).2.1:=by
 unfold Fm.cr
 split
 .exact⟨by show(Fm.cH m 0:Int)<=_;omega,by show(0:Int)<=(Fm.cH m 0:Int);omega⟩
 .exact⟨by show(0:Int)<=_;omega,by show(0:Int)<=0;omega⟩
theorem uG(x:X):∀g∈[x.mg],g∈x.fp:=by intro g hg;simp at hg;subst hg;simp[X.fp]
theorem L_fp(x:X):∀g∈x.L.fp,g∈x.fp:=by intro g hg;simp[X.fp,hg]
theorem l7{c:C}(h:At w x n c)(s:ByteArray)(Dw:0<=c.ep/\c.ep<=1099511627776)(hc:c.d.calls<=3999999999999999990)(hr:c.d.aT<=9223372036854775807):
  Calls Tryz.prog 166 #[sp x.b,.string s] w λe w'=>e=.returned (.tuple #[.int .i64 (c.bo n s.data.toList).2.1,.int .i64 (c.bo n s.data.toList).2.2])/\At w' x n (c.bo n s.data.toList).1/\ag x.fp w w':=by
 have KT:=Fm.rK h.hm;have HT:=xh (λ(w':World) (hm:Fm.dD w' x.mb x.mg (Fm.cr c.m).1) (ho:ag [x.mg] w w')=>At.map h hm ho);have qI:c.m.length<=1024:=h.hm.hl;have hid:=GG c.m qI;have f1:=h.f1;obtain⟨R,hR⟩:∃R,c.bo n s.data.toList=R:=⟨_,rfl⟩;rw[hR];unfold C.bo at hR
 by_cases h1:(Fm.cr c.m).2.2=0
 .rw[if_neg (by simpa using h1)]at hR;rw[h1]at KT;generalize (Fm.cr c.m).2.1=id at *;generalize (Fm.cr c.m).1=m1 at *;have KP:=xh (λ(w':World) (hh:At w' x n {c with m:=m1})=>fW hh id 2 s (by omega) Dw hc hr);dsimp only at KP
  by_cases h2:(aP c.d n id (c.ep+1) 2 s.data.toList).2=0
  .rw[if_neg (by simpa using h2)]at hR;rw[h2]at KP;subst hR;generalize (aP c.d n id (c.ep+1) 2 s.data.toList).1=d1 at *;have KT:=xh KT;clear h h1 h2;unfold sp Fm.mp at *;go_enter Tryz.func166,Tryz.ntmps166;go_wp2_with fail;refine KT.o.mono ?_;rintro e w1 ⟨rfl,mm,ow⟩;have A1:=xh (HT.o _ mm ow);have O1:=xh ow;clear mm ow;go_wp2_with fail;refine(KP.o _ A1.o).mono ?_;rintro e w2 ⟨rfl,aa,ow⟩;have A2:=xh aa
   have O2:=xh ((O1.o.mono (λg hg _=>uG x g hg)).trans (ow.mono (λg hg _=>L_fp x g hg)));clear aa ow;go_wp2_with fail;go_ret2;exact⟨by first|rfl|simp,A2.o,O2.o⟩
  .rw[if_pos h2]at hR;subst hR;have hq:((aP c.d n id (c.ep+1) 2 s.data.toList).2 != 0)=true:=by rw[bne_iff_ne];exact h2
   generalize (aP c.d n id (c.ep+1) 2 s.data.toList).1=d1 at *;generalize (aP c.d n id (c.ep+1) 2 s.data.toList).2=er at *;have KT:=xh KT;clear h h1 h2;unfold sp Fm.mp at *;go_enter Tryz.func166,Tryz.ntmps166;go_wp2_with fail;refine KT.o.mono ?_;rintro e w1 ⟨rfl,mm,ow⟩;have A1:=xh (HT.o _ mm ow);have O1:=xh ow;clear mm ow;go_wp2_with fail;refine(KP.o _ A1.o).mono ?_;rintro e w2 ⟨rfl,aa,ow⟩;have A2:=xh aa
   have O2:=xh ((O1.o.mono (λg hg _=>uG x g hg)).trans (ow.mono (λg hg _=>L_fp x g hg)));have f1':=aa.f1;have KL:=Fm.pr aa.hm id;dsimp only at KL;have KL:=xh KL;unfold Fm.mp at *;clear aa ow;go_wp2_with fail;refine KL.o.mono ?_;rintro e w3 ⟨rfl,mm,ow⟩;have A3:=xh (A2.o.map mm ow);have O3:=xh (O2.o.trans (ow.mono (λg hg _=>uG x g hg)));clear mm ow;go_wp2_with fail;go_ret2;exact⟨by first|rfl|simp,A3.o,O3.o⟩
 .rw[if_pos h1]at hR;subst hR;have hq:((Fm.cr c.m).2.2 != 0)=true:=by rw[bne_iff_ne];exact h1
  generalize (Fm.cr c.m).2.1=id at *;generalize (Fm.cr c.m).2.2=er at *;generalize (Fm.cr c.m).1=m1 at *;have KT:=xh KT;clear h h1;unfold sp Fm.mp at *;go_enter Tryz.func166,Tryz.ntmps166;go_wp2_with fail;refine KT.o.mono ?_;rintro e w1 ⟨rfl,mm,ow⟩;have A1:=xh (HT.o _ mm ow);have O1:=xh (ow.mono (S':=x.fp) (λg hg _=>uG x g hg));clear mm ow;go_wp2_with fail;go_ret2;exact⟨by first|rfl|simp,A1.o,O1.o⟩
variable{v:Value}{k:Nat}{l:List Value}
section
variable{w w':World}{x:X}{n:Nat}{c:C}
theorem rX(S:Sl w 3 v k l):∀g∈cq v,∃cs,aD w g 3 cs:=by
 intro g hg
 rcases S.2 with⟨A,rfl,_⟩|⟨g',cap,rest,rfl,h0,B,_⟩
 .cases A<;>simp[cq]at hg
 .simp[cq]at hg;rw[hg.2];exact⟨_,B⟩
theorem At.wv(h:At w x n c)(S:Sl w 3 v k l):x.b∉cq v/\x.mb∉cq v/\∀g∈x.L.fp,g∉cq v:=by
 refine⟨λhg=>?_,λhg=>?_,λg hgL hg=>?_⟩
 .obtain⟨cs,B⟩:=rX S _ hg;exact h.hb.mB B (by decide) rfl
 .obtain⟨cs,B⟩:=rX S _ hg;exact h.hm.hb.mB B (by decide) rfl
 .obtain⟨cs,B⟩:=rX S _ hg;simp only[Loc.fp,aC,gH,or_false]at hgL
  rcases hgL with rfl|rfl|rfl|rfl
  .exact h.hd.hb.mB B (by decide) rfl
  .exact h.hd.hN.mB B (by decide) rfl
  .exact h.hd.hO.mB B (by decide) rfl
  .exact h.hd.hL.mB B (by decide) rfl
theorem At.fP(h:At w x n c)(k:Nat)(hk:k<c.table.length)(u:Int):∃g cp,x.tv=.slice (some ⟨g,0,none⟩) c.table.length cp/\w.cell? ⟨g,k,none⟩=some (.int .i64 (c.table.getD k 0))/\w.frozen? ⟨g,k,none⟩=false/\
  At (w.setCell ⟨g,k,none⟩ (.int .i64 u)) x n {c with table:=c.table.set k u}/\ag x.fp w (w.setCell ⟨g,k,none⟩ (.int .i64 u)):=by
 obtain⟨g,cp,hv,S,hg,z,ow⟩:=h.ht.bu k hk (.int .i64 u);obtain⟨g',cp',Fx,ck⟩:=h.tk k hk;rw[hv]at Fx;injection Fx with e1 e2 e3
 injection e1 with e1
 injection e1 with e1
 subst e1;have ne:=h.wv h.ht;rw[hg]at ne;refine⟨g,cp,hv,ck,z,⟨h.hb.only ow ne.1,h.hd.only ow ne.2.2,h.hm.only ow ne.2.1 (by rw[<-hg];exact h.n1),?_,h.ho.only ow (λy hy hm=>h.n4 y (by rw[hg];exact hm) hy),h.hp.only ow (λy hy hm=>h.n5 y (by rw[hg];exact hm) hy),h.n1,h.n2,h.n3,h.n4,h.n5,h.n6,by show(c.table.set k u).length<=512;rw[bH];exact h.tl⟩,ow.mono (λy hy _=>by
  have:y∈cq x.tv:=by rw[hg];exact hy
  simp[X.fp,this])⟩
 show Sl _ _ x.tv (c.table.set k u).length (eQ (c.table.set k u));rw[bH,<-GC];exact S
theorem At.addT(h:At w x n c)(u:Int){v':Value}(S:Sl w' 3 v' (c.table.length+1) (eQ (c.table++[u])))(ow:ag (cq x.tv) w w')(fr:∀g∈cq v',g∈cq x.tv\/w.heap.size<=g)(hl:c.table.length+1<=512):
  w'.cell? ⟨x.b,2,none⟩=some x.tv/\w'.frozen? ⟨x.b,2,none⟩=false/\At (w'.setCell ⟨x.b,2,none⟩ v') {x with tv:=v'} n {c with table:=c.table++[u]}/\ag x.fp w (w'.setCell ⟨x.b,2,none⟩ v')/\∀g∈({x with tv:=v'}:X).fp,g∈x.fp\/w.heap.size<=g:=by
 have ne:=h.wv h.ht;have B1:=h.hb.only ow ne.1;have B2:aD (w'.setCell ⟨x.b,2,none⟩ v') x.b 146 #[dp x.L.b,Fm.mp x.mb,v',x.ov,x.pv,.int .i64 c.ep,.int .i64 c.slot,.bool c.broken]:=B1.bu 2 v';have o2:=(ag.refl [x.b] w').setCell (p:=⟨x.b,2,none⟩) (by simp) v';have D1:=h.hd.only ow ne.2.2;have M1:=h.hm.only ow ne.2.1 h.n1;have O1:=h.ho.only ow (λy hy hm=>h.n4 y hm hy);have P1:=h.hp.only ow (λy hy hm=>h.n5 y hm hy)
 have hbn:∀{t:TypeId} {cs:Array Value} {b:Nat},aD w' b t cs->t≠146->b∉[x.b]:=by
  intro t cs b B eG hm;simp at hm;subst hm;exact eG (B.inj B1).1
 have hs:∀{v:Value} {k:Nat} {l:List Value},Sl w' 3 v k l->∀g∈cq v,g∉[x.b]:=λS g hg=>by
  obtain⟨cs,B⟩:=rX S g hg;exact hbn B (by decide)
 refine⟨B1.ab rfl,B1.frozen 2 (by simp[CE]),⟨B2,D1.only o2 ?_,M1.only o2 (hbn M1.hb (by decide)) (hbn M1.hg (by decide)),?_,O1.only o2 (hs O1),P1.only o2 (λg hg hm=>P1.aY B1 (by decide) (by decide) (by rw[<-cg.1 hm];exact hg)),?_,h.n2,h.n3,?_,?_,h.n6,by show(c.table++[u]).length<=512;rw[aU];exact hl⟩,?_,?_⟩
 .intro g hg;simp only[Loc.fp,aC,gH,or_false]at hg
  rcases hg with rfl|rfl|rfl|rfl
  .exact hbn D1.hb (by decide)
  .exact hbn D1.hN (by decide)
  .exact hbn D1.hO (by decide)
  .exact hbn D1.hL (by decide)
 .show Sl _ _ v' (c.table++[u]).length _;rw[aU];exact S.only o2 (hs S)
 .exact λhg=>(fr x.mg hg).elim h.n1 (λDm=>by have:=h.hm.hg.lt;omega)
 .exact λg hg ho=>(fr g hg).elim (λh1=>h.n4 g h1 ho) (λDm=>by have:=h.ho.lt g ho;omega)
 .exact λg hg ho=>(fr g hg).elim (λh1=>h.n5 g h1 ho) (λDm=>by have:=h.hp.lt g ho;omega)
 .exact(ow.mono (λg hg _=>by simp[X.fp,hg])).trans (o2.mono (λg hg _=>by simp at hg;subst hg;simp[X.fp]))
 .intro g hg;simp only[X.fp,aC,aS]at hg ⊢
  rcases hg with hg|hg|hg|((hg|hg)|hg)|hg
  .exact .inl (.inl hg)
  .exact .inl (.inr (.inl hg))
  .exact .inl (.inr (.inr (.inl hg)))
  .exact .inl (.inr (.inr (.inr (.inl (.inl (.inl hg))))))
  .exact(fr g hg).imp (λh1=> .inr (.inr (.inr (.inl (.inl (.inr h1)))))) id
  .exact .inl (.inr (.inr (.inr (.inl (.inr hg)))))
  .exact .inl (.inr (.inr (.inr (.inr hg))))
end
theorem GH{w:World}{l:List Int}(S:Sl w 3 v l.length (eQ l))(hl:l.length<=1000000)(k:Int):
  Calls Tryz.prog 165 #[v,.int .i64 k] w λe w'=>e=.returned (.int .i64 (Fm.iq l k))/\w=w':=by
 by_cases h0:0<l.length
 .obtain⟨g,cap,rest,rfl,B,hc,_⟩:=S.form h0;exact Fm.l6 g l.length cap l rfl hl k w (λj hj=>B.ab (by rw[cW,bx (by simpa using hj),rW _ _ hj]))
 .have hn:l=[]:=mN (by omega);subst hn;obtain⟨A,c,rfl,_⟩:=S.val;have e1:Fm.iq [] k= -1:=rfl;rw[e1];clear S;simp only[vJ];go_enter Tryz.func165,Tryz.ntmps165;go_wp2_with fail
  go_loopw [8] (λiv wr=>iv=.int .i64 0/\wr=w) (λ_ _=>0)
  case atStart=>exact⟨rfl,rfl⟩
  case round=>
   obtain⟨rfl,rfl⟩:=hrel;go_wp2_with fail;go_ret;exact⟨by first|rfl|simp,rfl⟩
def fA(t:List Int):Nat:=Fm.cH t (-1)
theorem rY(t:List Int):fA t<=t.length:=by unfold fA Fm.cH;exact kz
theorem xT(t:List Int):Fm.iq t (-1)=if fA t<t.length then(fA t:Int)else -1:=rfl
end Go.Proofs.YtmonobkginiajaaGreat.Sh
namespace Go.Proofs.YtmonobkginiajaaGreat.Sh
open Go.RowKit Pk Dk Pg
attribute [local go_sem ↓] Go.wp_at_zero Go.wp_at_succ aW
variable{w:World}{x:X}{n:Nat}
theorem jn:(Tryz.prog.info? 3).map (λi=>(i.zero,i.size,i.bytes))=some (some (.int .i64 0),1,8):=by kernel_rfl
def mY(t:List Int)(l:Nat)(u:Int):List Int:=if l=t.length then t++[u]else t.set l u
def C.bh(c:C)(n:Nat)(p:List UInt8):C×Int×Int:=
 if c.broken=true then(c,0,13)
 else if 232<p.length then(c,0,4)
 else if 512<=fA c.table then(c,0,11)
 else if(c.bo n p).2.2≠0 then((c.bo n p).1,0,(c.bo n p).2.2)
 else({(c.bo n p).1 with table:=mY c.table (fA c.table) (c.bo n p).2.1},fA c.table,0)
theorem jc(c:C)(n:Nat)(p:List UInt8):(c.bo n p).1.table=c.table/\(c.bo n p).1.bM=c.bM/\(c.bo n p).1.parts=c.parts/\(c.bo n p).1.ep=c.ep/\(c.bo n p).1.slot=c.slot/\(c.bo n p).1.broken=c.broken:=by
 unfold C.bo
 split
 .exact⟨rfl,rfl,rfl,rfl,rfl,rfl⟩
 .split<;>exact⟨rfl,rfl,rfl,rfl,rfl,rfl⟩
def Post(w w':World)(x:X)(n:Nat)(c':C):Prop:= ∃x',x'.b=x.b/\x'.L=x.L/\At w' x' n c'/\ag x.fp w w'/\∀g∈x'.fp,g∈x.fp\/w.heap.size<=g
theorem Post.self{w':World}{c':C}(h:At w' x n c')(ho:ag x.fp w w'):Post w w' x n c':=⟨x,rfl,rfl,h,ho,λ_ hg=> .inl hg⟩
theorem new_any{c:C}(h:At w x n c)(s:ByteArray)(hs:s.size<=9223372036854775807)(Dw:0<=c.ep/\c.ep<=1099511627776)(hc:c.d.calls<=3999999999999999990)(hr:c.d.aT<=9223372036854775807):
  Calls Tryz.prog 120 #[sp x.b,.string s] w λe w'=>e=.returned (.tuple #[.int .i64 (c.bh n s.data.toList).2.1,.int .i64 (c.bh n s.data.toList).2.2])/\Post w w' x n (c.bh n s.data.toList).1:=by
 have KW:=gl h;have hl:s.data.toList.length=s.size:=by simp
 obtain⟨R,hR⟩:∃R,c.bh n s.data.toList=R:=⟨_,rfl⟩;rw[hR];unfold C.bh at hR;rw[hl]at hR;have HH:=xh h
 by_cases h1:c.broken=true
 .rw[if_pos h1]at hR;subst hR;rw[show c.eu=13 from by unfold C.eu;rw[if_pos h1]]at KW;have KW:=xh KW;clear h h1;unfold sp at *;go_enter Tryz.func120,Tryz.ntmps120;go_wp2_with fail;refine KW.o.mono ?_;rintro e w1 ⟨rfl,rfl⟩;go_wp2_with fail;go_ret2;exact⟨by first|rfl|simp,.self HH.o (ag.refl _ _)⟩
 rw[if_neg h1]at hR;rw[show c.eu=0 from by unfold C.eu;rw[if_neg h1]]at KW;have KW:=xh KW;have KI:=GH h.ht (by have:=h.tl;omega) (-1);rw[xT]at KI;have xU:=rY c.table;have f2:=h.f2;have tl:=h.tl;obtain⟨TA,tc,xS,htc⟩:=h.ht.val;obtain⟨l,Fy⟩:∃l,fA c.table=l:=⟨_,rfl⟩;rw[Fy]at KI hR xU
 by_cases h2:232<s.size
 .rw[if_pos h2]at hR;subst hR;have h2I:(232:Int)<(s.size:Int):=by omega
  by_cases h3:l<c.table.length
  .rw[if_pos h3]at KI;have KI:=xh KI;have h3I:¬(l:Int)<0:=by omega
   clear h h1 h2 xS;unfold sp at *;go_enter Tryz.func120,Tryz.ntmps120;go_wp2_with fail;refine KW.o.mono ?_;rintro e w1 ⟨rfl,rfl⟩;go_wp2_with fail;refine KI.o.mono ?_;rintro e w1 ⟨rfl,rfl⟩;go_wp2_with fail;go_ret2;exact⟨by first|rfl|simp,.self HH.o (ag.refl _ _)⟩
  .rw[if_neg h3]at KI;have KI:=xh KI;clear h h1 h2;rw[xS]at f2 KI;unfold sp at *;go_enter Tryz.func120,Tryz.ntmps120;go_wp2_with fail;refine KW.o.mono ?_;rintro e w1 ⟨rfl,rfl⟩;go_wp2_with fail;refine KI.o.mono ?_;rintro e w1 ⟨rfl,rfl⟩;go_wp2_with fail;go_ret2;exact⟨by first|rfl|simp,.self HH.o (ag.refl _ _)⟩
 rw[if_neg h2]at hR;have h2I:¬(232:Int)<(s.size:Int):=by omega
 by_cases h4:512<=l
 .rw[if_pos h4]at hR;subst hR;have h3:¬l<c.table.length:=by omega
  have h4I:(512:Int)<=(c.table.length:Int):=by omega
  rw[if_neg h3]at KI;have KI:=xh KI;clear h h1 h2;rw[xS]at f2 KI;unfold sp at *;go_enter Tryz.func120,Tryz.ntmps120;go_wp2_with fail;refine KW.o.mono ?_;rintro e w1 ⟨rfl,rfl⟩;go_wp2_with fail;refine KI.o.mono ?_;rintro e w1 ⟨rfl,rfl⟩;go_wp2_with fail;go_ret2;exact⟨by first|rfl|simp,.self HH.o (ag.refl _ _)⟩
 rw[if_neg h4]at hR;have KF:=l7 h s Dw hc hr;have hft:=jc c n s.data.toList;generalize hF:c.bo n s.data.toList=F at *;obtain⟨c1,id,er⟩:=F;dsimp only at KF hft hR;have KF:=xh KF
 by_cases h5:er=0
 .rw[if_neg (by simpa using h5)]at hR;subst h5;have h4I:¬(512:Int)<=(l:Int):=by omega
  by_cases h3:l<c.table.length
  .rw[if_pos h3]at KI;have KI:=xh KI;have h3I:¬(l:Int)<0:=by omega
   have h3J:((l:Int)==(c.table.length:Int))=false:=by rw[beq_eq_false_iff_ne];omega
   have mW:mY c.table l id=c.table.set l id:=by unfold mY;rw[if_neg (by omega)]
   rw[mW]at hR;subst hR;have HFT:=xh hft;clear h h1 h2 hF mW hft xS;unfold sp at *;go_enter Tryz.func120,Tryz.ntmps120;go_wp2_with fail;refine KW.o.mono ?_;rintro e w1 ⟨rfl,rfl⟩;go_wp2_with fail;refine KI.o.mono ?_;rintro e w1 ⟨rfl,rfl⟩;go_wp2_with fail;refine KF.o.mono ?_;rintro e w1 ⟨rfl,aa,ow⟩;have f2':=aa.f2;obtain⟨g,cp,hv,ck,z,A2,o2⟩:=aa.fP l (by rw[HFT.o.1];exact h3) id;rw[hv,HFT.o.1]at f2'
   have AX:=xh (show At (w1.setCell ⟨g,l,none⟩ (.int .i64 id)) x n {c1 with table:=c.table.set l id}from by rw[<-HFT.o.1];exact A2);have OX:=xh (ow.trans o2);generalize c1.table.getD l 0=ov at ck;clear aa ow A2 o2 hv;clear f2;generalize c.table.length=tn at *;go_wp2_with fail;go_ret2;exact⟨by first|rfl|simp,.self AX.o OX.o⟩
  .obtain rfl:l=c.table.length:=by omega
   rw[if_neg h3]at KI;have mW:mY c.table c.table.length id=c.table++[id]:=by unfold mY;rw[if_pos rfl]
   rw[mW]at hR;subst hR;have HFT:=xh hft;have HTV:=xh xS;rw[xS]at f2 KI;have KI:=xh KI;clear h h1 h2 hF mW hft xS Fy xU h3 h4;generalize htn:c.table.length=tn at *;have HTN:=xh htn;clear htn;unfold sp at *;go_enter Tryz.func120,Tryz.ntmps120;go_wp2_with fail;refine KW.o.mono ?_;rintro e w1 ⟨rfl,rfl⟩;go_wp2_with fail;refine KI.o.mono ?_;rintro e w1 ⟨rfl,rfl⟩;go_wp2_with fail;refine KF.o.mono ?_;rintro e w1 ⟨rfl,aa,ow⟩;have f2':=aa.f2;have St:=aa.ht
   rw[HFT.o.1,HTN.o]at St;obtain⟨v',w2,ea,S2,Fz,CF⟩:=Ah (P:=Tryz.prog) St 60 60 (.int .i64 0) 8 Tryz.underlying60 jn rfl (.int .i64 id) rfl (by unfold maxLen;omega) (by omega);rw[show eQ c.table++[Value.int .i64 id]=eQ (c.table++[id])from by rw[gm];rfl]at S2;obtain⟨gg,fs,rr,rfl,BB,_,_⟩:=S2.form (by omega)
   have w2c:w2.cell? ⟨gg,tn,none⟩=some (.int .i64 id):=BB.ab (by rw[<-HTN.o,cW,bx (by simp),gm,dF (by simp)];simp[eQ]);have w2z:w2.frozen? ⟨gg,tn,none⟩=false:=BB.frozen _ (by have:=HTN.o;simp;omega);have hlt1:((tn:Nat):Int)<((tn+1:Nat):Int):=by omega
   have hlt2:tn<tn+1:=by omega
   have hadd:=aa.addT id (by rw[HFT.o.1,HTN.o];exact S2) Fz CF (by rw[HFT.o.1,HTN.o];omega);obtain⟨g2,z2,A3,o3,fr3⟩:=hadd;rw[HFT.o.1]at A3;obtain⟨g,cp,hv,ck,z,A4,o4⟩:=A3.fP tn (by show _<(c.table++[id]).length;have:=HTN.o;simp;omega) id;have wy:(c.table++[id]).set tn id=c.table++[id]:=by
    rw[<-HTN.o,qR _ _ (ak _),eB];rfl
   have A4:At ((w2.setCell ⟨x.b,2,none⟩ (.slice (some ⟨gg,0,none⟩) (tn+1) fs)).setCell ⟨g,tn,none⟩ (.int .i64 id)) {x with tv:= .slice (some ⟨gg,0,none⟩) (tn+1) fs} n {c1 with table:=c.table++[id]}:=by
    have:=A4;dsimp only at this;rw[wy]at this;exact this
   dsimp only at hv;injection hv with l5 nP hv3
   injection l5 with l5
   injection l5 with l5
   clear nP;subst l5 hv3;have eG:x.b≠gg:=BB.mB (aa.hb.only Fz (aa.wv aa.ht).1) (by decide)|>.symm;have hne2:gg≠x.b:=eG.symm;have f2'':(w2.setCell ⟨x.b,2,none⟩ (.slice (some ⟨gg,0,none⟩) (tn+1) fs)).cell? ⟨x.b,2,none⟩=some (.slice (some ⟨gg,0,none⟩) (tn+1) fs):=A3.f2;rw[HTV.o]at f2' g2 ea;have EA:=xh ea;have AX:=xh A4;have OX:=xh ((ow.trans o3).bw o4 (λg hg eT=>(fr3 g hg).elim (λh=>h) (λh=>by have:=ow.size;omega)))
   have FX:=xh (show ∀g'∈({x with tv:= .slice (some ⟨gg,0,none⟩) (tn+1) fs}:X).fp,g'∈x.fp\/w.heap.size<=g' from λg' hg=>(fr3 g' hg).imp (λh=>h) (λh=>au ow.size h));generalize (c.table++[id]).getD tn 0=ov at ck;clear aa ow A3 A4 o3 o4 Fz CF St S2 ea wy fr3 BB;go_wp2_with fail;rw[EA.o];go_wp2_with fail;go_ret2;exact⟨by first|rfl|simp,{x with tv:= .slice (some ⟨gg,0,none⟩) (tn+1) fs},rfl,rfl,AX.o,OX.o,FX.o⟩
 .rw[if_pos h5]at hR;subst hR;have hq:(er != 0)=true:=by rw[bne_iff_ne];exact h5
  have h4I:¬(512:Int)<=(l:Int):=by omega
  by_cases h3:l<c.table.length
  .rw[if_pos h3]at KI;have KI:=xh KI;have h3I:¬(l:Int)<0:=by omega
   clear h h1 h2 hF xS;unfold sp at *;go_enter Tryz.func120,Tryz.ntmps120;go_wp2_with fail;refine KW.o.mono ?_;rintro e w1 ⟨rfl,rfl⟩;go_wp2_with fail;refine KI.o.mono ?_;rintro e w1 ⟨rfl,rfl⟩;go_wp2_with fail;refine KF.o.mono ?_;rintro e w1 ⟨rfl,aa,ow⟩;have AX:=xh aa;have OX:=xh ow;clear aa ow;go_wp2_with fail;go_ret2;exact⟨by first|rfl|simp,.self AX.o OX.o⟩
  .rw[if_neg h3]at KI;have hlI:¬(512:Int)<=(c.table.length:Int):=by omega
   have KI:=xh KI;clear h h1 h2 hF;rw[xS]at f2 KI;unfold sp at *;go_enter Tryz.func120,Tryz.ntmps120;go_wp2_with fail;refine KW.o.mono ?_;rintro e w1 ⟨rfl,rfl⟩;go_wp2_with fail;refine KI.o.mono ?_;rintro e w1 ⟨rfl,rfl⟩;go_wp2_with fail;refine KF.o.mono ?_;rintro e w1 ⟨rfl,aa,ow⟩;have AX:=xh aa;have OX:=xh ow;clear aa ow;go_wp2_with fail;go_ret2;exact⟨by first|rfl|simp,.self AX.o OX.o⟩
end Go.Proofs.YtmonobkginiajaaGreat.Sh
namespace Go.Proofs.YtmonobkginiajaaGreat.Sh
open Go.RowKit Pk Dk Pg
attribute [local go_sem ↓] Go.wp_at_zero Go.wp_at_succ
def Ax(e:Int):Int:=if e=13 then 13 else 14
theorem bad_any(e:Int)(w:World):
  Calls Tryz.prog 140 #[.int .i64 e] w λr w'=>r=.returned (.int .i64 (Ax e))/\w=w':=by
 have HB:=xh (rfl:Ax e=Ax e);obtain⟨b,hb⟩:∃b,Ax e=b:=⟨_,rfl⟩;rw[hb];unfold Ax at hb
 by_cases h:e=13
 .rw[if_pos h]at hb;subst hb h;go_enter Tryz.func140,Tryz.ntmps140;go_wp2_with fail;go_ret;exact⟨by first|rfl|simp,rfl⟩
 .rw[if_neg h]at hb;subst hb;have hq:(e==13)=false:=by rw[beq_eq_false_iff_ne];exact h
  go_enter Tryz.func140,Tryz.ntmps140;go_wp2_with fail;go_ret;exact⟨by first|rfl|simp,rfl⟩
def C.aI(c:C)(l:Int):C×Int:=
 if c.gh l≠0 then(c,c.gh l)else({c with m:=(Fm.cX c.m (c.table.getD l.toNat 0)).1,table:=c.table.set l.toNat (-1)},0)
def C.aA(c:C)(n:Nat)(l:Int):List UInt8×Int:=
 if c.gh l≠0 then([],c.gh l)
 else if(bj c.d n (c.table.getD l.toNat 0)).2≠0 then([],Ax (bj c.d n (c.table.getD l.toNat 0)).2)
 else((bj c.d n (c.table.getD l.toNat 0)).1.s,0)
theorem Ay{c:C}{l:Int}(h:c.gh l=0):c.broken=false/\0<=l/\l<c.table.length/\0<=c.table.getD l.toNat 0:=by
 unfold C.gh at h
 split at h
 .simp at h
 .rename_i hb
  split at h
  .rename_i hh;unfold C.mC at hh;simp only[jM,decide_eq_true_eq]at hh;exact⟨by simpa using hb,hh.1.1,hh.1.2,hh.2⟩
  .simp at h
theorem xV{w:World}{x:X}{n:Nat}{c:C}(h:At w x n c)(l:Int):
  Calls Tryz.prog 179 #[sp x.b,.int .i64 l] w λe w'=>e=.returned (.int .i64 (c.aI l).2)/\At w' x n (c.aI l).1/\ag x.fp w w':=by
 have KA:=lB h l;have HH:=xh h;obtain⟨R,hR⟩:∃R,c.aI l=R:=⟨_,rfl⟩;rw[hR];unfold C.aI at hR
 by_cases h1:c.gh l=0
 .rw[if_neg (by simpa using h1)]at hR;obtain⟨_,h2,h3,h4⟩:=Ay h1;rw[h1]at KA;obtain⟨k,rfl⟩:=dn h2;have hk:k<c.table.length:=by omega
  rw[show((k:Nat):Int).toNat=k from by omega]at hR h4;obtain⟨g,cp,hv,ck⟩:=h.tk k hk;have f1:=h.f1;have f2:=h.f2;rw[hv]at f2;have KL:=Fm.pr h.hm.drew (c.table.getD k 0);have HM:=xh (λ(w':World) (m':List Int) (mm:Fm.dD w' x.mb x.mg m') (ow:ag [x.mg] w.drew w')=>At.map h.drew mm ow);have hg:g∈cq x.tv:=by rw[hv];simp[cq];have:=(h.ht.val);obtain⟨A,cc,e1,e2⟩:=this;rw[hv]at e1;injection e1 with _ _ e3;omega
  have HP:=xh (show ∀w',ag [x.mg] w.drew w'->(w'.cell? ⟨x.b,1,none⟩=some (Fm.mp x.mb)/\w'.cell? ⟨x.b,2,none⟩=some (.slice (some ⟨g,0,none⟩) c.table.length cp)/\w'.cell? ⟨g,k,none⟩=some (.int .i64 (c.table.getD k 0)))from λw' ho=>by
   have B:=h.hb.drew.only ho (λhm=>by simp at hm;exact h.hb.mB h.hm.hg (by decide) hm);have T:=h.ht.drew.only ho (λy hy hm=>by simp at hm;subst hm;exact h.n1 hy);obtain⟨g',cp',rest,Fx,BB,_,_⟩:=T.form (by omega);rw[hv]at Fx;injection Fx with e1 e2 e3
   injection e1 with e1
   injection e1 with e1
   subst e1;refine⟨B.ab (i:=1) rfl,?_,BB.ab (by rw[cW,bx (by simpa using hk),rW _ _ hk])⟩;rw[<-hv];exact B.ab (i:=2) rfl)
  have HK:=xh (show w.drew.cell? ⟨x.b,1,none⟩=some (Fm.mp x.mb)/\w.drew.cell? ⟨x.b,2,none⟩=some (.slice (some ⟨g,0,none⟩) c.table.length cp)/\w.drew.cell? ⟨g,k,none⟩=some (.int .i64 (c.table.getD k 0))from⟨f1,f2,ck⟩);have HKL:=xh hk
  have HX:=xh (show ∀w' m',At w' x n {c with m:=m'}->w'.cell? ⟨g,k,none⟩=some (.int .i64 (c.table.getD k 0))/\w'.frozen? ⟨g,k,none⟩=false/\At (w'.setCell ⟨g,k,none⟩ (.int .i64 (-1))) x n {c with m:=m',table:=c.table.set k (-1)}/\ag x.fp w' (w'.setCell ⟨g,k,none⟩ (.int .i64 (-1)))from λw' m' hh=>by
   obtain⟨g',cp',Fx,ck',z',A',o'⟩:=hh.fP k hk (-1);rw[hv]at Fx;injection Fx with e1 e2 e3
   injection e1 with e1
   injection e1 with e1
   subst e1;exact⟨ck',z',A',o'⟩)
  have FA:(k:Int)<(c.table.length:Int):=by omega
  subst hR;generalize c.table.getD k 0=pid at *;generalize (Fm.cX c.m pid).2=le at *;generalize (Fm.cX c.m pid).1=m2 at *;have HQ:=xh hv;clear h h1 f1 f2 ck hv hg h4;generalize c.table.length=tn at *;have KA:=xh KA;unfold sp Fm.mp at *;have KL:=xh KL;go_enter Tryz.func179,Tryz.ntmps179;go_wp2_with fail;refine KA.o.mono ?_;rintro e w1 ⟨rfl,rfl⟩;go_wp2_with fail
  refine wp_region_held_drew (S:=λW'=>W'.cell? ⟨x.b,1,none⟩=some (.pointer (some ⟨x.mb,0,none⟩))/\W'.cell? ⟨x.b,2,none⟩=some (.slice (some ⟨g,0,none⟩) tn cp)/\W'.cell? ⟨g,k,none⟩=some (.int .i64 pid)) (by kernel_rfl) (HK.o) (λaw=>?_);refine dq [(0,12),(1,13),(2,14),(3,15),(4,16),(5,17),(6,18),(7,19),(8,20),(9,21),(10,22)] ?_
  iterate 11 refine za ?_
  refine zd 11 23 λK hK=>?_;go_simp
  go_at_call 153
  refine KL.o.mono ?_;rintro e w1 ⟨rfl,mm,ow⟩;have A1:=xh (HM.o _ _ mm ow);have OW:=xh ow;have HX1:=xh (HX.o _ _ A1.o);have f2x:=(HP.o _ ow).2.1;have ckx:=HX1.o.1;have zkx:=HX1.o.2.1;have OX:=xh (((ag.refl _ w).drew.trans (ow.mono (S':=x.fp) (λg hg _=>uG x g hg))).trans HX1.o.2.2.2);clear mm ow;go_simp;refine zh hK (HP.o _ OW.o) (λaw=>?_);refine wpAnyH_done (by kernel_rfl) ?_ _;go_wp2_with fail;go_ret
  exact⟨by first|rfl|simp,HX1.o.2.2.1,OX.o⟩
 .rw[if_pos h1]at hR;subst hR;have hq:(c.gh l != 0)=true:=by rw[bne_iff_ne];exact h1
  have KA:=xh KA;generalize c.gh l=er at *;clear h h1;unfold sp at *;go_enter Tryz.func179,Tryz.ntmps179;go_wp2_with fail;refine KA.o.mono ?_;rintro e w1 ⟨rfl,rfl⟩;go_wp2_with fail;go_ret;exact⟨by first|rfl|simp,HH.o,ag.refl _ _⟩
theorem kh{w:World}{x:X}{n:Nat}{c:C}(h:At w x n c)(l:Int):
  Calls Tryz.prog 228 #[sp x.b,.int .i64 l] w λe w'=>e=.returned (.tuple #[.string ⟨(c.aA n l).1.toArray⟩,.int .i64 (c.aA n l).2])/\Below w.heap.size w w':=by
 have KA:=lB h l;obtain⟨R,hR⟩:∃R,c.aA n l=R:=⟨_,rfl⟩;rw[hR];unfold C.aA at hR
 by_cases h1:c.gh l=0
 .rw[if_neg (by simpa using h1)]at hR;obtain⟨_,h2,h3,h4⟩:=Ay h1;rw[h1]at KA;obtain⟨k,rfl⟩:=dn h2;have hk:k<c.table.length:=by omega
  rw[show((k:Nat):Int).toNat=k from by omega]at hR h4;obtain⟨g,cp,hv,ck⟩:=h.tk k hk;have FA:(k:Int)<(c.table.length:Int):=by omega
  have HK:=xh (show ∀W',Below w.heap.size w W'->(W'.cell? ⟨x.b,0,none⟩=some (.pointer (some ⟨x.L.b,0,none⟩))/\W'.cell? ⟨x.b,2,none⟩=some (.slice (some ⟨g,0,none⟩) c.table.length cp)/\W'.cell? ⟨g,k,none⟩=some (.int .i64 (c.table.getD k 0)))from λW' hb=>by
   have h':=h.below hb;obtain⟨g',cp',Fx,ck'⟩:=h'.tk k hk;have e:=hv;rw[Fx]at e;injection e with e1 e2 e3
   injection e1 with e1
   injection e1 with e1
   subst e1;exact⟨h'.f0,by rw[<-hv];exact h'.f2,ck'⟩)
  have OD:=xh (show Below w.heap.size w w.drew from(Below.refl _ _).drew);have KR:=λ(W:World) (hb:Below w.heap.size w W)=>DO (h.hd.below hb) (c.table.getD k 0);obtain⟨P,hP⟩:∃P,bj c.d n (c.table.getD k 0)=P:=⟨_,rfl⟩;rw[hP]at KR hR;obtain⟨⟨rid,rep,rkd,rs⟩,er⟩:=P;have KB:=xh (λw=>bad_any er w);unfold PG.val fL at KR;dsimp only at KR hR;generalize c.table.getD k 0=pid at *;generalize c.table.length=tn at *;unfold dp at KR;have KR:=xh KR;have KA:=xh KA
  clear h h1 hv hP h4 ck;unfold sp at *
  by_cases h5:er=0
  .rw[if_neg (by simpa using h5)]at hR;subst hR h5;go_enter Tryz.func228,Tryz.ntmps228;go_wp2_with fail;refine KA.o.mono ?_;rintro e w1 ⟨rfl,rfl⟩;go_wp2_with fail;refine wp_region_held_drew (S:=λW'=>W'.cell? ⟨x.b,0,none⟩=some (.pointer (some ⟨x.L.b,0,none⟩))/\W'.cell? ⟨x.b,2,none⟩=some (.slice (some ⟨g,0,none⟩) tn cp)/\W'.cell? ⟨g,k,none⟩=some (.int .i64 pid)) (by kernel_rfl) (HK.o _ OD.o) (λaw=>?_)
   refine dq [(0,16),(1,17),(2,18),(3,19),(4,20),(5,21),(6,22),(7,23),(8,24),(9,25),(10,26)] ?_
   iterate 11 refine za ?_
   refine wpAnyH_ready (rs:=[11,15]) (by kernel_rfl) (by simp) ?_;refine AllReadyH.cons (o:=⟨some 27,_,_,_,_,_⟩) rfl (λK hK=>?_) (AllReadyH.cons (o:=⟨some 7,_,_,_,_,_⟩) rfl (λK hK=>?_) AllReadyH.nil)
   .skip
    go_simp
    go_at_call 139
    refine(KR.o _ OD.o).mono ?_;rintro e v1 ⟨rfl,l5⟩;have P1:=xh (ao OD.o l5);clear l5;go_simp;refine zh hK (HK.o _ P1.o) (λaw=>?_);refine dq [(12,15),(13,28),(14,29)] ?_
    iterate 3 refine za ?_
    refine zd 15 7 λK hK=>?_;go_simp;have P2:=xh (ae P1.o (.cells e9 162));refine zh hK (HK.o _ P2.o) (λaw=>?_);refine zf 16 λK hK=>?_;go_simp;have P3:=xh (ae P1.o (.cells #[.int .i64 rid,.int .i64 rep,.int .i64 rkd,.string ⟨rs.toArray⟩] 162));have BX:=xh (aD.new v1 162 #[.int .i64 rid,.int .i64 rep,.int .i64 rkd,.string ⟨rs.toArray⟩]);refine zh hK (HK.o _ P3.o) (λaw=>?_);refine dq [(17,8)] ?_
    iterate 1 refine za ?_
    refine wpAnyH_done (by kernel_rfl) ?_ _;have y3:=BX.o.ab (i:=3) rfl;go_wp2_with fail;go_ret2;exact⟨by first|rfl|simp,P3.o⟩
   .skip
    go_simp;have P1:=xh (ae OD.o (.cells e9 162));have BX0:=xh (show aD (w.drew.alloc (.cells e9 162)) w.heap.size 162 e9 from aD.new w.drew 162 e9);refine zh hK (HK.o _ P1.o) (λaw=>?_);refine zd 11 27 λK hK=>?_;go_simp
    go_at_call 139
    refine(KR.o _ P1.o).mono ?_;rintro e v1 ⟨rfl,l5⟩;have P2:=xh (ao P1.o l5);have wB:=xh (BX0.o.below l5 BX0.o.lt);clear l5;have z0:=wB.o.frozen 0 (by simp);have z1:=wB.o.frozen 1 (by simp);have z2:=wB.o.frozen 2 (by simp);have z3:=wB.o.frozen 3 (by simp);have c0:=wB.o.ab (i:=0) rfl;have c1:=wB.o.ab (i:=1) rfl;have c2:=wB.o.ab (i:=2) rfl;have c3:=wB.o.ab (i:=3) rfl;go_simp
    refine zh hK (HK.o _ P2.o) (λaw=>?_);refine dq [(12,15),(13,28),(14,29)] ?_
    iterate 3 refine za ?_
    refine zf 16 λK hK=>?_;go_simp;have P3:=xh (dJ P2.o (ak _) rid rep rkd ⟨rs.toArray⟩);have BX:=xh (kL wB.o rfl rid rep rkd ⟨rs.toArray⟩);refine zh hK (HK.o _ P3.o) (λaw=>?_);refine dq [(17,8)] ?_
    iterate 1 refine za ?_
    refine wpAnyH_done (by kernel_rfl) ?_ _;have y3:=BX.o.ab (i:=3) rfl;go_wp2_with fail;go_ret2;exact⟨by first|rfl|simp,P3.o⟩
  .rw[if_pos h5]at hR;have hq:(er != 0)=true:=by rw[bne_iff_ne];exact h5
   subst hR;clear h5;generalize Ax er=be at *;go_enter Tryz.func228,Tryz.ntmps228;go_wp2_with fail;refine KA.o.mono ?_;rintro e w1 ⟨rfl,rfl⟩;go_wp2_with fail;refine wp_region_held_drew (S:=λW'=>W'.cell? ⟨x.b,0,none⟩=some (.pointer (some ⟨x.L.b,0,none⟩))/\W'.cell? ⟨x.b,2,none⟩=some (.slice (some ⟨g,0,none⟩) tn cp)/\W'.cell? ⟨g,k,none⟩=some (.int .i64 pid)) (by kernel_rfl) (HK.o _ OD.o) (λaw=>?_)
   refine dq [(0,16),(1,17),(2,18),(3,19),(4,20),(5,21),(6,22),(7,23),(8,24),(9,25),(10,26)] ?_
   iterate 11 refine za ?_
   refine wpAnyH_ready (rs:=[11,15]) (by kernel_rfl) (by simp) ?_;refine AllReadyH.cons (o:=⟨some 27,_,_,_,_,_⟩) rfl (λK hK=>?_) (AllReadyH.cons (o:=⟨some 7,_,_,_,_,_⟩) rfl (λK hK=>?_) AllReadyH.nil)
   .skip
    go_simp
    go_at_call 139
    refine(KR.o _ OD.o).mono ?_;rintro e v1 ⟨rfl,l5⟩;have P1:=xh (ao OD.o l5);clear l5;go_simp;refine zh hK (HK.o _ P1.o) (λaw=>?_);refine dq [(12,15),(13,28),(14,29)] ?_
    iterate 3 refine za ?_
    refine zd 15 7 λK hK=>?_;go_simp;have P2:=xh (ae P1.o (.cells e9 162));refine zh hK (HK.o _ P2.o) (λaw=>?_);refine zf 16 λK hK=>?_;go_simp;have P3:=xh (ae P1.o (.cells #[.int .i64 rid,.int .i64 rep,.int .i64 rkd,.string ⟨rs.toArray⟩] 162));have BX:=xh (aD.new v1 162 #[.int .i64 rid,.int .i64 rep,.int .i64 rkd,.string ⟨rs.toArray⟩]);refine zh hK (HK.o _ P3.o) (λaw=>?_);refine dq [(17,8)] ?_
    iterate 1 refine za ?_
    refine wpAnyH_done (by kernel_rfl) ?_ _;go_wp2_with fail;refine(KB.o _).mono ?_;rintro e wz ⟨rfl,rfl⟩;go_wp2_with fail;go_ret2;exact⟨by first|rfl|simp,P3.o⟩
   .skip
    go_simp;have P1:=xh (ae OD.o (.cells e9 162));have BX0:=xh (show aD (w.drew.alloc (.cells e9 162)) w.heap.size 162 e9 from aD.new w.drew 162 e9);refine zh hK (HK.o _ P1.o) (λaw=>?_);refine zd 11 27 λK hK=>?_;go_simp
    go_at_call 139
    refine(KR.o _ P1.o).mono ?_;rintro e v1 ⟨rfl,l5⟩;have P2:=xh (ao P1.o l5);have wB:=xh (BX0.o.below l5 BX0.o.lt);clear l5;have z0:=wB.o.frozen 0 (by simp);have z1:=wB.o.frozen 1 (by simp);have z2:=wB.o.frozen 2 (by simp);have z3:=wB.o.frozen 3 (by simp);have c0:=wB.o.ab (i:=0) rfl;have c1:=wB.o.ab (i:=1) rfl;have c2:=wB.o.ab (i:=2) rfl;have c3:=wB.o.ab (i:=3) rfl;go_simp
    refine zh hK (HK.o _ P2.o) (λaw=>?_);refine dq [(12,15),(13,28),(14,29)] ?_
    iterate 3 refine za ?_
    refine zf 16 λK hK=>?_;go_simp;have P3:=xh (dJ P2.o (ak _) rid rep rkd ⟨rs.toArray⟩);have BX:=xh (kL wB.o rfl rid rep rkd ⟨rs.toArray⟩);refine zh hK (HK.o _ P3.o) (λaw=>?_);refine dq [(17,8)] ?_
    iterate 1 refine za ?_
    refine wpAnyH_done (by kernel_rfl) ?_ _;go_wp2_with fail;refine(KB.o _).mono ?_;rintro e wz ⟨rfl,rfl⟩;go_wp2_with fail;go_ret2;exact⟨by first|rfl|simp,P3.o⟩
 .rw[if_pos h1]at hR;subst hR;have hq:(c.gh l != 0)=true:=by rw[bne_iff_ne];exact h1
  have KA:=xh KA;generalize c.gh l=er at *;clear h h1;unfold sp at *;go_enter Tryz.func228,Tryz.ntmps228;go_wp2_with fail;refine KA.o.mono ?_;rintro e w1 ⟨rfl,rfl⟩;go_wp2_with fail;go_ret2;exact⟨by first|rfl|simp,Below.refl _ _⟩
end Go.Proofs.YtmonobkginiajaaGreat.Sh
namespace Go.Proofs.YtmonobkginiajaaGreat.Sh
open Go.RowKit Pk Dk Pg
attribute [local go_sem ↓] Go.wp_at_zero Go.wp_at_succ aW
def qJ(t:List Int):Nat->List Int
 |0=>[]
 |k+1=>qJ t k++if 0<=t.getD k 0 then [(k:Int)]else []
theorem GI(t:List Int):∀k,(qJ t k).length<=k
 |0=>ak _
 |k+1=>by
  have:=GI t k;unfold qJ;rw[aU]
  split<;>simp<;>omega
theorem Az{w:World}{x:X}{n:Nat}{c:C}(h:At w x n c):
  Calls Tryz.prog 29 #[sp x.b] w λe w'=> ∃A cc,e=.returned (.slice A (qJ c.table c.table.length).length cc)/\aQ w' 3 1 (.slice A (qJ c.table c.table.length).length cc) (qJ c.table c.table.length).length (eQ (qJ c.table c.table.length))/\Below w.heap.size w w':=by
 have f2:=h.f2;have tl:=h.tl;obtain⟨TA,tc,xS,htc⟩:=h.ht.val;rw[xS]at f2;have HT:=xh (λ(k:Nat) (hk:k<c.table.length) (W:World) (hb:Below w.heap.size w W)=>(h.below hb).tk k hk);have HV:=xh xS;obtain⟨t,ht⟩:∃t,c.table=t:=⟨_,rfl⟩;rw[ht]at f2 tl htc HT HV ⊢;obtain⟨tn,htn⟩:∃tn,t.length=tn:=⟨_,rfl⟩;rw[htn]at f2 tl htc HT HV ⊢;clear h xS ht htn;unfold sp at *;go_enter Tryz.func29,Tryz.ntmps29;go_wp2_with fail
 go_loopw [3,14] (λbv iv wr=> ∃k:Nat,k<=tn/\iv=.int .i64 k/\aQ wr 3 1 bv (qJ t k).length (eQ (qJ t k))/\Hid (Below w.heap.size w wr)/\Hid (∀g∈ah bv,w.heap.size<=g)) (λ_ iv _=>tn-(intOf iv).toNat)
 case atStart=>exact⟨0,bm _,rfl,aQ.nil _ _ _,xh (Below.refl _ _),xh (by simp[ah])⟩
 case round=>
  obtain⟨k,hk,rfl,S,O,F⟩:=hrel;have hle:=GI t k;obtain⟨VA,vc,rfl⟩:=aq S
  by_cases h':k<tn
  .have FA:(k:Int)<(tn:Int):=by omega
   obtain⟨g,cp,hv,ck⟩:=HT.o k h' wr O.o;rw[HV.o]at hv;injection hv with e1 e2 e3
   subst e1 e3;obtain⟨u,hu⟩:∃u,t.getD k 0=u:=⟨_,rfl⟩;rw[hu]at ck
   by_cases hpos:0<=u
   .have uH:qJ t (k+1)=qJ t k++[(k:Int)]:=by
     show qJ t k++_=_;rw[hu,if_pos hpos]
    obtain⟨v',w2,ea,S2,ow,fr⟩:=bZ (P:=Tryz.prog) S 60 60 (.int .i64 0) 8 Tryz.underlying60 jn rfl (.int .i64 (k:Int)) rfl (by unfold maxLen;omega) (by omega);obtain⟨V2,fs,rfl⟩:=aq S2;have hlen:(qJ t (k+1)).length=(qJ t k).length+1:=by rw[uH];simp
    have EA:=xh ea;have SX:=xh (show aQ w2 3 1 (.slice V2 ((qJ t k).length+1) fs) (qJ t (k+1)).length (eQ (qJ t (k+1)))from by
     rw[hlen,uH,gm];exact S2)
    have OX:=xh (O.o.trans (ow.aE O.o.size F.o));have FX:=xh (show ∀g'∈ah (.slice V2 ((qJ t k).length+1) fs),w.heap.size<=g' from λg' hg=>(fr g' hg).elim (F.o g') (λh=>au O.o.size h));clear ea S2 ow fr S uH hlen hu;generalize (qJ t k).length=pl at *;go_wp2_with fail;rw[EA.o];go_wp2_with fail;go_roundw
    case rel=>exact⟨k+1,by omega,by go_num,SX.o,OX,FX⟩
    case measure=>simp[intOf];omega
   .have uH:qJ t (k+1)=qJ t k:=by
     show qJ t k++_=_;rw[hu,if_neg hpos,jy]
    have SX:=xh S;have HN:=xh uH;clear S uH hu;go_wp2_with fail;go_roundw
    case rel=>exact⟨k+1,by omega,by go_num,by rw[HN.o];exact SX.o,O,F⟩
    case measure=>simp[intOf];omega
  .obtain rfl:k=tn:=by omega
   have SX:=xh S;clear S;go_wp2_with fail;go_ret;exact⟨_,_,by first|rfl|simp,SX.o,O.o⟩
end Go.Proofs.YtmonobkginiajaaGreat.Sh
namespace Go.Proofs.YtmonobkginiajaaGreat.Sh
open Go.RowKit Pk Dk Pg
attribute [local go_sem ↓] Go.wp_at_zero Go.wp_at_succ
variable{d:D}{w:World}{n:Nat}
def dN:List UInt8:=Rt.qe 1 0 []
def CG(d:D)(n:Nat):D:=(((d.ar n 0 dN).1.ar n 1 []).1.eD).1
def cL(d:D)(n:Nat):C:={d:=CG d n,m:=List.replicate (dW n) 0,table:=[],bM:=[],parts:=[],ep:=1,slot:=0,broken:=false}
theorem py(hd:d.down=false)(ha:d.aT=0):d.eD.2=0/\d.eD.1.down=false/\d.eD.1.aT=0/\d.eD.1.now=d.now:=by
 obtain⟨c1,c2,c3⟩:=qc d ha;unfold D.eD;rw[if_neg (by simp[hd]),if_pos c1];exact⟨rfl,c3.trans hd,c2,uD d⟩
theorem GJ:Rt.iV 1 ((0:Nat):Int) (Rt.nU []):=by
 refine⟨by omega,by omega,by omega,by omega,by decide,?_⟩;intro i x hx;simp[Rt.nU]at hx
theorem AA{L:Dk.Loc}(h:aG w L n d)(hp:1<=dW n)(hd:d.down=false)(ha:d.aT=0)(hc:d.calls<=1000):
  Calls Tryz.prog 53 #[dp L.b] w λe w'=> ∃x,x.L=L/\e=.returned (.tuple #[sp x.b,.int .i64 0])/\At w' x n (cL d n)/\ag L.fp w w'/\∀g∈x.fp,g∈L.fp\/w.heap.size<=g:=by
 have hn:=h.ok.small;have hn2:6<=n:=by unfold dW bz at hp;omega
 have FC:=h.ok.calls;have hpn:dW n<=1024:=by unfold dW;omega
 have w1f:=gi (n:=n) (k:=0) hd ha (by omega) dN;have w2f:=gi (n:=n) (k:=1) w1f.2.1 w1f.2.2 (by omega) [];have sf:=py w2f.2.1 w2f.2.2;have b1:=im d n ((0:Nat):Int) dN (by omega);have b2:=im (d.ar n ((0:Nat):Int) dN).1 n ((1:Nat):Int) [] b1.2;have KP:=xh (λw' (hb:Below w.heap.size w w')=>DQ (h.below hb));have KN:=xh (λw=>Fm.wg (dW n) w hpn)
 have KR:=xh (λw=>Rt.GA (w:=w) 1 0 none 0 0 [] ⟨rfl,λk x hx=>by simp[Rt.nU]at hx⟩ (ak _) GJ);have HD:=xh h;have wC:=xh (λg hg=>h.lt g hg);have O1:=xh (ae (Below.refl w.heap.size w) (.cells #[dp L.b,.pointer none,.slice none 0 0,.slice none 0 0,.slice none 0 0,.int .i64 1,.int .i64 0,.bool false] 146))
 have B1:=xh (aD.new w 146 #[dp L.b,.pointer none,.slice none 0 0,.slice none 0 0,.slice none 0 0,.int .i64 1,.int .i64 0,.bool false]);have hpz:((dW n:Nat):Int)≠0:=by omega
 have hpq:(((dW n:Nat):Int)==0)=false:=by rw[beq_eq_false_iff_ne];exact hpz
 have KP0:=KP.o w (Below.refl _ _);have e1:(⟨dN.toArray⟩:ByteArray).data.toList=dN:=by simp
 have e2:(⟨#[]⟩:ByteArray).data.toList=([]:List UInt8):=by simp
 have c1:=im d n 0 dN (by omega);have c2:=im (d.ar n 0 dN).1 n 1 [] c1.2;have v1:(d.ar n 0 dN).2=0:=w1f.1;have v2:((d.ar n 0 dN).1.ar n 1 []).2=0:=w2f.1;have v3:((d.ar n 0 dN).1.ar n 1 []).1.eD.2=0:=sf.1;have KW1:=xh (λ(W:World) (hW:aG W L n d)=>jl hW 0 ⟨dN.toArray⟩ (by omega) (by omega));have KW2:=xh (λ(W:World) (hW:aG W L n (d.ar n 0 dN).1)=>jl hW 1 ⟨#[]⟩ (by omega) (by omega))
 have KS:=xh (λ(W:World) (hW:aG W L n ((d.ar n 0 dN).1.ar n 1 []).1)=>Gk hW (by omega) (by omega));rw[e1,v1]at KW1;rw[e2,v2]at KW2;rw[v3]at KS;have HFD:CG d n=((d.ar n 0 dN).1.ar n 1 []).1.eD.1:=rfl;have KR:=xh (show ∀w:World,Calls Tryz.prog 102 #[.agg #[.int .i64 1,.int .i64 0,.slice none 0 0]] w λe w'=>e=.returned (.tuple #[.string ⟨dN.toArray⟩,.int .i64 0])/\Below w.heap.size w w' from KR.o)
 have hfc:cL d n={d:=CG d n,m:=List.replicate (dW n) 0,table:=[],bM:=[],parts:=[],ep:=1,slot:=0,broken:=false}:=rfl;rw[hfc];clear hfc;generalize CG d n=dz at *;generalize ((d.ar n 0 dN).1.ar n 1 []).1.eD.1=dy at *;subst HFD;generalize ((d.ar n 0 dN).1.ar n 1 []).1=dx at *;generalize (d.ar n 0 dN).1=dw at *;generalize dN=rt at *;clear w1f w2f sf b1 b2 c1 c2 v1 v2 v3 e1 e2;generalize dW n=pn at *;unfold dp Fm.mp Rt.xQ at *
 have KP0:=xh KP0;clear h hpz;go_enter Tryz.func53,Tryz.ntmps53;go_wp2_with fail;refine KP0.o.mono ?_;rintro e w1 ⟨rfl,rfl⟩;go_wp2_with fail;refine(KP.o _ O1.o).mono ?_;rintro e w1 ⟨rfl,rfl⟩;go_wp2_with fail;refine(KN.o _).mono ?_;rintro e w2 ⟨mb,mg,rfl,mm,bK,h1,h2⟩;have B2:=xh (B1.o.below bK B1.o.lt);have O2:=xh (ao O1.o bK);have O3:=xh (Below.setCell O2.o (p:=⟨w.heap.size,1,none⟩) (ak _) (.pointer (some ⟨mb,0,none⟩)))
 have n1:w.heap.size≠mg:=by have:=h2;simp only[World.size_alloc]at this;omega
 have n2:w.heap.size≠mb:=by have:=h1;simp only[World.size_alloc]at this;omega
 have g1:w.heap.size<=mb:=by have:=h1;simp only[World.size_alloc]at this;omega
 have g2:w.heap.size<=mg:=by have:=h2;simp only[World.size_alloc]at this;omega
 have M3:=xh (mm.only (S:=[w.heap.size]) ((ag.refl _ w2).setCell (p:=⟨w.heap.size,1,none⟩) (by simp) (.pointer (some ⟨mb,0,none⟩))) (by simpa using n2.symm) (by simpa using n1.symm));have B3:=xh (B2.o.bu 1 (.pointer (some ⟨mb,0,none⟩)));have q0:=B2.o.ab (i:=1) rfl;have q1:=B2.o.frozen 1 (by simp);clear bK h1 h2 mm;go_wp2_with fail;generalize w2.setCell ⟨w.heap.size,1,none⟩ (.pointer (some ⟨mb,0,none⟩))=w3 at *;clear q0 q1;refine(KR.o _).mono ?_
 rintro e w4 ⟨rfl,fw⟩;have O4:=xh (ao O3.o fw);have M4:=xh (M3.o.below fw);have B4:=xh (B3.o.below fw B3.o.lt);have U4:=xh (ae (Below.refl w4.heap.size w4) (.cells #[.string ⟨rt.toArray⟩,.string ⟨#[]⟩] 9));have T4:=xh (aD.new w4 9 #[.string ⟨rt.toArray⟩,.string ⟨#[]⟩]);have nT:w4.heap.size∉L.fp:=λhg=>by have:=wC.o _ hg;have:=O4.o.size;omega
 have nT:=xh nT;have H5:=xh (HD.o.below (ao O4.o U4.o));have t0:=T4.o.ab (i:=0) rfl;clear fw;go_wp2_with fail;refine wp_loop_rounds 3 ?_;rw[rounds_succ];go_wp2_with fail;refine(KW1.o _ H5.o).mono ?_;rintro e w6 ⟨rfl,H6,O6⟩;have T6:=xh (T4.o.only O6 nT.o);have t1:=T6.o.ab (i:=1) rfl;have H6:=xh H6;have O6:=xh O6;clear t0;go_wp2_with fail;rw[rounds_succ];go_wp2_with fail;refine(KW2.o _ H6.o).mono ?_;rintro e w7 ⟨rfl,H7,O7⟩
 have H7:=xh H7;have O7:=xh O7;clear t1;go_wp2_with fail;rw[rounds_succ];go_wp2_with fail;refine(KS.o _ H7.o).mono ?_;rintro e w8 ⟨rfl,H8,O8⟩;have H8:=xh H8;have O8:=xh O8;go_wp2_with fail;go_ret2;have nb:∀g,w.heap.size<=g->g∉L.fp:=λg hg hm=>by have:=wC.o _ hm;omega
 have O5:=ao O4.o U4.o;have A5:ag L.fp w _:=ag.aj O5;have A8:=((A5.trans O6.o).trans O7.o).trans O8.o;have A58:=((O6.o).trans O7.o).trans O8.o;refine⟨⟨w.heap.size,L,mb,mg,.slice none 0 0,.slice none 0 0,.slice none 0 0⟩,rfl,by first|rfl|simp[sp],⟨?_,H8.o,?_,Sl.nil _ _,Sl.nil _ _,.inl (Sl.nil _ _),by simp[cq],by simp[cq],by simp[cq],by simp[cq],by simp[cq],by simp[cq],by simp⟩,A8,?_⟩
 .exact(((B4.o.below U4.o B4.o.lt).only A58 (nb _ (ak _))))
 .exact((M4.o.below U4.o).only A58 (nb _ g1) (nb _ g2))
 .intro g hg;simp only[X.fp,aC,aS]at hg
  rcases hg with rfl|rfl|rfl|((hg|hg)|hg)|hg
  .exact .inr (ak _)
  .exact .inr g1
  .exact .inr g2
  .exact .inl hg
  .simp[cq]at hg
  .simp[cq]at hg
  .simp[cq]at hg
theorem cy{e t:TypeId}{k:Nat}{v:Value}{b:Nat}{l:List Value}{cs:Array Value}(h:aQ w e k v n l)(B:aD w b t cs)(eG:t≠e):b∉ah v:=by
 rcases h.2 with⟨rfl,_⟩|⟨g,cap,rest,rfl,BB,_⟩
 .simp[ah]
 .simp only[ah,cg];exact B.mB BB eG
end Go.Proofs.YtmonobkginiajaaGreat.Sh
