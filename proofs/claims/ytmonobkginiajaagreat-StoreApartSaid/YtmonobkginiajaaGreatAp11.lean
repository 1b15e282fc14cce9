/- packed. -/
import Derived.Test.YtmonobkginiajaaGreatAp10
set_option linter.all false
set_option maxRecDepth 100000
set_option maxHeartbeats 8000000
namespace Go.Proofs.YtmonobkginiajaaGreat
open Go.Proofs.Tryz
namespace Sh
open Go.RowKit Pk Dk Pg
open Nd (E aH bt aV aZ dD bH bf cd bJ)
attribute [local go_sem ↓] Go.wp_at_zero Go.wp_at_succ
structure Wk(σ:Type) where
 q:QS
 seen:Nat
 s:σ
 more:Bool
 e:Int
section
variable{σ:Type}
def mh(fr:ByteArray)(leaf:Bool)(first i:Nat)(x:E):Bool:=decide (i<first) || (leaf && Op.bytesLess x.key.toList fr.toList)
def kX(til:ByteArray)(leaf:Bool)(i:Nat)(x:E):Bool:= !(til.toList==[]) && !Op.bytesLess x.key.toList til.toList && (leaf || decide (0<i))
def ij(rec:QS->Nat->σ->Int->Wk σ)(step:E->σ->σ×Bool)(fr til:ByteArray)(leaf:Bool)(first:Nat):Nat->List E->QS->Nat->σ->Wk σ
 |_,[],q,seen,s=>⟨q,seen,s,true,0⟩
 |i,x::l,q,seen,s=>
  if mh fr leaf first i x=true then ij rec step fr til leaf first (i+1) l q seen s
  else if kX til leaf i x=true then⟨q,seen,s,false,0⟩
  else if leaf=true then
   if(step x s).2=true then ij rec step fr til leaf first (i+1) l q seen (step x s).1
   else⟨q,seen,(step x s).1,false,0⟩
  else
   if(rec q seen s x.aU).more=true/\(rec q seen s x.aU).e=0 then ij rec step fr til leaf first (i+1) l (rec q seen s x.aU).q (rec q seen s x.aU).seen (rec q seen s x.aU).s
   else rec q seen s x.aU
def fK(step:E->σ->σ×Bool)(fr til:ByteArray):Nat->QS->Nat->σ->Int->Wk σ
 |0,q,seen,s,_=>⟨q,seen+1,s,false,14⟩
 |d+1,q,seen,s,p=>
  if 512<seen+1 then⟨q,seen+1,s,false,14⟩
  else if(q.bM p).2.2.2≠0 then⟨(q.bM p).1,seen+1,s,false,(q.bM p).2.2.2⟩
  else ij (fK step fr til d) step fr til (q.bM p).2.1 (if(q.bM p).2.1=true then 0 else bH (q.bM p).2.2.1 fr) 0 (q.bM p).2.2.1 (q.bM p).1 (seen+1) s
def QS.dY(q:QS)(step:E->σ->σ×Bool)(fr til:ByteArray)(s:σ):Wk σ:=fK step fr til 16 q 0 s 0
structure Vis(fn:Nat)(eo:Array Value)(step:E->σ->σ×Bool)(jC:σ->Nat)(Inv:World->σ->List Nat->Prop):Prop where
 call:∀(W:World) (s:σ) (G:List Nat) (x:E),Inv W s G->jC s<=100000->x.key.size<=32->Calls prog fn (#[x.agg]++eo) W λe w'=>e=.returned (.bool (step x s).2)/\∃G',Inv w' (step x s).1 G'/\ag G W w'/\∀g∈G',g∈G\/W.heap.size<=g
 po:∀(W w':World) (s:σ) (G S:List Nat),Inv W s G->ag S W w'->(∀g∈G,g∉S)->Inv w' s G
 lt:∀(W:World) (s:σ) (G:List Nat),Inv W s G->∀g∈G,g<W.heap.size
 ent:∀(args:Array Value) (W:World),Sem.run prog (callFunc fn args) W=Result.ok (.enter fn args) W
 one:∀(x:E) (s:σ),jC (step x s).1<=jC s+1
end
structure Ev where
 sB:Nat
 tB:Nat
 fB:Nat
 oB:Nat
 dB:Nat
 kB:Nat
def Ev.l(v:Ev):List Nat:=[v.sB,v.tB,v.fB,v.oB,v.dB,v.kB]
def Ev.eo(v:Ev):Array Value:= #[.pointer (some ⟨v.sB,0,none⟩),.pointer (some ⟨v.tB,0,none⟩),.pointer (some ⟨v.fB,0,none⟩),.pointer (some ⟨v.oB,0,none⟩),.pointer (some ⟨v.dB,0,none⟩),.pointer (some ⟨v.kB,0,none⟩)]
structure rB(w:World)(v:Ev)(tb:Nat)(fr til:ByteArray)(fn:Nat)(eo:Array Value)(seen:Nat):Prop where
 s:aE w v.sB 3 #[.int .i64 (seen:Nat)]
 t:aE w v.tB 35 #[tp tb]
 f:aE w v.fB 9 #[.string fr]
 o:aE w v.oB 9 #[.string til]
 d:aE w v.dB 112 #[.func (.func fn) #[] eo]
 k:aE w v.kB 191 #[.func (.func 109) #[] v.eo]
section
variable{w w':World}{v:Ev}{tb:Nat}{fr til:ByteArray}{fn:Nat}{eo:Array Value}{seen:Nat}{S:List Nat}
theorem rB.only(h:rB w v tb fr til fn eo seen)(o:ag S w w')(hd:∀g∈v.l,g∉S):rB w' v tb fr til fn eo seen:=
 ⟨h.s.only o (hd _ (by simp[Ev.l])),h.t.only o (hd _ (by simp[Ev.l])),h.f.only o (hd _ (by simp[Ev.l])),h.o.only o (hd _ (by simp[Ev.l])),h.d.only o (hd _ (by simp[Ev.l])),h.k.only o (hd _ (by simp[Ev.l]))⟩
theorem rB.below(h:rB w v tb fr til fn eo seen)(hb:Below w.heap.size w w'):rB w' v tb fr til fn eo seen:=h.only (S:=[]) (.ai hb) (by simp)
theorem rB.lt(h:rB w v tb fr til fn eo seen):∀g∈v.l,g<w.heap.size:=λg hg=>by
 simp only[Ev.l,ar,gC,or_false]at hg
 rcases hg with rfl|rfl|rfl|rfl|rfl|rfl
 .exact h.s.lt
 .exact h.t.lt
 .exact h.f.lt
 .exact h.o.lt
 .exact h.d.lt
 .exact h.k.lt
theorem rB.up(h:rB w v tb fr til fn eo seen):rB (w.setCell ⟨v.sB,0,none⟩ (.int .i64 ((seen+1:Nat):Int))) v tb fr til fn eo (seen+1):=
 ⟨h.s.bG 0 _,h.t.aU (λe=>h.s.lI h.t (by decide) e.symm) _,h.f.aU (λe=>h.s.lI h.f (by decide) e.symm) _,h.o.aU (λe=>h.s.lI h.o (by decide) e.symm) _,h.d.aU (λe=>h.s.lI h.d (by decide) e.symm) _,h.k.aU (λe=>h.s.lI h.k (by decide) e.symm) _⟩
end
def WP{σ:Type}(w w':World)(v:Ev)(tb:Nat)(I:Ix)(F G:List Nat)(n K:Nat)(fr til:ByteArray)(fn:Nat)(eo:Array Value)(jC:σ->Nat)(Inv:World->σ->List Nat->Prop)(R:Wk σ):Prop:=
 ∃G',TQ w' tb I F R.q n (K+R.seen)/\rB w' v tb fr til fn eo R.seen/\Inv w' R.s G'/\ag (v.sB::(F++G)) w w'/\(∀g∈G',g∈G\/w.heap.size<=g)/\jC R.s<=57*R.seen/\R.seen<=513/\(R.e=0->R.seen<=512)
structure LW{σ:Type}(w wr:World)(v:Ev)(tb:Nat)(I:Ix)(F G:List Nat)(n K:Nat)(fr til:ByteArray)(fn:Nat)(eo:Array Value)(jC:σ->Nat)(Inv:World->σ->List Nat->Prop)(q:QS)(sn bd:Nat)(s:σ)(Gi:List Nat)(leaf:Bool)(A:Option Addr)(c Ct:Nat)(l:List E):Prop where
 t:TQ wr tb I F q n (K+sn)
 e:rB wr v tb fr til fn eo sn
 i:Inv wr s Gi
 o:ag (v.sB::(F++G)) w wr
 g:∀g∈Gi,g∈G\/w.heap.size<=g
 m:jC s<=bd
 s:aK wr 111 3 (.slice A l.length c) l.length (aH l)
 b:aE wr Ct 118 #[.bool leaf,.slice A l.length c]
 d:∀g∈tb::(v.l++(F++Ct::ah (.slice A l.length c))),g∉Gi
 x:∀g∈Ct::ah (.slice A l.length c),g∉F/\g≠v.sB/\w.heap.size<=g
 y:∀g∈v.l,g∉F/\g≠tb
section
variable{σ:Type}{w wr w':World}{v:Ev}{tb:Nat}{I:Ix}{F G:List Nat}{n K:Nat}{fr til:ByteArray}{fn:Nat}{eo:Array Value}{jC:σ->Nat}{Inv:World->σ->List Nat->Prop}{q:QS}{sn bd:Nat}{s:σ}{Gi:List Nat}{leaf:Bool}{A:Option Addr}{c Ct:Nat}{l:List E}{step:E->σ->σ×Bool}
theorem LW.lt(h:LW w wr v tb I F G n K fr til fn eo jC Inv q sn bd s Gi leaf A c Ct l):∀g∈tb::(v.l++(F++Ct::ah (.slice A l.length c))),g<wr.heap.size:=λg hg=>by
 simp only[ar,az]at hg
 rcases hg with e|hg|hg|e|hg
 .exact h.t.lt g (by simp[e])
 .exact h.e.lt g hg
 .exact h.t.lt g (by simp[hg])
 .rw[e];exact h.b.lt
 .exact h.s.lt g hg
theorem LW.below(V:Vis fn eo step jC Inv)(h:LW w wr v tb I F G n K fr til fn eo jC Inv q sn bd s Gi leaf A c Ct l)(hb:Below wr.heap.size wr w'):LW w w' v tb I F G n K fr til fn eo jC Inv q sn bd s Gi leaf A c Ct l:=
 ⟨h.t.below hb,h.e.below hb,V.po _ _ _ _ [] h.i (.ai hb) (by simp),h.o.trans (.ai hb),h.g,h.m,h.s.below hb,h.b.below hb h.b.lt,h.d,h.x,h.y⟩
theorem LW.vis{G':List Nat}{s':σ}{bd':Nat}(h:LW w wr v tb I F G n K fr til fn eo jC Inv q sn bd s Gi leaf A c Ct l)(hI:Inv w' s' G')(o:ag Gi wr w')(f:∀g∈G',g∈Gi\/wr.heap.size<=g)(hm:jC s'<=bd'):LW w w' v tb I F G n K fr til fn eo jC Inv q sn bd' s' G' leaf A c Ct l:=
 ⟨h.t.only o (λg hg=>h.d g (by simp only[ar,az]at hg ⊢;rcases hg with e|e<;>simp[e])),h.e.only o (λg hg=>h.d g (by simp[hg])),hI,h.o.aN o (λg hg dV=>(h.g g hg).elim (λe=>by simp[e]) (λe=>by omega)),λg hg=>(f g hg).elim (h.g g) (λe=> .inr (by have:=h.o.size;omega)),hm,
  h.s.only o (λg hg=>h.d g (by simp[hg])),h.b.only o (h.d _ (by simp)),λg hg hG=>(f g hG).elim (h.d g hg) (λe=>by have:=h.lt g hg;omega),h.x,h.y⟩
theorem LW.deep{R:Wk σ}(h:LW w wr v tb I F G n K fr til fn eo jC Inv q sn bd s Gi leaf A c Ct l)(hw:WP wr w' v tb I F Gi n K fr til fn eo jC Inv R):∃G',LW w w' v tb I F G n K fr til fn eo jC Inv R.q R.seen (57*R.seen) R.s G' leaf A c Ct l/\R.seen<=513/\(R.e=0->R.seen<=512):=by
 obtain⟨G',a1,a2,a3,a4,a5,a6,a7,a8⟩:=hw;have ne:∀g∈Ct::ah (.slice A l.length c),g∉v.sB::(F++Gi):=λg hg hm=>by
  rcases ar.1 hm with e|hm
  .exact(h.x g hg).2.1 e
  .rcases az.1 hm with hm|hm
   .exact(h.x g hg).1 hm
   .exact h.d g (by simp only[ar,az]at hg ⊢;rcases hg with e|e<;>simp[e]) hm
 refine⟨G',⟨a1,a2,a3,h.o.aN a4 (λg hg dV=>?_),λg hg=>(a5 g hg).elim (h.g g) (λe=> .inr (by have:=h.o.size;omega)),a6,h.s.only a4 (λg hg=>ne g (by simp[hg])),h.b.only a4 (ne _ (by simp)),λg hg hG=>(a5 g hG).elim (h.d g hg) (λe=>by have:=h.lt g hg;omega),h.x,h.y⟩,a7,a8⟩
 rcases ar.1 hg with e|hg
 .simp[e]
 .rcases az.1 hg with hg|hg
  .simp[hg]
  .exact(h.g g hg).elim (λe=>by simp[e]) (λe=>by omega)
theorem LW.wp(h:LW w wr v tb I F G n K fr til fn eo jC Inv q sn bd s Gi leaf A c Ct l)(hb:bd<=57*sn)(h1:sn<=513)(more:Bool)(er:Int)(h2:er=0->sn<=512):WP w wr v tb I F G n K fr til fn eo jC Inv ⟨q,sn,s,more,er⟩:=
 ⟨Gi,h.t,h.e,h.i,h.o,h.g,ay h.m hb,h1,h2⟩
end
end Sh
namespace Sh
open Go.RowKit Pk Dk Pg
variable{p j:Int}{a:St}
abbrev Vw:=Int->List UInt8×Int
def jq(v:Vw)(p:Int)(b:List UInt8):Vw:=λj=>if j=p then(b,0)else v j
def EF(v:Vw)(p:Int):Vw:=λj=>if j=p then([],3)else v j
theorem Cu(v:Vw)(p:Int)(b:List UInt8):jq v p b p=(b,0):=if_pos rfl
theorem lE(v:Vw)(b:List UInt8)(h:j≠p):jq v p b j=v j:=if_neg h
theorem Cv(v:Vw)(p:Int):EF v p p=([],3):=if_pos rfl
theorem EG(v:Vw)(h:j≠p):EF v p j=v j:=if_neg h
def QS.jC(q:QS):Nat×List (Option (List UInt8))×Nat:=(q.a.now.length,q.a.cG,q.a.many)
theorem Oy(a:St)(l:Int)(p:List UInt8):(a.aG l p).1.now.length=a.now.length/\(a.aG l p).1.cG=a.cG/\(a.aG l p).1.many=a.many:=by
 unfold St.aG
 split
 .exact⟨rfl,rfl,rfl⟩
 .split
  .exact⟨rfl,rfl,rfl⟩
  .split
   .exact⟨rfl,rfl,rfl⟩
   .exact⟨by show(a.now.set _ _).length=_;rw[bU],rfl,rfl⟩
theorem Oz{l:Int}{p:List UInt8}(h:(a.aG l p).2=11):a.free=0:=by
 unfold St.aG at h
 split at h
 .exact absurd h (by simp)
 .split at h
  .exact absurd h (by simp)
  .split at h
   .rename_i h1;exact h1.2
   .exact absurd h (by simp)
theorem GN(q:QS)(k:Nat):(q.cA k).1.jC=q.jC:=by
 unfold QS.cA
 split
 .obtain⟨a,b,c⟩:=Oy q.a (j6 q.l k).aw (j6 q.l k).gh.data.toList
  split<;>exact kG a (kG b c)
 .rfl
theorem Tz{q:QS}{k:Nat}(h:(q.cA k).2=11):q.a.free=0:=by
 unfold QS.cA at h
 split at h
 .split at h
  .exact absurd h (by simp)
  .exact Oz h
 .exact absurd h (by simp)
theorem sC(q:QS):q.aL.1.jC=q.jC:=by
 unfold QS.jC;rw[(iY q).1]
theorem tY(q:QS)(p:Int):(q.bg p).1.jC=q.jC:=by
 unfold QS.bg
 split
 .rfl
 .split
  .rfl
  .split
   .exact sC q
   .split
    .rw[GN];exact sC q
    .exact(GN _ _).trans (sC q)
theorem GO{q:QS}(h:(q.bg p).2.2=11):q.a.free=0:=by
 unfold QS.bg at h
 split at h
 .exact absurd h (by simp)
 .split at h
  .rename_i h1;have h:(q.a.aR p).2=11:=h;unfold St.aR at h
   split at h
   .exact absurd h (by simp)
   .exact absurd h (by simp)
  .split at h
   .exact absurd h (by simp)
   .split at h
    .have:=Tz h;rw[(iY q).1]at this;exact this
    .exact absurd h (by simp)
theorem LZ(q:QS)(p:Int):(q.iq p).1.jC=q.jC:=by
 unfold QS.iq
 split<;>rfl
theorem TB(q:QS)(p:Int)(b:ByteArray):(q.fD p b).1.jC=q.jC:=by
 unfold QS.fD
 split
 .rfl
 .split<;>rfl
theorem get_mes(q:QS)(p:Int):(q.dF p).1.jC=q.jC:=by
 unfold QS.dF
 split
 .exact tY q p
 .rw[LZ];exact tY q p
theorem get_f11{q:QS}(h:(q.dF p).2.2=11):q.a.free=0:=by
 unfold QS.dF at h
 split at h
 .exact GO h
 .exact absurd h (by simp)
theorem L0(q:QS)(p:Int)(b:ByteArray):(q.dv p b).1.jC=q.jC:=by
 unfold QS.dv
 split
 .rfl
 .split
  .exact tY q p
  .rw[LZ,TB];exact tY q p
theorem put_f11{q:QS}{b:ByteArray}(h:(q.dv p b).2=11):q.a.free=0:=by
 unfold QS.dv at h
 split at h
 .exact absurd h (by simp)
 .split at h
  .exact GO h
  .exact absurd h (by simp)
theorem GQ(q:QS)(p:Int):(q.aS p).1.jC=q.jC:=by
 have h:(q.a.aS p).1.now.length=q.a.now.length/\(q.a.aS p).1.cG=q.a.cG/\(q.a.aS p).1.many=q.a.many:=by
  unfold St.aS
  split
  .exact⟨by show(q.a.now.set _ _).length=_;rw[bU],rfl,rfl⟩
  .exact⟨rfl,rfl,rfl⟩
 obtain⟨a,b,c⟩:=h;unfold QS.aS
 split
 .rfl
 .split
  .exact kG a (kG b c)
  .split<;>exact kG a (kG b c)
theorem new_mes(q:QS)(p:List UInt8):(q.bP p).1.a.now.length<=q.a.now.length+1/\(q.bP p).1.a.cG=q.a.cG/\(q.bP p).1.a.many=q.a.many:=by
 show(q.a.bP p).1.now.length<=_/\(q.a.bP p).1.cG=_/\(q.a.bP p).1.many=_;unfold St.bP
 split
 .exact⟨Nat.le_succ _,rfl,rfl⟩
 .split
  .exact⟨Nat.le_succ _,rfl,rfl⟩
  .refine⟨?_,rfl,rfl⟩;show(oE q.a.now _ _).length<=_;unfold oE
   split
   .simp
   .rw[bU];omega
theorem TC(a:St):a.slot<=a.now.length:=by unfold St.slot;exact nX
theorem new_f11{q:QS}{p:List UInt8}(h:(q.bP p).2.2=11):512<=q.a.now.length\/q.a.free=0:=by
 have h:(q.a.bP p).2.2=11:=h;unfold St.bP at h
 split at h
 .exact absurd h (by simp)
 .split at h
  .rename_i h1;exact h1.imp (λh=>ay h (TC q.a)) id
  .exact absurd h (by simp)
theorem TD{u:Nat}(h:a.now.length+a.kept<=u)(hu:u<a.many):a.free≠0:=by
 have:a.fresh<=a.now.length:=Ir;unfold St.free;omega
structure Rd(q:QS)(v o:Vw)(u m:Nat):Prop where
 w:∃n K,Wp q n K
 v:∀j,q.vw j=v j
 o:∀j,q.ov j=o j
 u:q.a.now.length+q.a.kept<=u
 m:m<=q.a.many
section
variable{q:QS}{v o:Vw}{u m:Nat}
theorem TE{q q':QS}(h:q'.jC=q.jC):q'.a.now.length+q'.a.kept=q.a.now.length+q.a.kept/\q'.a.many=q.a.many/\q'.a.cG=q.a.cG:=by
 have h1:q'.a.now.length=q.a.now.length:=congrArg Prod.fst h;have h2:q'.a.cG=q.a.cG:=congrArg (λx=>x.2.1) h;have h3:q'.a.many=q.a.many:=congrArg (λx=>x.2.2) h;refine⟨?_,h3,h2⟩;unfold St.kept;rw[h1,h2]
theorem Rd.step(h:Rd q v o u m){q':QS}{v':Int->List UInt8×Int}(hm:q'.jC=q.jC)(hw:∃n K,Wp q' n K)(hv:∀j,q'.vw j=v' j):Rd q' v' o u m:=by
 obtain⟨a,b,c⟩:=TE hm;exact⟨hw,hv,λj=>(R4 c j).trans (h.o j),by rw[a];exact h.u,by rw[b];exact h.m⟩
theorem Rd.free(h:Rd q v o u m)(h0:q.a.free=0):m<=u:=by
 rcases eT u m with h1|h1
 .exact absurd h0 (TD h.u (tf h1 h.m))
 .exact h1
theorem Rd.get(h:Rd q v o u m)(p:Int):Rd (q.dF p).1 v o u m/\
  (((v p).2=0/\(q.dF p).2=(⟨(v p).1.toArray⟩,0))\/(v p=([],3)/\(q.dF p).2=(⟨#[]⟩,3))\/((q.dF p).2=(⟨#[]⟩,11)/\m<=u)):=by
 obtain⟨n,K,w⟩:=h.w;obtain⟨a,b⟩:=w.get p;refine⟨h.step (get_mes q p) ⟨n,_,a.w⟩ (λj=>(a.v j).trans (h.v j)),?_⟩;rw[h.v]at b
 rcases b with b|b|⟨b,c⟩
 .exact .inl b
 .exact .inr (.inl b)
 .exact .inr (.inr ⟨c,h.free (get_f11 (p:=p) (by rw[c]))⟩)
theorem Rd.put(h:Rd q v o u m)(p:Int)(b:ByteArray)(hb:b.size=232)(h0:(v p).2=0):
  ((q.dv p b).2=0/\Rd (q.dv p b).1 (jq v p b.data.toList) o u m)\/((q.dv p b).2=11/\Rd (q.dv p b).1 v o u m/\m<=u):=by
 obtain⟨n,K,w⟩:=h.w;obtain⟨a,c⟩:=w.put p b (by omega)
 rcases c with⟨c1,c2,c3⟩|⟨c1,c2,c3⟩|⟨c1,c2,c3⟩
 .refine .inl ⟨c2,h.step (L0 q p b) ⟨n,_,a.w⟩ (λj=>?_)⟩;rw[c3,tI hb];unfold jq
  split
  .rfl
  .exact h.v j
 .rw[h.v]at c1;rw[c1]at h0;exact absurd h0 (by decide)
 .exact .inr ⟨c2,h.step (L0 q p b) ⟨n,_,a.w⟩ (λj=>(c3 j).trans (h.v j)),h.free (put_f11 c2)⟩
theorem Rd.new(h:Rd q v o u m)(p:ByteArray)(hb:p.size<=232):
  (∃l:Nat,(q.bP p.data.toList).2=(((l:Nat):Int),0)/\l<=511/\v (l:Nat)=([],3)/\Rd (q.bP p.data.toList).1 (jq v (l:Nat) (eI p.data.toList 232)) o (u+1) m)\/
  ((q.bP p.data.toList).2=(0,11)/\Rd (q.bP p.data.toList).1 v o (u+1) m/\(m<=u\/512<=u)):=by
 obtain⟨n,K,w⟩:=h.w;obtain⟨a,c⟩:=w.new p hb;obtain⟨m1,m2,m3⟩:=new_mes q p.data.toList;have hk:(q.bP p.data.toList).1.a.now.length+(q.bP p.data.toList).1.a.kept<=u+1:=by
  have:=h.u;have hk:(q.bP p.data.toList).1.a.kept=q.a.kept:=by unfold St.kept;rw[m2]
  omega
 rcases c with⟨l,c1,c2,c3,c4⟩|⟨c1,c2⟩
 .refine .inl ⟨l,c1,c2,by rw[<-h.v];exact c3,⟨n,_,a.w⟩,λj=>?_,λj=>(R4 m2 j).trans (h.o j),hk,by rw[m3];exact h.m⟩;rw[c4];unfold jq
  split
  .rfl
  .exact h.v j
 .refine .inr ⟨c1,⟨⟨n,_,a.w⟩,λj=>(c2 j).trans (h.v j),λj=>(R4 m2 j).trans (h.o j),hk,by rw[m3];exact h.m⟩,?_⟩
  rcases new_f11 (q:=q) (p:=p.data.toList) (by rw[c1])with h1|h1
  .have:=h.u;right;omega
  .exact .inl (h.free h1)
theorem Rd.drop(h:Rd q v o u m)(p:Int)(h0:(v p).2=0):(q.aS p).2=0/\Rd (q.aS p).1 (EF v p) o u m:=by
 obtain⟨n,K,w⟩:=h.w;obtain⟨a,c⟩:=w.drop p
 rcases c with⟨c1,c2,c3⟩|⟨c1,c2,c3⟩
 .refine⟨c2,h.step (GQ q p) ⟨n,_,a.w⟩ (λj=>?_)⟩;rw[c3];unfold EF
  split
  .rfl
  .exact h.v j
 .rw[h.v]at c1;rw[c1]at h0;exact absurd h0 (by simp)
theorem Rd.lt(h:Rd q v o u m)(h0:(v j).2=0):0<=j/\j<512:=by
 obtain⟨n,K,w⟩:=h.w;exact w.vw_lt (by rw[h.v];exact h0)
theorem Rd.err(h:Rd q v o u m)(j:Int):(v j).2=0\/v j=([],3):=by
 rw[<-h.v];exact En q j
theorem Rd.le(h:Rd q v o u m){u':Nat}(hu:u<=u'):Rd q v o u' m:=⟨h.w,h.v,h.o,ay h.u hu,h.m⟩
end
open Nd (E aV aZ dD bH bf cd bJ an)
variable{leaf:Bool}{l:List E}{v:Vw}{p:Int}
def ik(v:Vw)(p:Int):Bool×List E×Int:=
 if(v p).2≠0 then(false,[],xg (v p).2)else((aV (v p).1).1,(aV (v p).1).2.1,xg (aV (v p).1).2.2)
theorem nJ(leaf:Bool)(l:List E):(dD (blank leaf l) leaf/\an (blank leaf l)<=223/\(cf leaf l).2=0/\(cf leaf l).1.length=232/\aV (cf leaf l).1=(leaf,blank leaf l,0))\/
  (dD (blank leaf l) leaf/\223<an (blank leaf l)/\cf leaf l=([],11))\/(¬dD (blank leaf l) leaf/\cf leaf l=([],2)):=by
 unfold cf
 by_cases hm:dD (blank leaf l) leaf
 .have hb:=Nd.zo leaf (blank leaf l)
  by_cases hr:an (blank leaf l)<=223
  .left;have h0:(aZ leaf (blank leaf l)).2=0:=by
    unfold aZ;rw[if_pos ((Nd.kV _ _).2 hm),if_pos (by rw[hb];omega)]
   refine⟨hm,hr,h0,?_,Nd.Gz h0⟩;unfold aZ;rw[if_pos ((Nd.kV _ _).2 hm),if_pos (by rw[hb];omega)];exact(Nd.vh _ (by rw[hb];omega)).1.len
  .right;left;refine⟨hm,by omega,?_⟩;unfold aZ;rw[if_pos ((Nd.kV _ _).2 hm),if_neg (by rw[hb];omega)]
 .right;right;refine⟨hm,?_⟩;unfold aZ;rw[if_neg (λh=>hm ((Nd.kV _ _).1 h))]
theorem zI(h:(cf leaf l).2=0):dD (blank leaf l) leaf/\an (blank leaf l)<=223/\(cf leaf l).1.length=232/\aV (cf leaf l).1=(leaf,blank leaf l,0):=by
 rcases nJ leaf l with⟨a,b,c,d,e⟩|⟨a,b,c⟩|⟨a,c⟩
 .exact⟨a,b,d,e⟩
 .rw[c]at h;exact absurd h (by decide)
 .rw[c]at h;exact absurd h (by decide)
theorem fU(h:(cf leaf l).2=0)(p j:Int):ik (jq v p (cf leaf l).1) j=if j=p then(leaf,blank leaf l,0)else ik v j:=by
 unfold ik jq
 by_cases e:j=p
 .rw[if_pos e,if_pos e,(zI h).2.2.2];rfl
 .rw[if_neg e,if_neg e]
theorem vy{v':Vw}(h:v' p=v p):ik v' p=ik v p:=by
 unfold ik;rw[h]
theorem mi(h:(ik v p).2.2=0):(v p).2=0:=by
 unfold ik at h
 split at h
 .rename_i h1;exact absurd (qZ.1 h) h1
 .rename_i h1;omega
theorem oM(h:(ik v p).2.2=0):dD (ik v p).2.1 (ik v p).1:=by
 have h0:=mi h;unfold ik at h ⊢;rw[if_neg (by omega)]at h ⊢;have h1:=qZ.1 h;exact Nd.wy h1
section
variable{q:QS}{v o:Vw}{u m:Nat}
theorem Rd.read(h:Rd q v o u m)(p:Int):Rd (q.bM p).1 v o u m/\((q.bM p).2=ik v p\/((q.bM p).2=(false,[],11)/\m<=u)):=by
 obtain⟨a,b⟩:=h.get p;unfold QS.bM ik
 rcases b with⟨b1,b2⟩|⟨b1,b2⟩|⟨b1,b2⟩
 .rw[b2,if_neg (by simp),if_neg (by omega)];exact⟨a,.inl rfl⟩
 .rw[b2,b1,if_pos (by simp),if_pos (by simp)];exact⟨a,.inl rfl⟩
 .rw[b1,if_pos (by simp)];exact⟨a,.inr ⟨rfl,b2⟩⟩
theorem Rd.write(h:Rd q v o u m)(h0:(v p).2=0)(hl:(cf leaf l).2=0):
  ((q.cK p leaf l).2=0/\Rd (q.cK p leaf l).1 (jq v p (cf leaf l).1) o u m)\/((q.cK p leaf l).2=11/\Rd (q.cK p leaf l).1 v o u m/\m<=u):=by
 unfold QS.cK;rw[if_neg (by omega)];exact h.put p ⟨(cf leaf l).1.toArray⟩ (by show(cf leaf l).1.toArray.size=_;rw[jM];exact(zI hl).2.2.1) h0
theorem OE(q:QS)(p:Int)(hl:(cf leaf l).2≠0):q.cK p leaf l=(q,(cf leaf l).2):=by
 unfold QS.cK;rw[if_pos hl]
theorem Rd.make(h:Rd q v o u m)(hl:(cf leaf l).2=0):
  (∃k:Nat,(q.eg leaf l).2=(((k:Nat):Int),0)/\k<=511/\v (k:Nat)=([],3)/\Rd (q.eg leaf l).1 (jq v (k:Nat) (cf leaf l).1) o (u+1) m)\/
  ((q.eg leaf l).2=(0,11)/\Rd (q.eg leaf l).1 v o (u+1) m/\(m<=u\/512<=u)):=by
 unfold QS.eg;rw[if_neg (by omega)];have hn:=h.new ⟨(cf leaf l).1.toArray⟩ (by show(cf leaf l).1.toArray.size<=_;rw[jM,(zI hl).2.2.1];exact aj _);have e:eI (cf leaf l).1 232=(cf leaf l).1:=by
  have:=tI (b:=⟨(cf leaf l).1.toArray⟩) (by show(cf leaf l).1.toArray.size=_;rw[jM];exact(zI hl).2.2.1);exact this
 have hd:(⟨(cf leaf l).1.toArray⟩:ByteArray).data.toList=(cf leaf l).1:=rfl;rw[hd,e]at hn;exact hn
end
open Nd (E aV aZ dD bH bf cd bJ an dg)
variable{a b c:ByteArray}{v v':Vw}{h:Nat}{l:List E}{leaf:Bool}{p:Int}{y:Step}
theorem zJ{α β:Type}{f g:α->List β}:∀{l:List α},(∀a∈l,f a=g a)->l.flatMap f=l.flatMap g
 |[],_=>rfl
 |a::l,h=>by rw[gS,gS,h a (by simp),zJ λx hx=>h x (by simp[hx])]
def kc(a b:ByteArray):Int:=Nd.cb a.data.toList b.data.toList
abbrev eL(a b:ByteArray):Prop:=kc a b<0
abbrev nc(a b:ByteArray):Prop:=kc a b<=0
theorem L1 :kc a b=0↔a=b:=by
 unfold kc;rw[Nd.SJ];exact⟨λh=>iS (nh.1 h),λh=>by rw[h]⟩
theorem Kd(a b:ByteArray):kc b a= -kc a b:=Nd.Ex _ _
theorem ev(h:eL a b)(k:eL b c):eL a c:=Nd.pV _ _ _ h k
theorem sD(h:eL a b):nc a b:=Int.le_of_lt h
theorem nK(h:nc a b):eL a b\/a=b:=by
 rcases Int.lt_or_eq_of_le h with h|h
 .exact .inl h
 .exact .inr (L1.1 h)
theorem fV(h:eL a b)(k:nc b c):eL a c:=by
 rcases nK k with k|rfl
 .exact ev h k
 .exact h
theorem iN(h:nc a b)(k:eL b c):eL a c:=by
 rcases nK h with h|rfl
 .exact ev h k
 .exact k
theorem nL(h:nc a b)(k:nc b c):nc a c:=by
 rcases nK h with h|rfl
 .exact sD (fV h k)
 .exact k
theorem L5(a:ByteArray):nc a a:=Int.le_of_eq (L1.2 rfl)
theorem fI(h:eL a a):False:=by
 have:=L1.2 (rfl:a=a);omega
theorem re(h:eL a b)(k:nc b a):False:=fI (fV h k)
theorem km(h:¬eL a b):nc b a:=by
 have:=Kd a b;omega
theorem rf(a:ByteArray):nc ⟨#[]⟩ a:=by
 show Nd.cb [] a.data.toList<=0
 cases a.data.toList<;>simp[Nd.cb,Lib.compareBytes]
abbrev NT:=Nat×Int×List E
def aI(v:Vw):Nat->Int->List NT
 |0,p=>[(0,p,(ik v p).2.1)]
 |h+1,p=>(h+1,p,(ik v p).2.1)::(ik v p).2.1.flatMap λe=>aI v h e.aU
def bl(v:Vw)(h:Nat)(l:List E):List NT:=l.flatMap λe=>aI v h e.aU
def bV(ns:List NT):List E:=ns.flatMap λn=>if n.1=0 then n.2.2 else []
def bw(ns:List NT):List Int:=ns.map λn=>n.2.1
def fZ(v:Vw)(h:Nat)(p:Int):List E:=bV (aI v h p)
@[simp] theorem entsT_nil:bV []=[]:=rfl
@[simp] theorem dK(a b:List NT):bV (a++b)=bV a++bV b:=by simp[bV]
theorem sE(n:NT)(a:List NT):bV (n::a)=(if n.1=0 then n.2.2 else [])++bV a:=rfl
@[simp] theorem Ke(p:Int)(l:List E)(a:List NT):bV ((0,p,l)::a)=l++bV a:=rfl
@[simp] theorem kn(h:Nat)(p:Int)(l:List E)(a:List NT):bV ((h+1,p,l)::a)=bV a:=by rw[sE];simp
@[simp] theorem pgsT_nil:bw []=[]:=rfl
@[simp] theorem cN(a b:List NT):bw (a++b)=bw a++bw b:=by simp[bw]
@[simp] theorem cO(n:NT)(a:List NT):bw (n::a)=n.2.1::bw a:=rfl
@[simp] theorem OG(v:Vw)(h:Nat):bl v h []=[]:=rfl
@[simp] theorem fF(v:Vw)(h:Nat)(e:E)(l:List E):bl v h (e::l)=aI v h e.aU++bl v h l:=rfl
@[simp] theorem gq(v:Vw)(h:Nat)(a b:List E):bl v h (a++b)=bl v h a++bl v h b:=by simp[bl]
theorem dm{x:E}:x∈bV (bl v h l)↔ ∃e∈l,x∈fZ v h e.aU:=by
 induction l with
 |nil=>simp
 |cons e l ih=>simp[ih,fZ]
structure sF(C:Int->Prop)(en:Int->List E)(l:List E):Prop where
 ne:l≠[]
 c:∀e∈l,C e.aU/\en e.aU≠[]
 lo:l.Pairwise λc e=> ∀x∈en c.aU,eL x.key e.key
 hi:∀e∈l.tail,∀x∈en e.aU,nc e.key x.key
def lT(v:Vw):Nat->Int->Prop
 |0,p=>ik v p=(true,(ik v p).2.1,0)/\an (ik v p).2.1<=223
 |h+1,p=>ik v p=(false,(ik v p).2.1,0)/\an (ik v p).2.1<=223/\blank false (ik v p).2.1=(ik v p).2.1/\sF (lT v h) (fZ v h) (ik v p).2.1
def fO(v:Vw)(h:Nat)(l:List E):Prop:=(∀e∈l,dg e (decide (h=0)))/\match h with
 |0=>l.Pairwise λc e=>eL c.key e.key
 |h+1=>sF (lT v h) (fZ v h) l
def cr(v:Vw)(h:Nat)(l:List E):List NT:=match h with
 |0=>[]
 |h+1=>bl v h l
def gf(v:Vw)(h:Nat)(l:List E):List E:=match h with
 |0=>l
 |h+1=>bV (bl v h l)
theorem rh(v:Vw)(h:Nat)(p:Int):aI v h p=(h,p,(ik v p).2.1)::cr v h (ik v p).2.1:=by cases h<;>rfl
theorem EH(v:Vw)(h:Nat)(p:Int):fZ v h p=gf v h (ik v p).2.1:=by
 cases h with
 |zero=>simp[fZ,aI,gf]
 |succ h=>exact kn _ _ _ _
theorem lU(h:dD l leaf):∀e∈l,dg e leaf:=λe he=>by
 obtain⟨i,hi,rfl⟩:=pB he;exact(h i hi _ (aT hi)).1
theorem GR(h:dD l leaf):l.Pairwise λc e=>eL c.key e.key:=by
 rw[sW];intro i j hi hj hij;exact Nd.J3 h i (j-i-1) (aT hi) (by rw[show i+1+(j-i-1)=j by omega];exact aT hj)
theorem Kf(h:∀e∈l,dg e leaf)(hp:l.Pairwise λc e=>eL c.key e.key):dD l leaf:=by
 intro i hi e he;refine⟨h e (aA he),λh0 p hpe=>?_⟩;rw[sW]at hp;have h1:=hp (i-1) i (by omega) hi (by omega);rw[aT (by omega)]at he hpe;injection he with he
 injection hpe with hpe
 rw[he,hpe]at h1;rw[Nd.SO,decide_eq_false_iff_not];have h2:=Kd p.key e.key;have h1:kc p.key e.key<0:=h1;show ¬kc e.key p.key<=0;omega
theorem pair_ne{C:Int->Prop}{en:Int->List E}(h:sF C en l):l.tail.Pairwise λc e=>eL c.key e.key:=by
 obtain⟨ne,c,lo,hi⟩:=h
 cases l with
 |nil=>exact List.Pairwise.nil
 |cons e l=>
  rw[jN]at hi ⊢;rw[dJ]at lo;refine List.Pairwise.imp_of_mem ?_ lo.2;intro a b ha hb hab;obtain⟨x,hx⟩:=uq _ (c a (bz _ ha)).2;exact iN (hi a ha x hx) (hab x hx)
theorem in_may{C:Int->Prop}{en:Int->List E}(h:sF C en l)(hr:∀e∈l,dg e false):dD (blank false l) false:=by
 have hp:=pair_ne h;obtain⟨ne,c,lo,hi⟩:=h
 cases l with
 |nil=>exact absurd rfl ne
 |cons e l=>
  have hb:blank false (e::l)={e with key:=⟨#[]⟩}::l:=rfl;rw[hb];refine Kf (λx hx=>?_) ?_
  .rcases ar.1 hx with rfl|hx
   .obtain⟨a,b,cc⟩:=hr e (gy ..);exact⟨bm _,b,cc⟩
   .exact hr x (bz _ hx)
  .rw[dJ]at lo ⊢;refine⟨λx hx=>?_,hp⟩;obtain⟨y,hy⟩:=uq _ (c e (gy ..)).2;exact iN (rf y.key) (lo.1 x hx y hy)
theorem TF{C:Int->Prop}{en:Int->List E} :sF C en (blank false l)↔sF C en l:=by
 cases l with
 |nil=>exact Iff.rfl
 |cons e l=>
  have hb:blank false (e::l)={e with key:=⟨#[]⟩}::l:=rfl;rw[hb]
  constructor
  .rintro⟨ne,c,lo,hi⟩;refine⟨by simp,λx hx=>?_,?_,hi⟩
   .rcases ar.1 hx with rfl|hx
    .exact c {x with key:=⟨#[]⟩} (gy ..)
    .exact c x (bz _ hx)
   .rw[dJ]at lo ⊢;exact lo
  .rintro⟨ne,c,lo,hi⟩;refine⟨by simp,λx hx=>?_,?_,hi⟩
   .rcases ar.1 hx with rfl|hx
    .exact c e (gy ..)
    .exact c x (bz _ hx)
   .rw[dJ]at lo ⊢;exact lo
theorem zK(v:Vw)(h:Nat)(leaf:Bool)(l:List E):bl v h (blank leaf l)=bl v h l:=by
 cases leaf<;>cases l<;>rfl
theorem ko(l:List E):blank true l=l:=by cases l<;>rfl
theorem nM(leaf:Bool):blank leaf []=[]:=by cases leaf<;>rfl
theorem dk(leaf:Bool)(l:List E):an (blank leaf l)<=an l:=by
 cases leaf
 .cases l with
  |nil=>exact aj _
  |cons e l=>show an ({e with key:=⟨#[]⟩}::l)<=_;unfold an;simp;exact bm _
 .rw[ko];exact aj _
theorem GS(k:fO v h l):dD (blank (decide (h=0)) l) (decide (h=0)):=by
 cases h with
 |zero=>exact(ko l).symm▸Kf k.1 k.2
 |succ h=>exact in_may k.2 k.1
theorem L8(k:lT v h p):ik v p=(decide (h=0),(ik v p).2.1,0)/\an (ik v p).2.1<=223/\fO v h (ik v p).2.1:=by
 cases h with
 |zero=>
  have hm:=oM (v:=v) (p:=p) (by rw[k.1]);rw[k.1]at hm;exact⟨k.1,k.2,lU hm,GR hm⟩
 |succ h=>
  have hm:=oM (v:=v) (p:=p) (by rw[k.1]);rw[k.1]at hm;exact⟨k.1,k.2.1,lU hm,k.2.2.2⟩
theorem list_ok(k:ik v p=(decide (h=0),l,0))(hb:an l<=223)(hk:blank (decide (h=0)) l=l)(hl:fO v h l):lT v h p:=by
 cases h with
 |zero=>exact⟨by rw[k];rfl,by rw[k];exact hb⟩
 |succ h=>exact⟨by rw[k];rfl,by rw[k];exact hb,by rw[k];exact hk,by rw[k];exact hl.2⟩
theorem wG :∀(h:Nat) (p:Int),(∀j∈bw (aI v h p),v' j=v j)->aI v' h p=aI v h p/\(lT v h p->lT v' h p)
 |0,p,hj=>by
  have e:=vy (hj p (by simp[aI]));exact⟨by unfold aI;rw[e],λh=>by unfold lT at h ⊢;rw[e];exact h⟩
 |h+1,p,hj=>by
  have e:=vy (hj p (by simp[aI]));have hk:∀c∈(ik v p).2.1,aI v' h c.aU=aI v h c.aU/\(lT v h c.aU->lT v' h c.aU):=λc hc=>wG h c.aU λj hjm=>hj j (by
   unfold aI;rw[cO];refine bz _ ?_;simp only[bw,cg,lq]at hjm ⊢;obtain⟨n,hn,rfl⟩:=hjm;exact⟨n,⟨c,hc,hn⟩,rfl⟩)
  have hf:((ik v p).2.1.flatMap λe=>aI v' h e.aU)=(ik v p).2.1.flatMap λe=>aI v h e.aU:=zJ λc hc=>(hk c hc).1;refine⟨?_,?_⟩
  .unfold aI;rw[e,hf]
  .unfold lT;rw[e];rintro⟨a,b,bk,d⟩;refine⟨a,b,bk,d.ne,λx hx=>⟨(hk x hx).2 (d.c x hx).1,by unfold fZ;rw[(hk x hx).1];exact(d.c x hx).2⟩,?_,λx hx y hy=>?_⟩
   .refine List.Pairwise.imp_of_mem ?_ d.lo;intro x y hx hy PV z hz;unfold fZ at hz;rw[(hk x hx).1]at hz;exact PV z hz
   .unfold fZ at hy;rw[(hk x (sU hx)).1]at hy;exact d.hi x hx y hy
theorem gF(hj:∀j∈bw (bl v h l),v' j=v j):bl v' h l=bl v h l/\∀e∈l,aI v' h e.aU=aI v h e.aU/\(lT v h e.aU->lT v' h e.aU):=by
 have hk:∀c∈l,aI v' h c.aU=aI v h c.aU/\(lT v h c.aU->lT v' h c.aU):=λc hc=>wG h c.aU λj hjm=>hj j (by
  unfold bl;simp only[bw,cg,lq]at hjm ⊢;obtain⟨n,hn,rfl⟩:=hjm;exact⟨n,⟨c,hc,hn⟩,rfl⟩)
 exact⟨zJ λc hc=>(hk c hc).1,hk⟩
theorem TG(hk:∀e∈l,aI v' h e.aU=aI v h e.aU/\(lT v h e.aU->lT v' h e.aU))(d:sF (lT v h) (fZ v h) l):sF (lT v' h) (fZ v' h) l:=by
 refine⟨d.ne,λx hx=>⟨(hk x hx).2 (d.c x hx).1,by unfold fZ;rw[(hk x hx).1];exact(d.c x hx).2⟩,?_,λx hx y hy=>?_⟩
 .refine List.Pairwise.imp_of_mem ?_ d.lo;intro x y hx hy PV z hz;unfold fZ at hz;rw[(hk x hx).1]at hz;exact PV z hz
 .unfold fZ at hy;rw[(hk x (sU hx)).1]at hy;exact d.hi x hx y hy
theorem kq(hj:∀j∈bw (cr v h l),v' j=v j):cr v' h l=cr v h l/\gf v' h l=gf v h l/\(fO v h l->fO v' h l):=by
 cases h with
 |zero=>exact⟨rfl,rfl,id⟩
 |succ h=>
  obtain⟨a,b⟩:=gF (h:=h) (l:=l) hj;exact⟨a,by show bV _=bV _;rw[a],λk=>⟨k.1,TG b k.2⟩⟩
structure TH(v:Vw)(h:Nat)(y:Step)(p:Int)(a:List E)(c:E)(b:List E):Prop where
 leaf:y.leaf=false
 nd:ik v y.aw=(false,y.l,0)
 by_:an y.l<=223
 bk:blank false y.l=y.l
 l:y.l=a++c::b
 at_:y.at_=a.length
 aU:c.aU=p
 ch:∀e∈a++b,lT v h e.aU/\fZ v h e.aU≠[]
 lo:(a++b).Pairwise λc e=> ∀x∈fZ v h c.aU,eL x.key e.key
 la:∀e∈a,∀x∈fZ v h e.aU,eL x.key c.key
 ha:∀e∈a.tail,∀x∈fZ v h e.aU,nc e.key x.key
 hb:∀e∈b,∀x∈fZ v h e.aU,nc e.key x.key
 hc:a≠[]->∀e∈b,eL c.key e.key
def EI:List Step->ByteArray->Prop
 |[],_=>True
 |y::up,k=>(0<y.at_->nc (y.l.getD y.at_ Nd.E.zero).key k)/\(∀e∈y.l.drop (y.at_+1),eL k e.key)/\EI up k
def pf(v:Vw):List Step->Nat->Int->Prop
 |[],_,p=>p=0
 |y::up,h,p=>(∃a c b,TH v h y p a c b/\∀e∈a++b,∀x∈fZ v h e.aU,EI up x.key)/\pf v up (h+1) y.aw
def fc(v:Vw):List Step->Nat->List NT
 |[],_=>[]
 |y::up,h=>fc v up (h+1)++(h+1,y.aw,y.l)::bl v h (y.l.take y.at_)
def da(v:Vw):List Step->Nat->List NT
 |[],_=>[]
 |y::up,h=>bl v h (y.l.drop (y.at_+1))++da v up (h+1)
theorem db(v:Vw)(h:Nat):fc v [] h=[]:=rfl
theorem cu(v:Vw)(h:Nat):da v [] h=[]:=rfl
theorem cP(v:Vw)(y:Step)(up:List Step)(h:Nat):fc v (y::up) h=fc v up (h+1)++(h+1,y.aw,y.l)::bl v h (y.l.take y.at_):=rfl
theorem ct(v:Vw)(y:Step)(up:List Step)(h:Nat):da v (y::up) h=bl v h (y.l.drop (y.at_+1))++da v up (h+1):=rfl
theorem kK{a:List E}{c:E}{b:List E}(f:TH v h y p a c b):y.l.take y.at_=a/\y.l.drop (y.at_+1)=b/\y.l.getD y.at_ Nd.E.zero=c:=by
 rw[f.l,f.at_];refine⟨qA,?_,?_⟩
 .rw[show a++c::b=(a++[c])++b by simp,List.drop_left' (by simp)]
 .simp[jj]
theorem mj{a:List E}{c:E}{b:List E}(f:TH v h y p a c b)(up:List Step)(k:ByteArray):EI (y::up) k↔(a≠[]->nc c.key k)/\(∀e∈b,eL k e.key)/\EI up k:=by
 obtain⟨h1,h2,h3⟩:=kK f;show((0<y.at_->nc (y.l.getD y.at_ Nd.E.zero).key k)/\(∀e∈y.l.drop (y.at_+1),eL k e.key)/\EI up k)↔_;rw[h2,h3,f.at_];refine and_congr_left λ_=>?_
 constructor
 .exact λhh hn=>hh (sR.2 hn)
 .exact λhh hn=>hh (sR.1 hn)
theorem fr_in{a:List E}{c:E}{b:List E}(f:TH v h y p a c b)(hp:lT v h p)(hn:fZ v h p≠[])(hh:∀x∈fZ v h p,(a≠[]->nc c.key x.key)/\∀e∈b,eL x.key e.key):lT v (h+1) y.aw:=by
 unfold lT;rw[f.nd];refine⟨rfl,f.by_,f.bk,by rw[f.l];simp,λe he=>?_,?_,λe he=>?_⟩
 .rw[f.l]at he
  rcases az.1 he with he|he
  .exact f.ch e (bQ _ he)
  .rcases ar.1 he with rfl|he
   .rw[f.aU];exact⟨hp,hn⟩
   .exact f.ch e (bF _ he)
 .show y.l.Pairwise _;have:=f.lo;rw[dI]at this;rw[f.l,dI,dJ];refine⟨this.1,⟨λe he x hx=>?_,this.2.1⟩,λe he e' oY x hx=>?_⟩
  .rw[f.aU]at hx;exact(hh x hx).2 e he
  .rcases ar.1 oY with rfl|oY
   .exact f.la e he x hx
   .exact this.2.2 e he e' oY x hx
 .have he:e∈y.l.tail:=he;rw[f.l]at he
  cases ha:a with
  |nil=>
   rw[ha]at he;exact f.hb e he
  |cons z a'=>
   have eV:a≠[]:=by rw[ha];simp
   have hha:=f.ha;rw[ha]at he hha;rw[mU,jN]at he;rw[jN]at hha
   rcases az.1 he with he|he
   .exact hha e he
   .rcases ar.1 he with rfl|he
    .intro x hx;rw[f.aU]at hx;exact(hh x hx).1 eV
    .exact f.hb e he
theorem plug :∀(up:List Step) (h:Nat) (p:Int),pf v up h p->lT v h p->(up≠[]->fZ v h p≠[])->(∀x∈fZ v h p,EI up x.key)->
  lT v (h+up.length) 0/\aI v (h+up.length) 0=fc v up h++(aI v h p++da v up h)
 |[],h,p,hH,ho,hn,hi=>by
  have e:p=0:=hH;subst e;exact⟨ho,by simp[db,cu]⟩
 |y::up,h,p,hH,ho,hn,hi=>by
  obtain⟨⟨a,c,b,f,hs⟩,hU⟩:=hH;have Sf:=λx hx=>(mj f up x.key).1 (hi x hx);have hn:=hn (by simp);have o1:=fr_in f ho hn (λx hx=>⟨(Sf x hx).1,(Sf x hx).2.1⟩);obtain⟨t1,t2,t3⟩:=kK f;have e1:aI v (h+1) y.aw=(h+1,y.aw,y.l)::(bl v h a++(aI v h p++bl v h b)):=by
   rw[rh,f.nd];show _::bl v h y.l=_;rw[f.l,gq,fF,f.aU,<-f.l]
  have hmem:∀x∈fZ v (h+1) y.aw,x∈fZ v h p\/∃e∈a++b,x∈fZ v h e.aU:=λx hx=>by
   unfold fZ at hx;rw[e1,kn,dK,dK]at hx
   rcases az.1 hx with hx|hx
   .obtain⟨e,he,hx⟩:=dm.1 hx;exact .inr ⟨e,bQ _ he,hx⟩
   .rcases az.1 hx with hx|hx
    .exact .inl hx
    .obtain⟨e,he,hx⟩:=dm.1 hx;exact .inr ⟨e,bF _ he,hx⟩
  have eV:fZ v (h+1) y.aw≠[]:=λh0=>by
   unfold fZ at h0;rw[e1,kn,dK,dK,Ip,Ip]at h0;exact hn h0.2.1
  obtain⟨r1,r2⟩:=plug up (h+1) y.aw hU o1 (λ_=>eV) (λx hx=>by
   rcases hmem x hx with hx|⟨e,he,hx⟩
   .exact(Sf x hx).2.2
   .exact hs e he x hx)
  have hl:h+(y::up).length=h+1+up.length:=by simp;omega
  rw[hl];refine⟨r1,?_⟩;rw[r2,e1];simp only[cP,ct,db,cu];rw[t1,t2];simp
variable{l:List E}{v:Vw}{p:Int}{key:ByteArray}
theorem TK(e:E)(k:ByteArray):Nd.rA e k=kc e.key k:=rfl
theorem zL(hp:l.Pairwise λc e=>eL c.key e.key)(key:ByteArray):∃a b,l=a++b/\bf l key=a.length/\(∀e∈a,eL e.key key)/\
  ((cd l key=true/\∃c b',b=c::b'/\c.key=key/\∀e∈b',eL key e.key)\/(cd l key=false/\∀e∈b,eL key e.key)):=by
 have hle:bf l key<=l.length:=nX;have dV:∀e∈l.take (bf l key),eL e.key key:=λe he=>by
  obtain⟨j,hj,rfl⟩:=pB he;rw[bK]at hj;have hj2:j<l.findIdx λe=>decide (0<=Nd.rA e key):=by unfold bf at hj;omega
  have:=Dh hj2;have:=of_decide_eq_false this;rw[IB];rw[TK]at this;show kc _ _<0;omega
 refine⟨l.take (bf l key),l.drop (bf l key),(mI _ _).symm,by rw[bK];omega,dV,?_⟩
 rcases eT (bf l key) l.length with hf|hf
 .have he:=uo hf;have h0:0<=kc l[bf l key].key key:=by
   have:=rQ (w:=show(l.findIdx λe=>decide (0<=Nd.rA e key))<l.length from hf);exact of_decide_eq_true this
  rw[he];have hp2:(l.drop (bf l key)).Pairwise λc e=>eL c.key e.key:=hp.sublist (List.drop_sublist _ _);rw[he,dJ]at hp2;unfold cd;rw[aT hf];dsimp only;rw[TK]
  by_cases hz:kc l[bf l key].key key=0
  .left;have hk:=L1.1 hz;refine⟨by rw[decide_eq_true hz],_,_,rfl,hk,λe he=>?_⟩;rw[<-hk];exact hp2.1 e he
  .right;have hn:=Kd l[bf l key].key key;have h1:eL key l[bf l key].key:=by show kc _ _<0;omega
   refine⟨by rw[decide_eq_false hz],λe he=>?_⟩
   rcases ar.1 he with rfl|he
   .exact h1
   .exact ev h1 (hp2.1 e he)
 .right;rw[j8 hf];refine⟨?_,by simp⟩;unfold cd;rw[gw hf]
theorem GU(hp:l.Pairwise λc e=>eL c.key e.key)(hn:l≠[])(key:ByteArray):∃a c b,l=a++c::b/\bH l key=a.length/\(a≠[]->nc c.key key)/\∀e∈b,eL key e.key:=by
 obtain⟨a,b,hl,hf,ha,hb⟩:=zL hp key;unfold bH
 rcases hb with⟨h1,c,b',rfl,hc,hb'⟩|⟨h1,hb⟩
 .rw[if_pos h1];exact⟨a,c,b',hl,hf,λ_=>by rw[hc];exact L5 _,hb'⟩
 .rw[if_neg (by rw[h1];simp),hf]
  rcases rO a with rfl|⟨a',c,rfl⟩
  .cases b with
   |nil=>exact absurd hl hn
   |cons c b'=>exact⟨[],c,b',hl,rfl,λh=>absurd rfl h,λe he=>hb e (bz _ he)⟩
  .refine⟨a',c,b,by rw[hl];simp,by simp,λ_=>sD (ha c (by simp)),hb⟩
theorem fr_of{h:Nat}{a b:List E}{c:E}(hd:ik v p=(false,l,0))(hb:an l<=223)(hk:blank false l=l)(d:sF (lT v h) (fZ v h) l)(hl:l=a++c::b)(hp:l.Pairwise λc e=>eL c.key e.key):
  TH v h ⟨p,false,l,a.length⟩ c.aU a c b:=by
 have Ie:=d.lo;have N9:=d.hi;have hc:=d.c;rw[hl,dI,dJ]at Ie hp;refine⟨rfl,hd,hb,hk,hl,rfl,rfl,λe he=>?_,?_,λe he x hx=>Ie.2.2 e he c (gy ..) x hx,λe he x hx=>?_,λe he x hx=>?_,λ_ e he=>hp.2.1.1 e he⟩
 .rw[hl]at hc
  rcases az.1 he with he|he
  .exact hc e (bQ _ he)
  .exact hc e (bF _ (bz _ he))
 .rw[dI];exact⟨Ie.1,Ie.2.1.2,λx hx y hy=>Ie.2.2 x hx y (bz _ hy)⟩
 .rw[hl]at N9
  cases a with
  |nil=>exact absurd he (by simp)
  |cons z a'=>exact N9 e (bQ _ he) x hx
 .rw[hl]at N9
  cases a with
  |nil=>exact N9 e he x hx
  |cons z a'=>exact N9 e (bF _ (bz _ he)) x hx
theorem oN{leaf:Bool}(h:ik v p=(leaf,l,0)):l.Pairwise λc e=>eL c.key e.key:=by
 have:=GR (oM (v:=v) (p:=p) (by rw[h]));rw[h]at this;exact this
structure WayV(v:Vw)(key:ByteArray)(up:List Step)(x:Step):Prop where
 hole:pf v up 0 x.aw
 ok:lT v 0 x.aw
 leaf:x.leaf=true
 nd:ik v x.aw=(true,x.l,0)
 key:EI up key
 ne:up≠[]->x.l≠[]
 TM:∀e∈x.l,EI up e.key
section
variable{v:Vw}{o:Vw}{mm:Nat}
theorem GV(key:ByteArray):∀(h m:Nat) (q:QS) (p:Int) (out up:List Step) (u:Nat),h<m->Rd q v o u mm->lT v h p->pf v up h p->EI up key->(up≠[]->fZ v h p≠[])->(∀x∈fZ v h p,EI up x.key)->
  Rd (nG key m q p out).1 v o u mm/\(((nG key m q p out).2.2=11/\mm<=u)\/((nG key m q p out).2.2=0/\∃mid x,(nG key m q p out).2.1=out++(mid++[x])/\mid.length=h/\WayV v key (mid.reverse++up) x))
 |h,0,q,p,out,up,u,hm,hR,hO,hH,hK,hN,hI=>absurd hm (by omega)
 |h,m+1,q,p,out,up,u,hm,hR,hO,hH,hK,hN,hI=>by
  obtain⟨r1,r2⟩:=hR.read p;unfold nG
  rcases r2 with r2|⟨r2,r3⟩
  .cases h with
   |zero=>
    have hO':=hO;obtain⟨o1,o2⟩:=hO;rw[r2,o1,if_neg (by simp),if_pos rfl];refine⟨r1,.inr ⟨rfl,[],⟨p,true,(ik v p).2.1,0⟩,by simp,rfl,hH,hO',rfl,o1,hK,λeV=>?_,λe he=>?_⟩⟩
    .have:=hN eV;rw[EH]at this;exact this
    .refine hI e ?_;rw[EH];exact he
   |succ h=>
    obtain⟨o1,o2,o4,o3⟩:=hO;obtain⟨l,hl⟩:∃l,(ik v p).2.1=l:=⟨_,rfl⟩;have nI:fZ v (h+1) p=bV (bl v h l):=by rw[EH,hl];rfl
    rw[hl]at o1 o2 o3 o4;have hp:=oN o1;obtain⟨a,c,b,e1,e2,e3,e4⟩:=GU hp o3.ne key;rw[r2,o1,if_neg (by simp),if_neg (by simp),if_neg o3.ne];dsimp only;have f:=fr_of o1 o2 o4 o3 e1 hp;rw[e2];have hc:l.getD a.length Nd.E.zero=c:=by rw[e1];simp[jj]
    rw[hc];have sN:∀e∈l,∀x∈fZ v h e.aU,EI up x.key:=λe he x hx=>hI x (by rw[nI];exact dm.2 ⟨e,he,hx⟩);have uj:c∈l:=by rw[e1];simp
    have xN:∀x∈fZ v h c.aU,a≠[]->nc c.key x.key:=λx hx eV=>by
     have N9:=o3.hi;rw[e1]at N9
     cases a with
     |nil=>exact absurd rfl eV
     |cons z a'=>exact N9 c (by simp) x hx
    have hs2:∀x∈fZ v h c.aU,∀e∈b,eL x.key e.key:=λx hx e he=>by
     have Ie:=o3.lo;rw[e1,dI,dJ]at Ie;exact Ie.2.1.1 e he x hx
    obtain⟨i1,i2⟩:=GV key h m (q.bM p).1 c.aU (out++[⟨p,false,l,a.length⟩]) (⟨p,false,l,a.length⟩::up) u (by omega) r1 (o3.c c uj).1
     ⟨⟨a,c,b,f,λe he x hx=>sN e (by rw[e1];rcases az.1 he with he|he<;>simp[he]) x hx⟩,hH⟩ ((mj f up key).2 ⟨e3,e4,hK⟩) (λ_=>(o3.c c uj).2)
     (λx hx=>(mj f up x.key).2 ⟨xN x hx,hs2 x hx,sN c uj x hx⟩)
    .refine⟨i1,i2.imp id ?_⟩;rintro⟨j1,mid,x,j2,j3,j4⟩;refine⟨j1,⟨p,false,l,a.length⟩::mid,x,by rw[j2];simp,by simp[j3],?_⟩;rw[List.reverse_cons,cL];exact j4
  .rw[r2,if_pos (by simp)];exact⟨r1,.inl ⟨rfl,r3⟩⟩
theorem EJ{q:QS}{u H:Nat}(hR:Rd q v o u mm)(hO:lT v H 0)(hH:H<=15)(key:ByteArray):
  Rd (q.eB key).1 v o u mm/\(((q.eB key).2.2=11/\mm<=u)\/((q.eB key).2.2=0/\∃up x,(q.eB key).2.1=up.reverse++[x]/\up.length=H/\WayV v key up x)):=by
 obtain⟨a,b⟩:=GV key H 16 q 0 [] [] u (by omega) hR hO rfl trivial (λh=>absurd rfl h) (λ_ _=>trivial);refine⟨a,b.imp id ?_⟩;rintro⟨b1,mid,x,b2,b3,b4⟩;rw[jh]at b4;exact⟨b1,mid.reverse,x,by rw[List.reverse_reverse];exact b2,by simp[b3],b4⟩
end
theorem TN :∀{up:List Step} {h:Nat} {p:Int},pf v up h p->EI up key->∀x∈bV (fc v up h),eL x.key key
 |[],_,_,_,_,x,hx=>absurd hx (by simp[db])
 |y::up,h,p,hH,hK,x,hx=>by
  obtain⟨⟨a,c,b,f,hs⟩,hU⟩:=hH;obtain⟨k1,k2,k3⟩:=(mj f up key).1 hK;simp only[cP]at hx;rw[(kK f).1,dK,kn]at hx
  rcases az.1 hx with hx|hx
  .exact TN hU k3 x hx
  .obtain⟨e,he,hx⟩:=dm.1 hx;exact fV (f.la e he x hx) (k1 (λh0=>by rw[h0]at he;simp at he))
theorem Ma :∀{up:List Step} {h:Nat} {p:Int},pf v up h p->EI up key->∀x∈bV (da v up h),eL key x.key
 |[],_,_,_,_,x,hx=>absurd hx (by simp[cu])
 |y::up,h,p,hH,hK,x,hx=>by
  obtain⟨⟨a,c,b,f,hs⟩,hU⟩:=hH;obtain⟨k1,k2,k3⟩:=(mj f up key).1 hK;simp only[ct]at hx;rw[(kK f).2.1,dK]at hx
  rcases az.1 hx with hx|hx
  .obtain⟨e,he,hx⟩:=dm.1 hx;exact fV (k2 e he) (f.hb e he x hx)
  .exact Ma hU k3 x hx
theorem zM{up:List Step}{x:Step}(k:WayV v key up x):lT v up.length 0/\aI v up.length 0=fc v up 0++(0,x.aw,x.l)::da v up 0/\
  (∀e∈bV (fc v up 0),eL e.key key)/\(∀e∈bV (da v up 0),eL key e.key)/\fZ v up.length 0=bV (fc v up 0)++(x.l++bV (da v up 0)):=by
 have hl:fZ v 0 x.aw=x.l:=by rw[EH,k.nd];rfl
 obtain⟨a,b⟩:=plug up 0 x.aw k.hole k.ok (by rw[hl];exact k.ne) (by rw[hl];exact k.TM);rw[bh]at a b;have e:aI v 0 x.aw=[(0,x.aw,x.l)]:=by unfold aI;rw[k.nd]
 rw[e]at b;refine⟨a,b,TN k.hole k.key,Ma k.hole k.key,?_⟩;unfold fZ;rw[b,dK,qy,Ke]
variable{l la lb:List E}{v:Vw}{h:Nat}
theorem GW(l:List E):∀j,∃t m7,Nd.qV l j t m7
 |0=>⟨1,-1,.inl ⟨rfl,rfl,rfl⟩⟩
 |j+1=>by
  obtain⟨t,m7,h⟩:=GW l j
  by_cases h1:m7<0\/Nd.jY l (j+1)<m7
  .exact⟨_,_,Nd.Ci h rfl h1⟩
  .exact⟨_,_,Nd.Cj h rfl (λh2=>h1 (.inl h2)) (λh2=>h1 (.inr h2))⟩
theorem best_ex(l:List E)(m:Nat)(h:2<=m):∃t,Nd.vf l m t:=by
 obtain⟨t,m7,h1⟩:=GW l (m-1)
 rcases h1 with⟨h1,_⟩|⟨h1,h2,_⟩
 .omega
 .rw[show m-1+1=m by omega]at h2;exact⟨t,h2⟩
theorem ez(a b:List E):an (a++b)=an a+an b:=by simp[an]
theorem et(e:E)(b:List E):an (e::b)=e.key.size+e.val.size+7+an b:=by simp[an]
theorem OH(hc:∀e∈l,Nd.cost e<=79)(hT:223<an l)(hT2:an l<=302):
  ∃la lb,l=la++lb/\l.take (bJ l)=la/\l.drop (bJ l)=lb/\la≠[]/\lb≠[]/\an la<=223/\an lb<=223/\(an la-151)+(an lb-151)+73<=an l-151:=by
 have hn:2<=l.length:=by
  match l,hc,hT with
  |[],_,hT=>exact absurd hT (by simp[an])
  |[e],hc,hT=>
   have:=hc e (by simp);unfold Nd.cost at this;rw[et]at hT;have:an []=0:=rfl;omega
  |_::_::_,_,_=>simp
 obtain⟨t,hB⟩:=best_ex l l.length hn;have ht:=Nd.LS hB;obtain⟨f1,f2⟩:=Nd.Oh hc hn hT2 hB;obtain⟨i,h1,h2,h3⟩:=Nd.Ck l hc hn;have h4:=hB.2.2.1 i h1 h2;have h5:=Nd.wu l t;have hb:=hB.2.1;have ha:=hB.1;refine⟨l.take t,l.drop t,(mI _ _).symm,by rw[ht],by rw[ht],λh=>?_,λh=>?_,f1,f2,?_⟩
 .have:=congrArg List.length h;rw[bK]at this;have:min t l.length=0:=this;omega
 .have:=congrArg List.length h;rw[de]at this;have:l.length-t=0:=this;omega
 .have h6:Nd.jY l t<=79:=Int.le_trans h4 h3;simp only[Nd.jY]at h6;omega
theorem TO{C:Int->Prop}{en:Int->List E}(d:sF C en (la++lb))(ha:la≠[])(hb:lb≠[]):sF C en la/\sF C en lb/\
  (∀e∈la,∀x∈en e.aU,eL x.key (keyOf lb))/\∀e∈lb,∀x∈en e.aU,nc (keyOf lb) x.key:=by
 obtain⟨ne,c,lo,hi⟩:=d
 cases la with
 |nil=>exact absurd rfl ha
 |cons a la=>
  cases lb with
  |nil=>exact absurd rfl hb
  |cons b lb=>
   have hk:keyOf (b::lb)=b.key:=rfl;rw[hk];rw[dI]at lo;rw[mU,jN]at hi;have wY:=hi b (by simp);refine⟨⟨ha,λe he=>c e (bQ _ he),lo.1,λe he=>hi e (bQ _ he)⟩,⟨hb,λe he=>c e (bF _ he),lo.2.1,λe he=>hi e (bF _ (bz _ he))⟩,λe he=>lo.2.2 e he b (by simp),λe he x hx=>?_⟩
   rcases ar.1 he with rfl|he
   .exact wY x hx
   .obtain⟨y,hy⟩:=uq _ (c b (by simp)).2;have h1:=(dJ.1 lo.2.1).1 e he y hy;exact nL (sD (iN (wY y hy) h1)) (hi e (by simp[he]) x hx)
theorem vz(v:Vw)(h:Nat)(a b:List E):gf v h (a++b)=gf v h a++gf v h b:=by
 cases h with
 |zero=>rfl
 |succ h=>show bV _=bV _++bV _;rw[gq,dK]
theorem lV(v:Vw)(h:Nat)(a b:List E):cr v h (a++b)=cr v h a++cr v h b:=by
 cases h with
 |zero=>rfl
 |succ h=>exact gq _ _ _ _
theorem lW(k:fO v h l)(hn:l≠[]):gf v h l≠[]:=by
 cases h with
 |zero=>exact hn
 |succ h=>
  cases l with
  |nil=>exact absurd rfl hn
  |cons e l=>
   intro h0;have h0:bV (bl v h (e::l))=[]:=h0;rw[fF,dK,Ip]at h0;exact(k.2.c e (by simp)).2 h0.1
theorem sG(k:fO v h (la++lb))(ha:la≠[])(hb:lb≠[]):fO v h la/\fO v h lb/\(∀x∈gf v h la,eL x.key (keyOf lb))/\(∀x∈gf v h lb,nc (keyOf lb) x.key)/\(keyOf lb).size<=32:=by
 have hr:=k.1;have hks:(keyOf lb).size<=32:=by
  cases lb with
  |nil=>exact absurd rfl hb
  |cons b lb=>exact(hr b (by simp)).1
 cases h with
 |zero=>
  have hp:(la++lb).Pairwise λc e=>eL c.key e.key:=k.2;rw[dI]at hp;refine⟨⟨λe he=>hr e (bQ _ he),hp.1⟩,⟨λe he=>hr e (bF _ he),hp.2.1⟩,λx hx=>?_,λx hx=>?_,hks⟩
  .cases lb with
   |nil=>exact absurd rfl hb
   |cons b lb=>exact hp.2.2 x hx b (by simp)
  .cases lb with
   |nil=>exact absurd rfl hb
   |cons b lb=>
    rcases ar.1 hx with rfl|hx
    .exact L5 _
    .exact sD ((dJ.1 hp.2.1).1 x hx)
 |succ h=>
  obtain⟨p1,p2,p3,p4⟩:=TO k.2 ha hb;refine⟨⟨λe he=>hr e (bQ _ he),p1⟩,⟨λe he=>hr e (bF _ he),p2⟩,λx hx=>?_,λx hx=>?_,hks⟩
  .obtain⟨e,he,hx⟩:=dm.1 hx;exact p3 e he x hx
  .obtain⟨e,he,hx⟩:=dm.1 hx;exact p4 e he x hx
theorem Kg(k:fO v h l):fO v h (blank (decide (h=0)) l):=by
 cases h with
 |zero=>exact(ko l).symm▸k
 |succ h=>
  refine⟨λe he=>?_,TF.2 k.2⟩;have he:e∈blank false l:=he
  cases l with
  |nil=>exact absurd he (by simp[blank])
  |cons c l=>
   have hb:blank false (c::l)={c with key:=⟨#[]⟩}::l:=rfl;rw[hb]at he
   rcases ar.1 he with rfl|he
   .obtain⟨a,b,cc⟩:=k.1 c (by simp);exact⟨bm _,b,cc⟩
   .exact k.1 e (by simp[he])
theorem GX(v:Vw)(h:Nat)(l:List E):cr v h (blank (decide (h=0)) l)=cr v h l:=by
 cases h with
 |zero=>rfl
 |succ h=>exact zK _ _ _ _
theorem GY(v:Vw)(h:Nat)(l:List E):gf v h (blank (decide (h=0)) l)=gf v h l:=by
 cases h with
 |zero=>exact ko l
 |succ h=>show bV _=bV _;exact congrArg bV (zK _ _ _ _)
theorem Kh(leaf:Bool)(l:List E):blank leaf (blank leaf l)=blank leaf l:=by cases leaf<;>cases l<;>rfl
theorem tZ{p:Int}(k:fO v h l)(hb:an (blank (decide (h=0)) l)<=223)(hd:ik v p=(decide (h=0),blank (decide (h=0)) l,0)):
  lT v h p/\aI v h p=(h,p,blank (decide (h=0)) l)::cr v h l/\fZ v h p=gf v h l:=by
 refine⟨list_ok hd hb (Kh _ _) (Kg k),?_,?_⟩
 .rw[rh,hd,GX]
 .rw[EH,hd,GY]
theorem ua(k:fO v h l)(hb:an (blank (decide (h=0)) l)<=223):(cf (decide (h=0)) l).2=0:=by
 rcases nJ (decide (h=0)) l with h1|h1|h1
 .exact h1.2.2.1
 .omega
 .exact absurd (GS k) h1.1
theorem Ki(k:fO v h l)(hb:223<an (blank (decide (h=0)) l)):cf (decide (h=0)) l=([],11):=by
 rcases nJ (decide (h=0)) l with h1|h1|h1
 .omega
 .exact h1.2.2
 .exact absurd (GS k) h1.1
theorem EK :∀(h:Nat) (p:Int),lT v h p->∀j∈bw (aI v h p),(v j).2=0
 |0,p,ho,j,hj=>by
  have:j=p:=by simpa [aI]using hj
  subst this;exact mi (by rw[ho.1])
 |h+1,p,ho,j,hj=>by
  unfold aI at hj;rw[cO]at hj
  rcases ar.1 hj with rfl|hj
  .exact mi (by rw[ho.1])
  .simp only[bw,cg,lq]at hj;obtain⟨n,⟨c,hc,hn⟩,rfl⟩:=hj;exact EK h c.aU (ho.2.2.2.c c hc).1 _ (cg.2 ⟨n,hn,rfl⟩)
theorem vA(hc:∀e∈l,lT v h e.aU):∀j∈bw (bl v h l),(v j).2=0:=λj hj=>by
 unfold bl at hj;simp only[bw,cg,lq]at hj;obtain⟨n,⟨c,hc',hn⟩,rfl⟩:=hj;exact EK h c.aU (hc c hc') _ (cg.2 ⟨n,hn,rfl⟩)
theorem Cw(k:fO v h l):∀j∈bw (cr v h l),(v j).2=0:=by
 cases h with
 |zero=>intro j hj;exact absurd hj (by simp[cr])
 |succ h=>exact vA λe he=>(k.2.c e he).1
theorem Cx :∀(up:List Step) (h:Nat) (p:Int),pf v up h p->(∀j∈bw (fc v up h),(v j).2=0)/\∀j∈bw (da v up h),(v j).2=0
 |[],h,p,_=>⟨λj hj=>absurd hj (by simp[db]),λj hj=>absurd hj (by simp[cu])⟩
 |y::up,h,p,hH=>by
  obtain⟨⟨a,c,b,f,hs⟩,hU⟩:=hH;obtain⟨i1,i2⟩:=Cx up (h+1) y.aw hU;obtain⟨t1,t2,t3⟩:=kK f;simp only[cP,ct,db,cu];rw[t1,t2];refine⟨λj hj=>?_,λj hj=>?_⟩
  .rw[cN,cO]at hj
   rcases az.1 hj with hj|hj
   .exact i1 j hj
   .rcases ar.1 hj with rfl|hj
    .exact mi (by rw[f.nd])
    .exact vA (λe he=>(f.ch e (bQ _ he)).1) j hj
  .rw[cN]at hj
   rcases az.1 hj with hj|hj
   .exact vA (λe he=>(f.ch e (bF _ he)).1) j hj
   .exact i2 j hj
theorem gG{v':Vw}:∀(up:List Step) (h:Nat) (p:Int),pf v up h p->(∀j∈bw (fc v up h),v' j=v j)->(∀j∈bw (da v up h),v' j=v j)->pf v' up h p/\fc v' up h=fc v up h/\da v' up h=da v up h
 |[],h,p,hH,_,_=>⟨hH,rfl,rfl⟩
 |y::up,h,p,hH,h1,h2=>by
  obtain⟨⟨a,c,b,f,hs⟩,hU⟩:=hH;obtain⟨t1,t2,t3⟩:=kK f;simp only[cP]at h1;simp only[ct]at h2;rw[t1,cN,cO]at h1;rw[t2,cN]at h2;obtain⟨i1,i2,i3⟩:=gG up (h+1) y.aw hU (λj hj=>h1 j (bQ _ hj)) (λj hj=>h2 j (bF _ hj));obtain⟨ka,kb⟩:=gF (v:=v) (v':=v') (h:=h) (l:=a) (λj hj=>h1 j (bF _ (bz _ hj)))
  obtain⟨la,lb⟩:=gF (v:=v) (v':=v') (h:=h) (l:=b) (λj hj=>h2 j (bQ _ hj));have hk:∀e∈a++b,aI v' h e.aU=aI v h e.aU/\(lT v h e.aU->lT v' h e.aU):=λe he=>(az.1 he).elim (kb e) (lb e);have he:∀e∈a++b,fZ v' h e.aU=fZ v h e.aU:=λe hm=>by unfold fZ;rw[(hk e hm).1]
  have hna:∀e∈a,fZ v' h e.aU=fZ v h e.aU:=λe hm=>he e (bQ _ hm);have Kc:∀e∈b,fZ v' h e.aU=fZ v h e.aU:=λe hm=>he e (bF _ hm);have hny:ik v' y.aw=ik v y.aw:=vy (h1 _ (bF _ (gy ..)))
  refine⟨⟨⟨a,c,b,⟨f.leaf,by rw[hny];exact f.nd,f.by_,f.bk,f.l,f.at_,f.aU,λe hm=>⟨(hk e hm).2 (f.ch e hm).1,by rw[he e hm];exact(f.ch e hm).2⟩,?_,λe hm x hx=>f.la e hm x (by rw[<-hna e hm];exact hx),λe hm x hx=>f.ha e hm x (by rw[<-hna e (sU hm)];exact hx),λe hm x hx=>f.hb e hm x (by rw[<-Kc e hm];exact hx),f.hc⟩,λe hm x hx=>hs e hm x (by rw[<-he e hm];exact hx)⟩,i1⟩,?_,?_⟩
  .refine List.Pairwise.imp_of_mem ?_ f.lo;intro x y hx hy PV z hz;rw[he x hx]at hz;exact PV z hz
  .simp only[cP,db];rw[t1,i2,ka]
  .simp only[ct,cu];rw[t2,i3,la]
def ef(wt:Nat->Nat)(ns:List NT):Nat:=(ns.map λn=>wt n.1*(an n.2.2-151)).sum
@[simp] theorem GZ(wt:Nat->Nat):ef wt []=0:=rfl
@[simp] theorem ja(wt:Nat->Nat)(a b:List NT):ef wt (a++b)=ef wt a+ef wt b:=by simp[ef]
@[simp] theorem dZ(wt:Nat->Nat)(n:NT)(a:List NT):ef wt (n::a)=wt n.1*(an n.2.2-151)+ef wt a:=by simp[ef]
def Kk(wt:Nat->Nat)(c:Nat):Prop:= ∀i,39*wt (i+1)+c<=73*wt i
theorem Kl(a:List E)(c n:E)(b:List E):(a++c::b).insertIdx (a.length+1) n=a++c::n::b:=by
 induction a with
 |nil=>rfl
 |cons x a ih=>rw[mU,ff,ID,ih];rfl
theorem vB(a:List E)(c:E)(b:List E):(a++c::b).eraseIdx a.length=a++b:=by
 induction a with
 |nil=>rfl
 |cons x a ih=>rw[mU,ff,List.eraseIdx_cons_succ,ih];rfl
variable{v v':Vw}{h:Nat}{x:Step}{up:List Step}
structure Ba(v:Vw)(h:Nat)(x:Step)(up:List Step):Prop where
 hole:pf v up h x.aw
 leaf:x.leaf=decide (h=0)
 here:(v x.aw).2=0
 ok:fO v h x.l
 ne:x.l≠[]
 bk:blank x.leaf x.l=x.l
 TM:∀e∈gf v h x.l,EI up e.key
 G4:(bw (fc v up h)++x.aw::(bw (cr v h x.l)++bw (da v up h))).Nodup
 sz:an x.l<=302
def cR(v:Vw)(h:Nat)(x:Step)(up:List Step):List NT:=fc v up h++(h,x.aw,x.l)::(cr v h x.l++da v up h)
structure Grown(v v':Vw)(H H':Nat)(ns:List NT)(new:List Int):Prop where
 ok:lT v' H' 0
 en:fZ v' H' 0=bV ns
 pg:(bw (aI v' H' 0)).Perm (bw ns++new)
 fresh:∀j∈new,v j=([],3)
 G4:new.Nodup
 o:∀j,j∉bw ns->j∉new->v' j=v j
 Cy:∀wt c,Kk wt c->ef wt (aI v' H' 0)+c*new.length<=ef wt ns+(if H'=H then 0 else c)
 h:H'=H\/(H'=H+1/\∀wt c,Kk wt c->73*wt H<=ef wt ns)
theorem fw(v:Vw)(h:Nat)(x:Step)(up:List Step):bw (cR v h x up)=bw (fc v up h)++x.aw::(bw (cr v h x.l)++bw (da v up h)):=by
 unfold cR;simp
theorem kr(v:Vw)(h:Nat)(x:Step)(up:List Step):bV (cR v h x up)=bV (fc v up h)++(gf v h x.l++bV (da v up h)):=by
 unfold cR
 cases h with
 |zero=>simp[cr,gf]
 |succ h=>simp[cr,gf]
theorem Ba.cost(P:Ba v h x up):∀e∈x.l,Nd.cost e<=79:=λe he=>by
 obtain⟨a,b,c⟩:=P.ok.1 e he;unfold Nd.cost;omega
theorem Ba.nin(P:Ba v h x up):(∀j∈bw (fc v up h),j≠x.aw)/\(∀j∈bw (cr v h x.l),j≠x.aw)/\∀j∈bw (da v up h),j≠x.aw:=by
 have:=P.G4;rw[gz,iL]at this;obtain⟨_,⟨a,_⟩,b⟩:=this;refine⟨λj hj e=>b j hj x.aw (by simp) e,λj hj e=>a (by rw[<-e];exact bQ _ hj),λj hj e=>a (by rw[<-e];exact bF _ hj)⟩
theorem zN(hole:pf v up h x.aw)(ok:fO v h x.l)(ne:up≠[]->x.l≠[])(TM:∀e∈gf v h x.l,EI up e.key)
 (G4:(bw (fc v up h)++x.aw::(bw (cr v h x.l)++bw (da v up h))).Nodup)(hb:an (blank (decide (h=0)) x.l)<=223)(hd:ik v' x.aw=(decide (h=0),blank (decide (h=0)) x.l,0))(hv:∀j,j≠x.aw->v' j=v j):
  lT v' (h+up.length) 0/\aI v' (h+up.length) 0=fc v up h++(h,x.aw,blank (decide (h=0)) x.l)::(cr v h x.l++da v up h)/\fZ v' (h+up.length) 0=bV (cR v h x up):=by
 have hn:=G4;rw[gz,iL]at hn;obtain⟨_,⟨na,_⟩,nb⟩:=hn;obtain⟨c1,c2,c3⟩:=gG up h x.aw hole (λj hj=>hv j (λe=>nb j hj x.aw (by simp) e)) (λj hj=>hv j (λe=>na (by rw[<-e];exact bF _ hj)));obtain⟨l1,l2,l3⟩:=kq (v:=v) (v':=v') (h:=h) (l:=x.l) (λj hj=>hv j (λe=>na (by rw[<-e];exact bQ _ hj)));obtain⟨k1,k2,k3⟩:=tZ (l3 ok) hb hd
 obtain⟨p1,p2⟩:=plug up h x.aw c1 k1 (λeV=>by rw[k3,l2];exact lW ok (ne eV)) (λe he=>by rw[k3,l2]at he;exact TM e he);rw[c2,c3,k2,l1,mU]at p2;refine⟨p1,p2,?_⟩;unfold fZ;rw[p2,kr]
 cases h with
 |zero=>simp[cr,gf,ko]
 |succ h=>simp[cr,gf]
theorem OI(P:Ba v h x up)(hb:an x.l<=223)(hd:ik v' x.aw=(decide (h=0),x.l,0))(hv:∀j,j≠x.aw->v' j=v j):
  Grown v v' (h+up.length) (h+up.length) (cR v h x up) []:=by
 have hbk:=P.bk;rw[P.leaf]at hbk;obtain⟨p1,p2,p3⟩:=zN P.hole P.ok (λ_=>P.ne) P.TM P.G4 (by rw[hbk];exact hb) (by rw[hbk];exact hd) hv;rw[hbk]at p2;have e:aI v' (h+up.length) 0=cR v h x up:=p2;refine⟨p1,p3,by rw[e,jh],by simp,qv,λj hj _=>hv j (λej=>hj (by rw[fw,ej];simp)),λwt c _=>by rw[e,if_pos rfl];simp,.inl rfl⟩
theorem Km{l:List Int}{k:Int}(h:l.Nodup)(hk:k∉l):(l++[k]).Nodup:=by
 rw[gz];exact⟨h,by simp,λa ha b hb e=>hk (by rw[<-aP.1 hb,<-e];exact ha)⟩
theorem OJ{a b:List E}{c n:E}(h:blank false (a++c::b)=a++c::b):blank false (a++c::n::b)=a++c::n::b:=by
 cases a with
 |nil=>
  have h:({c with key:=⟨#[]⟩}:E)::b=c::b:=h;injection h with h1 h2
  show({c with key:=⟨#[]⟩}:E)::n::b=_;rw[h1];rfl
 |cons z a=>
  have h:({z with key:=⟨#[]⟩}:E)::(a++c::b)=z::(a++c::b):=h;injection h with h1 h2
  show({z with key:=⟨#[]⟩}:E)::(a++c::n::b)=_;rw[h1];rfl
theorem pend_up{v2:Vw}{y:Step}(P:Ba v h x (y::up)){la lb:List E}(hl:x.l=la++lb)(ha:la≠[])(hb:lb≠[])(ba:an la<=223)(bb:an lb<=223)(hs:(an la-151)+(an lb-151)+73<=an x.l-151)
 {k:Nat}(hk:k<=511)(hvk:v (k:Nat)=([],3))(AA:ik v2 x.aw=(decide (h=0),blank (decide (h=0)) la,0))(hd2:ik v2 (k:Nat)=(decide (h=0),blank (decide (h=0)) lb,0))(hv:∀j,j≠x.aw->j≠(k:Nat)->v2 j=v j)(h2:(v2 x.aw).2=0/\(v2 (k:Nat)).2=0):
  Ba v2 (h+1) {y with l:=y.l.insertIdx (y.at_+1) ⟨keyOf lb,⟨#[]⟩,(k:Nat)⟩} up/\
  ∀{v':Vw} {H':Nat} {new:List Int},Grown v2 v' (h+1+up.length) H' (cR v2 (h+1) {y with l:=y.l.insertIdx (y.at_+1) ⟨keyOf lb,⟨#[]⟩,(k:Nat)⟩} up) new->Grown v v' (h+(y::up).length) H' (cR v h x (y::up)) ((k:Nat)::new):=by
 obtain⟨⟨a,c,b,f,hsib⟩,hU⟩:=P.hole;obtain⟨t1,t2,t3⟩:=kK f;obtain⟨n1,n2,n3⟩:=P.nin;obtain⟨hh1,hh2⟩:=Cx (y::up) h x.aw P.hole;have hlk:=Cw P.ok;have nk:∀j,(v j).2=0->j≠(k:Nat):=λj hj e=>by rw[e,hvk]at hj;exact absurd hj (by decide)
 have lk:∀j∈bw (fc v (y::up) h),v2 j=v j:=λj hj=>hv j (n1 j hj) (nk j (hh1 j hj));have ub:∀j∈bw (da v (y::up) h),v2 j=v j:=λj hj=>hv j (n3 j hj) (nk j (hh2 j hj));have G5:∀j∈bw (cr v h x.l),v2 j=v j:=λj hj=>hv j (n2 j hj) (nk j (hlk j hj));obtain⟨H2,e1,e2⟩:=gG (y::up) h x.aw P.hole lk ub;have fy:=P.ok;rw[hl]at fy G5;rw[lV,cN]at G5;obtain⟨sa,sb,s1,s2,s3⟩:=sG fy ha hb
 obtain⟨EL,ka2,ka3⟩:=kq (v:=v) (v':=v2) (h:=h) (l:=la) (λj hj=>G5 j (bQ _ hj));obtain⟨kb1,kb2,kb3⟩:=kq (v:=v) (v':=v2) (h:=h) (l:=lb) (λj hj=>G5 j (bF _ hj));obtain⟨oa1,oa2,oa3⟩:=tZ (ka3 sa) (ay (dk _ _) ba) AA;obtain⟨ob1,ob2,ob3⟩:=tZ (kb3 sb) (ay (dk _ _) bb) hd2;rw[EL]at oa2;rw[kb1]at ob2;rw[ka2]at oa3;rw[kb2]at ob3;obtain⟨⟨a',c',b',f2,TP⟩,hU2⟩:=H2
 have pK:a'=a/\c'=c/\b'=b:=by
  have q1:=(kK f2);exact⟨by rw[<-q1.1,t1],by rw[<-q1.2.2,t3],by rw[<-q1.2.1,t2]⟩
 obtain⟨rfl,rfl,rfl⟩:=pK;obtain⟨n,hn⟩:∃n:E,n=⟨keyOf lb,⟨#[]⟩,(k:Nat)⟩:=⟨_,rfl⟩;have hnf:n.aU=(k:Nat):=by rw[hn]
 have hnk:n.key=keyOf lb:=by rw[hn]
 rw[<-hn];have hins:y.l.insertIdx (y.at_+1) n=a'++c'::n::b':=by rw[f.l,f.at_,Kl]
 rw[hins];have hinP:=P.TM;rw[hl,vz]at hinP;have inA:∀e∈gf v h la,(a'≠[]->nc c'.key e.key)/\(∀z∈b',eL e.key z.key)/\EI up e.key:=λe he=>(mj f up e.key).1 (hinP e (bQ _ he));have inB:∀e∈gf v h lb,(a'≠[]->nc c'.key e.key)/\(∀z∈b',eL e.key z.key)/\EI up e.key:=λe he=>(mj f up e.key).1 (hinP e (bF _ he));have neA:=lW sa ha;have neB:=lW sb hb;have enc:fZ v2 h c'.aU=gf v h la:=by rw[f.aU,oa3]
 have enn:fZ v2 h n.aU=gf v h lb:=by rw[hnf,ob3]
 have ir:=lU (oM (v:=v) (p:=y.aw) (by rw[f.nd]));rw[f.nd]at ir;have ir:∀e∈a'++c'::b',dg e false:=by rw[<-f.l];exact ir
 have flo:=f2.lo;rw[dI]at flo;have hin2:sF (lT v2 h) (fZ v2 h) (a'++c'::n::b'):=by
  refine⟨by simp,λe he=>?_,?_,λe he=>?_⟩
  .rcases az.1 he with he|he
   .exact f2.ch e (bQ _ he)
   .rcases ar.1 he with rfl|he
    .exact⟨by rw[f.aU];exact oa1,by rw[enc];exact neA⟩
    .rcases ar.1 he with rfl|he
     .exact⟨by rw[hnf];exact ob1,by rw[enn];exact neB⟩
     .exact f2.ch e (bF _ he)
  .rw[dI,dJ,dJ];refine⟨flo.1,⟨λe he x hx=>?_,λe he x hx=>?_,flo.2.1⟩,λe he e' oY x hx=>?_⟩
   .rw[enc]at hx
    rcases ar.1 he with rfl|he
    .rw[hnk];exact s1 x hx
    .exact(inA x hx).2.1 e he
   .rw[enn]at hx;exact(inB x hx).2.1 e he
   .rcases ar.1 oY with rfl|oY
    .exact f2.la e he x hx
    .rcases ar.1 oY with rfl|oY
     .rw[hnk];obtain⟨z,hz⟩:=uq _ neA;exact ev (fV (f2.la e he x hx) ((inA z hz).1 (λh0=>by rw[h0]at he;simp at he))) (s1 z hz)
     .exact flo.2.2 e he e' oY x hx
  .have hmid:∀e∈n::b',∀x∈fZ v2 h e.aU,nc e.key x.key:=λe he x hx=>by
    rcases ar.1 he with rfl|he
    .rw[enn]at hx;rw[hnk];exact s2 x hx
    .exact f2.hb e he x hx
   cases ha':a' with
   |nil=>
    rw[ha']at he;exact hmid e he
   |cons z a2=>
    have eV:a'≠[]:=by rw[ha'];simp
    have hha:=f2.ha;rw[ha']at he hha;rw[mU,jN]at he;rw[jN]at hha
    rcases az.1 he with he|he
    .exact hha e he
    .rcases ar.1 he with rfl|he
     .intro x hx;rw[enc]at hx;exact(inA x hx).1 eV
     .exact hmid e he
 have wH:bl v2 h (a'++c'::n::b')=bl v h a'++((h,x.aw,blank (decide (h=0)) la)::cr v h la++((h,((k:Nat):Int),blank (decide (h=0)) lb)::cr v h lb++bl v h b')):=by
  rw[gq,fF,fF,f.aU,hnf,oa2,ob2];have q1:bl v2 h a'=bl v h a':=(gF (λj hj=>lk j (by simp only[cP,db];rw[t1,cN,cO];exact bF _ (bz _ hj)))).1;have q2:bl v2 h b'=bl v h b':=(gF (λj hj=>ub j (by simp only[ct,cu];rw[t2,cN];exact bQ _ hj))).1;rw[q1,q2]
 have zO:fc v2 up (h+1)=fc v up (h+1):=by
  exact(gG up (h+1) y.aw hU (λj hj=>lk j (by simp only[cP,db];rw[cN];exact bQ _ hj)) (λj hj=>ub j (by simp only[ct,cu];rw[cN];exact bF _ hj))).2.1
 have sH:da v2 up (h+1)=da v up (h+1):=by
  exact(gG up (h+1) y.aw hU (λj hj=>lk j (by simp only[cP,db];rw[cN];exact bQ _ hj)) (λj hj=>ub j (by simp only[ct,cu];rw[cN];exact bF _ hj))).2.2
 have hold:bw (cR v h x (y::up))=bw (fc v up (h+1))++(y.aw::bw (bl v h a'))++x.aw::((bw (cr v h la)++bw (cr v h lb))++(bw (bl v h b')++bw (da v up (h+1)))):=by
  rw[fw,hl,lV,cN];simp only[cP,ct,db,cu];rw[t1,t2];simp
 have OM:bw (cR v2 (h+1) {y with l:=a'++c'::n::b'} up)=bw (fc v up (h+1))++y.aw::(bw (bl v h a')++(x.aw::bw (cr v h la)++(((k:Nat):Int)::bw (cr v h lb)++bw (bl v h b')))++bw (da v up (h+1))):=by
  rw[fw];show bw (fc v2 up (h+1))++y.aw::(bw (bl v2 h (a'++c'::n::b'))++bw (da v2 up (h+1)))=_;rw[wH,zO,sH];simp
 have rH:(bw (cR v2 (h+1) {y with l:=a'++c'::n::b'} up)).Perm (bw (cR v h x (y::up))++[((k:Nat):Int)]):=by
  rw[OM,hold,Dj];intro j;simp only[It,Iu,List.count_nil];omega
 have hknin:((k:Nat):Int)∉bw (cR v h x (y::up)):=λhm=>by
  rw[fw]at hm
  rcases az.1 hm with hm|hm
  .exact nk _ (hh1 _ hm) rfl
  .rcases ar.1 hm with hm|hm
   .exact nk _ P.here hm.symm
   .rcases az.1 hm with hm|hm
    .exact nk _ (hlk _ hm) rfl
    .exact nk _ (hh2 _ hm) rfl
 have G6:=P.G4;rw[<-fw]at G6;have hnod:(bw (cR v2 (h+1) {y with l:=a'++c'::n::b'} up)).Nodup:=rH.nodup_iff.2 (Km G6 hknin);have hcostn:n.key.size+n.val.size+7<=39:=by rw[hn];show(keyOf lb).size+0+7<=39;omega
 have hby:=f.by_;rw[f.l,ez,et]at hby;have IJ:an (a'++c'::n::b')<=an y.l+39:=by
  rw[f.l,ez,ez,et,et,et];omega
 refine⟨⟨hU2,?_,?_,⟨λe he=>?_,hin2⟩,by simp,?_,λe he=>?_,?_,?_⟩,λ{v' H' new} G=>?_⟩
 .show y.leaf=decide (h+1=0);rw[f.leaf];rfl
 .exact mi (by show(ik v2 y.aw).2.2=0;rw[f2.nd])
 .rcases az.1 he with he|he
  .exact ir e (bQ _ he)
  .rcases ar.1 he with rfl|he
   .exact ir _ (by simp)
   .rcases ar.1 he with rfl|he
    .rw[hn];exact⟨s3,bm _,by show(if(decide (h+1=0))=true then(-1:Int)else 0)<=((k:Nat):Int);split<;>omega,by show((k:Nat):Int)<512;omega,.inr rfl⟩
    .exact ir e (bF _ (bz _ he))
 .show blank y.leaf _=_;rw[f.leaf];exact OJ (by rw[<-f.l];exact f.bk)
 .have he:e∈bV (bl v2 h (a'++c'::n::b')):=he;obtain⟨z,hz,hx⟩:=dm.1 he;have sib:∀z∈a'++b',e∈fZ v2 h z.aU->EI up e.key:=λz hz hx=>TP z hz e hx
  rcases az.1 hz with hz|hz
  .exact sib z (bQ _ hz) hx
  .rcases ar.1 hz with rfl|hz
   .rw[enc]at hx;exact(inA e hx).2.2
   .rcases ar.1 hz with rfl|hz
    .rw[enn]at hx;exact(inB e hx).2.2
    .exact sib z (bF _ hz) hx
 .rw[<-fw];exact hnod
 .have:=f.by_;show an (a'++c'::n::b')<=302;omega
 .have TR:∀wt c,Kk wt c->ef wt (cR v2 (h+1) {y with l:=a'++c'::n::b'} up)+c<=ef wt (cR v h x (y::up)):=λwt c hw=>by
   have h1:=hw h;have h2:=dk (decide (h=0)) la;have h3:=dk (decide (h=0)) lb;have e3:ef wt (cR v2 (h+1) {y with l:=a'++c'::n::b'} up)=ef wt (fc v up (h+1))+(wt (h+1)*(an (a'++c'::n::b')-151)+(ef wt (bl v h a')+((wt h*(an (blank (decide (h=0)) la)-151)+ef wt (cr v h la))+((wt h*(an (blank (decide (h=0)) lb)-151)+ef wt (cr v h lb))+ef wt (bl v h b')))+ef wt (da v up (h+1)))):=by
    unfold cR;show ef wt (fc v2 up (h+1)++(h+1,y.aw,a'++c'::n::b')::(bl v2 h (a'++c'::n::b')++da v2 up (h+1)))=_;rw[wH,zO,sH];simp only[ja,dZ]
   have e4:ef wt (cR v h x (y::up))=(ef wt (fc v up (h+1))+(wt (h+1)*(an y.l-151)+ef wt (bl v h a')))+(wt h*(an x.l-151)+((ef wt (cr v h la)+ef wt (cr v h lb))+(ef wt (bl v h b')+ef wt (da v up (h+1))))):=by
    unfold cR;simp only[cP,ct,db,cu];rw[t1,t2];simp only[ja,dZ];rw[show cr v h x.l=cr v h la++cr v h lb by rw[hl,lV]];simp only[ja]
   have m1:wt (h+1)*(an (a'++c'::n::b')-151)<=wt (h+1)*(an y.l-151)+wt (h+1)*39:=by
    rw[<-qE];exact ly _ (by omega)
   have m2:wt h*(an (blank (decide (h=0)) la)-151)+wt h*(an (blank (decide (h=0)) lb)-151)+wt h*73<=wt h*(an x.l-151):=by
    rw[<-qE,<-qE];exact ly _ (by omega)
   rw[e3,e4];omega
  have hHl:h+(y::up).length=h+1+up.length:=by simp;omega
  have hmemP:∀j,j∈bw (cR v2 (h+1) {y with l:=a'++c'::n::b'} up)↔j∈bw (cR v h x (y::up))\/j=(k:Nat):=λj=>by rw[rH.mem_iff];simp
  have hxin:x.aw∈bw (cR v h x (y::up)):=by rw[fw];simp
  rw[hHl];refine⟨G.ok,?_,?_,λj hj=>?_,?_,λj h1 h3=>?_,λwt c hw=>?_,?_⟩
  .rw[G.en,kr,kr];show bV (fc v2 up (h+1))++(bV (bl v2 h (a'++c'::n::b'))++bV (da v2 up (h+1)))=_;rw[gq,fF,fF,dK,dK,dK];have q1:bl v2 h a'=bl v h a':=(gF (λj hj=>lk j (by simp only[cP,db];rw[t1,cN,cO];exact bF _ (bz _ hj)))).1
   have q2:bl v2 h b'=bl v h b':=(gF (λj hj=>ub j (by simp only[ct,cu];rw[t2,cN];exact bQ _ hj))).1;have q3:bV (aI v2 h c'.aU)=gf v h la:=enc;have q4:bV (aI v2 h n.aU)=gf v h lb:=enn;rw[q1,q2,q3,q4,zO,sH,hl,vz];simp only[cP,ct,db,cu];rw[t1,t2];simp
  .refine G.pg.trans ?_;refine(rH.append_right new).trans ?_;simp
  .rcases ar.1 hj with rfl|hj
   .exact hvk
   .have:=G.fresh j hj;rw[hv j]at this
    .exact this
    .intro e;rw[e]at this;rw[this]at h2;exact absurd h2.1 (by decide)
    .intro e;rw[e]at this;rw[this]at h2;exact absurd h2.2 (by decide)
  .rw[iL];refine⟨λhm=>?_,G.G4⟩;have:=G.fresh _ hm;rw[this]at h2;exact absurd h2.2 (by decide)
  .rw[ar,not_or]at h3;rw[G.o j (by rw[hmemP];rintro(h5|h5);exact h1 h5;exact h3.1 h5) h3.2];exact hv j (λe=>h1 (by rw[e];exact hxin)) h3.1
  .have p1:=G.Cy wt c hw;have p2:=TR wt c hw;rw[ff,Nat.mul_succ];omega
  .refine G.h.imp id (λ⟨h5,h6⟩=>⟨h5,λwt c hw=>?_⟩);have p1:=h6 wt c hw;have p2:=TR wt c hw;omega
theorem grow_ok{v v3:Vw}{h:Nat}{x:Step}(P:Ba v h x []){la lb:List E}(hl:x.l=la++lb)(ha:la≠[])(hb:lb≠[])(ba:an la<=223)(bb:an lb<=223)(hs:(an la-151)+(an lb-151)+73<=an x.l-151)
  {k1 k2:Nat}(hk1:k1<=511)(hk2:k2<=511)(mB:v (k1:Nat)=([],3))(pk:v (k2:Nat)=([],3))(eV:k1≠k2)
  (AA:ik v3 (k1:Nat)=(decide (h=0),blank (decide (h=0)) la,0))(hd2:ik v3 (k2:Nat)=(decide (h=0),blank (decide (h=0)) lb,0))
  (hd0:ik v3 0=(false,[⟨⟨#[]⟩,⟨#[]⟩,(k1:Nat)⟩,⟨keyOf lb,⟨#[]⟩,(k2:Nat)⟩],0))(hv:∀j:Int,j≠0->j≠(k1:Nat)->j≠(k2:Nat)->v3 j=v j):
  Grown v v3 h (h+1) (cR v h x []) [(k1:Nat),(k2:Nat)]:=by
 have AN:x.aw=0:=P.hole;have hlk:=Cw P.ok;have hkin:=P.nin.2.1;have fy:=P.ok;rw[hl]at fy;obtain⟨sa,sb,s1,s2,s3⟩:=sG fy ha hb;have nk1:∀j,(v j).2=0->j≠(k1:Nat):=λj hj e=>by rw[e,mB]at hj;exact absurd hj (by decide)
 have nk2:∀j,(v j).2=0->j≠(k2:Nat):=λj hj e=>by rw[e,pk]at hj;exact absurd hj (by decide)
 have G5:∀j∈bw (cr v h x.l),v3 j=v j:=λj hj=>hv j (by rw[<-AN];exact hkin j hj) (nk1 j (hlk j hj)) (nk2 j (hlk j hj));rw[hl,lV,cN]at G5;obtain⟨EL,ka2,ka3⟩:=kq (v:=v) (v':=v3) (h:=h) (l:=la) (λj hj=>G5 j (bQ _ hj));obtain⟨kb1,kb2,kb3⟩:=kq (v:=v) (v':=v3) (h:=h) (l:=lb) (λj hj=>G5 j (bF _ hj));obtain⟨oa1,oa2,oa3⟩:=tZ (ka3 sa) (ay (dk _ _) ba) AA
 obtain⟨ob1,ob2,ob3⟩:=tZ (kb3 sb) (ay (dk _ _) bb) hd2;rw[EL]at oa2;rw[kb1]at ob2;rw[ka2]at oa3;rw[kb2]at ob3;have neA:=lW sa ha;have neB:=lW sb hb;have sN:sF (lT v3 h) (fZ v3 h) [⟨⟨#[]⟩,⟨#[]⟩,(k1:Nat)⟩,⟨keyOf lb,⟨#[]⟩,(k2:Nat)⟩]:=by
  refine⟨by simp,λe he=>?_,?_,λe he=>?_⟩
  .simp only[ar,gC,or_false]at he
   rcases he with rfl|rfl
   .exact⟨oa1,by show fZ v3 h _≠[];rw[oa3];exact neA⟩
   .exact⟨ob1,by show fZ v3 h _≠[];rw[ob3];exact neB⟩
  .rw[dJ];refine⟨λe he y hy=>?_,Di _ _⟩;rw[aP.1 he];have hy:y∈fZ v3 h (k1:Nat):=hy;rw[oa3]at hy;exact s1 y hy
  .have he:e∈[(⟨keyOf lb,⟨#[]⟩,(k2:Nat)⟩:E)]:=he;rw[aP.1 he];intro y hy;have hy:y∈fZ v3 h (k2:Nat):=hy;rw[ob3]at hy;exact s2 y hy
 have hbyt:an [(⟨⟨#[]⟩,⟨#[]⟩,(k1:Nat)⟩:E),⟨keyOf lb,⟨#[]⟩,(k2:Nat)⟩]<=46:=by
  rw[et,et];show 0+0+7+((keyOf lb).size+0+7+0)<=46;omega
 have hO:lT v3 (h+1) 0:=⟨by rw[hd0],by rw[hd0];exact ay hbyt (by decide),by rw[hd0];rfl,by rw[hd0];exact sN⟩;have hns:aI v3 (h+1) 0=(h+1,0,[⟨⟨#[]⟩,⟨#[]⟩,(k1:Nat)⟩,⟨keyOf lb,⟨#[]⟩,(k2:Nat)⟩])::(((h,((k1:Nat):Int),blank (decide (h=0)) la)::cr v h la)++((h,((k2:Nat):Int),blank (decide (h=0)) lb)::cr v h lb)):=by
  rw[rh,hd0];show _::bl v3 h _=_;rw[fF,fF,OG,jh,<-oa2,<-ob2]
 have LA:cR v h x []=(h,0,x.l)::cr v h x.l:=by unfold cR;simp only[cP,ct,db,cu];rw[AN];simp
 refine⟨hO,?_,?_,λj hj=>?_,?_,λj h1 h2=>?_,λwt c hw=>?_,.inr ⟨rfl,λwt c hw=>?_⟩⟩
 .unfold fZ;rw[hns,kn,dK,<-oa2,<-ob2,kr];simp only[cP,ct,db,cu];rw[hl,vz];show fZ v3 h _++fZ v3 h _=_;rw[oa3,ob3];simp
 .rw[hns,LA,hl,lV,Dj];intro j;simp only[cO,cN,It,Iu,List.count_nil];omega
 .simp only[ar,gC,or_false]at hj
  rcases hj with rfl|rfl
  .exact mB
  .exact pk
 .rw[iL];refine⟨λhm=>?_,by simp⟩;have:=aP.1 hm;omega
 .rw[LA]at h1;simp only[cO,ar,not_or,gC,or_false]at h1 h2;exact hv j h1.1 h2.1 h2.2
 .have h1:=hw h;have h2:=dk (decide (h=0)) la;have h3:=dk (decide (h=0)) lb;rw[hns,LA,hl,lV,if_neg (by omega)];simp only[dZ,ja];rw[<-hl];have m2:wt h*(an (blank (decide (h=0)) la)-151)+wt h*(an (blank (decide (h=0)) lb)-151)+wt h*73<=wt h*(an x.l-151):=by
   rw[<-qE,<-qE];exact ly _ (by omega)
  have m3:wt (h+1)*(an [(⟨⟨#[]⟩,⟨#[]⟩,(k1:Nat)⟩:E),⟨keyOf lb,⟨#[]⟩,(k2:Nat)⟩]-151)=0:=by
   rw[Nat.sub_eq_zero_of_le (ay hbyt (by decide)),xw]
  rw[m3];show _+c*2<=_;omega
 .rw[LA,dZ];show 73*wt h<=wt h*(an x.l-151)+_;have:wt h*73<=wt h*(an x.l-151):=ly _ (by omega);omega
section
variable{o:Vw}{mm:Nat}
theorem wI:∀(m:Nat) (up:List Step) (h:Nat) (x:Step) (q:QS) (v:Vw) (u:Nat),up.length<m->Ba v h x up->Rd q v o u mm->
  ((fT m (x::up) q).2=11/\∃v' u',Rd (fT m (x::up) q).1 v' o u' mm/\u'<=u+up.length+2/\(mm<=u'\/512<=u'))\/
  ((fT m (x::up) q).2=0/\∃v' new H',Rd (fT m (x::up) q).1 v' o (u+new.length) mm/\Grown v v' (h+up.length) H' (cR v h x up) new)
 |0,up,h,x,q,v,u,hm,P,R=>absurd hm (by omega)
 |m+1,up,h,x,q,v,u,hm,P,R=>by
  have hbk:=P.bk;have uk:=P.leaf;rw[uk]at hbk
  by_cases hT:an x.l<=223
  .have p8:=ua P.ok (by rw[hbk];exact hT);rw[<-uk]at p8;have e:fT (m+1) (x::up) q=q.cK x.aw x.leaf x.l:=by
    unfold fT;rw[if_pos (.inr p8)]
   rw[e]
   rcases R.write P.here p8 with⟨w1,w2⟩|⟨w1,w2,w3⟩
   .refine .inr ⟨w1,_,[],_,w2,OI P hT ?_ (λj hj=>?_)⟩
    .rw[fU p8,if_pos rfl,uk,hbk]
    .unfold jq;rw[if_neg hj]
   .exact .inl ⟨w1,_,u,w2,by omega,.inl w3⟩
  .have J9:=Ki P.ok (by rw[hbk];omega);rw[<-uk]at J9;have ew:q.cK x.aw x.leaf x.l=(q,11):=by rw[OE q x.aw (by rw[J9];decide),J9]
   obtain⟨la,lb,e1,e2,e3,ha,hb,ba,bb,hs⟩:=OH P.cost (by omega) P.sz;have fy:=P.ok;rw[e1]at fy;obtain⟨sa,sb,s1,s2,s3⟩:=sG fy ha hb;have la0:(cf x.leaf la).2=0:=by rw[uk];exact ua sa (ay (dk _ _) ba)
   have lb0:(cf x.leaf lb).2=0:=by rw[uk];exact ua sb (ay (dk _ _) bb)
   cases up with
   |nil=>
    have AN:x.aw=0:=P.hole;have e:fT (m+1) [x] q=q.zC x.leaf la lb:=by
     unfold fT;rw[ew,if_neg (by rw[J9];simp)];dsimp only;rw[e2,e3]
    rw[e];unfold QS.zC
    rcases R.make la0 with⟨k1,a1,a2,a3,a4⟩|⟨a1,a2,a3⟩
    .rw[a1,if_neg (by simp)];dsimp only
     rcases a4.make lb0 with⟨k2,b1,b2,b3,b4⟩|⟨b1,b2,b3⟩
     .rw[b1,if_neg (by simp)];dsimp only;have eV:k1≠k2:=λe=>by
       unfold jq at b3;rw[e,if_pos rfl]at b3;exact absurd (congrArg Prod.snd b3) (by show ¬(0:Int)=3;decide)
      have pk:v (k2:Nat)=([],3):=by
       unfold jq at b3;rw[if_neg (by omega)]at b3;exact b3
      have Q6:(v 0).2=0:=by have h0:=P.here;rw[AN]at h0;exact h0
      have h0k1:(0:Int)≠(k1:Nat):=λe=>by rw[<-e]at a3;rw[a3]at Q6;exact absurd Q6 (by simp)
      have h0k2:(0:Int)≠(k2:Nat):=λe=>by rw[<-e]at pk;rw[pk]at Q6;exact absurd Q6 (by simp)
      have hL:(cf false [⟨⟨#[]⟩,⟨#[]⟩,(k1:Nat)⟩,⟨keyOf lb,⟨#[]⟩,(k2:Nat)⟩]).2=0:=by
       rcases nJ false [⟨⟨#[]⟩,⟨#[]⟩,(k1:Nat)⟩,⟨keyOf lb,⟨#[]⟩,(k2:Nat)⟩]with h1|h1|h1
       .exact h1.2.2.1
       .have h2:=h1.2.1;have h3:blank false [(⟨⟨#[]⟩,⟨#[]⟩,(k1:Nat)⟩:E),⟨keyOf lb,⟨#[]⟩,(k2:Nat)⟩]=[⟨⟨#[]⟩,⟨#[]⟩,(k1:Nat)⟩,⟨keyOf lb,⟨#[]⟩,(k2:Nat)⟩]:=rfl;rw[h3,et,et]at h2;have h4:0+0+7+((keyOf lb).size+0+7+0)>223:=h2;omega
       .exfalso;refine h1.1 ?_;show dD [(⟨⟨#[]⟩,⟨#[]⟩,(k1:Nat)⟩:E),⟨keyOf lb,⟨#[]⟩,(k2:Nat)⟩] false;refine Kf (λz hz=>?_) ?_
        .simp only[ar,gC,or_false]at hz
         rcases hz with rfl|rfl
         .exact⟨bm _,bm _,by show(if false=true then(-1:Int)else 0)<=((k1:Nat):Int);rw[if_neg (by simp)];omega,by show((k1:Nat):Int)<512;omega,.inr rfl⟩
         .exact⟨s3,bm _,by show(if false=true then(-1:Int)else 0)<=((k2:Nat):Int);rw[if_neg (by simp)];omega,by show((k2:Nat):Int)<512;omega,.inr rfl⟩
        .rw[dJ];refine⟨λz hz=>?_,Di _ _⟩;rw[aP.1 hz];obtain⟨y,hy⟩:=uq _ (lW sa ha);exact iN (rf y.key) (s1 y hy)
      have ke:(jq (jq v (k1:Nat) (cf x.leaf la).1) (k2:Nat) (cf x.leaf lb).1 0).2=0:=by
       rw[lE _ _ h0k2,lE _ _ h0k1];exact Q6
      rcases b4.write ke hL with⟨c1,c2⟩|⟨c1,c2,c3⟩
      .refine .inr ⟨c1,_,[(k1:Nat),(k2:Nat)],h+1,c2,?_⟩;refine grow_ok P e1 ha hb ba bb hs a2 b2 a3 pk eV ?_ ?_ ?_ (λj j1 j2 j3=>?_)
       .rw[fU hL,if_neg (λe=>h0k1 e.symm),fU lb0,if_neg (by omega),fU la0,if_pos rfl,uk]
       .rw[fU hL,if_neg (λe=>h0k2 e.symm),fU lb0,if_pos rfl,uk]
       .rw[fU hL,if_pos rfl];rfl
       .rw[lE _ _ j1,lE _ _ j3,lE _ _ j2]
      .exact .inl ⟨c1,_,_,c2,by simp,.inl c3⟩
     .rw[b1,if_pos (by simp)];exact .inl ⟨rfl,_,u+1+1,b2,by simp,b3.imp (λh=>by omega) (λh=>by omega)⟩
    .rw[a1,if_pos (by simp)];exact .inl ⟨rfl,_,u+1,a2,by omega,a3.imp (λh=>by omega) (λh=>by omega)⟩
   |cons y up=>
    have e:fT (m+1) (x::y::up) q=if(q.eg x.leaf lb).2.2≠0 then((q.eg x.leaf lb).1,(q.eg x.leaf lb).2.2)
      else if((q.eg x.leaf lb).1.cK x.aw x.leaf la).2≠0 then(q.eg x.leaf lb).1.cK x.aw x.leaf la
      else fT m ({y with l:=y.l.insertIdx (y.at_+1) ⟨keyOf lb,⟨#[]⟩,(q.eg x.leaf lb).2.1⟩}::up) ((q.eg x.leaf lb).1.cK x.aw x.leaf la).1:=by
     rw[fT,ew,if_neg (by rw[J9];simp)];dsimp only;rw[e2,e3]
    rw[e]
    rcases R.make lb0 with⟨k,a1,a2,a3,a4⟩|⟨a1,a2,a3⟩
    .rw[a1,if_neg (by simp)];dsimp only;have hxk:x.aw≠(k:Nat):=λe=>by have h0:=P.here;rw[e,a3]at h0;exact absurd h0 (by decide)
     have hz:(jq v (k:Nat) (cf x.leaf lb).1 x.aw).2=0:=by
      unfold jq;rw[if_neg hxk];exact P.here
     rcases a4.write hz la0 with⟨c1,c2⟩|⟨c1,c2,c3⟩
     .rw[if_neg (by rw[c1];simp)];obtain⟨P2,hG⟩:=pend_up (v2:=jq (jq v (k:Nat) (cf x.leaf lb).1) x.aw (cf x.leaf la).1) P e1 ha hb ba bb hs a2 a3 (by rw[fU la0,if_pos rfl,uk]) (by rw[fU la0,if_neg (λe=>hxk e.symm),fU lb0,if_pos rfl,uk])
       (λj j1 j2=>by unfold jq;rw[if_neg j1,if_neg j2]) ⟨by unfold jq;rw[if_pos rfl],by unfold jq;rw[if_neg (λe=>hxk e.symm),if_pos rfl]⟩
      rcases wI m up (h+1) _ _ _ (u+1) (by simp at hm;omega) P2 c2 with⟨d1,v',u',d2,d3,d4⟩|⟨d1,v',new,H',d2,d3⟩
      .exact .inl ⟨d1,v',u',d2,by simp;omega,d4⟩
      .refine .inr ⟨d1,v',(k:Nat)::new,H',?_,hG d3⟩;rw[ff,show u+(new.length+1)=u+1+new.length by omega];exact d2
     .rw[if_pos (by rw[c1];simp)];exact .inl ⟨c1,_,_,c2,by omega,.inl c3⟩
    .rw[a1,if_pos (by simp)];exact .inl ⟨rfl,_,u+1,a2,by omega,a3.imp (λh=>by omega) (λh=>by omega)⟩
end
open Nd (E)
variable{v v':Vw}{q:QS}{u:Nat}{L:List Int}{e:E}{val:ByteArray}
def rdC(v:Vw)(l:Int):Int×List UInt8×Int:=
 if(v l).2≠0 then(0,[],(v l).2)else if 228<bT (v l).1 2 then(0,[],14)else((bT (v l).1 0:Int)-1,((v l).1.drop 4).take (bT (v l).1 2),0)
def ON(v:Vw):Int->List Int->List UInt8->Prop
 |p,[],b=>p= -1/\b=[]
 |p,q::L,b=>p=q/\∃nx pc b',rdC v q=(nx,pc,0)/\b=pc++b'/\ON v nx L b'
theorem rdC_ok{q nx:Int}{pc:List UInt8}(h:rdC v q=(nx,pc,0)):(v q).2=0:=by
 unfold rdC at h
 by_cases h0:(v q).2=0
 .exact h0
 .rw[if_pos h0,Prod.mk.injEq,Prod.mk.injEq]at h;exact absurd h.2.2 h0
theorem OP{q:Int}(h:v' q=v q):rdC v' q=rdC v q:=by unfold rdC;rw[h]
theorem ON.here :∀{L:List Int} {p:Int} {b:List UInt8},ON v p L b->∀q∈L,(v q).2=0
 |[],_,_,_=>by simp
 |q::L,p,b,h=>by
  obtain⟨rfl,nx,pc,b',h1,h2,h3⟩:=h;intro x hx
  rcases ar.1 hx with rfl|hx
  .exact rdC_ok h1
  .exact h3.here x hx
theorem ON.congr :∀{L:List Int} {p:Int} {b:List UInt8},ON v p L b->(∀q∈L,v' q=v q)->ON v' p L b
 |[],_,_,h,_=>h
 |q::L,p,b,h,e=>by
  obtain⟨rfl,nx,pc,b',h1,h2,h3⟩:=h;exact⟨rfl,nx,pc,b',by rw[OP (e p (gy ..))];exact h1,h2,h3.congr (λx hx=>e x (bz _ hx))⟩
section
variable{o:Vw}{mm:Nat}
theorem ON.neg(R:Rd q v o u mm){p:Int}{b:List UInt8}(h:ON v p L b):p<0↔L=[]:=by
 cases L with
 |nil=>obtain⟨rfl,rfl⟩:=h;exact⟨λ_=>rfl,λ_=>by omega⟩
 |cons q L=>
  have:=R.lt (h.here q (gy ..));obtain⟨rfl,_⟩:=h;exact⟨λh=>by omega,λh=>absurd h (by simp)⟩
theorem Rd.e9(R:Rd q v o u mm)(p:Int):Rd (q.e9 p).1 v o u mm/\((q.e9 p).2=rdC v p\/((q.e9 p).2=(0,[],11)/\mm<=u)):=by
 obtain⟨a,b⟩:=R.get p;unfold QS.e9 rdC
 rcases b with⟨b1,b2⟩|⟨b1,b2⟩|⟨b1,b2⟩
 .rw[b2,if_neg (show ¬((⟨(v p).1.toArray⟩:ByteArray),(0:Int)).2≠0 by simp),if_neg (show ¬(v p).2≠0 by omega)]
  by_cases hx:228<bT (v p).1 2
  .have hx2:228<bT (⟨(v p).1.toArray⟩:ByteArray).data.toList 2:=hx;rw[if_pos hx2,if_pos hx];exact⟨a,.inl rfl⟩
  .have hx2:¬228<bT (⟨(v p).1.toArray⟩:ByteArray).data.toList 2:=hx;rw[if_neg hx2,if_neg hx];exact⟨a,.inl rfl⟩
 .rw[b2,b1,if_pos (by simp),if_pos (by simp)];exact⟨a,.inl rfl⟩
 .rw[b1,if_pos (by simp)];exact⟨a,.inr ⟨rfl,b2⟩⟩
theorem sI:∀{L:List Int} {p:Int} {b:List UInt8} (m:Nat) (l:List Int) (acc:List UInt8) (q:QS) (v:Vw) (u:Nat),Rd q v o u mm->ON v p L b->L≠[]->L.length<=m->(acc++b).length<=1024->
  Rd (q.oX m p l acc).1 v o u mm/\((q.oX m p l acc).2=(l++L,acc++b,0)\/((q.oX m p l acc).2=([],[],11)/\mm<=u))
 |[],_,_,_,_,_,_,_,_,_,_,h,_,_=>absurd rfl h
 |c::L,p,b,0,_,_,_,_,_,_,_,_,h,_=>by simp at h
 |c::L,p,b,m+1,l,acc,q,v,u,R,h,_,hm,hb=>by
  obtain⟨rfl,nx,pc,b',h1,rfl,h3⟩:=h;obtain⟨r1,r2⟩:=R.e9 p;unfold QS.oX
  rcases r2 with r2|⟨r2,r3⟩
  .rw[h1]at r2;rw[r2];dsimp only;rw[if_neg (by omega),if_neg (by omega),if_neg (by simp at hb ⊢;omega)];have hneg:=h3.neg R
   by_cases hn:nx<0
   .have hL:=hneg.1 hn;subst hL;obtain⟨_,rfl⟩:=h3;rw[if_pos hn,jh];exact⟨r1,.inl rfl⟩
   .have hL:L≠[]:=λe=>hn (hneg.2 e);rw[if_neg hn];obtain⟨i1,i2⟩:=sI m (l++[p]) (acc++pc) (q.e9 p).1 v u r1 h3 hL (by simpa using hm) (by simpa [cL]using hb);refine⟨i1,i2.imp (λe=>?_) id⟩;rw[e];simp
  .rw[r2];dsimp only;rw[if_neg (by omega),if_pos (by omega)];exact⟨r1,.inr ⟨rfl,r3⟩⟩
def mo(v:Vw)(L:List Int):Vw:=λj=>if j∈L then([],3)else v j
theorem zP(v:Vw):mo v []=v:=by funext j;simp[mo]
theorem zQ:∀(L:List Int) (q:QS) (v:Vw) (u:Nat),Rd q v o u mm->L.Nodup->(∀j∈L,(v j).2=0)->(q.tK L).2=0/\Rd (q.tK L).1 (mo v L) o u mm
 |[],q,v,u,R,_,_=>by rw[zP];exact⟨rfl,R⟩
 |p::L,q,v,u,R,hn,hh=>by
  rw[iL]at hn;obtain⟨a,b⟩:=R.drop p (hh p (by simp));unfold QS.tK;rw[if_neg (by rw[a];simp)];obtain⟨c,d⟩:=zQ L (q.aS p).1 _ u b hn.2 (λj hj=>by
   have eV:j≠p:=λe=>hn.1 (by rw[<-e];exact hj);rw[EG v eV];exact hh j (by simp[hj]))
  refine⟨c,?_⟩;have e:mo (EF v p) L=mo v (p::L):=by
   funext j
   unfold mo EF
   by_cases h1:j∈L
   .rw[if_pos h1,if_pos (by simp[h1])]
   .rw[if_neg h1]
    by_cases h2:j=p
    .rw[if_pos h2,if_pos (by simp[h2])]
    .rw[if_neg h2,if_neg (by simp[h1,h2])]
  rw[<-e];exact d
theorem Rd.dropAny(R:Rd q v o u mm)(p:Int):∃v',Rd (q.aS p).1 v' o u mm:=by
 rcases R.err p with h|h
 .exact⟨_,(R.drop p h).2⟩
 .obtain⟨n,K,w⟩:=R.w;obtain⟨a,c⟩:=w.drop p
  rcases c with⟨c1,c2,c3⟩|⟨c1,c2,c3⟩
  .rw[R.v,h]at c1;exact absurd c1 (by decide)
  .exact⟨v,R.step (GQ q p) ⟨n,_,a.w⟩ (λj=>(c3 j).trans (R.v j))⟩
theorem wJ:∀(L:List Int) (q:QS) (v:Vw) (u:Nat),Rd q v o u mm->∃v',Rd (q.mP L) v' o u mm
 |[],q,v,u,R=>⟨v,R⟩
 |p::L,q,v,u,R=>by
  obtain⟨v1,R1⟩:=R.dropAny p;rw[QS.tL];exact wJ L _ _ _ R1
theorem link_rd(next:Nat)(v:List UInt8)(i:Nat)(hn:next<60000):(jU v i ((next:Int)-1)).length<=232/\bT (eI (jU v i ((next:Int)-1)) 232) 0=next/\bT (eI (jU v i ((next:Int)-1)) 232) 2=(dR v i).length/\((eI (jU v i ((next:Int)-1)) 232).drop 4).take (dR v i).length=dR v i:=by
 have hp:(dR v i).length<=228:=by unfold dR;rw[bK];omega
 unfold jU eI;rw[show((next:Int)-1+1).toNat=next by omega];generalize dR v i=pc at *;unfold pL bT;refine⟨by simp;omega,?_,?_,?_⟩
 .simp;omega
 .simp;omega
 .simp
theorem OQ(v:List UInt8)(i:Nat):(dR v i).length<=228:=by unfold dR;rw[bK];omega
theorem Kn(v:List UInt8)(i:Nat):v.drop (228*i)=dR v i++v.drop (228*(i+1)):=by
 unfold dR;rw[show 228*(i+1)=228*i+228 by omega,<-ji,mI]
theorem Cz(val:List UInt8):∀(i:Nat) (q:QS) (v:Vw) (u:Nat) (next:Int) (made:List Int) (L:List Int),Rd q v o u mm->ON v next L (val.drop (228*i))-> -1<=next->next<=511->
  ((QS.se val i q next made).2.2=11/\∃v' u',Rd (QS.se val i q next made).1 v' o u' mm/\u'<=u+i/\(mm<=u'\/512<=u'))\/
  ((QS.se val i q next made).2.2=0/\ -1<=(QS.se val i q next made).2.1/\(QS.se val i q next made).2.1<=511/\∃v' new,Rd (QS.se val i q next made).1 v' o (u+new.length) mm/\ON v' (QS.se val i q next made).2.1 (new++L) val/\new.length=i/\(∀j∈new,v j=([],3))/\new.Nodup/\∀j,j∉new->v' j=v j)
 |0,q,v,u,next,made,L,R,hc,h1,h2=>by
  right;exact⟨rfl,h1,h2,v,[],R,hc,rfl,by simp,qv,λ_ _=>rfl⟩
 |i+1,q,v,u,next,made,L,R,hc,h1,h2=>by
  obtain⟨nx,rfl⟩:∃nx:Nat,next=(nx:Int)-1:=⟨(next+1).toNat,by omega⟩;obtain⟨k1,k2,k3,k4⟩:=link_rd nx val i (by omega);unfold QS.se;have hn:=R.new ⟨(jU val i ((nx:Int)-1)).toArray⟩ (by show(jU val i _).toArray.size<=232;rw[jM];exact k1);have hd:(⟨(jU val i ((nx:Int)-1)).toArray⟩:ByteArray).data.toList=jU val i ((nx:Int)-1):=rfl;rw[hd]at hn
  rcases hn with⟨k,a1,a2,a3,a4⟩|⟨a1,a2,a3⟩
  .rw[if_neg (by rw[a1];simp),show(q.bP (jU val i ((nx:Int)-1))).2.1=((k:Nat):Int)from by rw[a1]];have hch:ON (jq v (k:Nat) (eI (jU val i ((nx:Int)-1)) 232)) (k:Nat) ((k:Nat)::L) (val.drop (228*i)):=by
    refine⟨rfl,(nx:Int)-1,dR val i,val.drop (228*(i+1)),?_,Kn val i,hc.congr (λx hx=>?_)⟩
    .unfold rdC;have Dy:=OQ val i;rw[Cu,if_neg (by simp)];dsimp only;rw[k3,if_neg (by omega),k2,k4]
    .have D7:=hc.here x hx;have eV:x≠((k:Nat):Int):=λe=>by rw[e,a3]at D7;exact absurd D7 (by decide)
     exact lE v _ eV
   rcases Cz val i _ _ (u+1) ((k:Nat):Int) (made++[((k:Nat):Int)]) ((k:Nat)::L) a4 hch (by omega) (by omega)with⟨b1,v',u',b2,b3,b4⟩|⟨b1,b2,b3,v',new,b4,b5,b6,b7,b8,b9⟩
   .exact .inl ⟨b1,v',u',b2,by omega,b4⟩
   .refine .inr ⟨b1,b2,b3,v',new++[((k:Nat):Int)],by rw[aQ,mE,show u+(new.length+1)=u+1+new.length by omega];exact b4,by rw[cL];exact b5,by simp[b6],λj hj=>?_,?_,λj hj=>?_⟩
    .rcases az.1 hj with hj|hj
     .have h3:=b7 j hj
      by_cases e:j=((k:Nat):Int)
      .rw[e];exact a3
      .rw[lE v _ e]at h3;exact h3
     .rw[aP.1 hj];exact a3
    .rw[gz];refine⟨b8,by simp,λx hx y hy e=>?_⟩;rw[aP.1 hy]at e;have h3:=b7 x hx;rw[e,Cu]at h3;exact absurd (congrArg Prod.snd h3) (by show ¬(0:Int)=3;decide)
    .rw[az,not_or]at hj;rw[b9 j hj.1,lE v _ (λe=>hj.2 (by simp[e]))]
  .rw[if_pos (by rw[a1];simp)];left;obtain⟨v1,R1⟩:=wJ made _ _ _ a2;exact⟨by show(q.bP _).2.2=11;rw[a1],v1,u+1,R1,by omega,a3.imp (λh=>by omega) (λh=>by omega)⟩
def Qd(v:Vw)(e:E)(val:ByteArray)(L:List Int):Prop:=
 (e.aU= -1/\e.val=val/\L=[]/\val.size<=40)\/(0<=e.aU/\e.aU<=511/\e.val.size=0/\L≠[]/\L.length=(gU val.size).toNat/\40<val.size/\val.size<=1024/\ON v e.aU L val.data.toList/\L.Nodup)
theorem xQ{n:Nat}(h:n<=1024):1<=(gU n).toNat/\(gU n).toNat<=5/\n<=228*(gU n).toNat:=by
 unfold gU;omega
theorem Qd.congr(h:Qd v e val L)(hv:∀j∈L,v' j=v j):Qd v' e val L:=by
 rcases h with h|⟨a,b,z,c,d,f,g,i,j⟩
 .exact .inl h
 .exact .inr ⟨a,b,z,c,d,f,g,i.congr hv,j⟩
theorem Qd.here(h:Qd v e val L):∀j∈L,(v j).2=0:=by
 rcases h with⟨_,_,h,_⟩|⟨a,b,z,c,d,f,g,i,j⟩
 .rw[h];simp
 .exact i.here
theorem Qd.nodup(h:Qd v e val L):L.Nodup:=by
 rcases h with⟨_,_,h,_⟩|⟨a,b,z,c,d,f,g,i,j⟩
 .rw[h];exact qv
 .exact j
theorem sJ(R:Rd q v o u mm)(h:Qd v e val L):
  Rd (q.fE e).1 v o u mm/\((q.fE e).2=(val,0)\/((q.fE e).2.2=11/\mm<=u)):=by
 unfold QS.fE
 rcases h with⟨a,b,c,d⟩|⟨a,b,z,c,d,f,g,i,j⟩
 .rw[if_pos (by omega)];exact⟨R,.inl (by rw[b])⟩
 .rw[if_neg (by omega)];have hn:=xQ g;have hs:val.data.toList.length=val.size:=by simp
  obtain⟨w1,w2⟩:=sI 5 [] [] q v u R i c (by omega) (by rw[cX,hs];exact g);refine⟨w1,?_⟩;unfold QS.eE
  rcases w2 with w2|⟨w2,w3⟩
  .left;rw[w2];rfl
  .right;rw[w2];exact⟨rfl,w3⟩
theorem CA(R:Rd q v o u mm)(h:Qd v e val L):
  ((q.pY e).2=0/\Rd (q.pY e).1 (mo v L) o u mm)\/((q.pY e).2=11/\Rd (q.pY e).1 v o u mm/\mm<=u):=by
 unfold QS.pY
 rcases h with⟨a,b,c,d⟩|⟨a,b,z,c,d,f,g,i,j⟩
 .rw[if_pos (by omega),c,zP];exact .inl ⟨rfl,R⟩
 .rw[if_neg (by omega)];have hn:=xQ g;have hs:val.data.toList.length=val.size:=by simp
  obtain⟨w1,w2⟩:=sI 5 [] [] q v u R i c (by omega) (by rw[cX,hs];exact g);unfold QS.pN;have w1:Rd (q.eE e.aU).1 v o u mm:=w1
  rcases w2 with w2|⟨w2,w3⟩
  .have w2:(q.eE e.aU).2=([]++L,[]++val.data.toList,0):=w2;rw[w2,if_neg (by simp)];obtain⟨d1,d2⟩:=zQ L (q.eE e.aU).1 v u w1 j i.here;left;refine⟨?_,d2⟩;show xg ((q.eE e.aU).1.tK L).2=0;rw[d1];decide
  .have w2:(q.eE e.aU).2=([],[],11):=w2;rw[w2,if_pos (by simp)];exact .inr ⟨(by decide:xg 11=11),w1,w3⟩
theorem OR(R:Rd q v o u mm)(key val:ByteArray)(hv:val.size<=1024):
  ((q.iQ key val).2.2=11/\∃v' u',Rd (q.iQ key val).1 v' o u' mm/\u'<=u+5/\(mm<=u'\/512<=u'))\/
  ((q.iQ key val).2.2=0/\∃v' L,Rd (q.iQ key val).1 v' o (u+L.length) mm/\Qd v' (q.iQ key val).2.1 val L/\(q.iQ key val).2.1.key=key/\(∀j∈L,v j=([],3))/\∀j,j∉L->v' j=v j):=by
 unfold QS.iQ
 by_cases h:val.size<=40
 .rw[if_pos h];exact .inr ⟨rfl,v,[],R,.inl ⟨rfl,rfl,rfl,h⟩,rfl,by simp,λ_ _=>rfl⟩
 .rw[if_neg h];have hn:=xQ hv;have hs:val.data.toList.length=val.size:=by simp
  have he:q.pO val.data.toList=QS.se val.data.toList (gU val.size).toNat q (-1) []:=by
   unfold QS.pO;rw[if_neg (by omega),hs]
  rw[he]
  rcases Cz val.data.toList (gU val.size).toNat q v u (-1) [] [] R ⟨rfl,j8 (by omega)⟩ (by omega) (by omega)with⟨a1,v',u',a2,a3,a4⟩|⟨a1,a2,a3,v',new,a4,a5,a6,a7,a8,a9⟩
  .exact .inl ⟨a1,v',u',a2,by omega,a4⟩
  .rw[jh]at a5;have eV:new≠[]:=λe=>by rw[e]at a6;simp at a6;omega
   have hp:¬(QS.se val.data.toList (gU val.size).toNat q (-1) []).2.1<0:=λh=>eV ((a5.neg a4).1 h);exact .inr ⟨a1,v',new,a4,.inr ⟨Int.not_lt.1 hp,a3,rfl,eV,a6,by omega,hv,a5,a8⟩,rfl,a7,a9⟩
end
variable{v:Vw}{H:Nat}{key:ByteArray}{up:List Step}{x:Step}
abbrev MT:=E×ByteArray×List Int
def py(M:List MT):List Int:=M.flatMap λm=>m.2.2
def iR(M:List MT):List (ByteArray×ByteArray):=M.map λm=>(m.1.key,m.2.1)
@[simp] theorem fJ(a b:List MT):py (a++b)=py a++py b:=by simp[py]
@[simp] theorem Mb:py []=[]:=rfl
@[simp] theorem mq(m:MT)(b:List MT):py (m::b)=m.2.2++py b:=rfl
@[simp] theorem Mc(a b:List MT):iR (a++b)=iR a++iR b:=by simp[iR]
@[simp] theorem prs_nil:iR []=[]:=rfl
@[simp] theorem G7(m:MT)(b:List MT):iR (m::b)=(m.1.key,m.2.1)::iR b:=rfl
structure Tree(v:Vw)(H:Nat)(M:List MT):Prop where
 ok:lT v H 0
 en:M.map (λm=>m.1)=fZ v H 0
 va:∀m∈M,Qd v m.1 m.2.1 m.2.2
 G4:(bw (aI v H 0)++py M).Nodup
 all:∀j,(v j).2=0->j∈bw (aI v H 0)++py M
structure Ko(l:List (ByteArray×ByteArray))(key:ByteArray)(A C B:List (ByteArray×ByteArray)):Prop where
 e:l=A++(C++B)
 a:∀x∈A,eL x.1 key
 b:∀x∈B,eL key x.1
 c:C=[]\/∃y,C=[(key,y)]
structure Dec(v:Vw)(key:ByteArray)(up:List Step)(x:Step)(M M1 MC M2:List MT)(a b:List E):Prop where
 n:bf x.l key=a.length
 l:x.l=a++(MC.map (λm=>m.1)++b)
 m:M=M1++(MC++M2)
 m1:M1.map (λm=>m.1)=bV (fc v up 0)++a
 m2:M2.map (λm=>m.1)=b++bV (da v up 0)
 k1:∀m∈M1,eL m.1.key key
 k2:∀m∈M2,eL key m.1.key
 c:(MC=[]/\cd x.l key=false)\/∃m,MC=[m]/\m.1.key=key/\cd x.l key=true
theorem zR{M:List MT}(T:Tree v H M)(W:WayV v key up x)(hl:up.length=H):∃M1 MC M2 a b,Dec v key up x M M1 MC M2 a b:=by
 obtain⟨p1,p2,p3,p4,p5⟩:=zM W;rw[hl]at p5;have nI:=T.en;rw[p5]at nI;obtain⟨a,b,h1,h2,h3,h4⟩:=zL (oN W.nd) key;have main:∀(c b':List E),b=c++b'->(∀e∈b',eL key e.key)->∃M1 MC M2,M=M1++(MC++M2)/\M1.map (λm=>m.1)=bV (fc v up 0)++a/\MC.map (λm=>m.1)=c/\M2.map (λm=>m.1)=b'++bV (da v up 0)/\(∀m∈M1,eL m.1.key key)/\(∀m∈M2,eL key m.1.key):=λc b' hb hb'=>by
  have Ka:M.map (λm=>m.1)=(bV (fc v up 0)++a)++(c++(b'++bV (da v up 0))):=by rw[nI,h1,hb];simp
  obtain⟨M1,MR,e1,e2,e3⟩:=List.map_eq_append_iff.1 Ka;obtain⟨MC,M2,e4,e5,e6⟩:=List.map_eq_append_iff.1 e3;refine⟨M1,MC,M2,by rw[e1,e4],e2,e5,e6,λm hm=>?_,λm hm=>?_⟩
  .have:m.1∈bV (fc v up 0)++a:=by rw[<-e2];exact cg.2 ⟨m,hm,rfl⟩
   rcases az.1 this with h|h
   .exact p3 _ h
   .exact h3 _ h
  .have:m.1∈b'++bV (da v up 0):=by rw[<-e6];exact cg.2 ⟨m,hm,rfl⟩
   rcases az.1 this with h|h
   .exact hb' _ h
   .exact p4 _ h
 rcases h4 with⟨h4,c,b',hb,hc,hb'⟩|⟨h4,hb⟩
 .obtain⟨M1,MC,M2,e1,e2,e3,e4,e5,e6⟩:=main [c] b' (by rw[hb];rfl) hb';have hMC:∃m,MC=[m]/\m.1=c:=by
   match MC,e3 with
   |[m],e3=>exact⟨m,rfl,by simpa using e3⟩
   |[],e3=>exact absurd e3 (by simp)
   |_::_::_,e3=>exact absurd e3 (by simp)
  obtain⟨m,rfl,rfl⟩:=hMC;exact⟨M1,[m],M2,a,b',h2,by rw[h1,hb];simp,e1,e2,e4,e5,e6,.inr ⟨m,rfl,hc,h4⟩⟩
 .obtain⟨M1,MC,M2,e1,e2,e3,e4,e5,e6⟩:=main [] b rfl hb;have hMC:MC=[]:=List.map_eq_nil_iff.1 e3;subst hMC;exact⟨M1,[],M2,a,b,h2,by rw[h1];simp,e1,e2,e4,e5,e6,.inl ⟨rfl,h4⟩⟩
theorem Dec.TS{M M1 MC M2:List MT}{a b:List E}(d:Dec v key up x M M1 MC M2 a b):Ko (iR M) key (iR M1) (iR MC) (iR M2):=by
 refine⟨by rw[d.m];simp,λy hy=>?_,λy hy=>?_,?_⟩
 .obtain⟨m,hm,rfl⟩:=cg.1 hy;exact d.k1 m hm
 .obtain⟨m,hm,rfl⟩:=cg.1 hy;exact d.k2 m hm
 .rcases d.c with⟨h,_⟩|⟨m,h,hk,_⟩
  .rw[h];exact .inl rfl
  .rw[h];exact .inr ⟨m.2.1,by rw[<-hk];rfl⟩
section
variable{o:Vw}{mm:Nat}
def G8(C:List (ByteArray×ByteArray)):ByteArray×Int:=match C with
 |[]=>(⟨#[]⟩,9)
 |x::_=>(x.2,0)
theorem zS(up:List Step)(x:Step):iE (up.reverse++[x])=x:=by unfold iE;simp
theorem TU{q:QS}{u:Nat}{M:List MT}(R:Rd q v o u mm)(T:Tree v H M)(hH:H<=15)(key:ByteArray):
  Rd (q.eQ key).1 v o u mm/\(((q.eQ key).2.2=11/\mm<=u)\/∃A C B,Ko (iR M) key A C B/\(q.eQ key).2=G8 C):=by
 obtain⟨r1,r2⟩:=EJ R T.ok hH key;unfold QS.eQ
 rcases r2 with⟨r2,r3⟩|⟨r2,up,x,r3,r4,W⟩
 .rw[if_pos (by rw[r2];simp)];exact⟨r1,.inl ⟨r2,r3⟩⟩
 .rw[if_neg (by rw[r2];simp),r3,zS];obtain⟨M1,MC,M2,a,b,d⟩:=zR T W r4;have hp:=d.TS
  rcases d.c with⟨h1,h2⟩|⟨m,h1,hk,h2⟩
  .rw[if_neg (by rw[h2];simp)];refine⟨r1,.inr ⟨_,_,_,hp,?_⟩⟩;rw[h1];rfl
  .rw[if_pos h2];have hx:x.l.getD (bf x.l key) Nd.E.zero=m.1:=by rw[d.n,d.l,h1];simp[jj]
   rw[hx];obtain⟨g1,g2⟩:=sJ r1 (T.va m (by rw[d.m,h1];simp));refine⟨g1,g2.symm.imp id (λg2=>⟨_,_,_,hp,?_⟩)⟩;rw[g2,h1];rfl
end
variable{M:List MT}{v:Vw}{H:Nat}
theorem OT(a:List E)(n:E)(b:List E):(a++b).insertIdx a.length n=a++n::b:=by
 induction a with
 |nil=>rfl
 |cons x a ih=>rw[mU,ff,ID,ih];rfl
theorem eA{α:Type}{a b:List α}:(a++b).Nodup↔a.Nodup/\b.Nodup/\∀x∈a,x∉b:=by
 rw[gz];exact⟨λ⟨h1,h2,h3⟩=>⟨h1,h2,λx hx hb=>h3 x hx x hb rfl⟩,λ⟨h1,h2,h3⟩=>⟨h1,h2,λx hx y hy e=>h3 x hx (by rw[e];exact hy)⟩⟩
theorem uc{j:Int}:j∈py M↔ ∃m∈M,j∈m.2.2:=lq
theorem Tree.TV(T:Tree v H M):∀j∈py M,(v j).2=0:=λj hj=>by
 obtain⟨m,hm,hj⟩:=uc.1 hj;exact(T.va m hm).here j hj
theorem Tree.CB(T:Tree v H M):∀j∈bw (aI v H 0),(v j).2=0:=EK H 0 T.ok
structure SetP(v v':Vw)(H:Nat)(M:List MT)(key value:ByteArray)(H':Nat)(M':List MT)(new:Nat)(A C B:List (ByteArray×ByteArray))(h c:Nat):Prop where
 t:Tree v' H' M'
 d:Ko (iR M) key A C B
 m:iR M'=A++(key,value)::B
 n:new=c+h
 c:c<=5/\(value.size<=40->c=0)
 Cy:∀wt c,Kk wt c->ef wt (aI v' H' 0)+c*h<=ef wt (aI v H 0)+wt 0*(key.size+(if value.size<=40 then value.size else 0)+7)+(if H'=H then 0 else c)
 h:H'=H\/(H'=H+1/\∀wt c,Kk wt c->73*wt H<=ef wt (aI v H 0)+wt 0*(key.size+(if value.size<=40 then value.size else 0)+7))
section
variable{o:Vw}{mm:Nat}
theorem TX{q:QS}{u:Nat}(R:Rd q v o u mm)(T:Tree v H M)(hH:H<=15)(key value:ByteArray)(hk:key.size<=32)(hv:value.size<=1024):
  ((q.fQ key value).2=11/\∃v' u',Rd (q.fQ key value).1 v' o u' mm/\u'<=u+H+8/\(mm<=u'\/512<=u'))\/
  ((q.fQ key value).2=0/\∃v' H' M' new A C B h c,Rd (q.fQ key value).1 v' o (u+new) mm/\SetP v v' H M key value H' M' new A C B h c):=by
 obtain⟨r1,r2⟩:=EJ R T.ok hH key;unfold QS.fQ;rw[if_neg (by omega)]
 rcases r2 with⟨r2,r3⟩|⟨r2,up,x,r3,r4,W⟩
 .rw[if_pos (by rw[r2];simp)];exact .inl ⟨r2,v,u,r1,by omega,.inl r3⟩
 rw[if_neg (by rw[r2];simp),r3,zS,show(up.reverse++[x]).dropLast.reverse=up by simp];obtain⟨p1,p2,p3,p4,p5⟩:=zM W;rw[r4]at p1 p2 p5;obtain⟨M1,MC,M2,a,b,d⟩:=zR T W r4;have p9:bw (aI v H 0)=bw (fc v up 0)++x.aw::bw (da v up 0):=by rw[p2,cN,cO]
 have OU:=eA.1 T.G4;have haw:pZ x.l key=a++b:=by
  unfold pZ
  rcases d.c with⟨h1,h2⟩|⟨m,h1,hkk,h2⟩
  .rw[if_neg (by rw[h2];simp),d.l,h1];rfl
  .rw[if_pos h2,d.n,d.l,h1];exact vB a m.1 b
 have hdnod:(py MC).Nodup:=by
  have:=OU.2.1;rw[d.m,fJ,fJ]at this;exact(eA.1 (eA.1 this).2.1).1
 have AQ:(((q.eB key).1.kW x.l key).2=0/\Rd ((q.eB key).1.kW x.l key).1 (mo v (py MC)) o u mm)\/(((q.eB key).1.kW x.l key).2=11/\Rd ((q.eB key).1.kW x.l key).1 v o u mm/\mm<=u):=by
  unfold QS.kW
  rcases d.c with⟨h1,h2⟩|⟨m,h1,hkk,h2⟩
  .rw[if_neg (by rw[h2];simp),h1,Mb,zP];exact .inl ⟨rfl,r1⟩
  .rw[if_pos h2];have hx:x.l.getD (bf x.l key) Nd.E.zero=m.1:=by rw[d.n,d.l,h1];simp[jj]
   rw[hx,h1,mq,Mb,jh];exact CA r1 (T.va m (by rw[d.m,h1];simp))
 rw[haw,d.n]
 rcases AQ.symm with⟨o1,o2,o3⟩|⟨o1,o2⟩
 .rw[if_pos (by rw[o1];simp)];exact .inl ⟨o1,v,u,o2,by omega,.inl o3⟩
 rw[if_neg (by rw[o1];simp)];unfold QS.Tm
 rcases OR o2 key value hv with⟨s1,v',u',s2,s3,s4⟩|⟨s1,v2,L,s2,s3,s4,s5,s6⟩
 .rw[if_pos (by rw[s1];simp)];exact .inl ⟨s1,v',u',s2,by omega,s4⟩
 rw[if_neg (by rw[s1];simp)];obtain⟨n,hn⟩:∃n,(((q.eB key).1.kW x.l key).1.iQ key value).2.1=n:=⟨_,rfl⟩;rw[hn]at s3 s4 ⊢;have hLl:L.length<=5/\(value.size<=40->L.length=0):=by
  rcases s3 with⟨_,_,h,_⟩|⟨_,_,_,_,h,h40,h2,_⟩
  .rw[h];simp
  .have:=xQ h2;exact⟨by omega,λh=>by omega⟩
 have pk:∀j,(v j).2=0->j∉py MC->v2 j=v j:=λj hj hm=>by
  have h1:mo v (py MC) j=v j:=by unfold mo;rw[if_neg hm]
  rw[s6 j (λhL=>?_),h1];have:=s5 j hL;rw[h1]at this;rw[this]at hj;exact absurd hj (by decide)
 have hMCin:∀j∈py MC,j∈py M:=λj hj=>by rw[d.m,fJ,fJ];simp[hj]
 have hnd2:∀j∈bw (aI v H 0),v2 j=v j:=λj hj=>pk j (T.CB j hj) (λhm=>OU.2.2 j hj (hMCin j hm));obtain⟨c1,c2,c3⟩:=gG (v':=v2) up 0 x.aw W.hole (λj hj=>hnd2 j (by rw[p9];simp[hj])) (λj hj=>hnd2 j (by rw[p9];simp[hj]));have uM:∀e∈a++b,e∈x.l:=λe he=>by rw[d.l];rcases az.1 he with h|h<;>simp[h]
 have rI:=lU (oM (v:=v) (p:=x.aw) (by rw[W.nd]));rw[W.nd]at rI;have rI:∀e∈x.l,dg e true:=rI;have hbx:an x.l<=223:=by have:=W.ok.2;rw[W.nd]at this;exact this
 have hbab:an (a++b)<=an x.l:=by rw[d.l,ez,ez,ez];omega
 have hrn:dg n true/\n.val.size=(if value.size<=40 then value.size else 0):=by
  rcases s3 with⟨h1,h2,_,h4⟩|⟨h1,h2,h3,h4,h5,h40,h6,_⟩
  .refine⟨⟨by rw[s4];exact hk,by rw[h2];exact h4,by rw[h1];decide,by rw[h1];decide,.inl (by rw[h1];decide)⟩,by rw[if_pos h4,h2]⟩
  .exact⟨⟨by rw[s4];exact hk,by rw[h3];decide,by rw[if_pos rfl];omega,by omega,.inr h3⟩,by rw[if_neg (by omega),h3]⟩
 obtain⟨hrn,hvn⟩:=hrn;have hcn:n.key.size+n.val.size+7=key.size+(if value.size<=40 then value.size else 0)+7:=by rw[s4,hvn]
 have hcn79:n.key.size+n.val.size+7<=79:=by have h1:=hrn.1;have h2:=hrn.2.1;omega
 have hbn:an (a++n::b)=an (a++b)+(n.key.size+n.val.size+7):=by rw[ez,ez,et];omega
 have hins:(a++b).insertIdx a.length n=a++n::b:=OT a n b;rw[hins];have hla:∀e∈a,eL e.key key:=λe he=>by
  have:e∈M1.map (λm=>m.1):=by rw[d.m1];exact bF _ he
  obtain⟨m,hm,rfl⟩:=cg.1 this;exact d.k1 m hm
 have hlb:∀e∈b,eL key e.key:=λe he=>by
  have:e∈M2.map (λm=>m.1):=by rw[d.m2];exact bQ _ he
  obtain⟨m,hm,rfl⟩:=cg.1 this;exact d.k2 m hm
 have hpw:=oN W.nd;rw[d.l,dI,dI]at hpw;have P:Ba v2 0 ⟨x.aw,x.leaf,a++n::b,x.at_⟩ up:=by
  refine⟨c1,W.leaf,?_,⟨λe he=>?_,?_⟩,by simp,?_,λe he=>?_,?_,?_⟩
  .show(v2 x.aw).2=0;have sN:x.aw∈bw (aI v H 0):=by rw[p9];simp
   rw[hnd2 _ sN];exact T.CB _ sN
  .show dg e true
   rcases az.1 he with he|he
   .exact rI e (uM e (bQ _ he))
   .rcases ar.1 he with rfl|he
    .exact hrn
    .exact rI e (uM e (bF _ he))
  .show(a++n::b).Pairwise λc e=>eL c.key e.key;rw[dI,dJ];refine⟨hpw.1,⟨λe he=>by rw[s4];exact hlb e he,hpw.2.1.2.1⟩,λe he e' oY=>?_⟩
   rcases ar.1 oY with rfl|oY
   .rw[s4];exact hla e he
   .exact hpw.2.2 e he e' (bF _ oY)
  .show blank x.leaf _=_;rw[W.leaf];exact ko _
  .have he:e∈a++n::b:=he
   rcases az.1 he with he|he
   .exact W.TM e (uM e (bQ _ he))
   .rcases ar.1 he with rfl|he
    .rw[s4];exact W.key
    .exact W.TM e (uM e (bF _ he))
  .show(bw (fc v2 up 0)++x.aw::([]++bw (da v2 up 0))).Nodup;rw[c2,c3,cX,<-p9];exact OU.1
  .show an (a++n::b)<=302;omega
 have LA:cR v2 0 ⟨x.aw,x.leaf,a++n::b,x.at_⟩ up=fc v up 0++(0,x.aw,a++n::b)::da v up 0:=by
  unfold cR;rw[c2,c3];rfl
 have TY:bw (cR v2 0 ⟨x.aw,x.leaf,a++n::b,x.at_⟩ up)=bw (aI v H 0):=by rw[LA,p9,cN,cO]
 have TR:∀wt:Nat->Nat,ef wt (cR v2 0 ⟨x.aw,x.leaf,a++n::b,x.at_⟩ up)<=ef wt (aI v H 0)+wt 0*(n.key.size+n.val.size+7):=λwt=>by
  rw[LA,p2];simp only[ja,dZ];have:wt 0*(an (a++n::b)-151)<=wt 0*(an x.l-151)+wt 0*(n.key.size+n.val.size+7):=by
   rw[<-qE];exact ly _ (by omega)
  omega
 rcases wI (up.length+1) up 0 ⟨x.aw,x.leaf,a++n::b,x.at_⟩ _ v2 (u+L.length) (by omega) P s2 with⟨t1,v',u',t2,t3,t4⟩|⟨t1,v3,new,H',t2,G⟩
 .exact .inl ⟨t1,v',u',t2,by omega,t4⟩
 refine .inr ⟨t1,v3,H',M1++(n,value,L)::M2,L.length+new.length,iR M1,iR MC,iR M2,new.length,L.length,by rw[<-Nat.add_assoc];exact t2,?_⟩;have hMn:=OU.2.1;rw[d.m,fJ,fJ]at hMn;have EM:=eA.1 hMn;have TZ:=eA.1 EM.2.1;have G9:∀j,j∈py M1\/j∈py M2->j∈py M/\j∉py MC:=λj hj=>by
  refine⟨by rw[d.m,fJ,fJ];rcases hj with h|h<;>simp[h],λhc=>?_⟩
  rcases hj with h|h
  .exact EM.2.2 j h (bQ _ hc)
  .exact TZ.2.2 j hc h
 have hLv:∀j,(v j).2=0->j∉py MC->j∉L:=λj hj hm hL=>by
  have:=s5 j hL;unfold mo at this;rw[if_neg hm]at this;rw[this]at hj;exact absurd hj (by decide)
 have hL2:∀j∈L,(v2 j).2=0:=s3.here;have Ha:∀j,(v2 j).2=0->j∉new:=λj hj hm=>by rw[G.fresh j hm]at hj;exact absurd hj (by decide)
 have hM3:∀j,j∈py M1\/j∈py M2->v3 j=v j/\(v2 j).2=0/\j∉bw (aI v H 0):=λj hj=>by
  obtain⟨h1,h2⟩:=G9 j hj;have h3:=T.TV j h1;have h4:=pk j h3 h2;have h5:j∉bw (aI v H 0):=λh=>OU.2.2 j h h1;refine⟨?_,by rw[h4];exact h3,h5⟩;rw[G.o j (by rw[TY];exact h5) (Ha j (by rw[h4];exact h3)),h4]
 have hPL:∀j∈bw (aI v H 0),j∉L:=λj hj=>hLv j (T.CB j hj) (λhm=>OU.2.2 j hj (hMCin j hm));have hL3:∀j∈L,v3 j=v2 j:=λj hj=>G.o j (by rw[TY];exact λh=>hPL j h hj) (Ha j (hL2 j hj));have hP2:∀j∈bw (aI v H 0),(v2 j).2=0:=λj hj=>by rw[hnd2 j hj];exact T.CB j hj
 have nI:M1.map (λm=>m.1)=bV (fc v up 0)++a:=d.m1;refine⟨⟨G.ok,?_,λm hm=>?_,?_,λj hj=>?_⟩,d.TS,?_,by omega,hLl,λwt c hw=>?_,?_⟩
 .rw[G.en,LA,cW,eh,d.m1,d.m2];simp
 .rcases az.1 hm with hm|hm
  .exact(T.va m (by rw[d.m];simp[hm])).congr (λj hj=>(hM3 j (.inl (uc.2 ⟨m,hm,hj⟩))).1)
  .rcases ar.1 hm with rfl|hm
   .exact s3.congr hL3
   .exact(T.va m (by rw[d.m];simp[hm])).congr (λj hj=>(hM3 j (.inr (uc.2 ⟨m,hm,hj⟩))).1)
 .have rH:(bw (aI v3 H' 0)++py (M1++(n,value,L)::M2)).Perm ((bw (aI v H 0)++new)++(py M1++(L++py M2))):=by
   rw[fJ,mq,<-TY];exact G.pg.append_right _
  rw[rH.nodup_iff,eA];refine⟨eA.2 ⟨OU.1,G.G4,λj hj=>Ha j (hP2 j hj)⟩,eA.2 ⟨EM.1,eA.2 ⟨s3.nodup,TZ.2.1,λj hj hm=>?_⟩,λj hj hm=>?_⟩,λj hj hm=>?_⟩
  .obtain⟨h1,h2⟩:=G9 j (.inr hm);exact hLv j (T.TV j h1) h2 hj
  .rcases az.1 hm with hm|hm
   .obtain⟨h1,h2⟩:=G9 j (.inl hj);exact hLv j (T.TV j h1) h2 hm
   .exact EM.2.2 j hj (bF _ hm)
  .have Bs:j∈L\/(j∈py M1\/j∈py M2):=by
    rcases az.1 hm with hm|hm
    .exact .inr (.inl hm)
    .rcases az.1 hm with hm|hm
     .exact .inl hm
     .exact .inr (.inr hm)
   rcases az.1 hj with hj|hj
   .rcases Bs with h|h
    .exact hPL j hj h
    .exact(hM3 j h).2.2 hj
   .rcases Bs with h|h
    .exact Ha j (hL2 j h) hj
    .exact Ha j (hM3 j h).2.1 hj
 .rw[az,fJ,mq,az,az]
  by_cases h1:j∈bw (aI v H 0)
  .exact .inl (G.pg.mem_iff.2 (by rw[TY];exact bQ _ h1))
  .by_cases h2:j∈new
   .exact .inl (G.pg.mem_iff.2 (bF _ h2))
   .rw[G.o j (by rw[TY];exact h1) h2]at hj
    by_cases h3:j∈L
    .exact .inr (.inr (.inl h3))
    .rw[s6 j h3]at hj;unfold mo at hj
     by_cases h4:j∈py MC
     .rw[if_pos h4]at hj;exact absurd hj (by decide)
     .rw[if_neg h4]at hj;have:=T.all j hj;rw[d.m,fJ,fJ]at this;simp only[az]at this
      rcases this with h|h|h|h
      .exact absurd h h1
      .exact .inr (.inl h)
      .exact absurd h h4
      .exact .inr (.inr (.inr h))
 .rw[Mc,G7,s4]
 .have g:=G.Cy wt c hw;have g2:=TR wt;rw[hcn]at g2;rw[bh,r4]at g;omega
 .have hl:0+up.length=H:=by omega
  rcases G.h with g|⟨g1,g2⟩
  .exact .inl (by rw[g,hl])
  .refine .inr ⟨by rw[g1,hl],λwt c hw=>?_⟩;have g3:=g2 wt c hw;rw[hl]at g3;have g4:=TR wt;rw[hcn]at g4;omega
end
end Sh
end Go.Proofs.YtmonobkginiajaaGreat
