/- packed. -/
import Derived.Test.YtmonobkginiajaaGreatCs11
set_option linter.all false
set_option maxRecDepth 100000
set_option maxHeartbeats 8000000
namespace Go.Proofs.YtmonobkginiajaaGreat
open Go.Proofs.Tryz
open Value renaming string→U7,slice→U3,int→U5,bool→WF,tuple→rg
open Ending renaming returned→fd
open IntKind renaming i64→U6
open Obj renaming cells→Pi
open Go renaming World→BY,Calls→io
open List renaming replicate→it
open And renaming intro→rx
namespace Sh.Cn
open Go.RowKit Pk Dk Pg
variable{q:QS}{k K n g g3 g4 g5:Nat}{w:BY}{y:Y}
def qP(h:Fb q.l K)(hk:k<q.l.length):Fb (q.bl k).1.l K/\(q.bl k).1.l.length=q.l.length:=by
 have hm:=h _ (ay (j8 hk));unfold QS.bl
 split
 .split
  .exact⟨h.set _ hm,bR⟩
  .exact⟨h,rfl⟩
 .exact⟨h,rfl⟩
def Full(a:St):Prop:= ∀l,(a.aO l).1.length<=232
def hold_l(h:Fb q.l K)(hl:q.hand<q.l.length)(hf:Full q.a)(p:Int):Fb (q.aU p).1.l (K+1)/\(q.aU p).1.l.length=q.l.length:=by
 unfold QS.aU
 rcases gF q.l p with e|⟨k,f,e,hk,_,_⟩
 .rw[e,ge]
  split
  .exact⟨h.more ls,rfl⟩
  .obtain⟨v1,v2,v3⟩:=n7 q hl h;have va:=gG q
   split
   .exact⟨v1.more ls,va.2⟩
   .rcases v3 with v3|⟨k,v3,hk⟩
    .omega
    .rw[v3,show((k:Nat):Int).toNat=k by omega];obtain⟨b1,b2⟩:=qP (k:=k) v1 ls
     split
     .exact⟨b1.more ls,by rw[b2,va.2]⟩
     .exact⟨(b1.more ls).set _ ⟨by show(0:Int)<=1;omega,by show(1:Int)<=_;omega,Qy (hf p)⟩,by show(List.set _ _ _).length=_;rw[bR,b2,va.2]⟩
 .rw[e,g8,show((k:Nat):Int).toNat=k by omega,nY hk];have hm:=h _ (ay hk);exact⟨(h.more ls).set _ ⟨by show 0<=f.held+1;omega,by show f.held+1<=_;omega,hm.2.2⟩,bR⟩
def pP{p:Int}{f:Fr}(h:q.eX p=some (k,f)):q.l[k]?=some f/\f.held≠0/\findF q.l p=k:=by
 unfold QS.eX at h
 rcases gF q.l p with e|⟨j,g,e,hg,_,_⟩
 .rw[e,g8]at h;cases h
 .rw[e,ge,show((j:Nat):Int).toNat=j by omega,hg]at h;dsimp only at h
  split at h
  .cases h
  .rename_i fy;obtain⟨rfl,rfl⟩:j=k/\g=f:=by simpa using h
   exact⟨hg,fy,e⟩
def Tp(h:Fb q.l K)(p:Int):Fb (q.fG p).1.l K/\(q.fG p).1.l.length=q.l.length/\(q.fG p).1.a=q.a/\(q.fG p).1.hand=q.hand:=by
 unfold QS.fG
 cases hh:q.eX p with
 |none=>exact⟨h,rfl,rfl,rfl⟩
 |some kf=>
  obtain⟨k,f⟩:=kf;obtain⟨h1,h2,_⟩:=pP hh;have hm:=h _ (ay h1);exact⟨h.set k ⟨by show 0<=f.held-1;omega,by show f.held-1<=_;omega,hm.2.2⟩,bR,rfl,rfl⟩
def Tq(h:Fb q.l K)(p:Int)(b:Nm):Fb (q.eP p b).1.l K/\(q.eP p b).1.l.length=q.l.length/\(q.eP p b).1.a=q.a/\(q.eP p b).1.hand=q.hand:=by
 unfold QS.eP
 split
 .exact⟨h,rfl,rfl,rfl⟩
 .rename_i hb
  cases hh:q.eX p with
  |none=>exact⟨h,rfl,rfl,rfl⟩
  |some kf=>
   obtain⟨k,f⟩:=kf;obtain⟨h1,h2,_⟩:=pP hh;have hm:=h _ (ay h1);exact⟨h.set k ⟨hm.1,hm.2.1,by show(mX b).size<=_;rw[qO ls];omega⟩,bR,rfl,rfl⟩
def Ry(h:ZP w y n q K)(hb:Fb q.l K)(hK:K<=1000000000000)(p:Int)(he:(q.aU p).2.2≠0):
  io prog 167 #[pp y.pb,p,.func (Fn.func 168) #[] #[lc g]] w λe w'=>e=fd (U5 U6 (q.aU p).2.2)/\ZP w' y n (q.aU p).1 (K+1)/\ah y.fp w w':=by
 have KH:=xh<|uJ h hb hK p;have hq:((q.aU p).2.2 != 0)=true:=lm he
 have kP:((q.aU p).2.2==0)=false:=i4 he
 generalize q.aU p=R at *;clear h hb;unfold pp at *;go_in;go_wp2_with fail;go_call KH.o as e w1 ⟨rfl,A1,o1⟩;have A1:=xh A1;have o1:=xh o1;go_wp2;go_ret;exact bz ⟨A1.o,o1.o⟩
def Rz(h:ZP w y n q K)(hb:Fb q.l K)(hK:K<=1000000000000)(p:Int)(he:(q.aU p).2.2≠0):
  io prog 167 #[pp y.pb,p,.func (Fn.func 218) #[] #[lc g3,lc g4,lc g5]] w λe w'=>e=fd (U5 U6 (q.aU p).2.2)/\ZP w' y n (q.aU p).1 (K+1)/\ah y.fp w w':=by
 have KH:=xh<|uJ h hb hK p;have hq:((q.aU p).2.2 != 0)=true:=lm he
 have kP:((q.aU p).2.2==0)=false:=i4 he
 generalize q.aU p=R at *;clear h hb;unfold pp at *;go_in;go_wp2_with fail;go_call KH.o as e w1 ⟨rfl,A1,o1⟩;have A1:=xh A1;have o1:=xh o1;go_wp2;go_ret;exact bz ⟨A1.o,o1.o⟩
def NC(h:ZP w y n q K)(hb:Fb q.l K)(hK:K<=999999999999)(hl:q.hand<q.l.length)(hfu:Full q.a)(p:Int)(he:(q.aU p).2.2=0)(s0:Nm)(B:aM w g 9 #[U7 s0])(hg:g∉y.fp):
  io prog 167 #[pp y.pb,p,.func (Fn.func 168) #[] #[lc g]] w λe w'=>e=fd (U5 U6 0)/\ZP w' y n ((q.aU p).1.fG p).1 (K+1)/\ah (g::y.fp) w w'/\aM w' g 9 #[U7 (q.aU p).2.1]:=by
 have KH:=xh<|uJ h hb ls p;rw[he]at KH;have Bd:=(hold_l hb hl hfu p).1;generalize q.aU p=R at *;have KL:=xh (λw' (A:ZP w' y n R.1 (K+1))=>NA A Bd ls p);have HQ:=xh hg;have HB:=xh B;have HD:=xh (λ(w1 w2:BY) (A:ZP w1 y n R.1 (K+1)) (o:ah [g] w1 w2)=>(show ZP w2 y n R.1 (K+1)from by
  obtain⟨c,A,z⟩:=A;exact⟨c,A.only o (λx hx hm=>hg (by rw[aG.1 hm]at hx;exact hx)),z⟩))
 clear h hb B Bd he hg;unfold pp at *;go_in;go_wp2_with fail;go_call KH.o as e w1 ⟨rfl,A1,o1⟩;have B1:=HB.o.only o1 HQ.o;have KG:=xh<|Vo R.2.1 g w1 s0 B1;have A1:=xh A1;have o1:=xh o1;clear B1;go_wp2_with fail;go_call KG.o as e w2 ⟨rfl,B2,o2⟩;have A2:=xh<|HD.o _ _ A1.o o2;have B2:=xh B2
 have o2:=xh<|(o1.o.mono (λx hx _=>aH g hx)).trans (o2.mono (λx hx _=>by rw[aG.1 hx];exact ie ..));go_wp2_with fail;go_call (KL.o _ A2.o) as e w3 ⟨rfl,A3,o3⟩;have A3:=xh A3;have B3:=xh<|B2.o.only o3 HQ.o;have o3:=xh<|o2.o.trans (o3.mono (λx hx _=>aH g hx));go_wp2;go_ret;exact bz ⟨A3.o,o3.o,B3.o⟩
def xF(h:ZP w y n q K)(p:Int)(b u:Nm)(B3:aM w g3 34 #[pp y.pb])(B4:aM w g4 3 #[p])(B5:aM w g5 9 #[U7 b]):
  io prog 218 #[U7 u,lc g3,lc g4,lc g5] w λe w'=>e=fd (U5 U6 (q.eP p b).2)/\ZP w' y n (q.eP p b).1 K/\ah y.fp w w':=by
 have KS:=xh<|zset_any h p b;have c3:=B3.bi 0;have c4:=B4.bi 0;have c5:=B5.bi 0;generalize q.eP p b=R at *;clear h B3 B4 B5;unfold pp at *;go_in;go_wp2_with fail;go_call KS.o as e w1 ⟨rfl,A1,o1⟩;have A1:=xh A1;have o1:=xh o1;go_wp2;go_ret;exact bz ⟨A1.o,o1.o⟩
def ND(h:ZP w y n q K)(hb:Fb q.l K)(hK:K<=999999999999)(hl:q.hand<q.l.length)(hfu:Full q.a)(p:Int)(he:(q.aU p).2.2=0)(b:Nm)(B3:aM w g3 34 #[pp y.pb])(B4:aM w g4 3 #[p])(B5:aM w g5 9 #[U7 b])(h3:g3∉y.fp)(h4:g4∉y.fp)(h5:g5∉y.fp):
  io prog 167 #[pp y.pb,p,.func (Fn.func 218) #[] #[lc g3,lc g4,lc g5]] w λe w'=>e=fd (U5 U6 ((q.aU p).1.eP p b).2)/\ZP w' y n (((q.aU p).1.eP p b).1.fG p).1 (K+1)/\ah y.fp w w':=by
 have KH:=xh<|uJ h hb ls p;rw[he]at KH;have Bd:=(hold_l hb hl hfu p).1;have hbc:=(Tq Bd p b).1;have KC:=xh (λ(w1:BY) (A:ZP w1 y n (q.aU p).1 (K+1)) (u:Nm) (o:ah y.fp w w1)=>xF A p b u (B3.only o h3) (B4.only o h4) (B5.only o h5));generalize q.aU p=R at *;generalize R.1.eP p b=R2 at *;have KL:=xh (λw' (A:ZP w' y n R2.1 (K+1))=>NA A hbc ls p);clear h hb B3 B4 B5 Bd hbc he h3 h4 h5;unfold pp at *
 go_in;go_wp2_with fail;go_call KH.o as e w1 ⟨rfl,A1,o1⟩;have KG:=xh<|KC.o w1 A1 R.2.1 o1;have o1:=xh o1;clear A1;go_wp2_with fail;go_call KG.o as e w2 ⟨rfl,A2,o2⟩;have A2:=xh A2;have o2:=xh<|o1.o.trans o2;go_wp2_with fail;go_call (KL.o _ A2.o) as e w3 ⟨rfl,A3,o3⟩;have A3:=xh A3;have o3:=xh<|o2.o.trans o3;go_wp2;go_ret;exact bz ⟨A3.o,o3.o⟩
def Wu(h:ZP w y n q K)(hb:Fb q.l K)(hK:K<=999999999999)(hfu:Full q.a)(p:Int)(he:(q.aU p).2.2=0):
  io prog 121 #[pp y.pb,p] w λe w'=>e=fd (rg #[U7 (q.aU p).2.1,U5 U6 0])/\ZP w' y n ((q.aU p).1.fG p).1 (K+1)/\ah y.fp w w':=by
 have O0:=xh<|i6 w (Pi #[U7 ⟨#[]⟩] 9);have B0:=xh<|aM.new w 9 #[U7 ⟨#[]⟩];have NQ:=xh (show w.heap.size∉y.fp from λhm=>by
  obtain⟨c,A,z⟩:=h;have:=A.lt _ hm;omega)
 have KW:=xh<|NC (h.below O0.o) hb hK (by obtain⟨c,A,z⟩:=h;exact A.lh) hfu p he _ B0.o NQ.o;generalize (q.aU p).2.1=r at *;generalize ((q.aU p).1.fG p).1=S2 at *;clear h hb he hfu;unfold pp at *;go_in;go_wp2_with fail;go_call KW.o as e w1 ⟨rfl,A1,o1,B1⟩;have A1:=xh A1;have o1:=xh<|(ah.aj (S:=w.heap.size::y.fp) O0.o).trans o1;have q0:=B1.bi 0;clear B1;go_wp2;go_ret2
 exact bz ⟨A1.o,o1.o.mono (λg hg dP=>by simp at hg;rcases hg with rfl|hg;(· omega);exact hg)⟩
def zget_bad(h:ZP w y n q K)(hb:Fb q.l K)(hK:K<=999999999999)(p:Int)(he:(q.aU p).2.2≠0):
  io prog 121 #[pp y.pb,p] w λe w'=>e=fd (rg #[U7 ⟨#[]⟩,U5 U6 (q.aU p).2.2])/\ZP w' y n (q.aU p).1 (K+1)/\ah y.fp w w':=by
 have O0:=xh<|i6 w (Pi #[U7 ⟨#[]⟩] 9);have B0:=xh<|aM.new w 9 #[U7 ⟨#[]⟩];have NQ:=xh (show w.heap.size∉y.fp from λhm=>by
  obtain⟨c,A,z⟩:=h;have:=A.lt _ hm;omega)
 have KW:=xh<|Ry (g:=w.heap.size) (h.below O0.o) hb ls p he;generalize (q.aU p)=R at *;clear h hb he;unfold pp at *;go_in;go_wp2_with fail;go_call KW.o as e w1 ⟨rfl,A1,o1⟩;have B1:=B0.o.only o1 NQ.o;have A1:=xh A1;have o1:=xh<|(ah.aj (S:=y.fp) O0.o).trans o1;have q0:=B1.bi 0;clear B1;go_wp2;go_ret2;exact bz ⟨A1.o,o1.o⟩
def Wv(h:ZP w y n q K)(hb:Fb q.l K)(hK:K<=999999999999)(hfu:Full q.a)(p:Int)(b:Nm)(hs:b.size<=232)(he:(q.aU p).2.2=0):
  io prog 176 #[pp y.pb,p,U7 b] w λe w'=>e=fd (U5 U6 ((q.aU p).1.eP p b).2)/\ZP w' y n (((q.aU p).1.eP p b).1.fG p).1 (K+1)/\ah y.fp w w':=by
 obtain⟨g3,hg3⟩:∃g,w.heap.size=g:=⟨_,rfl⟩;have b3:=aM.new w 34 #[pp y.pb];have o3:=i6 w (Pi #[pp y.pb] 34);have e3:(w.alloc (Pi #[pp y.pb] 34)).heap.size=g3+1:=by rw[<-hg3];simp
 have b4:=aM.new (w.alloc (Pi #[pp y.pb] 34)) 3 #[p];have o4:=ag o3 (Pi #[p] 3);have k4:=ag (Below.refl (w.alloc (Pi #[pp y.pb] 34)).heap.size _) (Pi #[p] 3);have e4:((w.alloc (Pi #[pp y.pb] 34)).alloc (Pi #[p] 3)).heap.size=g3+2:=by rw[<-hg3];simp
 have b5:=aM.new ((w.alloc (Pi #[pp y.pb] 34)).alloc (Pi #[p] 3)) 9 #[U7 b];have o5:=ag o4 (Pi #[U7 b] 9);have k5:=ag (Below.refl ((w.alloc (Pi #[pp y.pb] 34)).alloc (Pi #[p] 3)).heap.size _) (Pi #[U7 b] 9);have B3:=aM.below (aM.below b3 k4 b3.lt) k5 (aM.below b3 k4 b3.lt).lt;have B4:=aM.below b4 k5 b4.lt;rw[e3]at B4;rw[e4]at b5;rw[hg3]at B3;have OZ:=xh o5
 have NQ:=xh (show ∀g,w.heap.size<=g->g∉y.fp from λg hg hm=>by
  obtain⟨c,A,z⟩:=h;have:=A.lt _ hm;omega)
 have KW:=xh<|ND (h.below OZ.o) hb hK (by obtain⟨c,A,z⟩:=h;exact A.lh) hfu p he b B3 B4 b5 (NQ.o _ ls) (NQ.o _ ls) (NQ.o _ ls);have cl:=B3.bi 0;have c4:=B4.bi 0;have c5:=b5.bi 0;have XR:¬(232:Int)<(b.size:Int):=ls
 generalize ((q.aU p).1.eP p b).2=RR at *;generalize (((q.aU p).1.eP p b).1.fG p).1=SS at *;clear h hb he hfu hs b3 b4 b5 B3 B4 o3 o4 o5 e3 e4 k4 k5;unfold pp at *;go_in;go_wp2_with fail;go_call KW.o as e w1 ⟨rfl,A1,o1⟩;have A1:=xh A1;have o1:=xh<|(ah.aj (S:=y.fp) OZ.o).trans o1;go_wp2;go_ret;exact bz ⟨A1.o,o1.o⟩
def zput_bad(h:ZP w y n q K)(hb:Fb q.l K)(hK:K<=999999999999)(hfu:Full q.a)(p:Int)(b:Nm)(hs:b.size<=232)(he:(q.aU p).2.2≠0):
  io prog 176 #[pp y.pb,p,U7 b] w λe w'=>e=fd (U5 U6 (q.aU p).2.2)/\ZP w' y n (q.aU p).1 (K+1)/\ah y.fp w w':=by
 obtain⟨g3,hg3⟩:∃g,w.heap.size=g:=⟨_,rfl⟩;have b3:=aM.new w 34 #[pp y.pb];have o3:=i6 w (Pi #[pp y.pb] 34);have e3:(w.alloc (Pi #[pp y.pb] 34)).heap.size=g3+1:=by rw[<-hg3];simp
 have b4:=aM.new (w.alloc (Pi #[pp y.pb] 34)) 3 #[p];have o4:=ag o3 (Pi #[p] 3);have k4:=ag (Below.refl (w.alloc (Pi #[pp y.pb] 34)).heap.size _) (Pi #[p] 3);have e4:((w.alloc (Pi #[pp y.pb] 34)).alloc (Pi #[p] 3)).heap.size=g3+2:=by rw[<-hg3];simp
 have b5:=aM.new ((w.alloc (Pi #[pp y.pb] 34)).alloc (Pi #[p] 3)) 9 #[U7 b];have o5:=ag o4 (Pi #[U7 b] 9);have k5:=ag (Below.refl ((w.alloc (Pi #[pp y.pb] 34)).alloc (Pi #[p] 3)).heap.size _) (Pi #[U7 b] 9);have B3:=aM.below (aM.below b3 k4 b3.lt) k5 (aM.below b3 k4 b3.lt).lt;have B4:=aM.below b4 k5 b4.lt;rw[e3]at B4;rw[e4]at b5;rw[hg3]at B3;have OZ:=xh o5
 have NQ:=xh (show ∀g,w.heap.size<=g->g∉y.fp from λg hg hm=>by
  obtain⟨c,A,z⟩:=h;have:=A.lt _ hm;omega)
 have KW:=xh<|Rz (g3:=g3) (g4:=g3+1) (g5:=g3+2) (h.below OZ.o) hb ls p he;have cl:=B3.bi 0;have c4:=B4.bi 0;have c5:=b5.bi 0;have XR:¬(232:Int)<(b.size:Int):=ls
 generalize (q.aU p).2.2=RR at *;generalize (q.aU p).1=SS at *;clear h hb he hfu hs b3 b4 b5 B3 B4 o3 o4 o5 e3 e4 k4 k5;unfold pp at *;go_in;go_wp2_with fail;go_call KW.o as e w1 ⟨rfl,A1,o1⟩;have A1:=xh A1;have o1:=xh<|(ah.aj (S:=y.fp) OZ.o).trans o1;go_wp2;go_ret;exact bz ⟨A1.o,o1.o⟩
variable{w:BY}{y:Y}{n K:Nat}{q:QS}
def ZTo(w w':BY)(y:Y)(n:Nat)(q:QS)(K:Nat):Prop:= ∃y',y'.pb=y.pb/\y'.x.b=y.x.b/\y'.x.L=y.x.L/\ZP w' y' n q K/\ah y.fp w w'/\∀g∈y'.fp,g∈y.fp\/w.heap.size<=g
def ZTo.self{w':BY}(h:ZP w' y n q K)(o:ah y.fp w w'):ZTo w w' y n q K:=⟨y,rfl,rfl,rfl,h,o,λ_ hg=> .inl hg⟩
def Ww(h:ZP w y n q K)(hb:Fb q.l K)(hK:K<=999999999999)(k:Nat)(hk:k<q.l.length):
  io prog 58 #[pp y.pb,(k:Nat)] w λe w'=>e=fd (U5 U6 (q.dk (k:Nat)).2)/\ZP w' y n (q.dk (k:Nat)).1 (K+1)/\ah y.fp w w':=by
 have KB:=xh (λ(W:BY) (hW:i7 w W)=>Fl (h.below hW) ls k hk (λf hf=>(hb f hf).2.2));have uY:=(qP hb hk).2;obtain⟨c,A,z⟩:=h;have p1:w.cell? ⟨y.pb,1,none⟩=some (U3 (lc y.fg) q.l.length y.cp):=A.p1;have l2:q.l.length<=32:=A.l2;obtain⟨f,hf⟩:∃f,il q.l k=f:=⟨_,rfl⟩;have Lw:=j8 hk;rw[hf]at Lw;obtain⟨c0,c1,c2,c3,c4⟩:=A.Cb k f Lw;have Oy:(k:Int)<(q.l.length:Int):=ls
 have UO:¬(k:Int)<0:=ls
 have KE:=xh nE;unfold Fr.nil Fr.agg at KE;have HS:=g9 (ZP w y n q (K+1)) ⟨c,A,z.more ls⟩;have hE:q.dk (k:Nat)=if f.au<0 then(q,0)else if 0<f.held then(q,16)else if(q.bl k).2≠0 then q.bl k else({(q.bl k).1 with l:=(q.bl k).1.l.set k Fr.nil},0):=by
  unfold QS.dk;rw[show((k:Nat):Int).toNat=k by omega,hf,ge]
 rw[hE];generalize q.bl k=BB at *;obtain⟨B,be⟩:=BB;dsimp only at KB uY ⊢;have OB:=xh<|i5 w;clear hE A z hf Lw hb
 by_cases h1:f.au<0
 .rw[U8 h1];clear uY;unfold pp at *;go_in;go_wp2;go_ret;exact bz ⟨HS.o,ah.aj OB.o⟩
 rw[U9 h1]
 by_cases h2:0<f.held
 .rw[U8 h2];clear uY;unfold pp at *;go_in;go_wp2;go_ret;exact bz ⟨HS.o,ah.aj OB.o⟩
 rw[U9 h2]
 by_cases h3:be=0
 .subst h3;rw[i8];have HBL:=xh uY;clear uY;unfold pp at *;go_in;go_wp2_with fail;go_call (KB.o _ OB.o) as e w5 ⟨rfl,⟨c5,A5,Z5⟩,o5⟩;obtain⟨N,hN⟩:∃N,B.l.length=N:=⟨_,rfl⟩;have Bc:=xh hN;have hkN:k<N:=by rw[<-hN,HBL.o];exact hk
  have hNI:(k:Int)<(N:Int):=ls
  have l3:N<=32:=by rw[<-hN];exact A5.l2
  obtain⟨g,HG⟩:∃g,Hid (B.l[k]?=some g):=⟨_,xh (aQ ls)⟩;have AD:=xh A5.drew;have OD:=xh o5.drew;have Z5:=xh Z5;have P1D:=g9 (w5.drew.cell? ⟨y.pb,1,none⟩=some (U3 (lc y.fg) N y.cp)) (by rw[<-hN];exact AD.o.p1);clear A5 o5 hN;go_wp2;refine kw (λW'=>W'.cell? ⟨y.pb,1,none⟩=some (U3 (lc y.fg) N y.cp)) (P1D.o) (λaC=>?_)
  refine dj [(0,47),(1,48),(2,49),(3,50),(4,51)] ?_
  iterate 5 refine bJ ?_
  refine dV 5 52 λK hK=>?_;go_simp
  go_at_call 86
  go_call (KE.o _) as e w6 ⟨rfl,vA⟩;have A6:=xh<|AD.o.below vA;have O6:=xh<|OD.o.trans (ah.aj (S:=y.fp) vA);have p1y:w6.cell? ⟨y.pb,1,none⟩=some (U3 (lc y.fg) N y.cp):=by rw[<-Bc.o];exact A6.o.p1
  clear vA;go_simp;refine cq hK (p1y) (λaC=>?_);refine dj [(6,53)] ?_
  iterate 1 refine bJ ?_
  refine pF 7 λK hK=>?_;go_simp;have p1x:w6.cell? ⟨y.pb,1,none⟩=some (U3 (lc y.fg) N y.cp):=by rw[<-Bc.o];exact A6.o.p1
  obtain⟨c0,c1,c2,c3,c4⟩:=A6.o.Cb k g HG.o;obtain⟨z0,z1,z2,z3,z4,B4,q4⟩:=A6.o.Qe k HG.o;have AZ:=xh B4;have OZ:=xh<|O6.o.trans q4;clear B4 q4;go_simp;refine hK.o _ _ (by have h:=AZ.o.p1;rw[<-Bc.o];simpa [QS.ps]using h) (λaC=>?_)
  try simp only[Act.put,pa,pb,pc]
  refine jp ?_ _;go_wp2;go_ret;exact bz ⟨⟨c5,AZ.o,Z5.o⟩,OZ.o⟩
 .rw[U8 h3];have hq:(be==0)=false:=i4 h3
  have kP:(be != 0)=true:=lm h3
  clear uY;unfold pp at *;go_in;go_wp2_with fail;go_call (KB.o _ OB.o) as e w5 ⟨rfl,z5,o5⟩;have Z5:=xh z5;have O5:=xh o5;clear z5 o5;go_wp2;go_ret;exact bz ⟨Z5.o,O5.o⟩
def RA(h:ZP w y n q K)(i:Int)(hi:i<0\/(q.l.length:Int)<=i):
  io prog 58 #[pp y.pb,i] w λe w'=>e=fd (U5 U6 3)/\i7 w w':=by
 obtain⟨c,A,z⟩:=h;have p1:w.cell? ⟨y.pb,1,none⟩=some (U3 (lc y.fg) q.l.length y.cp):=A.p1;have OB:=xh<|i5 w;clear A z
 by_cases h0:i<0
 .clear hi;unfold pp at *;go_in;go_wp2;go_ret;exact bz OB.o
 .have h1:(q.l.length:Int)<=i:=ls
  clear hi;unfold pp at *;go_in;go_wp2;go_ret;exact bz OB.o
def RC(h:ZP w y n q K)(hb:Fb q.l K)(hK:K<=999999999999)(i:Int):
  io prog 58 #[pp y.pb,i] w λe w'=>e=fd (U5 U6 (q.dk i).2)/\ZP w' y n (q.dk i).1 (K+1)/\ah y.fp w w':=by
 by_cases hi:i<0\/(q.l.length:Int)<=i
 .unfold QS.dk;rw[U8 hi];exact(RA h i hi).mono λe w' ⟨r,b⟩=>⟨r,(h.below b).more ls,.aj b⟩
 .obtain⟨k,rfl⟩:=fu (show 0<=i by omega);exact Ww h hb hK k ls
def NG(h:ZP w y n q K):
  io prog 51 #[pp y.pb] w λe w'=>e=fd (WF true)/\ZTo w w' y n q.bt K:=by
 obtain⟨c,A,z⟩:=h;have p1:w.cell? ⟨y.pb,1,none⟩=some (U3 (lc y.fg) q.l.length y.cp):=A.p1;have l2:q.l.length<=32:=A.l2;obtain⟨N,hN⟩:∃N,q.l.length=N:=⟨_,rfl⟩;have HN:=xh hN;rw[hN]at p1 l2;have KE:=xh nE;unfold Fr.nil Fr.agg at KE;have QL:=g9 (∀i,i<N->(mJ q.l i).set i Fr.nil=mJ q.l (i+1)) (λi hi=>Vs q.l ls);have HLE:=g9 (∀i,i<=N->(mJ q.l i).length=N) (λi hi=>by rw[Vr q.l ls];exact hN)
 have HEND:=g9 (mJ q.l N=it q.l.length Fr.nil) (by unfold mJ;rw[hN,Cz ls,kM]);have H0:=g9 (ju w y n (({q with l:=mJ q.l 0}:QS).ps c)) A;have KA:=xh (λ(W:BY) (B:ju W y n (({q with l:=mJ q.l N}:QS).ps c))=>Rw B.hs z)
 have HZ:=xh (show ∀(w1 w2:BY) (c':C) (B:ju w1 y n (({q with l:=mJ q.l N}:QS).ps c)) (o:ah y.fp w w1) (p:Be w1 w2 y.x n c') (z':Zc c' n q.a.bt K),ZTo w w2 y n q.bt K from λw1 w2 c' B o p z'=>by
  obtain⟨y',e1,_,_,e2,e3,B',o',f'⟩:=B.store p;refine⟨y',e1,e2,e3,⟨c',?_,z'⟩,o.trans o',λg hg=>(f' g hg).imp id (λh=>aD o.size h)⟩;have hE:(q.bt).ps c'={(({q with l:=mJ q.l N}:QS).ps c)with c:=c'}:=by
   unfold QS.bt QS.ps;dsimp only;rw[HEND.o]
  rw[hE];exact B')
 clear A z hN;unfold pp sp at *;go_in;go_wp2_with fail
 go_loopw [3,11] (λ_ iv wr=> ∃i:Nat,i<=N/\iv=U5 U6 i/\Hid (ju wr y n (({q with l:=mJ q.l i}:QS).ps c))/\Hid (ah y.fp w wr)) (λ_ iv _=>N-(intOf iv).toNat)
 case atStart=>exact⟨0,bG _,rfl,H0,xh (ah.refl _ _)⟩
 case round=>
  obtain⟨i,hi,rfl,AI,OI⟩:=hrel
  by_cases h':i<N
  .have hI:(i:Int)<(N:Int):=ls
   have Bc:=xh<|HLE.o i hi;obtain⟨g,HG⟩:∃g,Hid ((mJ q.l i)[i]?=some g):=⟨_,xh (aQ (by rw[Bc.o];exact h'))⟩;have AD:=xh AI.o.drew;have OD:=xh OI.o.drew;have P1D:=g9 (wr.drew.cell? ⟨y.pb,1,none⟩=some (U3 (lc y.fg) N y.cp)) (by rw[<-Bc.o];exact AD.o.p1);have ru:=xh<|QL.o i h';go_wp2_with fail
   refine kw (λW'=>W'.cell? ⟨y.pb,1,none⟩=some (U3 (lc y.fg) N y.cp)) (P1D.o) (λaC=>?_);refine dj [(0,14),(1,15),(2,16),(3,17),(4,18)] ?_
   iterate 5 refine bJ ?_
   refine dV 5 19 λK hK=>?_;go_simp
   go_at_call 86
   go_call (KE.o _) as e w6 ⟨rfl,vA⟩;have A6:=xh<|AD.o.below vA;have O6:=xh<|OD.o.trans (ah.aj (S:=y.fp) vA);have p1y:w6.cell? ⟨y.pb,1,none⟩=some (U3 (lc y.fg) N y.cp):=by rw[<-Bc.o];exact A6.o.p1
   clear vA;go_simp;refine cq hK (p1y) (λaC=>?_);refine dj [(6,20)] ?_
   iterate 1 refine bJ ?_
   refine pF 7 λK hK=>?_;go_simp;have p1x:w6.cell? ⟨y.pb,1,none⟩=some (U3 (lc y.fg) N y.cp):=by rw[<-Bc.o];exact A6.o.p1
   obtain⟨c0,c1,c2,c3,c4⟩:=A6.o.Cb i g HG.o;obtain⟨z0,z1,z2,z3,z4,B4,q4⟩:=A6.o.Qe i HG.o;have AZ:=xh B4;have OZ:=xh<|O6.o.trans q4;clear B4 q4;go_simp;refine hK.o _ _ (by have h:=AZ.o.p1;rw[<-Bc.o];simpa [QS.ps,Bc.o]using h) (λaC=>?_)
   try simp only[Act.put,pa,pb,pc]
   refine jp ?_ _;have A9:=g9 (ju _ y n (({q with l:=mJ q.l (i+1)}:QS).ps c)) (by rw[<-ru.o];exact AZ.o);go_wp2;go_roundw
   case rel=>exact⟨i+1,ls,by go_num,A9,OZ⟩
   case measure=>simp[intOf];omega
  .obtain rfl:N=i:=ls
   have q0:=AI.o.p0;go_wp2_with fail;go_call (KA.o _ AI.o) as e w5 ⟨rfl,c5,p5,z5⟩;have HF:=xh<|HZ.o _ _ _ AI.o OI.o p5 z5;clear p5 z5;go_wp2;go_ret;exact bz HF.o
def Ke(h:Fb q.l K):∀i,i<=q.l.length->Fb (q.aN i).1.l K/\(q.aN i).1.l.length=q.l.length
 |0,_=>⟨h,rfl⟩
 |i+1,hi=>by
  obtain⟨h1,h2⟩:=Ke h i ls;unfold QS.aN
  split
  .exact⟨h1,h2⟩
  .obtain⟨h3,h4⟩:=qP (k:=i) h1 ls;exact⟨h3,by rw[h4,h2]⟩
def RD(q:QS)(i:Nat):q.aN (i+1)=if(q.aN i).2≠0 then q.aN i else(q.aN i).1.bl i:=rfl
def Fo(q:QS){i:Nat}(h:(q.aN i).2≠0):∀k,q.aN (i+k)=q.aN i
 |0=>rfl
 |k+1=>by
  show q.aN ((i+k)+1)=_;rw[RD,Fo q h k,U8 h]
def Kf(h:ZP w y n q K)(hb:Fb q.l K)(hK:K<=999999999000)(cc:(q.aN q.l.length).2=0->q.mI=0->Ny (q.aN q.l.length).1.a.c):
  io prog 50 #[pp y.pb] w λe w'=>e=fd q.an.2/\ZTo w w' y n q.an.1 (K+40):=by
 obtain⟨c,A,z⟩:=h;have l2:q.l.length<=32:=A.l2;have KC:=xh<|QF A;rw[show(q.ps c).l=q.l from rfl]at KC;obtain⟨N,hN⟩:∃N,q.l.length=N:=⟨_,rfl⟩;have HN:=xh hN;have HP1:=g9 (∀W,i7 w W->W.cell? ⟨y.pb,1,none⟩=some (U3 (lc y.fg) N y.cp)) (λW hW=>by rw[<-hN];exact(A.below hW).p1);have H0:=xh (λW (hW:i7 w W)=>(show ZP W y n (q.aN 0).1 (K+0)from⟨c,A.below hW,z⟩))
 have KB:=xh (λ(i:Nat) (hi:i<N) (W:BY) (hW:ZP W y n (q.aN i).1 (K+i))=>Fl hW ls i (by rw[(Ke hb i ls).2];omega) (λf hf=>((Ke hb i ls).1 f hf).2.2));have HSU:=xh (show ∀i,(q.aN i).2=0->q.aN (i+1)=(q.aN i).1.bl i from λi h0=>by
  show(if(q.aN i).2≠0 then q.aN i else(q.aN i).1.bl i)=_;rw[U9 (by simpa using h0)])
 have HBAD:=xh (show ∀i,i<=N->(q.aN i).2≠0->q.mI=0->q.an=q.aN i from λi hi fy h0=>by
  have h1:=Fo q fy (N-i);rw[show i+(N-i)=N by omega]at h1;unfold QS.an;rw[h0,ge,hN,h1,U8 fy])
 have HEND:=xh (show(q.aN N).2=0->q.mI=0->q.an=({(q.aN N).1 with a:=(q.aN N).1.a.an.1},(q.aN N).1.a.an.2)from λh1 h0=>by
  unfold QS.an;rw[h0,ge,hN,U9 (by rw[h1];simp)])
 have HHE:=xh (show 0<q.mI->q.an=(q,16)from λh0=>by
  unfold QS.an;rw[U8 h0])
 have HZQ:=g9 (∀W,i7 w W->ZTo w W y n q (K+40)) (λW hW=> .self ((show ZP W y n q K from⟨c,A.below hW,z⟩).more ls) (.aj hW));have CCH:=xh cc;clear cc;rw[hN]at CCH;have KS:=xh (λ(W:BY) (c1:C) (a:St) (K1:Nat) (x:X) (B:At W x n c1) (z1:Zc c1 n a K1) (hK1:K1<=1000000000000) (cc:Ny a.c)=>Nz B z1 hK1 cc);rw[hN]at l2 KC;have Zi:(q.l.countP λf=>decide (0<f.held))=q.mI:=rfl;rw[Zi]at KC;clear Zi A z hN;unfold pp sp at *
 go_in;go_wp2_with fail;go_call KC.o as e w1 ⟨rfl,bu⟩;have O1:=xh bu;clear bu;obtain⟨hn,hhn⟩:∃hn,q.mI=hn:=⟨_,rfl⟩;have HHN:=xh hhn;rw[hhn];clear hhn
 by_cases h0:0<hn
 .have h0I:(0:Int)<(hn:Int):=ls
  have HR:=xh<|HHE.o (by rw[HHN.o];exact h0);go_wp2;go_ret;exact⟨by rw[HR.o];rfl,by rw[HR.o];exact HZQ.o _ O1.o⟩
 .have h0I:¬(0:Int)<(hn:Int):=ls
  have HH0:=g9 (q.mI=0) (by rw[HHN.o];omega);have p1:=HP1.o _ O1.o;go_wp2_with fail
  go_loopw [6,7,23] (λ_ _ iv wr=> ∃i:Nat,i<=N/\iv=U5 U6 i/\Hid (ZP wr y n (q.aN i).1 (K+i))/\Hid ((q.aN i).2=0)/\Hid (ah y.fp w wr)) (λ_ _ iv _=>N-(intOf iv).toNat)
  case atStart=>exact⟨0,bG _,rfl,xh (H0.o _ O1.o),xh rfl,xh (ah.aj O1.o)⟩
  case round=>
   obtain⟨i,hi,rfl,ZI,E0,OI⟩:=hrel
   by_cases h':i<N
   .have hI:(i:Int)<(N:Int):=ls
    have KB1:=xh<|KB.o i h' wr ZI.o;have ru:=xh<|HSU.o i E0.o;have Jr:=xh<|HBAD.o (i+1) ls;rw[<-ru.o]at KB1;obtain⟨R,HR⟩:∃R,Hid (q.aN (i+1)=R):=⟨_,xh rfl⟩;rw[HR.o]at KB1 Jr
    by_cases hr:R.2=0
    .rw[hr]at KB1;go_wp2_with fail;go_call KB1.o as e w5 ⟨rfl,z5,o5⟩;have Z5:=g9 (ZP w5 y n (q.aN (i+1)).1 (K+(i+1))) (by rw[HR.o];exact z5);have E5:=xh (show(q.aN (i+1)).2=0 from by rw[HR.o];exact hr);have O5:=xh<|OI.o.trans o5;clear z5 o5;go_wp2;go_roundw
     case rel=>exact⟨i+1,ls,by go_num,Z5,E5,O5⟩
     case measure=>simp[intOf];omega
    .have hq:(R.2==0)=false:=i4 hr
     have kP:(R.2 != 0)=true:=lm hr
     have HC:=xh<|Jr.o hr HH0.o;go_wp2_with fail;go_call KB1.o as e w5 ⟨rfl,z5,o5⟩;have Z5:=xh z5;have O5:=xh<|OI.o.trans o5;clear z5 o5;go_wp2;go_ret;exact⟨by rw[HC.o];rfl,by rw[HC.o];exact .self (Z5.o.more ls) O5.o⟩
   .obtain rfl:N=i:=ls
    obtain⟨c5,A5,Z5⟩:=ZI.o;have q0:=A5.p0;have KS5:=xh<|KS.o _ _ _ _ _ A5.hs Z5 ls (CCH.o E0.o HH0.o);have HE:=xh<|HEND.o E0.o HH0.o;have A5:=xh A5;clear Z5;unfold sp at *;go_wp2_with fail;go_call KS5.o as e w6 ⟨rfl,c6,p6,z6⟩;have HF:=xh (show ZTo w w6 y n ({(q.aN N).1 with a:=(q.aN N).1.a.an.1}) (K+40)from by
     obtain⟨y',e1,_,_,e2,e3,B',o',f'⟩:=A5.o.store p6;exact⟨y',e1,e2,e3,⟨c6,B',z6.more ls⟩,OI.o.trans o',λg hg=>(f' g hg).imp id (λh=>aD OI.o.size h)⟩)
    clear p6 z6;go_wp2;go_ret;exact⟨by rw[HE.o];rfl,by rw[HE.o];exact HF.o⟩
def Wx(h:ZP w y n q K)(hK:K<=1000000000000)(v:Nm)(hs:v.size<=9223372036854775807):
  io prog 69 #[pp y.pb,U7 v] w λe w'=>e=fd (rg #[U5 U6 (q.bE v.data.toList).2.1,U5 U6 (q.bE v.data.toList).2.2])/\ZTo w w' y n (q.bE v.data.toList).1 (K+1):=by
 obtain⟨c,A,z⟩:=h;have zn:=z.new v.pu;have hp:=UP A v hs (z.ep0 hK) (by have:=(z.calls hK).1;show c.d.calls<=_;omega) (z.calls hK).2;rw[show(q.ps c).c=c from rfl,zn.2]at hp;refine hp.mono λe w' ⟨r,y',e1,_,_,e2,e3,B',o',f'⟩=>⟨r,y',e1,e2,e3,⟨_,B',zn.1⟩,o',f'⟩
def RF(h:ZP w y n q K)(hb:Fb q.l K)(p:Int):
  io prog 132 #[pp y.pb,p] w λe w'=>e=fd (U5 U6 (q.aF p).2)/\ZP w' y n (q.aF p).1 K/\ah y.fp w w':=by
 obtain⟨c,A,z⟩:=h;have zd:=z.drop p;unfold QS.aF
 rcases gF q.l p with e|⟨k,f,e,hf,_,_⟩
 .rw[e,ge];have hd:=US A p e;rw[show(q.ps c).c=c from rfl,zd.2]at hd
  by_cases h0:(q.a.aF p).2=0
  .rw[U9 (by simpa using h0),ge];refine hd.mono λe w' ⟨r,A',o⟩=>⟨by rw[r,h0],⟨_,A',zd.1⟩,o⟩
  .rw[U8 h0];refine hd.mono λe w' ⟨r,A',o⟩=>⟨r,⟨_,A',zd.1⟩,o⟩
 .rw[e,show((k:Nat):Int).toNat=k by omega,nY hf];have hm:=hb f (ay hf)
  by_cases hh:0<f.held
  .rw[U8 ⟨ls,hh⟩];exact(Qd A p k e hf hh).mono λe w' ⟨r,b⟩=>⟨r,⟨c,A.below b,z⟩,.aj b⟩
  .rw[U9 (λh=>hh h.2)];have hd:=Yp A p k e hf ls;rw[show(q.ps c).c=c from rfl,zd.2]at hd
   by_cases h0:(q.a.aF p).2=0
   .rw[U9 (by simpa using h0),g8];rw[U8 h0]at hd;refine hd.mono λe w' ⟨r,A',o⟩=>⟨by rw[r,h0],⟨_,A',zd.1⟩,o⟩
   .rw[U8 h0];rw[U9 h0]at hd;refine hd.mono λe w' ⟨r,A',o⟩=>⟨r,⟨_,A',zd.1⟩,o⟩
end Sh.Cn
namespace Sh.Cn
open Go.RowKit Pk Dk Pg
def Zc.full{c:C}{n:Nat}{a:St}{K:Nat}(z:Zc c n a K):Full a:=by
 intro l;rw[<-z.read];unfold C.aO
 split
 .exact bG _
 .split
  .exact bG _
  .rename_i h;show(aV c.d n _).1.s.length<=232;exact Bt (uH (by simpa using h))
structure Hq(q:QS)(n K:Nat):Prop where
 z:∃c,Zc c n q.a K
 f:Fb q.l K
 l1:1<=q.l.length
 l2:q.l.length<=32
 lh:q.hand<q.l.length
 nl:q.a.c.table.length<=512
section
variable{q:QS}{n K:Nat}
def Hq.full(h:Hq q n K):Full q.a:=by
 obtain⟨c,z⟩:=h.z;exact z.full
def Hq.more(h:Hq q n K){K':Nat}(hk:K<=K'):Hq q n K':=by
 obtain⟨c,z⟩:=h.z;exact⟨⟨c,z.more hk⟩,h.f.more hk,h.l1,h.l2,h.lh,h.nl⟩
def Hq.qQ(h:Hq q n K){q':QS}{K':Nat}(ha:q'.a=q.a)(hk:K<=K')(hf:Fb q'.l K')(hl:q'.l.length=q.l.length)(hh:q'.hand<q.l.length):Hq q' n K':=by
 obtain⟨c,z⟩:=h.z;exact⟨⟨c,by rw[ha];exact z.more hk⟩,hf,by rw[hl];exact h.l1,by rw[hl];exact h.l2,by rw[hl];exact hh,by rw[ha];exact h.nl⟩
def pQ(a:St)(l:Int)(p:UV):(a.ao l p).1.c.table.length=a.c.table.length:=by
 show(a.c.ao a.n l p).1.table.length=_;obtain⟨g1,_⟩:=gQ a.c a.n p;unfold C.ao
 split
 .rfl
 .split
  .rfl
  .split
   .rfl
   .split
    .rfl
    .split
     .show(a.c.bA a.n p).1.table.length=_;rw[g1]
     .show(List.set _ _ _).length=_;rw[bR]
def Hq.yU(h:Hq q n K):Hq q.az.1 n K/\(q.az.2= -1\/∃k:Nat,q.az.2=k/\k<q.l.length):=by
 obtain⟨v1,v2,v3⟩:=n7 q h.lh h.f;have va:=gG q;exact⟨h.qQ va.1 (ai _) v1 va.2 (by rw[<-va.2];exact v2),v3⟩
def yV(q:QS)(k:Nat):(q.bl k).1.hand=q.hand:=by
 unfold QS.bl
 split
 .split<;>rfl
 .rfl
def DT(q:QS)(k:Nat):(q.bl k).1.a.c.table.length=q.a.c.table.length:=by
 unfold QS.bl
 split
 .split
  .exact pQ _ _ _
  .exact pQ _ _ _
 .rfl
def Hq.back(h:Hq q n K)(k:Nat)(hk:k<q.l.length):Hq (q.bl k).1 n (K+1):=by
 obtain⟨b1,b2⟩:=qP h.f hk;obtain⟨c,z⟩:=h.z;refine⟨?_,b1.more ls,by rw[b2];exact h.l1,by rw[b2];exact h.l2,by rw[b2,yV];exact h.lh,by rw[DT];exact h.nl⟩;unfold QS.bl
 split
 .split
  .exact⟨_,(z.write _ _).1⟩
  .exact⟨_,(z.write _ _).1⟩
 .exact⟨c,z.more ls⟩
def Hq.put(h:Hq q n K)(k:Nat){f:Fr}(hf:0<=f.held/\f.held<=K/\f.fS.size<=1000):Hq {q with l:=q.l.set k f} n K:=
 h.qQ rfl (ai _) (h.f.set k hf) bR h.lh
def Hq.hold(h:Hq q n K)(p:Int):Hq (q.aU p).1 n (K+1):=by
 unfold QS.aU
 rcases gF q.l p with e|⟨k,f,e,hk,_,_⟩
 .rw[e,ge]
  split
  .exact h.more ls
  .obtain⟨v1,v3⟩:=h.yU;have va:=gG q
   split
   .exact v1.more ls
   .rcases v3 with v3|⟨k,v3,hk⟩
    .omega
    .rw[v3,show((k:Nat):Int).toNat=k by omega];have hb:=v1.back k ls
     split
     .exact hb
     .exact hb.put k ⟨by show(0:Int)<=1;omega,by show(1:Int)<=_;omega,Qy (h.full p)⟩
 .rw[e,g8,show((k:Nat):Int).toNat=k by omega,nY hk];have hm:=h.f _ (ay hk);exact(h.more ls).put k ⟨by show 0<=f.held+1;omega,by show f.held+1<=_;omega,hm.2.2⟩
def Hq.Gm(h:Hq q n K)(p:Int):Hq (q.fG p).1 n K:=by
 obtain⟨a,b,c,d⟩:=Tp h.f p;exact h.qQ c (ai _) a b (by rw[d];exact h.lh)
def Hq.set(h:Hq q n K)(p:Int)(b:Nm):Hq (q.eP p b).1 n K:=by
 obtain⟨a,e,c,d⟩:=Tq h.f p b;exact h.qQ c (ai _) a e (by rw[d];exact h.lh)
def DU(a:St)(l:Int):(a.aF l).1.c.table.length=a.c.table.length:=by
 show(a.c.aF l).1.table.length=_;unfold C.aF
 split
 .rfl
 .show(List.set _ _ _).length=_;rw[bR]
def Hq.drop(h:Hq q n K)(p:Int):Hq (q.aF p).1 n K:=by
 obtain⟨c,z⟩:=h.z;have hd:Hq {q with a:=(q.a.aF p).1} n K:=⟨⟨_,(z.drop p).1⟩,h.f,h.l1,h.l2,h.lh,by show(q.a.aF p).1.c.table.length<=512;rw[DU];exact h.nl⟩;unfold QS.aF
 split
 .exact h
 .split
  .exact hd
  .split
   .exact hd.put _ Fb.nil
   .exact hd
def Hq.pR(h:Hq q n K)(i:Int):Hq (q.dk i).1 n (K+1):=by
 unfold QS.dk
 split
 .exact h.more ls
 .split
  .exact h.more ls
  .split
   .exact h.more ls
   .split
    .exact h.back _ ls
    .exact(h.back _ ls).put _ Fb.nil
def lI(q:QS)(i:Nat):q.aN (i+1)=if(q.aN i).2≠0 then q.aN i else(q.aN i).1.bl i:=rfl
def Hq.lJ(h:Hq q n K):∀i,i<=q.l.length->Hq (q.aN i).1 n (K+i)/\(q.aN i).1.l.length=q.l.length
 |0,_=>⟨h,rfl⟩
 |i+1,hi=>by
  obtain⟨h1,h2⟩:=h.lJ i ls;rw[lI]
  split
  .exact⟨h1.more ls,h2⟩
  .exact⟨h1.back i ls,by rw[(qP h1.f ls).2,h2]⟩
def vK(a:St)(h:a.c.table.length<=512):a.an.1.c.table.length<=512:=by
 show(a.c.an a.n).1.table.length<=512;have tt:a.c.bf.table.length<=512:=by show(a.c.table.take _).length<=512;rw[bY];omega
 unfold C.an
 split
 .exact tt
 .split
  .exact tt
  .split
   .exact tt
   .exact tt
def Hq.gZ(h:Hq q n K)(hK:K<=999999999000):Hq q.an.1 n (K+40):=by
 unfold QS.an;obtain⟨b1,b2⟩:=h.lJ q.l.length (ai _);have l2:=h.l2
 split
 .exact h.more ls
 .split
  .exact b1.more ls
  .obtain⟨c,z⟩:=b1.z;have zc:=(z.gZ (by have:=b1.nl;rw[z.e]at this;exact this)).1;exact⟨⟨_,zc.more ls⟩,b1.f.more ls,b1.l1,b1.l2,b1.lh,vK _ b1.nl⟩
def Hq.abort(h:Hq q n K):Hq q.bt n K:=by
 obtain⟨c,z⟩:=h.z;refine⟨⟨_,z.abort⟩,λf hf=>?_,by show 1<=(it _ _).length;rw[eG];exact h.l1,by show(it _ _).length<=32;rw[eG];exact h.l2,by show q.hand<(it _ _).length;rw[eG];exact h.lh,?_⟩
 .rw[jQ hf];exact Fb.nil
 .show q.a.c.bt.table.length<=512;have:=z.ol;rw[z.e];exact this
def JD(a:St)(p:UV)(h:a.c.table.length<=512):(a.bE p).1.c.table.length<=512:=by
 show(a.c.bE a.n p).1.table.length<=512;obtain⟨g1,_⟩:=gQ a.c a.n p;unfold C.bE
 split
 .exact h
 .split
  .exact h
  .split
   .exact h
   .rename_i hs
    split
    .show(a.c.bA a.n p).1.table.length<=512;rw[g1];exact h
    .show(qJ a.c.table _ _).length<=512;unfold qJ
     split
     .rw[bC];simp;omega
     .rw[bR];exact h
def Hq.new(h:Hq q n K)(p:UV):Hq (q.bE p).1 n (K+1):=by
 obtain⟨c,z⟩:=h.z;exact⟨⟨_,(z.new p).1⟩,h.f.more ls,h.l1,h.l2,h.lh,JD _ _ h.nl⟩
end
variable{l:List Fr}{f:Fr}{k K':Nat}{p:Int}
def ph(f:Fr):Int×Nm×Int:=(f.au,f.fS,f.held)
def NH{l':List Fr}(e:l'.map ph=l.map ph){i:Nat}(h:l'[i]?=some f):∃f0,l[i]?=some f0/\f0.au=f.au/\f0.fS=f.fS/\f0.held=f.held:=by
 have h1:(l'.map ph)[i]?=some (ph f):=by rw[iM,h];rfl
 rw[e,iM]at h1
 cases h2:l[i]? with
 |none=>rw[h2]at h1;cases h1
 |some f0=>
  rw[h2]at h1;have h3:ph f0=ph f:=by injection h1
  exact⟨f0,rfl,congrArg (λx=>x.1) h3,congrArg (λx=>x.2.1) h3,congrArg (λx=>x.2.2) h3⟩
def yW(m:Nat)(s:QS):s.gC (m+1)=if 0<(il s.l s.hand).held then s.turn.gC m else if(il s.l s.hand).used=true then QS.gC m {s.turn with l:=s.l.set s.hand {il s.l s.hand with used:=false}}else(s.turn,(s.hand:Int)):=rfl
def spin_ph:∀(m:Nat) (s:QS),s.hand<s.l.length->(s.gC m).1.l.map ph=s.l.map ph:=by
 intro m
 induction m with
 |zero=>intro s _;rfl
 |succ m ih=>
  intro s hs;rw[yW];have ht:s.turn.hand<s.turn.l.length:=qz _ (by show 0<s.l.length;omega)
  split
  .exact ih s.turn ht
  .split
   .have hx:=ih {s.turn with l:=s.l.set s.hand {il s.l s.hand with used:=false}} (by show s.turn.hand<(s.l.set _ _).length;rw[bR];exact ht);rw[hx];exact jm s.l ph s.hand (j8 hs) rfl
   .rfl
section
variable{q:QS}{n K:Nat}
def Wy(h:q.hand<q.l.length):q.az.1.l.map ph=q.l.map ph:=by
 unfold QS.az
 split
 .rfl
 .exact spin_ph _ q h
def Kg(hk:k<q.l.length):(q.bl k).1.l.map ph=q.l.map ph:=by
 unfold QS.bl
 split
 .split
  .exact jm q.l ph k (j8 hk) rfl
  .rfl
 .rfl
structure Wp(q:QS)(n K:Nat):Prop where
 H:Hq q n K
 N:∀f∈q.l,f.held=0
 fl:∀f∈q.l,0<=f.au->f.fS.size=232
def Wp.more(h:Wp q n K)(hk:K<=K'):Wp q n K':=⟨h.H.more hk,h.N,h.fl⟩
def Wp.as(h:Wp q n K){q':QS}(H:Hq q' n K')(e:q'.l.map ph=q.l.map ph):Wp q' n K':=by
 refine⟨H,λf hf=>?_,λf hf h0=>?_⟩
 .obtain⟨i,hi⟩:=ko hf;obtain⟨f0,h1,h2,h3,h4⟩:=NH e hi;rw[<-h4];exact h.N _ (ay h1)
 .obtain⟨i,hi⟩:=ko hf;obtain⟨f0,h1,h2,h3,h4⟩:=NH e hi;rw[<-h3];exact h.fl _ (ay h1) ls
def Wp.set(h:Wp q n K){q':QS}{g:Fr}(H:Hq q' n K')(e:q'.l=q.l.set k g)(h0:g.held=0)(h1:0<=g.au->g.fS.size=232):Wp q' n K':=by
 refine⟨H,λf hf=>?_,λf hf hp=>?_⟩
 .rw[e]at hf
  rcases oJ hf with hf|rfl
  .exact h.N f hf
  .exact h0
 .rw[e]at hf
  rcases oJ hf with hf|rfl
  .exact h.fl f hf hp
  .exact h1 hp
def xr(h:(q.a.aO p).2=0):0<=p:=by
 have h:(q.a.c.aO q.a.n p).2=0:=h;unfold C.aO at h
 split at h
 .rename_i h1;exact eq h h1
 .rename_i h1;exact(yE (by simpa using h1)).2.1
def One(l:List Fr)(p:Int)(b:Nm):Prop:= ∃(k:Nat) (f:Fr),findF l p=k/\l[k]?=some f/\f.au=p/\0<=p/\f.held=1/\f.fS=b/\b.size=232/\(∀(i:Nat) (h:Fr),i≠k->l[i]?=some h->h.held=0)/\∀(i:Nat) (h:Fr),i≠k->l[i]?=some h->0<=h.au->h.fS.size=232
def RG(hf:l[k]?=some f)(he:f.au=p)(h0:0<=p)(ha:∀(j:Nat) (a:Fr),j<k->l[j]?=some a->a.au≠p):findF l p=k:=by
 unfold findF;rw[ge];exact wX hf (by simpa using he) (λj a hj Xi=>by simpa using ha j a hj Xi)
def Kh(W:Wp q n K)(p:Int):((q.aU p).2.2=0/\One (q.aU p).1.l p (q.aU p).2.1)\/((q.aU p).2.2≠0/\Wp (q.aU p).1 n (K+1)):=by
 have HH:=W.H.hold p;unfold QS.aU at HH ⊢
 rcases gF q.l p with e|⟨k,f,e,hk,he,hp⟩
 .rw[e,ge]at HH ⊢
  by_cases hr:(q.a.aO p).2≠0
  .rw[U8 hr];exact .inr ⟨hr,W.more ls⟩
  rw[U9 hr]at HH ⊢;have Kv:(q.a.aO p).2=0:=by simpa using hr
  have hp:0<=p:=xr Kv;obtain⟨v1,v3⟩:=W.H.yU;have va:=gG q;have vp:=Wy W.H.lh
  by_cases hv:q.az.2<0
  .rw[U8 hv]at HH ⊢;exact .inr ⟨by show(12:Int)≠0;decide,W.as HH vp⟩
  rw[U9 hv]at HH ⊢
  rcases v3 with v3|⟨k,v3,lQ⟩
  .omega
  rw[v3,show((k:Nat):Int).toNat=k by omega]at HH ⊢;have bp:=(Kg (q:=q.az.1) (k:=k) ls).trans vp
  by_cases da:(q.az.1.bl k).2≠0
  .rw[U8 da]at HH ⊢;exact .inr ⟨da,W.as HH bp⟩
  rw[U9 da];have Ll:∀f∈q.l,f.au≠p:=DY e hp;have uY:=(qP (k:=k) v1.f ls).2;have hx:(List.set (q.az.1.bl k).1.l k ⟨p,⟨(q.a.aO p).1.toArray⟩,1,false,true⟩)[k]?=some ⟨p,⟨(q.a.aO p).1.toArray⟩,1,false,true⟩:=by rw[eK ls]
  refine .inl ⟨rfl,k,⟨p,⟨(q.a.aO p).1.toArray⟩,1,false,true⟩,RG hx rfl hp (λj a hj Xi=>?_),hx,rfl,hp,rfl,rfl,?_,λi h hi hh=>?_,λi h hi hh h0=>?_⟩
  .rw[fW ls]at Xi;obtain⟨f0,g1,g2,_⟩:=NH bp Xi;rw[<-g2];exact Ll _ (ay g1)
  .obtain⟨c,z⟩:=W.H.z;have:=z.len Kv;show(q.a.aO p).1.toArray.size=232;simpa using this
  .have hh:(List.set (q.az.1.bl k).1.l k _)[i]?=some h:=hh;rw[fW ls]at hh;obtain⟨f0,g1,g2,g3,g4⟩:=NH bp hh;rw[<-g4];exact W.N _ (ay g1)
  .have hh:(List.set (q.az.1.bl k).1.l k _)[i]?=some h:=hh;rw[fW ls]at hh;obtain⟨f0,g1,g2,g3,g4⟩:=NH bp hh;rw[<-g3];exact W.fl _ (ay g1) ls
 .rw[e,g8,show((k:Nat):Int).toNat=k by omega,nY hk];have lQ:k<q.l.length:=(aW.1 hk).1;have h0:=W.N f (ay hk);have hx:(q.l.set k {f with held:=f.held+1,used:=true})[k]?=some {f with held:=f.held+1,used:=true}:=by rw[eK lQ]
  refine .inl ⟨rfl,k,{f with held:=f.held+1,used:=true},?_,hx,he,hp,by show f.held+1=1;omega,rfl,W.fl f (ay hk) ls,λi h hi hh=>?_,λi h hi hh h0=>?_⟩
  .refine RG hx he hp (λj a hj Xi ea=>?_);rw[fW ls]at Xi;have:findF q.l p<k:=by
    unfold findF;rw[ge];unfold Gl;obtain⟨hjl,hje⟩:=aW.1 Xi;have hle:q.l.findIdx (λf=>decide (f.au=p))<=j:=by
     by_cases h:q.l.findIdx (λf=>decide (f.au=p))<=j
     .exact h
     .have:=Bm (p:=λf=>decide (f.au=p)) (xs:=q.l) (i:=j) ls;rw[hje]at this;simp[ea]at this
    rw[g8];omega
   omega
  .have hh:(q.l.set k _)[i]?=some h:=hh;rw[fW ls]at hh;exact W.N _ (ay hh)
  .have hh:(q.l.set k _)[i]?=some h:=hh;rw[fW ls]at hh;exact W.fl _ (ay hh) h0
def One.set{b0:Nm}(hl:q.l=l)(h:One l p b0)(b:Nm)(hb:b.size<=232):(q.eP p b).2=0/\One (q.eP p b).1.l p (mX b):=by
 subst hl;obtain⟨k,f,e,hf,he,hp,hh,_,_,hN,hF⟩:=h;have hE:q.eP p b=({q with l:=q.l.set k {f with fS:=mX b,cH:=true,used:=true}},0):=by
  unfold QS.eP QS.eX;rw[ge,e,ge,show((k:Nat):Int).toNat=k by omega,hf];dsimp only;rw[ge]
 rw[hE];have lQ:k<q.l.length:=(aW.1 hf).1;have hx:(q.l.set k {f with fS:=mX b,cH:=true,used:=true})[k]?=some {f with fS:=mX b,cH:=true,used:=true}:=by rw[eK lQ]
 refine⟨rfl,k,_,RG hx he hp (λj a hj Xi ea=>?_),hx,he,hp,hh,rfl,qO ls,λi h hi hh=>?_,λi h hi hh h0=>?_⟩
 .rw[fW ls]at Xi
  rcases gF q.l p with e2|⟨k2,f2,e2,Xe,_,_⟩
  .omega
  .have:k2=k:=ls
   subst this;have hn:=e2;unfold findF at hn;rw[ge]at hn;unfold Gl at hn
   split at hn
   .rename_i dP;have hk3:q.l.findIdx (λf=>decide (f.au=p))=k2:=ls
    have:=Bm (p:=λf=>decide (f.au=p)) (xs:=q.l) (i:=j) ls;obtain⟨hjl,hje⟩:=aW.1 Xi;rw[hje]at this;simp[ea]at this
   .omega
 .have hh:(q.l.set k _)[i]?=some h:=hh;rw[fW ls]at hh;exact hN i h hi hh
 .have hh:(q.l.set k _)[i]?=some h:=hh;rw[fW ls]at hh;exact hF i h hi hh h0
def One.Gm{b:Nm}(h:One q.l p b)(H:Hq q n K):Wp (q.fG p).1 n K:=by
 have HL:=H.Gm p;obtain⟨k,f,e,hf,he,hp,hh,eb,hb,hN,hF⟩:=h;have hE:(q.fG p).1={q with l:=q.l.set k {f with held:=f.held-1}}:=by
  unfold QS.fG QS.eX;rw[e,ge,show((k:Nat):Int).toNat=k by omega,hf];dsimp only;rw[ge]
 rw[hE]at HL ⊢;refine⟨HL,λg hg=>?_,λg hg h0=>?_⟩
 .rcases mem_set hg with rfl|⟨i,hi,pk⟩
  .show f.held-1=0;omega
  .exact hN i g hi pk
 .rcases mem_set hg with rfl|⟨i,hi,pk⟩
  .show f.fS.size=232;rw[eb];exact hb
  .exact hF i g hi pk h0
def set_held(W:Wp q n K)(p:Int)(b:Nm)(hb:b.size<=232)(h0:(q.aU p).2.2=0):((q.aU p).1.eP p b).2=0:=by
 rcases Kh W p with⟨_,O⟩|⟨h,_⟩
 .exact(O.set rfl b hb).1
 .exact eq h0 h
def Wp.get(W:Wp q n K)(p:Int):Wp (q.cF p).1 n (K+1):=by
 unfold QS.cF
 rcases Kh W p with⟨h0,O⟩|⟨h0,h1⟩
 .rw[U9 (by simpa using h0)];exact O.Gm (W.H.hold p)
 .rw[U8 h0];exact h1
def Fp(W:Wp q n K)(h0:(q.cF p).2.2=0):(q.cF p).2.1.size=232:=by
 unfold QS.cF at h0 ⊢
 rcases Kh W p with⟨h1,k,f,_,_,_,_,_,_,hb,_⟩|⟨h1,h2⟩
 .rw[U9 (by simpa using h1)];exact hb
 .rw[U8 h1]at h0;exact eq h0 h1
def Wp.put(W:Wp q n K)(p:Int)(b:Nm)(hb:b.size<=232):Wp (q.dh p b).1 n (K+1):=by
 unfold QS.dh;rw[ge]
 rcases Kh W p with⟨h0,O⟩|⟨h0,h1⟩
 .rw[U9 (by simpa using h0)];exact(O.set rfl b hb).2.Gm ((W.H.hold p).set p b)
 .rw[U8 h0];exact h1
def Wp.drop(W:Wp q n K)(p:Int):Wp (q.aF p).1 n K:=by
 have HH:=W.H.drop p;unfold QS.aF at HH ⊢
 split
 .exact W
 .split
  .rename_i h1 h2;rw[U9 h1,U8 h2]at HH;exact W.as HH rfl
  .rename_i h1 h2;rw[U9 h1,U9 h2]at HH
   split
   .rename_i h3;rw[U8 h3]at HH;exact W.set HH rfl rfl (λh=>eq h ms)
   .rename_i h3;rw[U9 h3]at HH;exact W.as HH rfl
def Wp.pR(W:Wp q n K)(i:Int):Wp (q.dk i).1 n (K+1):=by
 have HH:=W.H.pR i;unfold QS.dk at HH ⊢
 split
 .exact W.more ls
 .rename_i h1;rw[U9 h1]at HH
  split
  .exact W.more ls
  .rename_i h2;rw[U9 h2]at HH
   split
   .exact W.more ls
   .rename_i h3;rw[U9 h3]at HH;have hb:=Kg (q:=q) (k:=i.toNat) ls
    split
    .rename_i h4;rw[U8 h4]at HH;exact W.as HH hb
    .rename_i h4;rw[U9 h4]at HH;exact(W.as (W.H.back _ ls) hb).set HH rfl rfl (λh=>eq h ms)
def Wp.lJ(W:Wp q n K)(i:Nat)(hi:i<=q.l.length):Wp (q.aN i).1 n (K+i):=by
 obtain⟨h1,h2⟩:=W.H.lJ i hi;refine W.as h1 ?_;clear h1 h2
 induction i with
 |zero=>rfl
 |succ i ih=>
  have h3:=(W.H.lJ i ls).2;rw[lI]
  split
  .exact ih ls
  .rw[Kg ls];exact ih ls
def Wp.gZ(W:Wp q n K)(hK:K<=999999999000):Wp q.an.1 n (K+40):=by
 have HH:=W.H.gZ hK;have hb:=W.lJ q.l.length (ai _);have l2:=W.H.l2;unfold QS.an at HH ⊢
 split
 .exact W.more ls
 .rename_i h1;rw[U9 h1]at HH
  split
  .exact hb.more ls
  .rename_i h2;rw[U9 h2]at HH;exact hb.as HH rfl
def Wp.abort(W:Wp q n K):Wp q.bt n K:=by
 refine⟨W.H.abort,λf hf=>?_,λf hf h0=>?_⟩
 .rw[jQ hf];rfl
 .rw[jQ hf]at h0;exact eq h0 ms
def Wp.new(W:Wp q n K)(p:UV):Wp (q.bE p).1 n (K+1):=W.as (W.H.new p) rfl
def QS.Ga(q:QS):Nat:=q.a.c.table.countP λx=>decide (0<=x)
def cnt_le(W:Wp q n K):q.Ga<=512:=by
 have:=yk (p:=λx:Int=>decide (0<=x)) (l:=q.a.c.table);have:=W.H.nl;unfold QS.Ga;omega
def Ue{t:List Int}{l:Nat}{x:Int}(h:l<t.length)(h0:0<=t.getD l 0):(t.set l x).countP (λx=>decide (0<=x))=(t.countP λx=>decide (0<=x))-1+(if 0<=x then 1 else 0)/\0<t.countP λx=>decide (0<=x):=by
 have e:t.getD l 0=t[l]:=by simp[List.getD,aQ h]
 rw[e]at h0;refine⟨?_,List.countP_pos_iff.2 ⟨_,jR h,by simpa using h0⟩⟩;rw[List.countP_set h];simp[h0]
def Iw{c:C}{a:St}(z:Zc c n a K)(l:Int)(p:UV):((a.ao l p).1.c.table.countP λx=>decide (0<=x))=a.c.table.countP λx=>decide (0<=x):=by
 rw[z.e];show((c.ao n l p).1.table.countP _)=c.table.countP _;obtain⟨g1,_⟩:=gQ c n p;unfold C.ao
 split
 .rfl
 .split
  .rfl
  .split
   .rfl
   .rename_i h;obtain⟨_,a2,a3,a4⟩:=yE (show c.jb l=0 by simpa using h)
    split
    .rfl
    .split
     .show((c.bA n p).1.table.countP _)=_;rw[g1]
     .rename_i hf;have h0:0<=(c.bA n p).2.1:=by
       have ht:=(Dm c.m z.ml).2;unfold C.bA
       split
       .exact dG _
       .split
        .exact dG _
        .exact ht
      obtain⟨k1,k2⟩:=Ue (x:=(c.bA n p).2.1) (show l.toNat<c.table.length by omega) a4;show((c.table.set l.toNat _).countP _)=_;rw[k1,U8 h0];omega
def NI(H:Hq q n K)(k:Nat):(q.bl k).1.Ga=q.Ga:=by
 obtain⟨c,z⟩:=H.z;unfold QS.bl QS.Ga
 split
 .split
  .exact Iw z _ _
  .exact Iw z _ _
 .rfl
def let_cnt(H:Hq q n K)(p:Int):(q.fG p).1.Ga=q.Ga:=by
 unfold QS.Ga;rw[(Tp H.f p).2.2.1]
def get_cnt(W:Wp q n K)(p:Int):(q.cF p).1.Ga=q.Ga:=by
 have hh:(q.aU p).1.Ga=q.Ga:=by
  unfold QS.aU;have hv:q.az.1.Ga=q.Ga:=by unfold QS.Ga;rw[(gG q).1]
  split
  .rfl
  .split
   .rfl
   .split
    .exact hv
    .split
     .rw[NI W.H.yU.1,hv]
     .show(q.az.1.bl _).1.Ga=_;rw[NI W.H.yU.1,hv]
 unfold QS.cF
 split
 .exact hh
 .rw[let_cnt (W.H.hold p),hh]
def drop_cnt(W:Wp q n K)(h0:(q.aF p).2=0):(q.aF p).1.Ga+1=q.Ga:=by
 have key:(q.a.aF p).2=0->((q.a.aF p).1.c.table.countP λx=>decide (0<=x))+1=q.a.c.table.countP λx=>decide (0<=x):=λh=>by
  have h:(q.a.c.aF p).2=0:=h;show((q.a.c.aF p).1.table.countP _)+1=_;unfold C.aF at h ⊢
  split at h
  .rename_i h1;exact eq h h1
  .rename_i h1;rw[U9 h1];obtain⟨_,a2,a3,a4⟩:=yE (show q.a.c.jb p=0 by simpa using h1);obtain⟨k1,k2⟩:=Ue (x:= -1) (show p.toNat<q.a.c.table.length by omega) a4;show((q.a.c.table.set p.toNat _).countP _)+1=_;rw[k1,U9 ms];omega
 unfold QS.aF at h0 ⊢
 split at h0
 .exact eq h0 (by show ¬(16:Int)=0;decide)
 .rename_i h1;rw[U9 h1]
  split at h0
  .rename_i h2;exact eq h0 h2
  .rename_i h2;rw[U9 h2];have:=key (by simpa using h2)
   split
   .exact this
   .exact this
end
def newF_bd(a:St)(p:UV):0<=(a.bE p).2.1/\(a.bE p).2.1<=511:=by
 show 0<=(a.c.bE a.n p).2.1/\(a.c.bE a.n p).2.1<=511;unfold C.bE
 split
 .exact⟨by show(0:Int)<=0;omega,by show(0:Int)<=511;omega⟩
 .split
  .exact⟨by show(0:Int)<=0;omega,by show(0:Int)<=511;omega⟩
  .split
   .exact⟨by show(0:Int)<=0;omega,by show(0:Int)<=511;omega⟩
   .rename_i h
    split
    .exact⟨by show(0:Int)<=0;omega,by show(0:Int)<=511;omega⟩
    .exact⟨by show(0:Int)<=(jc a.c.table:Nat);omega,by show((jc a.c.table:Nat):Int)<=511;omega⟩
variable{w:BY}{y:Y}{n K K':Nat}{q:QS}
def zget_any(h:ZP w y n q K)(H:Hq q n K)(hK:K<=999999999999)(p:Int):
  io prog 121 #[pp y.pb,p] w λe w'=>e=fd (rg #[U7 (q.cF p).2.1,U5 U6 (q.cF p).2.2])/\ZP w' y n (q.cF p).1 (K+1)/\ah y.fp w w':=by
 unfold QS.cF
 by_cases h0:(q.aU p).2.2=0
 .rw[U9 (by simpa using h0)];exact Wu h H.f hK H.full p h0
 .rw[U8 h0];exact zget_bad h H.f hK p h0
def zput_any(h:ZP w y n q K)(W:Wp q n K)(hK:K<=999999999999)(p:Int)(b:Nm):
  io prog 176 #[pp y.pb,p,U7 b] w λe w'=>e=fd (U5 U6 (q.dh p b).2)/\ZP w' y n (q.dh p b).1 (K+1)/\ah y.fp w w':=by
 unfold QS.dh
 by_cases hb:232<b.size
 .rw[U8 hb];exact(YV p b hb).mono λe w' ⟨r,o⟩=>⟨r,(h.below o).more ls,.aj o⟩
 rw[U9 hb]
 by_cases h0:(q.aU p).2.2=0
 .rw[U9 (by simpa using h0)];have hp:=Wv h W.H.f hK W.H.full p b ls h0;rw[set_held W p b ls h0]at hp;exact hp
 .rw[U8 h0];exact zput_bad h W.H.f hK W.H.full p b ls h0
def PQ(w:BY)(I:Ix)(F:List Nat)(q:QS)(n K:Nat):Prop:= ∃y,y.pb=I.pb/\y.x.b=I.sb/\y.x.L=I.L/\y.fp=F/\ZP w y n q K/\Wp q n K
def PT(w w':BY)(I:Ix)(F:List Nat)(q:QS)(n K:Nat):Prop:= ∃F',PQ w' I F' q n K/\ah F w w'/\∀g∈F',g∈F\/w.heap.size<=g
section
variable{w w':BY}{I:Ix}{F S:List Nat}{q:QS}{n K:Nat}
def PQ.wp(h:PQ w I F q n K):Wp q n K:=by
 obtain⟨y,_,_,_,_,_,W⟩:=h;exact W
def PQ.only(h:PQ w I F q n K)(o:ah S w w')(hd:∀g∈F,g∉S):PQ w' I F q n K:=by
 obtain⟨y,e1,e2,e3,rfl,⟨c,A,z⟩,W⟩:=h;exact⟨y,e1,e2,e3,rfl,⟨c,A.only o hd,z⟩,W⟩
def PQ.below(h:PQ w I F q n K)(hb:i7 w w'):PQ w' I F q n K:=h.only (S:=[]) (.aj hb) lw
def PQ.drew(h:PQ w I F q n K):PQ w.drew I F q n K:=h.below (Below.refl _ _).drew
def PQ.lt(h:PQ w I F q n K):∀g∈F,g<w.heap.size:=by
 obtain⟨y,_,_,_,rfl,⟨c,A,z⟩,_⟩:=h;exact A.lt
def PQ.le(h:PQ w I F q n K)(hk:K<=K'):PQ w I F q n K':=by
 obtain⟨y,e1,e2,e3,e4,⟨c,A,z⟩,W⟩:=h;exact⟨y,e1,e2,e3,e4,⟨c,A,z.more hk⟩,W.more hk⟩
def PQ.bh{b:Nat}(h:PQ w I F q n K)(o:ah [b] w w')(hb:b∉F):PQ w' I F q n K:=h.only o (λg hg hm=>hb (by rw[<-aG.1 hm];exact hg))
def PQ.jL(h:PQ w I F q n K){g:Nat}{t:TypeId}{cs:Array Value}(B:aM w g t cs)(ha:t≠143:=by decide)(hb:t≠167:=by decide)(h1:t≠146:=by decide)(h2:t≠218:=by decide)(h3:t≠3:=by decide)(h4:t≠149:=by decide)(h5:t≠152:=by decide)(h6:t≠4:=by decide)(h7:t≠231:=by decide):g∉F:=by
 obtain⟨y,_,_,_,rfl,⟨c,A,z⟩,_⟩:=h;exact A.jL B ha hb h1 h2 h3 h4 h5 h6 h7
def PT.self(h:PQ w' I F q n K)(o:ah F w w'):PT w w' I F q n K:=⟨F,h,o,λ_ hg=> .inl hg⟩
def PT.le(h:PT w w' I F q n K)(hk:K<=K'):PT w w' I F q n K':=by
 obtain⟨F',a,b⟩:=h;exact⟨F',a.le hk,b⟩
def ZTo.pt{q':QS}(h:ZTo w w' y n q' K')(W:Wp q' n K'):PT w w' ⟨y.pb,y.x.b,y.x.L⟩ y.fp q' n K':=by
 obtain⟨y',e1,e2,e3,z,o,f⟩:=h;exact⟨y'.fp,⟨y',e1,e2,e3,rfl,z,W⟩,o,f⟩
def xU(h:PQ w I F q n K)(hK:K<=999999999999)(p:Int):
  io prog 121 #[pp I.pb,p] w λe w'=>e=fd (rg #[U7 (q.cF p).2.1,U5 U6 (q.cF p).2.2])/\PQ w' I F (q.cF p).1 n (K+1)/\ah F w w':=by
 obtain⟨y,e1,e2,e3,rfl,z,W⟩:=h;have hw:=W.get p;rw[<-e1];exact(zget_any z W.H hK p).mono λe w' ⟨r,z',o⟩=>⟨r,⟨y,e1,e2,e3,rfl,z',hw⟩,o⟩
def eput_any(h:PQ w I F q n K)(hK:K<=999999999999)(p:Int)(b:Nm)(hb:b.size<=232):
  io prog 176 #[pp I.pb,p,U7 b] w λe w'=>e=fd (U5 U6 (q.dh p b).2)/\PQ w' I F (q.dh p b).1 n (K+1)/\ah F w w':=by
 obtain⟨y,e1,e2,e3,rfl,z,W⟩:=h;have hw:=W.put p b hb;rw[<-e1];exact(zput_any z W hK p b).mono λe w' ⟨r,z',o⟩=>⟨r,⟨y,e1,e2,e3,rfl,z',hw⟩,o⟩
def Fq(h:PQ w I F q n K)(hK:K<=1000000000000)(v:Nm)(hv:v.size<=232):
  io prog 69 #[pp I.pb,U7 v] w λe w'=>e=fd (rg #[U5 U6 (q.bE v.data.toList).2.1,U5 U6 (q.bE v.data.toList).2.2])/\PT w w' I F (q.bE v.data.toList).1 n (K+1):=by
 obtain⟨y,e1,e2,e3,rfl,z,W⟩:=h;have hw:=W.new v.pu;obtain⟨_,_,_⟩:=I;subst e1 e2 e3;exact(Wx z hK v ls).mono λe w' ⟨r,t⟩=>⟨r,t.pt hw⟩
def uK(h:PQ w I F q n K)(p:Int):
  io prog 132 #[pp I.pb,p] w λe w'=>e=fd (U5 U6 (q.aF p).2)/\PQ w' I F (q.aF p).1 n K/\ah F w w':=by
 obtain⟨y,e1,e2,e3,rfl,z,W⟩:=h;have hw:=W.drop p;rw[<-e1];exact(RF z W.H.f p).mono λe w' ⟨r,z',o⟩=>⟨r,⟨y,e1,e2,e3,rfl,z',hw⟩,o⟩
def RH(h:PQ w I F q n K)(hK:K<=999999999999)(i:Int):
  io prog 58 #[pp I.pb,i] w λe w'=>e=fd (U5 U6 (q.dk i).2)/\PQ w' I F (q.dk i).1 n (K+1)/\ah F w w':=by
 obtain⟨y,e1,e2,e3,rfl,z,W⟩:=h;have hw:=W.pR i;rw[<-e1];exact(RC z W.H.f hK i).mono λe w' ⟨r,z',o⟩=>⟨r,⟨y,e1,e2,e3,rfl,z',hw⟩,o⟩
def AO(h:PQ w I F q n K)(hK:K<=999999999000)(cc:(q.aN q.l.length).2=0->Ny (q.aN q.l.length).1.a.c):
  io prog 50 #[pp I.pb] w λe w'=>e=fd q.an.2/\PT w w' I F q.an.1 n (K+40):=by
 obtain⟨y,e1,e2,e3,rfl,z,W⟩:=h;have hw:=W.gZ hK;obtain⟨_,_,_⟩:=I;subst e1 e2 e3;exact(Kf z W.H.f hK (λh _=>cc h)).mono λe w' ⟨r,t⟩=>⟨r,t.pt hw⟩
def Fs(h:PQ w I F q n K):
  io prog 51 #[pp I.pb] w λe w'=>e=fd (WF true)/\PT w w' I F q.bt n K:=by
 obtain⟨y,e1,e2,e3,rfl,z,W⟩:=h;have hw:=W.abort;obtain⟨_,_,_⟩:=I;subst e1 e2 e3;exact(NG z).mono λe w' ⟨r,t⟩=>⟨r,t.pt hw⟩
def RI(h:PQ w I F q n K):io prog 28 #[pp I.pb] w λe w'=>e=fd (sp I.sb)/\w=w':=by
 obtain⟨y,e1,e2,e3,rfl,⟨c,A,z⟩,W⟩:=h;rw[<-e1,<-e2];exact Qa A
def RJ(h:PQ w I F q n K):
  io prog 29 #[sp I.sb] w λe w'=> ∃A cc,e=fd (U3 A q.a.jW.length cc)/\bm w' 3 1 (U3 A q.a.jW.length cc) q.a.jW.length (di q.a.jW)/\i7 w w':=by
 obtain⟨y,e1,e2,e3,rfl,⟨c,A,z⟩,W⟩:=h;rw[<-e2];have hp:yF c.table c.table.length=q.a.jW:=by rw[z.e];rfl
 have:=PV A.hs;rw[show(q.ps c).c=c from rfl,hp]at this;exact this
end
variable{w:BY}{I:Ix}{F:List Nat}{n K:Nat}
def QS.cW(q:QS)(l:Int):QS×Int×UV×Int:=
 if(q.cF l).2.2≠0 then((q.cF l).1,0,[],(q.cF l).2.2)else if 228<bS (q.cF l).2.1.data.toList 2 then((q.cF l).1,0,[],14)else((q.cF l).1,(bS (q.cF l).2.1.data.toList 0:Int)-1,((q.cF l).2.1.data.toList.drop 4).take (bS (q.cF l).2.1.data.toList 2),0)
def Wz{q:QS}(h:PQ w I F q n K)(hK:K<=999999999999)(p:Int)(he:(q.cF p).2.2≠0):
  io prog 204 #[pp I.pb,p] w λe w'=>e=fd (rg #[D9 0 ⟨#[]⟩,U5 U6 (q.cF p).2.2])/\PQ w' I F (q.cF p).1 n (K+1)/\ah F w w':=by
 have O0:=xh<|i6 w (Pi #[U5 U6 0,U7 ⟨#[]⟩] 262);have B0:=xh<|aM.new w 262 #[U5 U6 0,U7 ⟨#[]⟩];have NQ:=g9 (w.heap.size∉F) (λhm=>by have:=h.lt _ hm;omega);have KG:=xh<|xU (h.below O0.o) hK p;have hq:((q.cF p).2.2 != 0)=true:=lm he
 have kP:((q.cF p).2.2==0)=false:=i4 he
 generalize q.cF p=R at *;obtain⟨q1,R1,R2⟩:=R;dsimp only at *;clear h he;unfold pp at *;go_in;go_wp2_with fail;go_call KG.o as e w1 ⟨rfl,A1,o1⟩;have A1:=xh A1;have o1:=xh o1;obtain⟨B2,o2,c0,c1,z0,z1⟩:=QG (c':=0) (a':=⟨#[]⟩) (B0.o.only o1.o NQ.o);have B2:=xh B2;have o2:=xh o2;go_wp2
 exact bodyPost_ret (Ea rfl rfl B2.o) rfl ⟨rfl,(A1.o).bh o2.o NQ.o,nG (((ah.aj (S:=w.heap.size::F) O0.o).trans (nH o1.o)).trans (nI o2.o)) (ai _)⟩
def RK{q:QS}(h:PQ w I F q n K)(hK:K<=999999999999)(p:Int)(he:(q.cF p).2.2=0)(H2:228<bS (q.cF p).2.1.data.toList 2):
  io prog 204 #[pp I.pb,p] w λe w'=>e=fd (rg #[D9 0 ⟨#[]⟩,U5 U6 14])/\PQ w' I F (q.cF p).1 n (K+1)/\ah F w w':=by
 have O0:=xh<|i6 w (Pi #[U5 U6 0,U7 ⟨#[]⟩] 262);have B0:=xh<|aM.new w 262 #[U5 U6 0,U7 ⟨#[]⟩];have NQ:=g9 (w.heap.size∉F) (λhm=>by have:=h.lt _ hm;omega);have KG:=xh<|xU (h.below O0.o) hK p;have pC:=Fp h.wp he;rw[he]at KG;generalize q.cF p=R at *;obtain⟨q1,s,R2⟩:=R;dsimp only at *;have b0:=s[0].toNat_lt;have b1:=s[1].toNat_lt;have b2:=s[2].toNat_lt;have b3:=s[3].toNat_lt
 have V0:=xh (show bits .or U6 ((s[0].toNat:Int)*256) (s[1].toNat:Int)=((bS s.pu 0:Nat):Int)from by
  rw[or8 _ _ ls ls];unfold bS;rw[df _ _ ls,df _ _ ls])
 have V2:=xh (show bits .or U6 ((s[2].toNat:Int)*256) (s[3].toNat:Int)=((bS s.pu 2:Nat):Int)from by
  rw[or8 _ _ ls ls];unfold bS;rw[df _ _ ls,df _ _ ls])
 have m0:bS s.pu 0<=65535:=by unfold bS;rw[df _ _ ls,df _ _ ls];simp only[bV];omega
 have u0:U6.wrap (s[0].toNat:Int)=(s[0].toNat:Int):=d9;have u1:U6.wrap (s[1].toNat:Int)=(s[1].toNat:Int):=d9;have u2:U6.wrap (s[2].toNat:Int)=(s[2].toNat:Int):=d9;have u3:U6.wrap (s[3].toNat:Int)=(s[3].toNat:Int):=d9;have u4:U6.wrap ((s[0].toNat:Int)*256)=(s[0].toNat:Int)*256:=d9
 have u5:U6.wrap ((s[2].toNat:Int)*256)=(s[2].toNat:Int)*256:=d9;generalize bS s.pu 2=m2 at *;generalize bS s.pu 0=m1 at *;clear h he;unfold pp at *;go_in;go_wp2_with fail;go_call KG.o as e w1 ⟨rfl,A1,o1⟩;have A1:=xh A1;have o1:=xh o1;go_wp2_with fail;go_quiet (fail);rw[V0.o,V2.o];obtain⟨B2,o2,c0,c1,z0,z1⟩:=QG (c':=0) (a':=⟨#[]⟩) ((B0.o.only o1.o NQ.o).drewN nq)
 have B2:=xh B2;have o2:=xh<|((ah.refl [w.heap.size] w1).drewN nq).trans o2;go_wp2;exact bodyPost_ret (Ea rfl rfl B2.o) rfl ⟨rfl,(A1.o).bh o2.o NQ.o,nG (((ah.aj (S:=w.heap.size::F) O0.o).trans (nH o1.o)).trans (nI o2.o)) (ai _)⟩
def cread_ok{q:QS}(h:PQ w I F q n K)(hK:K<=999999999999)(p:Int)(he:(q.cF p).2.2=0)(H2:bS (q.cF p).2.1.data.toList 2<=228):
  io prog 204 #[pp I.pb,p] w λe w'=>e=fd (rg #[D9 ((bS (q.cF p).2.1.data.toList 0:Int)-1) ⟨(((q.cF p).2.1.data.toList.drop 4).take (bS (q.cF p).2.1.data.toList 2)).toArray⟩,U5 U6 0])/\PQ w' I F (q.cF p).1 n (K+1)/\ah F w w':=by
 have O0:=xh<|i6 w (Pi #[U5 U6 0,U7 ⟨#[]⟩] 262);have B0:=xh<|aM.new w 262 #[U5 U6 0,U7 ⟨#[]⟩];have NQ:=g9 (w.heap.size∉F) (λhm=>by have:=h.lt _ hm;omega);have KG:=xh<|xU (h.below O0.o) hK p;have pC:=Fp h.wp he;rw[he]at KG;generalize q.cF p=R at *;obtain⟨q1,s,R2⟩:=R;dsimp only at *;have b0:=s[0].toNat_lt;have b1:=s[1].toNat_lt;have b2:=s[2].toNat_lt;have b3:=s[3].toNat_lt
 have V0:=xh (show bits .or U6 ((s[0].toNat:Int)*256) (s[1].toNat:Int)=((bS s.pu 0:Nat):Int)from by
  rw[or8 _ _ ls ls];unfold bS;rw[df _ _ ls,df _ _ ls])
 have V2:=xh (show bits .or U6 ((s[2].toNat:Int)*256) (s[3].toNat:Int)=((bS s.pu 2:Nat):Int)from by
  rw[or8 _ _ ls ls];unfold bS;rw[df _ _ ls,df _ _ ls])
 have m0:bS s.pu 0<=65535:=by unfold bS;rw[df _ _ ls,df _ _ ls];simp only[bV];omega
 have u0:U6.wrap (s[0].toNat:Int)=(s[0].toNat:Int):=d9;have u1:U6.wrap (s[1].toNat:Int)=(s[1].toNat:Int):=d9;have u2:U6.wrap (s[2].toNat:Int)=(s[2].toNat:Int):=d9;have u3:U6.wrap (s[3].toNat:Int)=(s[3].toNat:Int):=d9;have u4:U6.wrap ((s[0].toNat:Int)*256)=(s[0].toNat:Int)*256:=d9
 have u5:U6.wrap ((s[2].toNat:Int)*256)=(s[2].toNat:Int)*256:=d9;have HX:=xh (show s.extract 4 (4+bS s.pu 2)=⟨((s.pu.drop 4).take (bS s.pu 2)).toArray⟩from by
  apply mP;apply rk.1;show(s.extract 4 (4+bS s.pu 2)).data.toList=(s.pu.drop 4).take (bS s.pu 2);rw[exl',show 4+bS s.pu 2-4=bS s.pu 2 by omega])
 generalize (⟨((s.pu.drop 4).take (bS s.pu 2)).toArray⟩:Nm)=P at *;generalize bS s.pu 2=m2 at *;generalize bS s.pu 0=m1 at *;have u6:U6.wrap ((m1:Int)-1)=(m1:Int)-1:=d9;have u7:U6.wrap (4+(m2:Int))=4+(m2:Int):=d9;have u8:(4+(m2:Int)).toNat=4+m2:=ls
 clear h he;unfold pp at *;go_in;go_wp2_with fail;go_call KG.o as e w1 ⟨rfl,A1,o1⟩;have A1:=xh A1;have o1:=xh o1;go_wp2_with fail;go_quiet (fail);rw[V0.o,V2.o];obtain⟨B2,o2,c0,c1,z0,z1⟩:=QG (c':=(m1:Int)-1) (a':=s.extract 4 (4+m2)) ((B0.o.only o1.o NQ.o).drewN nq);have B2:=xh B2;have o2:=xh<|((ah.refl [w.heap.size] w1).drewN nq).trans o2;go_wp2
 exact bodyPost_ret (Ea rfl rfl B2.o) rfl ⟨by rw[HX.o];rfl,(A1.o).bh o2.o NQ.o,nG (((ah.aj (S:=w.heap.size::F) O0.o).trans (nH o1.o)).trans (nI o2.o)) (ai _)⟩
def WA{q:QS}(h:PQ w I F q n K)(hK:K<=999999999999)(p:Int):
  io prog 204 #[pp I.pb,p] w λe w'=>e=fd (rg #[D9 (q.cW p).2.1 ⟨(q.cW p).2.2.1.toArray⟩,U5 U6 (q.cW p).2.2.2])/\PQ w' I F (q.cW p).1 n (K+1)/\ah F w w':=by
 unfold QS.cW
 by_cases h0:(q.cF p).2.2=0
 .rw[U9 (by simpa using h0)]
  by_cases h1:228<bS (q.cF p).2.1.data.toList 2
  .rw[U8 h1];exact RK h hK p h0 h1
  .rw[U9 h1];exact cread_ok h hK p h0 ls
 .rw[U8 h0];exact Wz h hK p h0
attribute [local go_sem ↓] bP tP
def QS.hJ:Nat->QS->Int->List Int->UV->QS×List Int×UV×Int
 |0,q,_,_,_=>(q,[],[],14)
 |m+1,q,at_,l,b=>
  if(q.cW at_).2.2.2=3/\0<l.length then((q.cW at_).1,[],[],14)
  else if(q.cW at_).2.2.2≠0 then((q.cW at_).1,[],[],(q.cW at_).2.2.2)
  else if 1024<(b++(q.cW at_).2.2.1).length then((q.cW at_).1,[],[],14)
  else if(q.cW at_).2.1<0 then((q.cW at_).1,l++[at_],b++(q.cW at_).2.2.1,0)
  else QS.hJ m (q.cW at_).1 (q.cW at_).2.1 (l++[at_]) (b++(q.cW at_).2.2.1)
def QS.dA(q:QS)(first:Int):QS×List Int×UV×Int:=q.hJ 5 first [] []
def readC_bd(q:QS)(l:Int):(q.cW l).2.1<=65534/\ -1<=(q.cW l).2.1/\(q.cW l).2.2.1.length<=228:=by
 unfold QS.cW
 split
 .exact⟨by show(0:Int)<=_;omega,by show(-1:Int)<=0;omega,by show 0<=228;omega⟩
 .split
  .exact⟨by show(0:Int)<=_;omega,by show(-1:Int)<=0;omega,by show 0<=228;omega⟩
  .refine⟨?_,?_,?_⟩
   .show(bS _ 0:Int)-1<=_;unfold bS;have:=(List.getD (q.cF l).2.1.data.toList 0 0).toNat_lt;have:=(List.getD (q.cF l).2.1.data.toList (0+1) 0).toNat_lt;omega
   .show -1<=(bS _ 0:Int)-1;omega
   .rw[bY];omega
def Iy{w:BY}{I:Ix}{F:List Nat}{q:QS}{n K:Nat}(h:PQ w I F q n K)(hK:K<=999999999900)(p:Int):
  io prog 160 #[pp I.pb,p] w λe w'=> ∃A m c,e=fd (rg #[U3 A m c,U7 ⟨(q.dA p).2.2.1.toArray⟩,U5 U6 (q.dA p).2.2.2])/\bm w' 3 1 (U3 A m c) (q.dA p).2.1.length (di (q.dA p).2.1)/\PQ w' I F (q.dA p).1 n (K+5)/\ah F w w'/\∀g∈ak (U3 A m c),w.heap.size<=g:=by
 have KN:=xh<|Hf 1024 ls;rw[show jn 1024=5 from rfl]at KN;have KR:=xh (λ(W:BY) (qj:QS) (kj:Nat) (hW:PQ W I F qj n kj) (hk:kj<=999999999999) (y:Int)=>WA hW hk y);have rD:=xh h.lt;obtain⟨R,hR⟩:∃R,q.dA p=R:=⟨_,rfl⟩;rw[hR];have HQ:=xh h;unfold QS.dA at hR;have HR:=xh hR;clear h hR;unfold D9 at KR;unfold pp at *;go_in;go_wp2_with fail;go_call (KN.o _) as e w1 ⟨rfl,rfl⟩;go_wp2_with fail
 go_loopw [7,8,9,16] (λlv bv av iv wr=> ∃(i:Nat) (l:List Int) (b:UV) (at_:Int) (qi:QS),i<=5/\l.length=i/\iv=U5 U6 i/\av=U5 U6 at_/\b.length<=1024/\bm wr 3 1 lv i (di l)/\bm wr 5 1 bv b.length (fq b)/\Hid (qi.hJ (5-i) at_ l b=R)/\Hid (PQ wr I F qi n (K+i)/\ah F w wr/\(∀g∈ak lv,w.heap.size<=g)/\(∀g∈ak bv,w.heap.size<=g))) (λ_ _ _ iv _=>5-(intOf iv).toNat)
 case atStart=>exact⟨0,[],[],p,q,ls,rfl,rfl,rfl,lw,bm.nil _ _ _,bm.nil _ _ _,HR,xh ⟨HQ.o,ah.refl _ _,by simp[ak],by simp[ak]⟩⟩
 case round=>
  obtain⟨i,l,b,at_,qi,hi,hl,rfl,rfl,hb,S1,S2,HW,HA⟩:=hrel;obtain⟨VA,vc,rfl⟩:=aI S1;obtain⟨VB,vb,rfl⟩:=aI S2
  by_cases h5:i<5
  .have K1:=xh<|KR.o wr qi (K+i) HA.o.1 ls at_;obtain⟨bd1,bd2,bd3⟩:=readC_bd qi at_;have HW:=HW.o;rw[show 5-i=(5-(i+1))+1 by omega]at HW;unfold QS.hJ at HW;rw[hl]at HW;generalize qi.cW at_=r at *;obtain⟨qn,nx,pc,er⟩:=r;dsimp only at *
   by_cases he:er=0
   .subst he;rw[ge,i8]at HW;have W2:=xh (show ∀w2,PQ w2 I F qn n (K+(i+1))->ah F wr w2->PQ (w2.alloc (Pi #[nx,U7 ⟨pc.toArray⟩] 262)) I F qn n (K+(i+1))/\ah F w (w2.alloc (Pi #[nx,U7 ⟨pc.toArray⟩] 262))/\
      bm (w2.alloc (Pi #[nx,U7 ⟨pc.toArray⟩] 262)) 3 1 (U3 VA i vc) i (di l)/\bm (w2.alloc (Pi #[nx,U7 ⟨pc.toArray⟩] 262)) 5 1 (U3 VB b.length vb) b.length (fq b)/\aM (w2.alloc (Pi #[nx,U7 ⟨pc.toArray⟩] 262)) w2.heap.size 262 #[nx,U7 ⟨pc.toArray⟩]/\w2.heap.size∉ak (U3 VA i vc)/\w2.heap.size∉ak (U3 VB b.length vb)from λw2 A2 o2=>by
     obtain⟨a1,a2,a3,a4⟩:=HA.o;have U:=i6 w2 (Pi #[nx,U7 ⟨pc.toArray⟩] 262);have s1:=S1.only o2 (λg hg hF=>by have:=rD.o g hF;have:=a3 g hg;omega);have s2:=S2.only o2 (λg hg hF=>by have:=rD.o g hF;have:=a4 g hg;omega);exact⟨A2.below U,(a2.trans o2).trans (.aj U),s1.below U,s2.below U,aM.new _ _ _,λhg=>by have:=s1.lt _ hg;omega,λhg=>by have:=s2.lt _ hg;omega⟩)
    have HW:=xh HW;go_wp2_with fail;go_call K1.o as e w2 ⟨rfl,A2,o2⟩;obtain⟨A3,o3,s1,s2,LK,n1,n2⟩:=W2.o w2 A2 o2;obtain⟨v',w4,ea,S4,ow,fr⟩:=gw (P:=prog) s1 60 60 (U5 U6 0) 8 underlying60 kX rfl at_ rfl (by unfold maxLen;omega) ls;have s4:=s2.only ow (nJ s2 s1 ms);have L4:=LK.only ow n1;have A4:=A3.only ow (λg hF hg=>by have:=rD.o g hF;have:=HA.o.2.2.1 g hg;omega)
    obtain⟨u',w5,eb,S5,ov,fv⟩:=vy (P:=prog) s4 150 9 150 underlying150 underlying9 ky.kI ⟨pc.toArray⟩ (by show _+pc.toArray.size<=_;simp;omega);have S6:=S4.only ov (λg hg=>nJ S4 s4 ms g hg);have L6:=L4.only ov n2;have A6:=xh<|A4.only ov (λg hF hg=>by have:=rD.o g hF;have:=HA.o.2.2.2 g hg;omega);have k1:=L4.bi 1;have k0:=L6.bi 0
    have O6:=g9 (ah F w w5) ((o3.bj ow (λg hg dP=>by have:=HA.o.2.2.1 g hg;omega)).bj ov (λg hg dP=>by have:=HA.o.2.2.2 g hg;omega));have F4:=g9 (∀g∈ak v',w.heap.size<=g) (λg hg=>(fr g hg).elim (HA.o.2.2.1 g) (λh=>by have:=o3.size;omega));have F5:=g9 (∀g∈ak u',w.heap.size<=g) (λg hg=>(fv g hg).elim (HA.o.2.2.2 g) (λh=>by have:=o3.size;have:=ow.size;omega));obtain⟨V4,c4,rfl⟩:=aI S4
    rw[show(⟨pc.toArray⟩:Nm).size=pc.length from by show pc.toArray.size=_;simp,show(⟨pc.toArray⟩:Nm).data.toList=pc from rfl,<-jT]at S5;obtain⟨V5,c5,rfl⟩:=aI S5;have SV:=g9 (bm w5 5 1 (U3 V5 (b.length+pc.length) c5) (b++pc).length (fq (b++pc))) (by rw[bC];exact S5);have CV:=xh<|SC (P:=prog) S5.drew 150 9 underlying150 underlying5 underlying9;rw[World.size_alloc]at ea;have EA:=xh ea
    have EB:=xh eb;clear ea eb ow ov fr fv S4 s4 L4 A4 L6 LK A3 A2 o2 o3 s1 s2 n1 n2;go_wp2_with fail;rw[EA.o];go_wp2_with fail;rw[EB.o];have HW:=HW.o
    by_cases hL:1024<(b++pc).length
    .rw[U8 hL]at HW;subst HW;rw[bC]at hL;go_wp2_with fail
     go_ret3
     exact⟨none,0,0,by first|rfl|simp,bm.nil _ _ _,A6.o.le ls,O6.o,by simp[ak]⟩
    .rw[U9 hL]at HW;have hL2:b.length+pc.length<=1024:=by rw[bC]at hL;omega
     by_cases hn:nx<0
     .rw[U8 hn]at HW;subst HW;go_wp2_with fail;have CV:=CV.o
      go_region
      go_wp2_with fail
      go_ret3
      exact⟨V4,i+1,c4,by first|rfl|simp,by rw[gS];first|exact S6.drew|(rw[bC,hl];exact S6.drew),(A6.o.below ((Below.refl _ _).drew)).le ls,O6.o.drew,F4.o⟩
     .rw[U9 hn]at HW;have HW:=xh HW;go_wp2;go_roundw
      case rel=>exact⟨i+1,l++[at_],b++pc,nx,qn,ls,by simp[hl],by go_num,rfl,by rw[bC];exact hL2,by rw[gS];exact S6,SV.o,HW,xh ⟨A6.o,O6.o,F4.o,F5.o⟩⟩
      case measure=>simp[intOf];omega
   .have hq:(er != 0)=true:=lm he
    have kP:(er==0)=false:=i4 he
    have W2:=xh (show ∀w2,PQ w2 I F qn n (K+(i+1))->ah F wr w2->PQ (w2.alloc (Pi #[nx,U7 ⟨pc.toArray⟩] 262)) I F qn n (K+(i+1))/\ah F w (w2.alloc (Pi #[nx,U7 ⟨pc.toArray⟩] 262))from λw2 A2 o2=>by
     obtain⟨a1,a2,a3,a4⟩:=HA.o;have U:=i6 w2 (Pi #[nx,U7 ⟨pc.toArray⟩] 262);exact⟨A2.below U,(a2.trans o2).trans (.aj U)⟩)
    by_cases h3:er=3/\0<i
    .rw[U8 h3]at HW;subst HW;obtain⟨rfl,h3⟩:=h3;go_wp2_with fail;go_call K1.o as e w2 ⟨rfl,A2,o2⟩;obtain⟨A3,o3⟩:=W2.o w2 A2 o2;have A3:=xh A3;have o3:=xh o3;clear A2 o2;go_wp2_with fail
     go_ret3
     exact⟨none,0,0,by first|rfl|simp,bm.nil _ _ _,A3.o.le ls,o3.o,by simp[ak]⟩
    .rw[U9 h3,U8 he]at HW;subst HW;have h33:er=3->¬0<i:=λe h=>h3 ⟨e,h⟩;have hq3:i=0\/((er==3)=false/\er≠3):=by
      by_cases e:er=3
      .exact .inl (by have:=h33 e;omega)
      .exact .inr ⟨by rw[beq_eq_false_iff_ne];exact e,e⟩
     rcases hq3 with Ko|⟨hq3,hq4⟩
     all_goals
      clear h33 h3;go_wp2_with fail;go_call K1.o as e w2 ⟨rfl,A2,o2⟩;obtain⟨A3,o3⟩:=W2.o w2 A2 o2;have A3:=xh A3;have o3:=xh o3;clear A2 o2;go_wp2_with fail
      all_goals
       go_ret3
       exact⟨none,0,0,by first|rfl|simp,bm.nil _ _ _,A3.o.le ls,o3.o,by simp[ak]⟩
  .have HW:=HW.o;rw[show 5-i=0 by omega]at HW;unfold QS.hJ at HW;subst HW;go_wp2_with fail
   go_ret3
   exact⟨none,0,0,by first|rfl|simp,bm.nil _ _ _,HA.o.1.le ls,HA.o.2.1,by simp[ak]⟩
end Sh.Cn
namespace Sh.Cn
open Go.RowKit Pk Dk Pg
variable{w:BY}{I:Ix}{F:List Nat}{n K:Nat}
def cget_any{q:QS}(h:PQ w I F q n K)(hK:K<=999999999900)(p:Int):
  io prog 111 #[pp I.pb,p] w λe w'=>e=fd (rg #[U7 ⟨(q.dA p).2.2.1.toArray⟩,U5 U6 (q.dA p).2.2.2])/\PQ w' I F (q.dA p).1 n (K+5)/\ah F w w':=by
 have KW:=xh<|Iy h hK p;generalize q.dA p=R at *;clear h;unfold pp at *;go_in;go_wp2_with fail;go_call KW.o as e w1 ⟨A,m,c,rfl,S1,A1,o1,f1⟩;have S1:=xh S1;have A1:=xh A1;have o1:=xh o1;go_wp2;go_ret2;exact bz ⟨A1.o,o1.o⟩
def QS.je(q:QS):List Int->QS×Int
 |[]=>(q,0)
 |p::l=>if(q.aF p).2≠0 then((q.aF p).1,(q.aF p).2)else(q.aF p).1.je l
def QS.jX(q:QS)(p:Int):QS×Int:=if(q.dA p).2.2.2≠0 then((q.dA p).1,(q.dA p).2.2.2)else(q.dA p).1.je (q.dA p).2.1
def Iz:∀(m:Nat) (q:QS) (p:Int) (l:List Int) (b:UV),(q.hJ m p l b).2.1.length<=l.length+m
 |0,_,_,_,_=>by simp[QS.hJ]
 |m+1,q,p,l,b=>by
  unfold QS.hJ
  split
  .simp
  .split
   .simp
   .split
    .simp
    .split
     .simp<;>omega
     .have:=Iz m (q.cW p).1 (q.cW p).2.1 (l++[p]) (b++(q.cW p).2.2.1);simp only[bC,jh,CG]at this;omega
def WB{q:QS}(h:PQ w I F q n K)(hK:K<=999999999900)(p:Int):
  io prog 123 #[pp I.pb,p] w λe w'=>e=fd (U5 U6 (q.jX p).2)/\PQ w' I F (q.jX p).1 n (K+5)/\ah F w w':=by
 have KW:=xh<|Iy h hK p;have KD:=xh (λ(W:BY) (b:QS) (hW:PQ W I F b n (K+5)) (y:Int)=>uK hW y);have rD:=xh h.lt;obtain⟨R,hR⟩:∃R,q.jX p=R:=⟨_,rfl⟩;rw[hR];unfold QS.jX at hR;have hlen:(q.dA p).2.1.length<=5:=Iz 5 q p [] [];generalize q.dA p=Q at *;obtain⟨q1,L,B,E⟩:=Q;dsimp only at *;clear h;unfold pp at *
 by_cases h0:E=0
 .subst h0;rw[i8]at hR;have HR:=xh hR;clear hR;go_in;go_wp2_with fail;go_call KW.o as e w1 ⟨A,m,c,rfl,S1,A1,o1,f1⟩;obtain⟨A',c',e⟩:=aI S1;injection e with e1 e2 e3
  subst e1 e2 e3;have HL:=xh S1;have H1:=xh<|rx A1 (rx o1 f1);clear S1 A1 o1 f1;go_wp2_with fail
  go_loopw [23] (λiv wr=> ∃(i:Nat) (b:QS),i<=L.length/\iv=U5 U6 i/\Hid (b.je (L.drop i)=R)/\Hid (PQ wr I F b n (K+5)/\ah F w wr/\bm wr 3 1 (U3 A L.length c) L.length (di L))) (λiv _=>L.length-(intOf iv).toNat)
  case atStart=>exact⟨0,q1,bG _,rfl,HR,xh ⟨H1.o.1,H1.o.2.1,HL.o⟩⟩
  case round=>
   obtain⟨i,b,hi,rfl,HW,HA⟩:=hrel
   by_cases h:i<L.length
   .obtain⟨x,hx⟩:∃x,L[i]?=some x:=⟨L[i],aQ h⟩;have NJ:L.drop i=x::L.drop (i+1):=by
     rw[vi h]
     congr 1
     rw[aQ h]at hx;injection hx
    obtain⟨g,cp,rest,hv,BB,_⟩:∃g cp rest,(Value.slice A L.length c)=U3 (lc g) L.length cp/\aM wr g 3 (di L++rest).toArray/\True:=by
     rcases HA.o.2.2.2 with⟨h1,h2⟩|⟨g,cap,rest,h1,h2,_⟩
     .omega
     .exact⟨g,cap,rest,h1,h2,trivial⟩
    injection hv with e1 e2 e3
    subst e1 e3;have cx:wr.cell? ⟨g,i,none⟩=some (x:li):=BB.ae (by
     rw[dr,bX (by simpa using h)];simp[di,hx])
    have AQ:=HW.o;rw[NJ]at AQ;unfold QS.je at AQ;have K2:=xh<|KD.o wr b HA.o.1 x;have Xc:(i:Int)<(L.length:Int):=ls
    have hl5:(L.length:Int)<=5:=by have:=hlen;omega
    have HFR:=g9 (∀g'∈ak (U3 (lc g) L.length c),g'∉F) (λg' hg hF=>by have:=H1.o.2.2 g' hg;have:=rD.o g' hF;omega);generalize b.aF x=D at *;obtain⟨D1,D2⟩:=D;dsimp only at *
    by_cases hd:D2=0
    .subst hd;rw[i8]at AQ;have AQ:=xh AQ;clear BB hx NJ;go_wp2_with fail;go_call K2.o as e w2 ⟨rfl,A2,o2⟩;have H2:=g9 (PQ w2 I F D1 n (K+5)/\ah F w w2/\bm w2 3 1 (U3 (lc g) L.length c) L.length (di L)) ⟨A2,HA.o.2.1.trans o2,HA.o.2.2.only o2 HFR.o⟩;clear A2 o2 cx;go_wp2;go_roundw
     case rel=>exact⟨i+1,D1,ls,by go_num,AQ,H2⟩
     case measure=>simp[intOf];omega
    .rw[U8 hd]at AQ;subst AQ;have hq:(D2 != 0)=true:=lm hd
     have kP:(D2==0)=false:=i4 hd
     clear BB hx NJ;go_wp2_with fail;go_call K2.o as e w2 ⟨rfl,A2,o2⟩;have H2:=g9 (PQ w2 I F D1 n (K+5)/\ah F w w2) ⟨A2,HA.o.2.1.trans o2⟩;clear A2 o2 cx;go_wp2;go_ret;exact bz ⟨H2.o.1,H2.o.2⟩
   .have AQ:=HW.o;rw[lT ls]at AQ;unfold QS.je at AQ;subst AQ;obtain rfl:i=L.length:=ls
    go_wp2;go_ret;exact bz ⟨HA.o.1,HA.o.2.1⟩
 .rw[U8 h0]at hR;subst hR;have hq:(E != 0)=true:=lm h0
  have kP:(E==0)=false:=i4 h0
  go_in;go_wp2_with fail;go_call KW.o as e w1 ⟨A,m,c,rfl,S1,A1,o1,f1⟩;have H1:=xh<|rx A1 o1;clear S1 A1 o1 f1;go_wp2;go_ret;exact bz ⟨H1.o.1,H1.o.2⟩
attribute [local go_sem ↓] bP
def QS.eU(q:QS):List Int->QS
 |[]=>q
 |p::l=>(q.aF p).1.eU l
def QS.qS(q:QS)(p:Int)(l:List Int):q.eU (p::l)=(q.aF p).1.eU l:=rfl
def QS.kS(v:UV):Nat->QS->Int->List Int->QS×Int×Int
 |0,q,next,_=>(q,next,0)
 |i+1,q,next,made=>
  if(q.bE (iW v i next)).2.2≠0 then((q.bE (iW v i next)).1.eU made,0,(q.bE (iW v i next)).2.2)
  else QS.kS v i (q.bE (iW v i next)).1 (q.bE (iW v i next)).2.1 (made++[(q.bE (iW v i next)).2.1])
def QS.kE(q:QS)(v:UV):QS×Int×Int:=if 1024<v.length then(q,0,4)else QS.kS v (jn v.length).toNat q (-1) []
def qnewF_bd(q:QS)(p:UV):0<=(q.bE p).2.1/\(q.bE p).2.1<=511:=newF_bd q.a p
def cput_any{q:QS}(h:PQ w I F q n K)(v:Nm)(hv:v.size<=1024)(hK:K<=999999999900):
  io prog 124 #[pp I.pb,U7 v] w λe w'=>e=fd (rg #[U5 U6 (q.kE v.data.toList).2.1,U5 U6 (q.kE v.data.toList).2.2])/\PT w w' I F (q.kE v.data.toList).1 n (K+5):=by
 have hvl:v.pu.length=v.size:=lw
 obtain⟨R,hR⟩:∃R,q.kE v.pu=R:=⟨_,rfl⟩;rw[hR];unfold QS.kE at hR;rw[ge,hvl]at hR;have hn1:1<=jn v.size/\jn v.size<=5:=by unfold jn;omega
 have XB:228*(jn v.size-1)<=v.size:=by unfold jn;omega
 have KN:=xh<|Hf (v.size:Nat) ls;obtain⟨m,hm⟩:=fu (show 0<=jn v.size by omega);rw[hm]at hn1 XB KN hR;rw[show((m:Nat):Int).toNat=m by omega]at hR;have HR:=xh hR;have O0:=xh<|i6 w (Pi #[U7 v] 9);have B0:=xh<|aM.new w 9 #[U7 v];have q0:=B0.ap 0;have HQ:=xh<|h.below O0.o;have rD:=xh h.lt
 have KNEW:=xh (λ(W:BY) (F':List Nat) (b:QS) (j:Nat) (hW:PQ W I F' b n j) (s:Nm) (hs:s.size<=232) (hj:j<=1000000000000)=>Fq hW hj s hs);have KD:=xh (λ(W:BY) (F':List Nat) (b:QS) (j:Nat) (hW:PQ W I F' b n j) (y:Int)=>uK hW y);have KP:=xh (λ(W:BY) (hq:W.cell? (lc w.heap.size)=some (U7 v)) (i:Nat) (hi:228*i<=v.size)=>Vt v hv hq i hi);have KT:=xh iS;have Td:U6.wrap ((m:Int)-1)=(m:Int)-1:=d9
 clear h hR;unfold pp at *;go_in;go_wp2_with fail;go_call (KN.o _) as e w1 ⟨rfl,rfl⟩;go_wp2_with fail
 go_loopw [7,8,9] (λmv nv iv wr=> ∃(j:Nat) (b:QS) (nx:Nat) (made:List Int) (F':List Nat),j<=m/\iv=U5 U6 ((j:Int)-1)/\nv=U5 U6 ((nx:Int)-1)/\nx<=512/\made.length=m-j/\bm wr 3 1 mv made.length (di made)/\Hid (QS.kS v.pu j b ((nx:Int)-1) made=R)/\
   Hid (PQ wr I F' b n (K+(m-j))/\ah F w wr/\(∀g∈F',g∈F\/w.heap.size<=g)/\(∀g∈ak mv,w.heap.size<=g/\g∉F')/\aM wr w.heap.size 9 #[U7 v]/\w.heap.size∉F')) (λ_ _ iv _=>(intOf iv+1).toNat)
 case atStart=>exact⟨m,q,0,[],F,ai _,rfl,rfl,ls,lw,bm.nil _ _ _,HR,xh ⟨by rw[show K+(m-m)=K by omega];exact HQ.o,.aj O0.o,λg hg=> .inl hg,by simp[ak],B0.o,λhF=>by have:=rD.o _ hF;omega⟩⟩
 case round=>
  obtain⟨j,b,nx,made,F',hj,rfl,rfl,Tn,qs,S,HW,HA⟩:=hrel;obtain⟨VM,vm,rfl⟩:=aI S
  by_cases h0:0<j
  .obtain⟨i,rfl⟩:∃i,j=i+1:=⟨j-1,ls⟩;have hz:((i+1:Nat):Int)-1=(i:Nat):=ls
   rw[hz];have q1:=HA.o.2.2.2.2.1.bi 0;have Ti:228*i<=v.size:=ls
   have K1:=xh<|KP.o wr q1 i Ti;have tQ:(eQ v.pu i).length<=228:=by unfold eQ;rw[bY];omega
   have AQ:=HW.o;unfold QS.kS at AQ;have hlk:iW v.pu i ((nx:Int)-1)=(((⟨(sF nx).toArray⟩:Nm)++⟨(sF (eQ v.pu i).length).toArray⟩)++⟨(eQ v.pu i).toArray⟩:Nm).data.toList:=by
    unfold iW;rw[show((nx:Int)-1+1).toNat=nx by omega];simp
   rw[hlk]at AQ;have hps:(⟨(eQ v.pu i).toArray⟩:Nm).size=(eQ v.pu i).length:=by show(eQ v.pu i).toArray.size=_;simp
   have hts:∀x,(⟨(sF x).toArray⟩:Nm).size=2:=λx=>rfl;have hss:(((⟨(sF nx).toArray⟩:Nm)++⟨(sF (eQ v.pu i).length).toArray⟩)++⟨(eQ v.pu i).toArray⟩:Nm).size<=232:=by
    rw[Cw,Cw,hts,hts,hps];omega
   have K2:=xh<|KT.o nx ls;have K3:=xh<|KT.o (eQ v.pu i).length ls;have K4:=xh (λ(W:BY) (hW:PQ W I F' b n (K+(m-(i+1))))=>KNEW.o W F' b _ hW _ hss ls);have u1:U6.wrap (nx:Int)=(nx:Int):=d9;have hbd:=qnewF_bd b ((((⟨(sF nx).toArray⟩:Nm)++⟨(sF (eQ v.pu i).length).toArray⟩)++⟨(eQ v.pu i).toArray⟩:Nm).data.toList);have t1:=hts nx
   have t2:=hts (eQ v.pu i).length;generalize (⟨(sF nx).toArray⟩:Nm)=T1 at *;generalize (⟨(sF (eQ v.pu i).length).toArray⟩:Nm)=T2 at *;generalize (⟨(eQ v.pu i).toArray⟩:Nm)=PC at *;have z1:¬9223372036854775807<T1.size+T2.size:=ls
   have z2:¬9223372036854775807<(T1++T2).size+PC.size:=by rw[Cw];omega
   clear hlk hts hss;generalize b.bE (T1++T2++PC).data.toList=D at *;obtain⟨D1,D2,D3⟩:=D;dsimp only at *;have HS:=xh (show ∀w4 w5 F5,i7 wr w4->PQ w5 I F5 D1 n (K+(m-(i+1))+1)->ah F' w4 w5->(∀g∈F5,g∈F'\/w4.heap.size<=g)->
     PQ w5 I F5 D1 n (K+(m-(i+1))+1)/\ah F w w5/\(∀g∈F5,g∈F\/w.heap.size<=g)/\bm w5 3 1 (U3 VM made.length vm) made.length (di made)/\(∀g∈ak (U3 VM made.length vm),w.heap.size<=g/\g∉F5)/\aM w5 w.heap.size 9 #[U7 v]/\w.heap.size∉F5 from λw4 w5 F5 hb A5 o5 f5=>by
    obtain⟨a1,a2,a3,a4,a5,a6⟩:=HA.o;have s4:=S.below hb;have b4:=a5.below hb a5.lt;have NK:w.heap.size<=w4.heap.size:=aD a2.size hb.size
    refine⟨A5,(a2.trans (.aj hb)).bj o5 (λg hg dP=>(a3 g hg).elim id (λh=>by omega)),λg hg=>(f5 g hg).elim (a3 g) (λh=> .inr ls),s4.only o5 (λg hg=>(a4 g hg).2),λg hg=>⟨(a4 g hg).1,λhF=>(f5 g hF).elim (a4 g hg).2 (λh=>by have:=s4.lt g hg;omega)⟩,b4.only o5 a6,λhF=>(f5 _ hF).elim a6 (λh=>by have:=b4.lt;omega)⟩)
   by_cases hd:D3=0
   .subst hd;rw[i8]at AQ;obtain⟨d2,rfl⟩:=fu hbd.1;have HW3:=xh AQ;clear AQ;go_wp2_with fail;go_call K1.o as e w2 ⟨rfl,rfl⟩;go_wp2_with fail;go_call (K2.o _) as e w3 ⟨rfl,gK⟩;have H3:=xh gK;go_wp2_with fail;go_call (K3.o _) as e w4 ⟨rfl,iZ⟩;have H4:=xh<|aE H3.o iZ;clear gK iZ;go_wp2_with fail;go_call (K4.o _ (HA.o.1.below H4.o)) as e w5 ⟨rfl,F5,A5,o5,f5⟩
    have H5:=xh<|HS.o w4 w5 F5 H4.o A5 o5 f5;clear A5 o5 f5;obtain⟨v',w6,ea,S6,ow,fr⟩:=gw (P:=prog) H5.o.2.2.2.1 60 60 (U5 U6 0) 8 underlying60 kX rfl (d2:Nat) rfl (by unfold maxLen;omega) ls;obtain⟨V6,c6,rfl⟩:=aI S6
    have H6:=xh (show bm w6 3 1 (U3 V6 (made.length+1) c6) (made++[(d2:Int)]).length (di (made++[(d2:Int)]))/\PQ w6 I F5 D1 n (K+(m-i))/\ah F w w6/\(∀g∈F5,g∈F\/w.heap.size<=g)/\(∀g∈ak (U3 V6 (made.length+1) c6),w.heap.size<=g/\g∉F5)/\aM w6 w.heap.size 9 #[U7 v]/\w.heap.size∉F5 from by
     obtain⟨a1,a2,a3,a4,a5,a6,a7⟩:=H5.o;refine⟨by rw[bC,gS];exact S6,(a1.only ow (λg hF hg=>(a5 g hg).2 hF)).le ls,a2.bj ow (λg hg dP=>by have:=(a5 g hg).1;omega),a3,λg hg=>?_,a6.only ow (λhg=>eg a4 a6 ms hg),a7⟩
     rcases fr g hg with h|h
     .exact a5 g h
     .exact⟨by have:=a2.size;omega,λhF=>by have:=a1.lt g hF;omega⟩)
    rw[qs]at ea;have EA:=xh ea;clear ea S6 ow fr;go_wp2_with fail;rw[EA.o];go_wp2;go_roundw
    case rel=>exact⟨i,D1,d2+1,made++[(d2:Int)],F5,ls,by go_num,lw,ls,by rw[bC,qs,wC];omega,by have:=H6.o.1;rw[qs]at this;exact this,by rw[show((d2+1:Nat):Int)-1=(d2:Nat) by omega];exact HW3,xh ⟨H6.o.2.1,H6.o.2.2.1,H6.o.2.2.2.1,by have:=H6.o.2.2.2.2.1;rw[qs]at this;exact this,H6.o.2.2.2.2.2.1,H6.o.2.2.2.2.2.2⟩⟩
    case measure=>simp[intOf]<;>omega
   .rw[U8 hd]at AQ;subst AQ;have hq:(D3 != 0)=true:=lm hd
    have kP:(D3==0)=false:=i4 hd
    go_wp2_with fail;go_call K1.o as e w2 ⟨rfl,rfl⟩;go_wp2_with fail;go_call (K2.o _) as e w3 ⟨rfl,gK⟩;have H3:=xh gK;go_wp2_with fail;go_call (K3.o _) as e w4 ⟨rfl,iZ⟩;have H4:=xh<|aE H3.o iZ;clear gK iZ;go_wp2_with fail;go_call (K4.o _ (HA.o.1.below H4.o)) as e w5 ⟨rfl,F5,A5,o5,f5⟩;have H5:=xh<|HS.o w4 w5 F5 H4.o A5 o5 f5;clear A5 o5 f5;have hml2:(made.length:Int)<=5:=ls
    have HM:=xh qs;rw[<-qs];clear qs;go_wp2_with fail
    go_loopw [52] (λtv wq=> ∃(t:Nat) (b':QS),t<=made.length/\tv=U5 U6 t/\Hid (b'.eU (made.drop t)=D1.eU made)/\Hid (PQ wq I F5 b' n (K+(m-(i+1))+1)/\ah F w wq/\bm wq 3 1 (U3 VM made.length vm) made.length (di made))) (λtv _=>made.length-(intOf tv).toNat)
    case atStart=>exact⟨0,D1,bG _,rfl,xh rfl,xh ⟨H5.o.1,H5.o.2.1,H5.o.2.2.2.1⟩⟩
    case round=>
     obtain⟨t,b',ht,rfl,HT,HB⟩:=hrel
     by_cases dP:t<made.length
     .obtain⟨x,hx⟩:∃x,made[t]?=some x:=⟨made[t],aQ dP⟩;have NJ:made.drop t=x::made.drop (t+1):=by
       rw[vi dP]
       congr 1
       rw[aQ dP]at hx;injection hx
      obtain⟨g,cp,rest,Xf,BB,_⟩:∃g cp rest,(Value.slice VM made.length vm)=U3 (lc g) made.length cp/\aM wr g 3 (di made++rest).toArray/\True:=by
       rcases HB.o.2.2.2 with⟨h1,h2⟩|⟨g,cap,rest,h1,h2,_⟩
       .omega
       .exact⟨g,cap,rest,h1,h2,trivial⟩
      injection Xf with e1 e2 e3
      subst e1 e3;have cx:wr.cell? ⟨g,t,none⟩=some (x:li):=BB.ae (by
       rw[dr,bX (by simpa using dP)];simp[di,hx])
      have HT2:=HT.o;rw[NJ,QS.qS]at HT2;have HT3:=xh HT2;have K6:=xh<|KD.o wr F5 b' _ HB.o.1 x;have htI:(t:Int)<(made.length:Int):=ls
      clear BB hx NJ HT2;go_wp2_with fail;go_call K6.o as e w7 ⟨rfl,A7,o7⟩;have H7:=g9 (PQ w7 I F5 (b'.aF x).1 n (K+(m-(i+1))+1)/\ah F w w7/\bm w7 3 1 (U3 (lc g) made.length vm) made.length (di made)) ⟨A7,HB.o.2.1.bj o7 (λg hg dP=>(H5.o.2.2.1 g hg).elim id (λh=>by omega)),HB.o.2.2.only o7 (λg' hg=>(H5.o.2.2.2.2.1 g' hg).2)⟩;clear A7 o7 cx;go_wp2;go_roundw
      case rel=>exact⟨t+1,(b'.aF x).1,ls,by go_num,HT3,H7⟩
      case measure=>simp[intOf];omega
     .have HT2:=HT.o;rw[lT ls]at HT2;have HT2:b'=D1.eU made:=HT2;subst HT2;obtain rfl:t=made.length:=ls
      go_wp2;go_ret2;exact bz ⟨F5,HB.o.1.le ls,HB.o.2.1,H5.o.2.2.1⟩
  .obtain rfl:j=0:=ls
   have AQ:=HW.o;unfold QS.kS at AQ;subst AQ;go_wp2;go_ret2;exact bz ⟨F',HA.o.1.le ls,HA.o.2.1,HA.o.2.2.1⟩
end Sh.Cn


namespace Sh.Cn
open Go.RowKit Pk Dk Pg
open Nd (E aL bQ aJ aP dm)
variable{K' tb n K:Nat}{w:BY}{I:Ix}{F:List Nat}
def QS.aT(q:QS)(p:Int):QS×Bool×List E×Int:=
 if(q.cF p).2.2≠0 then((q.cF p).1,false,[],rH (q.cF p).2.2)
 else((q.cF p).1,(aJ (q.cF p).2.1.data.toList).1,(aJ (q.cF p).2.1.data.toList).2.1,rH (aJ (q.cF p).2.1.data.toList).2.2)
def QS.bg(q:QS)(p:Int)(leaf:Bool)(l:List E):QS×Int:=if(bM leaf l).2≠0 then(q,(bM leaf l).2)else q.dh p ⟨(bM leaf l).1.toArray⟩
def QS.cu(q:QS)(leaf:Bool)(l:List E):QS×Int×Int:=if(bM leaf l).2≠0 then(q,0,(bM leaf l).2)else q.bE (bM leaf l).1
def TQ(w:BY)(tb:Nat)(I:Ix)(F:List Nat)(q:QS)(n K:Nat):Prop:=aM w tb 130 #[pp I.pb]/\PQ w I F q n K
section
variable{w w':BY}{tb:Nat}{I:Ix}{F S:List Nat}{q q':QS}{n K:Nat}
def TQ.ne(h:TQ w tb I F q n K):tb∉F:=h.2.jL h.1
def TQ.below(h:TQ w tb I F q n K)(hb:i7 w w'):TQ w' tb I F q n K:=⟨h.1.below hb h.1.lt,h.2.below hb⟩
def TQ.only(h:TQ w tb I F q n K)(o:ah S w w')(hd:∀g∈tb::F,g∉S):TQ w' tb I F q n K:=⟨h.1.only o (hd _ (ie ..)),h.2.only o (λg hg=>hd g (aH _ hg))⟩
def TQ.lt(h:TQ w tb I F q n K):∀g∈tb::F,g<w.heap.size:=λg hg=>(ax.1 hg).elim (λe=>by rw[e];exact h.1.lt) (h.2.lt g)
def TQ.le(h:TQ w tb I F q n K)(hk:K<=K'):TQ w tb I F q n K':=⟨h.1,h.2.le hk⟩
def TQ.next(h:TQ w tb I F q n K)(o:ah F w w')(p:PQ w' I F q' n K'):TQ w' tb I F q' n K':=⟨h.1.only o h.ne,p⟩
end
def qe{q:QS}(h:TQ w tb I F q n K)(hK:K<=999999999999)(p:Int):
  io prog 70 #[tp tb,p] w λe w'=> ∃A c,e=fd (rg #[bQ (q.aT p).2.1 A (q.aT p).2.2.1.length c,U5 U6 (q.aT p).2.2.2])/\
   bm w' 111 3 (U3 A (q.aT p).2.2.1.length c) (q.aT p).2.2.1.length (aL (q.aT p).2.2.1)/\(∀g∈ak (U3 A (q.aT p).2.2.1.length c),w.heap.size<=g)/\PQ w' I F (q.aT p).1 n (K+1)/\ah F w w':=by
 have O0:=xh<|i6 w (Pi #[WF false,U3 none 0 0] 118);have B0:=xh<|aM.new w 118 #[WF false,U3 none 0 0];have T0:=h.below O0.o;have p0:=T0.1.bi 0;have NQ:=g9 (w.heap.size∉F) (λhm=>by have:=h.2.lt _ hm;omega);have KG:=xh<|xU T0.2 hK p;have KB:=xh Ez;have hgs:=λh0=>Fp h.2.wp (p:=p) h0;unfold QS.aT;generalize q.cF p=R at *;obtain⟨q1,s,er⟩:=R;dsimp only at *
 clear h T0;unfold pp tp bQ at *
 by_cases he:er=0
 .subst he;have hs:=hgs rfl;rw[i8];have KN:=xh (λ(W:BY)=>Nd.Zw s W ls);generalize aJ s.pu=G at *;obtain⟨leaf,l,er⟩:=G;dsimp only at *;unfold bQ at *;clear hgs hs;go_in;go_wp2_with fail;go_call KG.o as e w1 ⟨rfl,P1,o1⟩;have P1:=xh P1;have B1:=xh<|B0.o.only o1 NQ.o;have o1:=xh o1;clear p0;go_wp2_with fail;go_call (KN.o _) as e w2 ⟨A,c,rfl,S2,f2,da⟩
  have S2:=xh S2;have f2:=xh f2;have P2:=xh<|P1.o.below da;have B2:=xh<|B1.o.below da B1.o.lt;have O2:=xh<|o1.o.trans (.aj da);clear da;go_wp2_with fail;have NE:=g9 (¬w2.heap.size=w.heap.size) (by have:=O2.o.size;simp at this;omega);have C3:=xh<|aM.new w2 118 #[WF leaf,U3 A l.length c];have B3:=xh<|B2.o.alloc (Pi #[WF leaf,U3 A l.length c] 118)
  have S3:=xh<|S2.o.alloc (Pi #[WF leaf,U3 A l.length c] 118);have ja:=i6 w2 (Pi #[WF leaf,U3 A l.length c] 118);have P3:=xh<|P2.o.below ja;have O3:=xh<|O2.o.trans (.aj ja);have f3:=g9 (∀g∈ak (U3 A l.length c),w.heap.size<=g/\g≠w.heap.size) (λg hg=>by have h1:=f2.o g hg;have h2:=o1.o.size;simp at h2;omega);clear ja
  generalize w2.alloc (Pi #[WF leaf,U3 A l.length c] 118)=w3 at *;generalize w2.heap.size=g2 at *;have C3d:=xh C3.o.drew;have KS:=xh<|rx (C3d.ap 0) (C3d.ap 1);clear C3;have C3:=C3d;have B3:=xh B3.o.drew;have S3:=xh S3.o.drew;have P3:=xh P3.o.drew;have O3:=xh O3.o.drew
  refine kw (λW=>W.cell? (lc g2)=some (WF leaf)/\W.cell? ⟨g2,1,none⟩=some (U3 A l.length c)) (KS.o) (λaC=>?_);generalize w3.drew=w4 at *;refine dj [(0,28),(1,29)] ?_
  iterate 2 refine bJ ?_
  refine dV 2 30 λK hK=>?_;go_simp
  go_at_call 112
  go_call (KB.o _ _) as e w5 ⟨rfl,rfl⟩;go_simp;refine cq hK (KS.o) (λaC=>?_);refine pF 3 λK hK=>?_;go_simp;obtain⟨B4,o4,d0,d1,z0,z1⟩:=JQ (b':=leaf) (v':=U3 A l.length c) B3.o;have B4:=xh B4;have C4:=xh<|C3.o.only o4 (by simpa using NE.o);have KS4:=xh<|rx (C4.ap 0) (C4.ap 1);have o4:=xh o4;go_simp;refine cq hK (KS4.o) (λaC=>?_);refine dj [(4,5)] ?_
  iterate 1 refine bJ ?_
  refine jp ?_ _;go_wp2;exact bodyPost_ret (Nd.ke rfl rfl B4.o) rfl ⟨A,c,rfl,S3.o.only o4.o (λg hg hm=>(f3.o g hg).2 (by simpa using hm)),λg hg=>(f3.o g hg).1,P3.o.bh o4.o NQ.o,nG (((ah.aj (S:=w.heap.size::F) O0.o).trans (nH O3.o)).trans (nI o4.o)) (ai _)⟩
 .rw[U8 he];have hq:(er != 0)=true:=lm he
  have kP:(er==0)=false:=i4 he
  clear hgs;go_in;go_wp2_with fail;go_call KG.o as e w1 ⟨rfl,P1,o1⟩;have P1:=xh P1;have B1:=xh<|B0.o.only o1 NQ.o;have o1:=xh o1;clear p0;go_wp2_with fail;go_call (KB.o _ _) as e w2 ⟨rfl,rfl⟩;obtain⟨B2,o2,c0,c1,z0,z1⟩:=JQ (b':=false) (v':=U3 none 0 0) B1.o;have B2:=xh B2;have o2:=xh o2;go_wp2
  exact bodyPost_ret (Nd.ke rfl rfl B2.o) rfl ⟨none,0,rfl,bm.nil _ _ _,by simp[ak],P1.o.bh o2.o NQ.o,nG (((ah.aj (S:=w.heap.size::F) O0.o).trans (nH o1.o)).trans (nI o2.o)) (ai _)⟩
def ra{q:QS}(h:TQ w tb I F q n K)(hK:K<=999999999999)(p:Int)(leaf:Bool)(A:Option Addr)(m c:Nat)(l:List E)(S:bm w 111 3 (U3 A m c) m (aL l))(hm:m<=1000):
  io prog 127 #[tp tb,p,bQ leaf A m c] w λe w'=>e=fd (U5 U6 (q.bg p leaf l).2)/\PQ w' I F (q.bg p leaf l).1 n (K+1)/\ah F w w':=by
 have O0:=xh<|i6 w (Pi #[WF leaf,U3 A m c] 118);have B0:=xh<|aM.new w 118 #[WF leaf,U3 A m c];have x0:=B0.ap 0;have x1:=B0.ap 1;have T0:=xh<|h.below O0.o;have KL:=xh<|ED leaf A m c l (S.below O0.o) hm;have hlen:=MK leaf l;have KP:=xh (λ(W:BY) (hW:TQ W tb I F q n K) (s:Nm) (hs:s.size<=232)=>eput_any hW.2 hK p s hs);unfold QS.bg
 generalize bM leaf l=R at *;obtain⟨R1,R2⟩:=R;dsimp only at *;obtain⟨s,hs⟩:∃s:Nm,s=⟨R1.toArray⟩:=⟨_,rfl⟩;have pC:s.size<=232:=by rw[hs];show R1.toArray.size<=232;simpa using hlen
 have Ca:R1=s.pu:=by rw[hs]
 rw[Ca]at KL ⊢;rw[show(⟨s.pu.toArray⟩:Nm)=s from rfl]at KL;clear hs Ca hlen S h;unfold bQ tp at *;unfold pp at KP
 by_cases he:R2=0
 .subst he;rw[i8];go_in;go_wp2_with fail;go_call KL.o as e w1 ⟨rfl,bu⟩;have T1:=xh<|T0.o.below bu;have O1:=xh<|aE O0.o bu;have p0:=T1.o.1.bi 0;unfold pp at p0;clear bu x0 x1;go_wp2_with fail;go_call (KP.o _ T1.o s pC) as e w2 ⟨rfl,P2,o2⟩;have P2:=xh P2;have o2:=xh o2;clear p0;go_wp2;go_ret;exact bz ⟨P2.o,(ah.aj O1.o).trans o2.o⟩
 .rw[U8 he];have hq:(R2 != 0)=true:=lm he
  have kP:(R2==0)=false:=i4 he
  go_in;go_wp2_with fail;go_call KL.o as e w1 ⟨rfl,bu⟩;have T1:=xh<|T0.o.below bu;have O1:=xh<|aE O0.o bu;clear bu x0 x1;go_wp2;go_ret;exact bz ⟨T1.o.2.le ls,.aj O1.o⟩
def zL{q:QS}(h:TQ w tb I F q n K)(hK:K<=999999999999)(leaf:Bool)(A:Option Addr)(m c:Nat)(l:List E)(S:bm w 111 3 (U3 A m c) m (aL l))(hm:m<=1000):
  io prog 131 #[tp tb,bQ leaf A m c] w λe w'=>e=fd (rg #[U5 U6 (q.cu leaf l).2.1,U5 U6 (q.cu leaf l).2.2])/\PT w w' I F (q.cu leaf l).1 n (K+1):=by
 have O0:=xh<|i6 w (Pi #[WF leaf,U3 A m c] 118);have B0:=xh<|aM.new w 118 #[WF leaf,U3 A m c];have x0:=B0.ap 0;have x1:=B0.ap 1;have T0:=xh<|h.below O0.o;have KL:=xh<|ED leaf A m c l (S.below O0.o) hm;have hlen:=MK leaf l;have KP:=xh (λ(W:BY) (hW:TQ W tb I F q n K) (s:Nm) (hs:s.size<=232)=>Fq hW.2 ls s hs);unfold QS.cu
 generalize bM leaf l=R at *;obtain⟨R1,R2⟩:=R;dsimp only at *;obtain⟨s,hs⟩:∃s:Nm,s=⟨R1.toArray⟩:=⟨_,rfl⟩;have pC:s.size<=232:=by rw[hs];show R1.toArray.size<=232;simpa using hlen
 have Ca:R1=s.pu:=by rw[hs]
 rw[Ca]at KL ⊢;rw[show(⟨s.pu.toArray⟩:Nm)=s from rfl]at KL;clear hs Ca hlen S h;unfold bQ tp at *;unfold pp at KP
 by_cases he:R2=0
 .subst he;rw[i8];go_in;go_wp2_with fail;go_call KL.o as e w1 ⟨rfl,bu⟩;have T1:=xh<|T0.o.below bu;have O1:=xh<|aE O0.o bu;have p0:=T1.o.1.bi 0;unfold pp at p0;clear bu x0 x1;go_wp2_with fail;go_call (KP.o _ T1.o s pC) as e w2 ⟨rfl,P2⟩;have P2:=xh P2;clear p0;go_wp2;go_ret2;obtain⟨F2,a,b,c⟩:=P2.o
  exact bz ⟨F2,a,(ah.aj O1.o).trans b,λg hg=>(c g hg).imp id (λh=>aD O1.o.size h)⟩
 .rw[U8 he];have hq:(R2 != 0)=true:=lm he
  have kP:(R2==0)=false:=i4 he
  go_in;go_wp2_with fail;go_call KL.o as e w1 ⟨rfl,bu⟩;have T1:=xh<|T0.o.below bu;have O1:=xh<|aE O0.o bu;clear bu x0 x1;go_wp2;go_ret2;exact bz (.self (T1.o.2.le ls) (.aj O1.o))
open Nd (E aL bQ aJ aP dm bw aY cg)
attribute [local go_sem ↓] bP
structure bF(w:BY)(b:Nat)(v:Value)(L:List SM):Prop where
 s:bm w 120 4 v L.length (L.flatMap SM.cells)
 f:∀g∈ak v,b<=g
 e:∀x∈L,bm w 111 3 x.v x.s.l.length (aL x.s.l)/\∀g∈ak x.v,b<=g
 d:L.Pairwise λx y=> ∀g∈ak x.v,g∉ak y.v
section
variable{w w':BY}{b:Nat}{v:Value}{L:List SM}{S:List Nat}
def bF.only(h:bF w b v L)(o:ah S w w')(hs:∀g∈S,g<b):bF w' b v L:=
 ⟨h.s.only o (λg hg hm=>by have:=h.f g hg;have:=hs g hm;omega),h.f,λx hx=>⟨(h.e x hx).1.only o (λg hg hm=>by have:=(h.e x hx).2 g hg;have:=hs g hm;omega),(h.e x hx).2⟩,h.d⟩
def bF.below(h:bF w b v L)(hb:i7 w w'):bF w' b v L:=h.only (S:=[]) (.aj hb) lw
def bF.nil(w:BY)(b:Nat):bF w b (U3 none 0 0) []:=⟨bm.nil _ _ _,by simp[ak],lw,List.Pairwise.nil⟩
end
def iG(key:Nm):Nat->QS->Int->List Step->QS×List Step×Int
 |0,q,_,_=>(q,[],14)
 |m+1,q,p,out=>
  if(q.aT p).2.2.2≠0 then((q.aT p).1,[],(q.aT p).2.2.2)
  else if(q.aT p).2.1=true then((q.aT p).1,out++[⟨p,true,(q.aT p).2.2.1,0⟩],0)
  else if(q.aT p).2.2.1=[]then((q.aT p).1,[],14)
  else iG key m (q.aT p).1 ((q.aT p).2.2.1.getD (bw (q.aT p).2.2.1 key) Nd.E.zero).bh (out++[⟨p,false,(q.aT p).2.2.1,bw (q.aT p).2.2.1 key⟩])
def QS.cI(q:QS)(key:Nm):QS×List Step×Int:=iG key 16 q 0 []
def nP(q:QS)(p:Int):(q.aT p).2.2.1.length<=57:=by
 unfold QS.aT
 split
 .exact bG _
 .exact Nd.MD _
def zM{q:QS}{p:Int}(h:(q.aT p).2.2.2=0):dm (q.aT p).2.2.1 (q.aT p).2.1:=by
 unfold QS.aT at h ⊢
 split at h
 .rename_i h2;exact eq (uy.1 h) h2
 .rename_i h2;rw[U9 h2];exact Nd.AA (uy.1 h)
def bF.push{w w':BY}{b:Nat}{v v':Value}{L:List SM}(h:bF w b v L)(x:SM)(S':bm w' 120 4 v' (L.length+1) (L.flatMap SM.cells++x.cells))(o:ah (ak v) w w')(f:∀g∈ak v',g∈ak v\/w.heap.size<=g)(hb:b<=w.heap.size)
  (hx:bm w 111 3 x.v x.s.l.length (aL x.s.l))(hf:∀g∈ak x.v,b<=g)(hn:∀y∈L,∀g∈ak y.v,g∉ak x.v):bF w' b v' (L++[x]):=by
 have rC:∀y:SM,bm w 111 3 y.v y.s.l.length (aL y.s.l)->bm w' 111 3 y.v y.s.l.length (aL y.s.l):=λy hy=>hy.only o (nJ hy h.s ms);refine⟨by rw[bC,rO];simpa using S',λg hg=>(f g hg).elim (h.f g) (λh=>by omega),λy hy=>?_,?_⟩
 .rcases aK.1 hy with hy|hy
  .exact⟨rC y (h.e y hy).1,(h.e y hy).2⟩
  .rw[aG.1 hy];exact⟨rC x hx,hf⟩
 .rw[eH];exact⟨h.d,I5 _ _,λy hy z hz=>by rw[aG.1 hz];exact hn y hy⟩
def Ft{w:BY}{tb:Nat}{I:Ix}{F:List Nat}{q:QS}{n K:Nat}(h:TQ w tb I F q n K)(hK:K<=999999999900)(key:Nm):
  io prog 63 #[tp tb,U7 key] w λe w'=> ∃v L,e=fd (rg #[v,U5 U6 (q.cI key).2.2])/\bF w' w.heap.size v L/\L.map SM.s=(q.cI key).2.1/\PQ w' I F (q.cI key).1 n (K+16)/\ah F w w':=by
 have KR:=xh (λ(W:BY) (qj:QS) (kj:Nat) (hW:TQ W tb I F qj n kj) (hk:kj<=999999999999) (p:Int)=>qe hW hk p);have HT:=xh h;have rD:=xh h.lt;have HNE:=xh h.ne;obtain⟨R,hR⟩:∃R,q.cI key=R:=⟨_,rfl⟩;rw[hR];unfold QS.cI at hR;have HR:=xh hR;clear h hR;unfold tp bQ at *;go_in;go_wp2_with fail
 go_step3
 go_wp2_with fail
 go_step3
 go_wp2_with fail
 go_loopw [6,7] (λov pv wr=> ∃(i:Nat) (L:List SM) (p:Int) (qi:QS),i<=16/\L.length=i/\pv=U5 U6 p/\bm wr 120 4 ov i (L.flatMap SM.cells)/\(∀x∈L,x.s.leaf=false)/\Hid (iG key (16-i) qi p (L.map SM.s)=R)/\Hid (bF wr w.heap.size ov L/\TQ wr tb I F qi n (K+i)/\ah F w wr)) (λov _ _=>16-TF ov)
 case atStart=>exact⟨0,[],0,q,ls,rfl,rfl,bm.nil _ _ _,lw,HR,xh ⟨.nil _ _,HT.o,ah.refl _ _⟩⟩
 case round=>
  obtain⟨i,L,p,qi,hi,hl,rfl,S1,vI,HW,HA⟩:=hrel;obtain⟨VA,vc,rfl⟩:=aI S1
  by_cases h16:i<16
  .have h16I:(i:Int)<16:=ls
   have K1:=xh<|KR.o wr qi (K+i) HA.o.2.1 ls p;have sV:=zM (q:=qi) (p:=p);have hlen:=nP qi p;have HW:=HW.o;rw[show 16-i=(16-(i+1))+1 by omega]at HW;unfold iG at HW;generalize qi.aT p=r at *;obtain⟨q1,leaf,l,er⟩:=r;dsimp only at *;have HW:=xh HW;have HLF:=xh vI;have HL:=xh hl;clear hl vI S1;go_wp2_with fail;go_call K1.o as e w2 ⟨A,c,rfl,S2,f2,P2,o2⟩
   have H2:=xh (show bF w2 w.heap.size (U3 VA i vc) L/\TQ w2 tb I F q1 n (K+(i+1))/\ah F w w2/\bm w2 111 3 (U3 A l.length c) l.length (aL l)/\(∀g∈ak (U3 A l.length c),wr.heap.size<=g)/\wr.heap.size<=w2.heap.size from
    ⟨HA.o.1.only o2 (λg hg=>rD.o g (aH _ hg)),HA.o.2.1.next o2 P2,HA.o.2.2.trans o2,S2,f2,o2.size⟩)
   have HX:=g9 (∀y∈L,∀g∈ak y.v,g∉ak (U3 A l.length c)) (λy hy g hg hm=>by have h1:=f2 g hm;have h2:=((HA.o.1.e y hy).1).lt g hg;omega);clear S2 f2 P2 o2;have b3:=aM.new w2 118 #[WF leaf,U3 A l.length c];have gK:=i6 w2 (Pi #[WF leaf,U3 A l.length c] 118)
   by_cases he:er=0
   .subst he;have HM:=xh<|sV rfl;clear sV;have b4:=aM.new (w2.alloc (Pi #[WF leaf,U3 A l.length c] 118)) 120 #[p,WF leaf,U3 A l.length c,U5 U6 0];have b34:=b3.alloc (Pi #[p,WF leaf,U3 A l.length c,U5 U6 0] 120);rw[ny]at b4;have iZ:=ag gK (Pi #[p,WF leaf,U3 A l.length c,U5 U6 0] 120);have m0:=b3.bi 0;have m1:=b3.bi 1;have n0:=b34.bi 0
    have n1:=b34.bi 1;have k0:=b4.bi 0;have k1:=b4.bi 1;have k2:=b4.bi 2;have k3:=b4.bi 3;have H4:=xh<|rx b34 (rx b4 iZ)
    cases leaf
    .have HW:=HW.o;rw[i8,i8]at HW
     by_cases h0:l=[]
     .rw[U8 h0]at HW;subst HW;have h0l:l.length=0:=by rw[h0];rfl
      have H5:=g9 (PQ _ I F q1 n (K+(i+1))/\ah F w _) ⟨H2.o.2.1.2.below iZ,H2.o.2.2.1.trans (.aj iZ)⟩;rw[h0l]at H5;clear b3 b4 b34 gK iZ h0;go_wp2_with fail;rw[Exit.noGoto_ret];go_ret2;exact⟨U3 none 0 0,[],by first|rfl|simp,.nil _ _,rfl,H5.o.1.le ls,H5.o.2⟩
     .rw[U9 h0]at HW;have HW:=xh HW;have uY:=zp h0 key;have KB:=xh<|Nd.Ey false A l.length c l key (Nd.bm.aL (H2.o.2.2.2.1.below iZ)).2 ls HM.o;unfold bQ at KB;obtain⟨ex,hex⟩:∃ex,l[bw l key]?=some ex:=⟨_,aQ uY⟩;have hfar:(l.getD (bw l key) Nd.E.zero).bh=ex.bh:=by rw[jG,hex];rfl
      have HFAR:=xh hfar;have HBL:=xh uY;generalize bw l key=at_ at *;have Lm:¬l.length=0:=ls
      have Xo:((l.length:Nat):Int)≠0:=ls
      go_wp2_with fail;go_call KB.o as e w5 ⟨rfl,oQ⟩;have N5:=xh<|H4.o.1.below oQ H4.o.1.lt;have B5:=xh<|H4.o.2.1.below oQ H4.o.2.1.lt;have O5:=xh<|aE H4.o.2.2 oQ;have v3:=B5.ap 3;have z3:=B5.o.frozen 3 lw;have B6:=xh<|B5.o.ct 3 (at_:Nat);have N6:=xh<|N5.o.bh (p:=⟨w2.heap.size+1,3,none⟩) (by show w2.heap.size≠w2.heap.size+1;omega) (at_:Nat)
      have O6:=g9 (i7 w2 (w5.setCell ⟨w2.heap.size+1,3,none⟩ (at_:Nat))) (((ah.aj (S:=[w2.heap.size+1]) O5.o).trans ((ah.refl _ _).setCell lw _)).bI (ai _) (λx hx=>by simp at hx;omega));have SA:=H2.o.1.below O6.o;have hvlt:∀g∈ak (U3 VA i vc),g<w2.heap.size:=H2.o.1.s.lt
      obtain⟨v',w7,ea,S7,oa,fa⟩:=EE SA.s [p,WF false,U3 A l.length c,(at_:Nat)] rfl (by simp;exact⟨rfl,rfl,rfl,rfl⟩) (by rw[HL.o];omega);rw[HL.o]at S7;have H7:=xh (show bF w7 w.heap.size v' (L++[⟨⟨p,false,l,at_⟩,A,c⟩])/\TQ w7 tb I F q1 n (K+(i+1))/\ah F w w7 from
       ⟨SA.push ⟨⟨p,false,l,at_⟩,A,c⟩ (by rw[HL.o];exact S7) oa (λg hg=>(fa g hg).imp id (λh=>h)) (by have:=H2.o.2.2.1.size;have:=O6.o.size;omega) (H2.o.2.2.2.1.below O6.o) (λg hg=>aD HA.o.2.2.size (H2.o.2.2.2.2.1 g hg)) HX.o,
        (H2.o.2.1.below O6.o).only oa (λg hF hg=>by have:=SA.f g hg;have:=rD.o g hF;omega),
        (H2.o.2.2.1.trans (.aj O6.o)).bj oa (λg hg dP=>by have:=SA.f g hg;omega)⟩)
      have u1:=B6.ap 0;have u2:=B6.ap 1;have u3:=B6.ap 2;have u4':=B6.ap 3;have y1:=(N6.o.only oa (λhg=>by have:=hvlt _ hg;omega)).ae (i:=1) rfl;have y3:=(B6.o.only oa (λhg=>by have:=hvlt _ hg;omega)).ae (i:=3) rfl;obtain⟨ga,ca,AR,FY,BA,_,_⟩:=(H2.o.2.2.2.1.below O6.o).form ls ls;have SE:=(Nd.bm.aL (H7.o.1.e ⟨⟨p,false,l,at_⟩,A,c⟩ lw).1).2
      obtain⟨ad,zN,iy⟩:=SE.2 at_ ex hex;injection FY with e1 e2 e3
      subst e1 e3;injection zN with zN
      subst zN;rw[Nd.jq,bV]at iy;have xf:=iy.c2;dsimp only at xf;rw[show(w5.setCell ⟨w2.heap.size+1,3,none⟩ (at_:Nat)).heap.size=w5.heap.size from by simp]at ea;have EA:=xh ea;obtain⟨g7,c7,rest7,rfl,B7,hc7,hr7⟩:=S7.form ls ls;have S7:=g9 (bm w7 120 4 (U3 (lc g7) (i+1) c7) (i+1) ((L++[(⟨⟨p,false,l,at_⟩,some ⟨ga,0,none⟩,c⟩:SM)]).flatMap SM.cells)) (by rw[rO];simpa [SM.cells,SM.v]using S7)
      have hatI:(at_:Int)<(l.length:Int):=by have:=HBL.o;omega
      clear ea oa fa SA BA SE iy B7 hr7 b3 b4 b34 gK iZ oQ hex;go_wp2_with fail;rw[EA.o];go_wp2_with fail;have HW:=HW.o;rw[HFAR.o]at HW;go_roundw
      case rel=>exact⟨i+1,L++[⟨⟨p,false,l,at_⟩,some ⟨ga,0,none⟩,c⟩],ex.bh,q1,ls,by rw[bC,HL.o];rfl,rfl,S7.o,λx hx=>(aK.1 hx).elim (HLF.o x) (λh=>by rw[aG.1 h]),xh (by rw[eS];exact HW),H7⟩
      case measure=>simp[TF];omega
    .have HW:=HW.o;rw[i8,U8 rfl]at HW;subst HW;have SA:=H2.o.1.below iZ;obtain⟨v',w5,ea,S5,oa,fa⟩:=EE SA.s [p,WF true,U3 A l.length c,U5 U6 0] rfl (by simp;exact⟨rfl,rfl,rfl,rfl⟩) (by rw[HL.o];omega);rw[HL.o]at S5;rw[ny,ny]at ea;have H5:=xh (show bF w5 w.heap.size v' (L++[⟨⟨p,true,l,0⟩,A,c⟩])/\PQ w5 I F q1 n (K+(i+1))/\ah F w w5 from
      ⟨SA.push ⟨⟨p,true,l,0⟩,A,c⟩ (by rw[HL.o];exact S5) oa (λg hg=>(fa g hg).imp id (λh=>h)) (by have:=H2.o.2.2.1.size;have:=iZ.size;omega) (H2.o.2.2.2.1.below iZ) (λg hg=>aD HA.o.2.2.size (H2.o.2.2.2.2.1 g hg)) HX.o,
       (H2.o.2.1.2.below iZ).only oa (λg hF hg=>by have:=SA.f g hg;have:=rD.o g (aH _ hF);omega),
       (H2.o.2.2.1.trans (.aj iZ)).bj oa (λg hg dP=>by have:=SA.f g hg;omega)⟩)
     obtain⟨g5,c5,rest5,rfl,B5,hc5,hr5⟩:=S5.form ls ls;have x5:w5.cell? ⟨g5,i*4+1,none⟩=some (WF true):=B5.ae (by
      rw[dr,cV,eC (by rw[fX,HL.o];omega),fX,HL.o,show i*4+1-i*4=1 by omega];rfl)
     have EA:=xh ea;have w1':U6.wrap (((i+1:Nat):Int)-1)=(i:Int):=by rw[show((i+1:Nat):Int)-1=(i:Int) by omega];exact d9
     have w2':(i:Int)<((i+1:Nat):Int):=ls
     clear ea S5 oa fa B5 SA b3 b4 b34 gK iZ hr5;go_wp2_with fail;rw[EA.o];go_wp2_with fail;rw[Exit.noGoto_ret];go_ret2;exact⟨_,_,by first|rfl|simp,H5.o.1,by rw[eS];rfl,H5.o.2.1.le ls,H5.o.2.2⟩
   .have hq:(er != 0)=true:=lm he
    have kP:(er==0)=false:=i4 he
    have HW:=HW.o;rw[U8 he]at HW;subst HW;have H3:=g9 (PQ (w2.alloc (Pi #[WF leaf,U3 A l.length c] 118)) I F q1 n (K+(i+1))/\ah F w (w2.alloc (Pi #[WF leaf,U3 A l.length c] 118))) ⟨H2.o.2.1.2.below gK,H2.o.2.2.1.trans (.aj gK)⟩;clear b3 gK sV;go_wp2_with fail;rw[Exit.noGoto_ret];go_ret2;exact⟨U3 none 0 0,[],by first|rfl|simp,.nil _ _,rfl,H3.o.1.le ls,H3.o.2⟩
  .obtain rfl:i=16:=ls
   have HW:=HW.o;rw[show 16-16=0 by omega]at HW;unfold iG at HW;subst HW;obtain⟨g5,c5,rest5,hv,B5,hc5,hr5⟩:=S1.form ls ls;injection hv with e1 e2 e3
   subst e1 e3;obtain⟨x,hx⟩:∃x,L[15]?=some x:=⟨_,aQ ls⟩;have OE:=vI x (ay hx);have x5:wr.cell? ⟨g5,61,none⟩=some (WF false):=B5.ae (by
    rw[dr,bX (by rw[fX,hl];omega),show 61=15*4+1 from rfl,uz hx 1 ls,<-OE];rfl)
   clear B5 hr5 S1 vI hl hx OE;go_wp2;go_ret2;exact⟨U3 none 0 0,by first|rfl|simp,[],.nil _ _,rfl,HA.o.2.1.2,HA.o.2.2⟩
end Sh.Cn
end Go.Proofs.YtmonobkginiajaaGreat
