/- packed. -/
import Derived.WalkMore
import Derived.Defers
import Derived.Recover
import Derived.Test.YtmonobkginiajaaGreatB3
set_option linter.all false
set_option maxRecDepth 100000
set_option maxHeartbeats 8000000
namespace Go.Proofs.YtmonobkginiajaaGreat
open Go.Proofs.Tryz
namespace Sh
open Go.RowKit Pk Dk Pg
attribute [local go_sem ↓] Go.wp_at_zero Go.wp_at_succ
variable{w:World}
theorem PJ(f:Fr)(w:World)(b:Bool)(hb:b=decide (f.aq<0)):
  Calls prog 244 #[f.agg] w λe w'=>e=.returned (.bool b)/\Below w.heap.size w w':=by
 have O0:=xh ((Below.refl w.heap.size w).alloc (ak _) (.cells #[.int .i64 f.aq,.string f.fS,.int .i64 f.held,.bool f.cD,.bool f.used] 167));have B0:=aJ.new w 167 #[.int .i64 f.aq,.string f.fS,.int .i64 f.held,.bool f.cD,.bool f.used];have c0:=B0.ab (i:=0) rfl;have HB:=xh hb;clear hb B0;unfold Fr.agg;go_enter func244,ntmps244;go_wp2_with fail;go_ret;exact⟨by rw[HB.o];first|rfl|simp,O0.o⟩
theorem Kq(g n c:Nat)(l:List Fr)(h:xe w g l)(hl:l.length=n)(hn:n<=1000000):
  Calls prog 220 #[.slice (some ⟨g,0,none⟩) n c,.func (Fn.func 244) #[] #[]] w λe w'=>e=.returned (.int .i64 (Gj (λf=>decide (f.aq<0)) l))/\Below w.heap.size w w':=by
 have HL:=xh hl;have H0:=xh h;clear h hl;go_enter func220,ntmps220;go_wp2_with fail
 go_loopw [8] (λiv wr=> ∃i:Nat,i<=n/\iv=.int .i64 i/\Hid (∀(j:Nat) (a:Fr),j<i->l[j]?=some a->decide (a.aq<0)=false)/\Hid (Below w.heap.size w wr)) (λiv _=>n-(intOf iv).toNat)
 case atStart=>exact⟨0,aY _,rfl,xh (λj a hj=>absurd hj (j9 j)),xh (Below.refl _ _)⟩
 case round=>
  obtain⟨i,hi,rfl,HA,HB⟩:=hrel
  by_cases h:i<n
  .have hf:l[i]?=some (l[i]'(by have:=HL.o;omega)):=aL _;generalize (l[i]'(by have:=HL.o;omega))=f at hf;obtain⟨c0,c1,c2,c3,c4⟩:=(H0.o.below HB.o) i f hf;have KF:=xh (PJ f wr _ rfl);have HF:=xh hf;clear hf;unfold Fr.agg at KF;obtain⟨b,hb⟩:∃b,decide (f.aq<0)=b:=⟨_,rfl⟩;rw[hb]at KF;have HD:=xh hb;clear hb;go_wp2_with fail;refine KF.o.mono ?_;rintro e w1 ⟨rfl,bf⟩;have GR:=xh (aB HB.o bf);clear bf
   cases b with
   |true=>
    have he:=xh (uf (b:=λf=>decide (f.aq<0)) HF.o HD.o HA.o);go_wp2_with fail;go_ret;exact⟨by rw[he.o];rfl,GR.o⟩
   |false=>
    go_wp2_with fail;go_roundw
    case rel=>
     refine⟨i+1,by omega,by go_num,xh (λj a hj ha=>?_),GR⟩
     rcases oA.1 hj with hj|rfl
     .exact HA.o j a hj ha
     .have:=HF.o.symm.trans ha;injection this with this
      subst this;exact HD.o
    case measure=>simp[intOf];omega
  .have he:=xh (za (b:=λf=>decide (f.aq<0)) (l:=l) (λj a ha=>HA.o j a (by have:=(aS.1 ha).1;have:=HL.o;omega) ha));go_wp2_with fail;go_ret;exact⟨by rw[he.o];rfl,HB.o⟩
theorem Tk{y:Y}{n q:Nat}{s:PS}(h:ib w y n s)(hq:w.cell? ⟨q,0,none⟩=some (pp y.pb))(hqp:q≠y.pb):
  Calls prog 245 #[.pointer (some ⟨q,0,none⟩)] w λe w'=>e=.returned (.pointer (some ⟨y.fg,s.hand*5,none⟩))/\ib w' y n {s with hand:=(s.hand+1) % s.l.length}/\ag y.fp w w':=by
 have p1:=h.p1;have p2:=h.p2;have l1:=h.l1;have l2:=h.l2;have lh:=h.lh;obtain⟨m,hm⟩:∃m,(s.hand+1) % s.l.length=m:=⟨_,rfl⟩;have oh:m<s.l.length:=by rw[<-hm];exact qQ _ (by omega)
 have hmI:((s.hand:Int)+1).tmod (s.l.length:Int)=(m:Int):=by rw[<-hm,show((s.hand:Int)+1)=((s.hand+1:Nat):Int)from by omega];exact(Int.ofNat_tmod _ _).symm
 have hlI:(s.hand:Int)<(s.l.length:Int):=by omega
 have m1:IntKind.i64.wrap ((s.hand:Int)+1)=(s.hand:Int)+1:=IntWalk.i64_in _ (by omega);have m2:IntKind.i64.wrap (m:Int)=(m:Int):=IntWalk.i64_in _ (by omega);have nG:¬s.l=[]:=by intro e;rw[e]at l1;simp at l1
 rw[hm];have HB:=xh (λw' (hb:Below w.heap.size w w')=>h.below hb);have QB:=xh (λw' (hb:Below w.heap.size w w')=>(hb.cell (dX hq)).trans hq);clear h hm;unfold pp at *;go_enter func245,ntmps245;go_wp2_with fail;go_quiet (fail);have O1:=xh (dS (Below.refl w.heap.size w) nq);generalize w.drewN nq=w1 at *;have o0:=HB.o _ O1.o;have od:=o0.drew;have z:=(od.setH m oh).1;have A:=xh (od.setH m oh).2.1
 have OA:=xh ((ag.aj O1.o.drew).trans (od.setH m oh).2.2);have p2d:=od.p2;have HS:=xh (show w1.drew.cell? ⟨q,0,none⟩=some (.pointer (some ⟨y.pb,0,none⟩))/\w1.drew.cell? ⟨y.pb,1,none⟩=some (.slice (some ⟨y.fg,0,none⟩) s.l.length y.cp)from⟨QB.o _ O1.o.drew,od.p1⟩)
 have Gk:=xh (show(w1.drew.setCell ⟨y.pb,2,none⟩ (.int .i64 (m:Nat))).cell? ⟨q,0,none⟩=some (.pointer (some ⟨y.pb,0,none⟩))/\(w1.drew.setCell ⟨y.pb,2,none⟩ (.int .i64 (m:Nat))).cell? ⟨y.pb,1,none⟩=some (.slice (some ⟨y.fg,0,none⟩) s.l.length y.cp)from⟨by
  have c:=QB.o _ O1.o.drew;have o:=(ag.refl [y.pb] w1.drew).setCell (p:=⟨y.pb,2,none⟩) (by simp) (.int .i64 (m:Nat));exact(o.cell (dX c) (by simpa using hqp)).trans c,A.o.p1⟩)
 clear o0 od p1 p2 hq;go_wp2_with fail;refine wp_region_held_drew (S:=λW'=>W'.cell? ⟨q,0,none⟩=some (.pointer (some ⟨y.pb,0,none⟩))/\W'.cell? ⟨y.pb,1,none⟩=some (.slice (some ⟨y.fg,0,none⟩) s.l.length y.cp)) (by kernel_rfl) (HS.o) (λah=>?_);refine bM [(0,12),(1,13),(2,14),(3,15),(6,18),(7,19),(8,20),(9,21),(10,22)] ?_
 iterate 9 refine aG ?_
 refine bY 4 16 λK hK=>?_;go_simp;refine aA hK (HS.o) (λah=>?_);refine bM [(5,17),(11,23),(12,24),(13,25)] ?_
 iterate 4 refine aG ?_
 refine dv 14 λK hK=>?_;go_simp;refine aA hK (Gk.o) (λah=>?_);refine wpAnyH_done (by kernel_rfl) ?_ _;go_wp2_with fail;go_ret;exact aE ⟨A.o,OA.o⟩
def jO(l:List Fr)(k:Nat):Fr:=(l[k]?).getD Fr.nil
def PS.turn(s:PS):PS:={s with hand:=(s.hand+1) % s.l.length}
def PS.j0:Nat->PS->PS×Int
 |0,s=>(s,-1)
 |m+1,s=>
  if 0<(jO s.l s.hand).held then PS.j0 m s.turn
  else if(jO s.l s.hand).used=true then PS.j0 m {s.turn with l:=s.l.set s.hand {jO s.l s.hand with used:=false}}
  else(s.turn,(s.hand:Int))
def PS.aN(s:PS):PS×Int:=
 if 0<=Gj (λf=>decide (f.aq<0)) s.l then(s,Gj (λf=>decide (f.aq<0)) s.l)else s.j0 (2*s.l.length+1)
theorem km{l:List Fr}{k:Nat}(h:k<l.length):l[k]?=some (jO l k):=by unfold jO;rw[aL h];rfl
theorem zg{w:World}{y:Y}{n:Nat}{s:PS}(h:ib w y n s):
  Calls prog 229 #[pp y.pb] w λe w'=>e=.returned (.int .i64 s.aN.2)/\ib w' y n s.aN.1/\ag y.fp w w':=by
 have x6:=h.lt y.pb (by simp[Y.fp]);have O0:=xh (ae (Below.refl w.heap.size w) (.cells #[.pointer (some ⟨y.pb,0,none⟩)] 34));have B0:=xh (aJ.new w 34 #[.pointer (some ⟨y.pb,0,none⟩)]);have H0:=xh (h.below O0.o);have KI:=xh (Kq y.fg s.l.length y.cp s.l H0.o.yy rfl (by have:=h.l2;omega));have NP:=xh (show w.heap.size≠y.pb from by omega);have NF:=xh (show w.heap.size∉y.fp from λhm=>by have:=h.lt _ hm;omega)
 have q0:=B0.o.ab (i:=0) rfl;have p1:=H0.o.p1;have l2:=h.l2;obtain⟨R,hR⟩:∃R,s.aN=R:=⟨_,rfl⟩;rw[hR];unfold PS.aN at hR;clear h x6;unfold pp at *
 rcases ER (λf=>decide (f.aq<0)) s.l with e|⟨k,f,e,hf,_⟩
 .rw[e,if_neg (by omega)]at hR;rw[e]at KI;obtain⟨N,hN⟩:∃N,2*s.l.length+1=N:=⟨_,rfl⟩;have m1:IntKind.i64.wrap (2*(s.l.length:Int))=2*(s.l.length:Int):=IntWalk.i64_in _ (by omega);have m2:IntKind.i64.wrap (2*(s.l.length:Int)+1)=(N:Int):=by rw[IntWalk.i64_in _ (by omega)];omega
  have hN65:N<=65:=by omega
  rw[hN]at hR;have HN:=xh hN;have HR:=xh hR;clear e hR hN;go_enter func229,ntmps229;go_wp2_with fail
  go_step3
  go_wp2_with fail;refine KI.o.mono ?_;rintro e w1 ⟨rfl,bf⟩;have O1:=xh (aB O0.o bf);have H1:=xh (H0.o.below bf);have B1:=xh (B0.o.below bf B0.o.lt);have p1':=H1.o.p1;have q1:=B1.o.ab (i:=0) rfl;clear bf p1 q0;go_wp2_with fail
  go_step3
  go_wp2_with fail;clear p1' q1
  go_loopw [5,24] (λov iv wr=> ∃(i:Nat) (s':PS),i<=N/\ov=.int .i64 (-1)/\iv=.int .i64 i/\Hid (ib wr y n s')/\Hid (s'.j0 (N-i)=R)/\Hid (ag y.fp w wr)/\Hid (aJ wr w.heap.size 34 #[.pointer (some ⟨y.pb,0,none⟩)])) (λ_ iv _=>N-(intOf iv).toNat)
  case atStart=>exact⟨0,s,aY _,rfl,rfl,H1,xh (by rw[Nat.sub_zero];exact HR.o),xh (.aj O1.o),B1⟩
  case round=>
   obtain⟨i,s',hi,rfl,rfl,HA,HS,HO,HQ⟩:=hrel
   by_cases h:i<N
   .have KN:=xh (Tk HA.o (HQ.o.ab (i:=0) rfl) NP.o);have q2:=HQ.o.ab (i:=0) rfl;have p2:=HA.o.p2;have hI:(i:Int)<(N:Int):=by omega
    have hf:=km HA.o.lh;have hS:=HS.o;rw[show N-i=(N-(i+1))+1 from by omega]at hS;unfold PS.j0 at hS;generalize yd:jO s'.l s'.hand=f at *;have HF:=xh hf;clear hf yd;go_wp2_with fail;refine KN.o.mono ?_;rintro e w2 ⟨rfl,A2,o2⟩;have A2:=xh A2;have o2r:=o2;have o2:=xh (HO.o.trans o2r);obtain⟨_,_,x2,_,x4⟩:=A2.o.yy s'.hand f HF.o;have HF5:=xh (A2.o.fK s'.hand 4 (by omega) {f with used:=false} (.bool false) HF.o rfl);have z5:=HF5.o.1
    have HQ2:=xh (HQ.o.only o2r NF.o);clear o2r q2 p2
    by_cases h1:0<f.held
    .rw[if_pos h1]at hS;have HS:=xh hS;clear hS;generalize f.held=fh at *;go_wp2_with fail;go_roundw
     case rel=>exact⟨i+1,s'.turn,by omega,rfl,by go_num,A2,HS,o2,HQ2⟩
     case measure=>simp[intOf];omega
    .rw[if_neg h1]at hS
     by_cases h2:f.used=true
     .rw[if_pos h2]at hS;rw[h2]at x4;have HS:=xh hS;have A5:=xh HF5.o.2.1;have O5:=xh (o2.o.trans HF5.o.2.2);have HQ5:=xh (HQ2.o.only HF5.o.2.2 NF.o);clear hS h2 HF5;generalize f.held=fh at *;go_wp2_with fail;go_roundw
      case rel=>exact⟨i+1,_,by omega,rfl,by go_num,A5,HS,O5,HQ5⟩
      case measure=>simp[intOf];omega
     .have h3:f.used=false:=by simpa using h2
      rw[if_neg h2]at hS;rw[h3]at x4;subst hS;clear h2 HF5 HS HR;generalize f.held=fh at *;go_wp2_with fail;rw[Exit.noGoto_ret];go_ret;exact aE ⟨A2.o,o2.o⟩
   .have hiN:i=N:=by omega
    subst hiN;have hS:=HS.o;rw[fy]at hS;unfold PS.j0 at hS;subst hS;go_wp2_with fail;rw[Exit.noGoto_ret];go_ret;exact aE ⟨HA.o,HO.o⟩
 .rw[e,if_pos (by omega)]at hR;rw[e]at KI;subst hR;have PF:(0:Int)<=(k:Int):=by omega
  clear e hf;go_enter func229,ntmps229;go_wp2_with fail
  go_step3
  go_wp2_with fail;refine KI.o.mono ?_;rintro e w1 ⟨rfl,bf⟩;have O1:=xh (aB O0.o bf);have H1:=xh (H0.o.below bf);clear bf;go_wp2_with fail;rw[Exit.noGoto_ret];go_ret;exact aE ⟨H1.o,.aj O1.o⟩
theorem Kr{w:World}{y:Y}{n:Nat}{s:PS}(h:ib w y n s)(k:Nat){f:Fr}(hf:s.l[k]?=some f)(hd:f.cD=false):
  Calls prog 99 #[pp y.pb,.int .i64 (k:Nat)] w λe w'=>e=.returned (.int .i64 0)/\Below w.heap.size w w':=by
 have hk:k<s.l.length:=(aS.1 hf).1;have p1:=h.p1;have l2:=h.l2;have Kh:(k:Int)<(s.l.length:Int):=by omega
 obtain⟨_,_,_,c3,_⟩:=h.yy k f hf;rw[hd]at c3;have OB:=xh (Below.refl w.heap.size w);clear h hf hd;unfold pp at *;go_enter func99,ntmps99;go_wp2_with fail;go_ret;exact aE OB.o
variable{w:World}{y:Y}{n:Nat}{s:PS}
theorem Tm(h:ib w y n s)(p:Int)(k:Nat){f:Fr}(hk:findF s.l p=(k:Nat))(hf:s.l[k]?=some f)(hb: -1000<=f.held/\f.held<=4000000000000):
  Calls prog 213 #[pp y.pb,.int .i64 p] w λe w'=>e=.returned (.tuple #[.string f.fS,.int .i64 0])/\ib w' y n {s with l:=s.l.set k {f with held:=f.held+1,used:=true}}/\ag y.fp w w':=by
 have KF:=xh (iS h p);rw[hk]at KF;have jx:k<s.l.length:=(aS.1 hf).1;have Kh:(k:Int)<(s.l.length:Int):=by omega
 have PF:(0:Int)<=(k:Int):=by omega
 have HB:=xh (λw' (hb:Below w.heap.size w w')=>h.below hb);have m1:IntKind.i64.wrap (f.held+1)=f.held+1:=IntWalk.i64_in _ (by omega);have HF:=xh hf;have HL:=xh h.l2;clear h hk hf hb;unfold pp at *;go_enter func213,ntmps213;go_wp2_with fail;refine KF.o.mono ?_;rintro e w1 ⟨rfl,bf⟩;have O1:=xh bf;have A1:=HB.o w1 bf;have p1:=A1.p1;have A2:=A1.fK k 2 (by omega) {f with held:=f.held+1} (.int .i64 (f.held+1)) HF.o rfl;obtain⟨z1,A3,o3⟩:=A2
 have BO:(s.l.set k {f with held:=f.held+1})[k]?=some {f with held:=f.held+1}:=by rw[dO jx]
 obtain⟨z2,A4,o4⟩:=A3.fK k 4 (by omega) {f with held:=f.held+1,used:=true} (.bool true) BO rfl;have hf4:((s.l.set k {f with held:=f.held+1}).set k {f with held:=f.held+1,used:=true})[k]?=some {f with held:=f.held+1,used:=true}:=by rw[dO (by simpa using jx)]
 obtain⟨_,x1,_,_,_⟩:=A4.yy k _ hf4;obtain⟨_,_,y2,_,_⟩:=A1.yy k f HF.o;obtain⟨_,_,_,_,y4⟩:=A3.yy k _ BO;simp only[j7]at A4;have AZ:=xh A4;have OZ:=xh ((ag.aj (S:=y.fp) O1.o).trans (o3.trans o4));clear bf A1 A3 A4 o3 o4 BO hf4;go_wp2_with fail;go_ret2;exact aE ⟨AZ.o,OZ.o⟩
theorem Tn(h:ib w y n s)(p:Int)(hk:findF s.l p= -1)(hr:(s.c.aP n p).2≠0):
  Calls prog 213 #[pp y.pb,.int .i64 p] w λe w'=>e=.returned (.tuple #[.string ⟨#[]⟩,.int .i64 (s.c.aP n p).2])/\Below w.heap.size w w':=by
 have KF:=xh (iS h p);rw[hk]at KF;have HB:=xh (λw' (hb:Below w.heap.size w w')=>h.below hb);have KR:=xh (λw' (hb:Below w.heap.size w w')=>nH (h.below hb).hs p);have hq:((s.c.aP n p).2==0)=false:=by rw[beq_eq_false_iff_ne];exact hr
 have kt:((s.c.aP n p).2 != 0)=true:=by rw[bne_iff_ne];exact hr
 generalize s.c.aP n p=R at *;clear h hk;unfold pp sp at *;go_enter func213,ntmps213;go_wp2_with fail;refine KF.o.mono ?_;rintro e w1 ⟨rfl,bf⟩;have O1:=xh bf;have p0:=(HB.o w1 bf).p0;clear bf;go_wp2_with fail;refine(KR.o w1 O1.o).mono ?_;rintro e w2 ⟨rfl,cA⟩;have O2:=xh (aB O1.o cA);clear cA;go_wp2_with fail;go_ret2;exact aE O2.o
theorem PK(h:ib w y n s)(p:Int)(hk:findF s.l p= -1)(hr:(s.c.aP n p).2=0)(hv:s.aN.2<0):
  Calls prog 213 #[pp y.pb,.int .i64 p] w λe w'=>e=.returned (.tuple #[.string ⟨#[]⟩,.int .i64 12])/\ib w' y n s.aN.1/\ag y.fp w w':=by
 have KF:=xh (iS h p);rw[hk]at KF;have HB:=xh (λw' (hb:Below w.heap.size w w')=>h.below hb);have KR:=xh (λw' (hb:Below w.heap.size w w')=>nH (h.below hb).hs p);have KV:=xh (λw' (hb:Below w.heap.size w w')=>zg (h.below hb));rw[hr]at KR;generalize (s.c.aP n p).1=R at *;generalize s.aN=V at *;clear h hk;unfold pp sp at *;go_enter func213,ntmps213;go_wp2_with fail;refine KF.o.mono ?_;rintro e w1 ⟨rfl,bf⟩;have O1:=xh bf
 have p0:=(HB.o w1 bf).p0;clear bf;go_wp2_with fail;refine(KR.o w1 O1.o).mono ?_;rintro e w2 ⟨rfl,cA⟩;have O2:=xh (aB O1.o cA);clear cA;go_wp2_with fail;refine(KV.o w2 O2.o).mono ?_;rintro e w3 ⟨rfl,A3,o3⟩;have A3:=xh A3;have o3:=xh ((ag.aj (S:=y.fp) O2.o).trans o3);go_wp2_with fail;go_ret2;exact aE ⟨A3.o,o3.o⟩
variable{w:World}{y:Y}{n:Nat}{s:PS}{f:Fr}
theorem ib.same{w':World}{c':C}(h:ib w y n s)(A:At w' y.x n c')(o:ag y.x.fp w w'):ib w' y n {s with c:=c'}/\ag y.fp w w':=
 ⟨⟨h.hp.only o h.n1,h.hf.only o (λg hg=>by simp[ai]at hg;subst hg;exact h.n2),A,h.n1,h.n2,h.l1,h.l2,h.lh⟩,o.mono (λg hg _=>by simp[Y.fp,hg])⟩
theorem Ks(h:ib w y n s)(p:Int)(k:Nat)(hk:findF s.l p=(k:Nat))(hf:s.l[k]?=some f)(hh:0<f.held):
  Calls prog 132 #[pp y.pb,.int .i64 p] w λe w'=>e=.returned (.int .i64 16)/\Below w.heap.size w w':=by
 have KF:=xh (iS h p);rw[hk]at KF;have HB:=xh (λw' (hb:Below w.heap.size w w')=>h.below hb);have jx:k<s.l.length:=(aS.1 hf).1;have Kh:(k:Int)<(s.l.length:Int):=by omega
 have PF:(0:Int)<=(k:Int):=by omega
 have HF:=xh hf;have l2:=h.l2;clear h hk hf;unfold pp at *;go_enter func132,ntmps132;go_wp2_with fail;refine KF.o.mono ?_;rintro e w1 ⟨rfl,bf⟩;have O1:=xh bf;have A1:=xh (HB.o w1 bf);have p0:=A1.o.p0;have p1:=A1.o.p1;obtain⟨_,_,c2,_,_⟩:=A1.o.yy k f HF.o;clear bf;go_wp2_with fail;go_ret;exact aE O1.o
theorem PL(h:ib w y n s)(p:Int)(hk:findF s.l p= -1):
  Calls prog 132 #[pp y.pb,.int .i64 p] w λe w'=>e=.returned (.int .i64 (s.c.aV p).2)/\ib w' y n {s with c:=(s.c.aV p).1}/\ag y.fp w w':=by
 have KF:=xh (iS h p);rw[hk]at KF;have HB:=xh (λw' (hb:Below w.heap.size w w')=>h.below hb);have KD:=xh (λw' (hb:Below w.heap.size w w')=>GO (h.below hb).hs p);have HP:=xh (λw1 (hb:Below w.heap.size w w1) w2 (A:At w2 y.x n (s.c.aV p).1) (o:ag y.x.fp w1 w2)=>(h.below hb).same A o);generalize s.c.aV p=R at *;obtain⟨R1,R2⟩:=R;dsimp only at *;clear h hk;unfold sp at *;unfold pp at *;go_enter func132,ntmps132;go_wp2_with fail
 refine KF.o.mono ?_;rintro e w1 ⟨rfl,bf⟩;have O1:=xh bf;have A1:=xh (HB.o w1 bf);have p0:=A1.o.p0;have p1:=A1.o.p1;clear bf;go_wp2_with fail;refine(KD.o w1 O1.o).mono ?_;rintro e w2 ⟨rfl,A2,o2⟩;have A3:=xh (HP.o w1 O1.o w2 A2 o2);clear A2 o2
 by_cases h0:R2=0
 .subst h0;go_wp2_with fail;go_ret;exact⟨by first|rfl|(simp;done)|(simp[h0];done)|simp_all,A3.o.1,(ag.aj (S:=y.fp) O1.o).trans A3.o.2⟩
 .have hq:(R2 != 0)=true:=by rw[bne_iff_ne];exact h0
  have kt:(R2==0)=false:=by rw[beq_eq_false_iff_ne];exact h0
  go_wp2_with fail;go_ret;exact⟨by first|rfl|(simp;done)|(simp[h0];done)|simp_all,A3.o.1,(ag.aj (S:=y.fp) O1.o).trans A3.o.2⟩
theorem ib.Kt(h:ib w y n s)(k:Nat)(hf:s.l[k]?=some f):
  w.frozen? ⟨y.fg,k*5,none⟩=false/\w.frozen? ⟨y.fg,k*5+1,none⟩=false/\w.frozen? ⟨y.fg,k*5+2,none⟩=false/\w.frozen? ⟨y.fg,k*5+3,none⟩=false/\w.frozen? ⟨y.fg,k*5+4,none⟩=false/\
  ib (((((w.setCell ⟨y.fg,k*5,none⟩ (.int .i64 (-1))).setCell ⟨y.fg,k*5+1,none⟩ (.string ⟨#[]⟩)).setCell ⟨y.fg,k*5+2,none⟩ (.int .i64 0)).setCell ⟨y.fg,k*5+3,none⟩ (.bool false)).setCell ⟨y.fg,k*5+4,none⟩ (.bool false)) y n {s with l:=s.l.set k Fr.nil}/\
  ag y.fp w (((((w.setCell ⟨y.fg,k*5,none⟩ (.int .i64 (-1))).setCell ⟨y.fg,k*5+1,none⟩ (.string ⟨#[]⟩)).setCell ⟨y.fg,k*5+2,none⟩ (.int .i64 0)).setCell ⟨y.fg,k*5+3,none⟩ (.bool false)).setCell ⟨y.fg,k*5+4,none⟩ (.bool false)):=by
 have jx:k<s.l.length:=(aS.1 hf).1;obtain⟨z0,B0,q0⟩:=h.fK k 0 (by omega) {f with aq:= -1} (.int .i64 (-1)) hf rfl;rw[iw]at z0 B0 q0;have g0:(s.l.set k {f with aq:= -1})[k]?=some {f with aq:= -1}:=by rw[dO jx]
 obtain⟨_,B1,q1⟩:=B0.fK k 1 (by omega) {f with aq:= -1,fS:=⟨#[]⟩} (.string ⟨#[]⟩) g0 rfl;simp only[j7]at B1;have g1:(s.l.set k {f with aq:= -1,fS:=⟨#[]⟩})[k]?=some {f with aq:= -1,fS:=⟨#[]⟩}:=by rw[dO jx]
 obtain⟨_,B2,q2⟩:=B1.fK k 2 (by omega) {f with aq:= -1,fS:=⟨#[]⟩,held:=0} (.int .i64 0) g1 rfl;simp only[j7]at B2;have g2:(s.l.set k {f with aq:= -1,fS:=⟨#[]⟩,held:=0})[k]?=some {f with aq:= -1,fS:=⟨#[]⟩,held:=0}:=by rw[dO jx]
 obtain⟨_,B3,q3⟩:=B2.fK k 3 (by omega) {f with aq:= -1,fS:=⟨#[]⟩,held:=0,cD:=false} (.bool false) g2 rfl;simp only[j7]at B3;have g3:(s.l.set k {f with aq:= -1,fS:=⟨#[]⟩,held:=0,cD:=false})[k]?=some {f with aq:= -1,fS:=⟨#[]⟩,held:=0,cD:=false}:=by rw[dO jx]
 obtain⟨_,B4,q4⟩:=B3.fK k 4 (by omega) Fr.nil (.bool false) g3 rfl;simp only[j7]at B4;obtain⟨rest,B,hr,_,_⟩:=h.hf.tx;have hl:=mA s.l;have fz:∀j,j<5->w.frozen? ⟨y.fg,k*5+j,none⟩=false:=λj hj=>B.frozen _ (by simp;omega);exact⟨fz 0 (by omega),fz 1 (by omega),fz 2 (by omega),fz 3 (by omega),fz 4 (by omega),B4,(((q0.trans q1).trans q2).trans q3).trans q4⟩
theorem Tp(h:ib w y n s)(p:Int)(k:Nat)(hk:findF s.l p=(k:Nat))(hf:s.l[k]?=some f)(hh:f.held=0):
  Calls prog 132 #[pp y.pb,.int .i64 p] w λe w'=>e=.returned (.int .i64 (s.c.aV p).2)/\ib w' y n (if(s.c.aV p).2=0 then {s with c:=(s.c.aV p).1,l:=s.l.set k Fr.nil}else {s with c:=(s.c.aV p).1})/\ag y.fp w w':=by
 have KF:=xh (iS h p);rw[hk]at KF;have KE:=xh l7;unfold Fr.nil Fr.agg at KE;have HB:=xh (λw' (hb:Below w.heap.size w w')=>h.below hb);have jx:k<s.l.length:=(aS.1 hf).1;have Kh:(k:Int)<(s.l.length:Int):=by omega
 have PF:(0:Int)<=(k:Int):=by omega
 have HF:=xh hf;have KD:=xh (λw' (hb:Below w.heap.size w w')=>GO (h.below hb).hs p);have HP:=xh (λw1 (hb:Below w.heap.size w w1) w2 (A:At w2 y.x n (s.c.aV p).1) (o:ag y.x.fp w1 w2)=>(h.below hb).same A o);have l2:=h.l2;generalize s.c.aV p=R at *;obtain⟨R1,R2⟩:=R;dsimp only at *;clear h hk hf;unfold sp at *
 by_cases h0:R2=0
 .subst h0;rw[if_pos rfl];unfold pp at *;go_enter func132,ntmps132;go_wp2_with fail;refine KF.o.mono ?_;rintro e w1 ⟨rfl,bf⟩;have O1:=xh bf;have A1:=xh (HB.o w1 bf);have p0:=A1.o.p0;have p1:=A1.o.p1;obtain⟨_,_,c2,_,_⟩:=A1.o.yy k f HF.o;rw[hh]at c2;clear bf hh;go_wp2_with fail;refine(KD.o w1 O1.o).mono ?_;rintro e w2 ⟨rfl,A2,o2⟩;have A3:=xh (HP.o w1 O1.o w2 A2 o2);clear A2 o2 p0 p1 c2;have AD:=xh (A3.o.1.drew)
  have OD:=xh ((((ag.refl y.fp w).trans (ag.aj O1.o)).trans A3.o.2).drew);have P1D:=xh AD.o.p1;clear A3;go_wp2_with fail;refine wp_region_held_drew (S:=λW'=>W'.cell? ⟨y.pb,1,none⟩=some (.slice (some ⟨y.fg,0,none⟩) s.l.length y.cp)) (by kernel_rfl) (P1D.o) (λah=>?_);refine bM [(0,39),(1,40),(2,41),(3,42),(4,43)] ?_
  iterate 5 refine aG ?_
  refine bY 5 44 λK hK=>?_;go_simp
  go_at_call 86
  refine(KE.o _).mono ?_;rintro e w6 ⟨rfl,sA⟩;have A6:=xh (AD.o.below sA);have O6:=xh (OD.o.trans (ag.aj (S:=y.fp) sA));have p1y:=A6.o.p1;clear sA;refine aA hK (p1y) (λah=>?_);refine bM [(6,45)] ?_
  iterate 1 refine aG ?_
  refine dv 7 λK hK=>?_;go_simp;have p1x:=A6.o.p1;have l2x:=A6.o.l2;obtain⟨c0,c1,c2,c3,c4⟩:=A6.o.yy k f HF.o;obtain⟨z0,z1,z2,z3,z4,B4,q4⟩:=A6.o.Kt k HF.o;have AZ:=xh B4;have OZ:=xh (O6.o.trans q4);clear B4 q4;go_simp;refine hK.o _ _ (by have:=AZ.o.p1;simpa using this) (λah=>?_)
  try simp only[Act.put,pa,pb,pc]
  refine wpAnyH_done (by kernel_rfl) ?_ _;go_wp2_with fail;go_ret;exact aE ⟨AZ.o,OZ.o⟩
 .have hq:(R2 != 0)=true:=by rw[bne_iff_ne];exact h0
  have kt:(R2==0)=false:=by rw[beq_eq_false_iff_ne];exact h0
  rw[if_neg h0];unfold pp at *;go_enter func132,ntmps132;go_wp2_with fail;refine KF.o.mono ?_;rintro e w1 ⟨rfl,bf⟩;have O1:=xh bf;have A1:=xh (HB.o w1 bf);have p0:=A1.o.p0;have p1:=A1.o.p1;obtain⟨_,_,c2,_,_⟩:=A1.o.yy k f HF.o;rw[hh]at c2;clear bf hh;go_wp2_with fail;refine(KD.o w1 O1.o).mono ?_;rintro e w2 ⟨rfl,A2,o2⟩;have A3:=xh (HP.o w1 O1.o w2 A2 o2);clear A2 o2;go_wp2_with fail;go_ret
  exact aE ⟨A3.o.1,(ag.aj (S:=y.fp) O1.o).trans A3.o.2⟩
end Sh
namespace Sh
open Go.RowKit Pk Dk Pg
variable{x:Int}{t:List Int}
theorem uh:∀(L M:List Int),L.Nodup->(∀x∈L,x∈M)->L.length<=M.length
 |[],_,_,_=>aY _
 |x::L,M,hn,hs=>by
  obtain⟨h1,h2⟩:=gf.1 hn;have hx:x∈M:=hs x (fY ..);have:=uh L (M.erase x) h2 (λy hy=>(List.mem_erase_of_ne (λe:y=x=>h1 (by rw[<-e];exact hy))).2 (hs y (ax _ hy)));rw[RP hx]at this;have:0<M.length:=List.length_pos_of_mem hx;simp;omega
theorem ui{L M:List Int}(hl:L.Nodup)(hm:M.Nodup)(h:∀x,x∈L↔x∈M):L.length=M.length:=
 Nat.le_antisymm (uh L M hl (λx hx=>(h x).1 hx)) (uh M L hm (λx hx=>(h x).2 hx))
theorem zh(l:List Int)(k:Int)(n:Nat)(x:Int):x∈Fm.gY l k n↔ ∃i:Nat,x=i/\i<n/\l.getD i 0=k:=by
 induction n with
 |zero=>simp[Fm.gY]
 |succ n ih=>
  simp only[Fm.gY,aC,ih]
  constructor
  .rintro(⟨i,e,h,g⟩|h)
   .exact⟨i,e,by omega,g⟩
   .by_cases hk:l.getD n 0=k
    .rw[if_pos hk]at h;exact⟨n,by simpa using h,by omega,hk⟩
    .rw[if_neg hk]at h;simp at h
  .rintro⟨i,e,h,g⟩
   rcases oA.1 h with h|rfl
   .exact .inl ⟨i,e,h,g⟩
   .rw[if_pos g];exact .inr (by simpa using e)
theorem fX{l:List Int}{k:Int} :x∈Fm.gw l k↔ ∃i:Nat,x=i/\i<l.length/\l.getD i 0=k:=zh l k l.length x
theorem ES(l:List Int)(k:Int)(n:Nat):(Fm.gY l k n).Nodup:=by
 induction n with
 |zero=>exact ou
 |succ n ih=>
  simp only[Fm.gY]
  split
  .rw[iu];refine⟨ih,by simp,λa ha b hb e=>?_⟩;obtain⟨i,e1,h,_⟩:=(zh l k n a).1 ha;simp at hb;omega
  .simpa using ih
theorem jQ(l:List Int)(k:Int):(Fm.gw l k).Nodup:=ES l k l.length
def upto:Nat->List Int
 |0=>[]
 |n+1=>upto n++[(n:Int)]
theorem xg:∀n,(upto n).length=n
 |0=>rfl
 |n+1=>by simp[upto,xg n]
theorem GS(n:Nat)(x:Int):x∈upto n↔0<=x/\x<n:=by
 induction n with
 |zero=>simp[upto];try omega
 |succ n ih=>simp only[upto,aC,ih,aQ];omega
theorem Ku(n:Nat):(upto n).Nodup:=by
 induction n with
 |zero=>exact ou
 |succ n ih=>
  simp only[upto];rw[iu];refine⟨ih,by simp,λa ha b hb e=>?_⟩;have:=(GS n a).1 ha;simp at hb;omega
def Bu(t:List Int):Prop:= ∀(i j:Nat) (x:Int),t[i]?=some x->t[j]?=some x->0<=x->i=j
def ids(t:List Int):List Int:=t.filter (λx=>decide (0<=x))
theorem kW :x∈ids t↔x∈t/\0<=x:=by simp[ids]
theorem Bu.tail(h:Bu (x::t)):Bu t:=λi j y hi hj h0=>by
 have:=h (i+1) (j+1) y (by simpa using hi) (by simpa using hj) h0;omega
theorem jR:∀{t:List Int},Bu t->(ids t).Nodup
 |[],_=>ou
 |x::t,h=>by
  have ih:=jR h.tail;unfold ids at ih ⊢;rw[j5]
  split
  .rename_i hx;rw[gf];refine⟨λhm=>?_,ih⟩;obtain⟨hm,_⟩:=kW.1 hm;obtain⟨k,hk⟩:=kH hm;have:=h 0 (k+1) x rfl (by simpa using hk) (by simpa using hx);omega
  .exact ih
theorem Bu.bE(h:Bu t)(k:Nat)(u:Int)(hu:u<0\/u∉t):Bu (t.set k u):=by
 intro i j x hi hj h0;rw[iL]at hi hj
 by_cases e1:k=i<;>by_cases e2:k=j
 .omega
 .rw[if_pos e1]at hi;rw[if_neg e2]at hj
  split at hi
  .injection hi with hi
   subst hi
   rcases hu with hu|hu
   .omega
   .exact absurd (ay hj) hu
  .cases hi
 .rw[if_neg e1]at hi;rw[if_pos e2]at hj
  split at hj
  .injection hj with hj
   subst hj
   rcases hu with hu|hu
   .omega
   .exact absurd (ay hi) hu
  .cases hj
 .rw[if_neg e1]at hi;rw[if_neg e2]at hj;exact h i j x hi hj h0
theorem Bu.app(h:Bu t)(u:Int)(hu:u<0\/u∉t):Bu (t++[u]):=by
 intro i j x hi hj h0;have key:∀i,(t++[u])[i]?=some x->(t[i]?=some x)\/(i=t.length/\x=u):=by
  intro i hi
  rcases Nat.lt_trichotomy i t.length with hl|rfl|hl
  .rw[bF hl]at hi;exact .inl hi
  .rw[dW (ak _)]at hi;simp at hi;exact .inr ⟨rfl,hi.symm⟩
  .rw[dW (by omega),gu (by simp;omega)]at hi;cases hi
 rcases key i hi with a|⟨a,b⟩<;>rcases key j hj with c|⟨c,d⟩
 .exact h i j x a c h0
 .subst d
  rcases hu with hu|hu
  .omega
  .exact absurd (ay a) hu
 .subst b
  rcases hu with hu|hu
  .omega
  .exact absurd (ay c) hu
 .omega
theorem GU{k:Nat}{u:Int}(h:Bu t)(hk:t[k]?=some u)(v:Int)(h0:0<=x)(hv:v<0)(hu:0<=u):x∈t.set k v↔x∈t/\x≠u:=by
 constructor
 .intro hx;obtain⟨i,hi⟩:=kH hx;rw[iL]at hi
  by_cases e:k=i
  .rw[if_pos e]at hi
   split at hi
   .injection hi with hi;omega
   .cases hi
  .rw[if_neg e]at hi;refine⟨ay hi,λe2=>e ?_⟩;subst e2;exact h k i x hk hi h0
 .rintro⟨hx,ff⟩;obtain⟨i,hi⟩:=kH hx;have:(t.set k v)[i]?=some x:=by
   rw[iL,if_neg (λe=>ff (by subst e;rw[hk]at hi;injection hi with hi;exact hi.symm))];exact hi
  exact ay this
structure St where
 many:Nat
 now:List (Option (Bool×List UInt8))
 bX:List (Option (List UInt8))
 ep:Int
def fO:Option (Bool×List UInt8)->Bool
 |some (b,_)=>b
 |none=>false
def cM(k:Nat):Nat:=(k+115) / 116
def St.fresh(a:St):Nat:=a.now.countP fO
def St.kept(a:St):Nat:=a.bX.countP Option.isSome+cM a.bX.length
def St.free(a:St):Nat:=a.many-a.kept-a.fresh
def St.slot(a:St):Nat:=a.now.findIdx Option.isNone
def oP{α:Type}(t:List α)(l:Nat)(u:α):List α:=if l=t.length then t++[u]else t.set l u
def St.at(a:St)(l:Int):Option (Bool×List UInt8):=if 0<=l then(a.now[l.toNat]?).getD none else none
def St.bV(a:St)(p:List UInt8):St×Int×Int:=
 if 232<p.length then(a,0,4)
 else if 512<=a.slot\/a.free=0 then(a,0,11)
 else({a with now:=oP a.now a.slot (some (true,eP p 232))},(a.slot:Nat),0)
def St.aV(a:St)(l:Int):St×Int:=if(a.at l).isSome=true then({a with now:=a.now.set l.toNat none},0)else(a,3)
def St.aP(a:St)(l:Int):List UInt8×Int:=match a.at l with
 |some (_,b)=>(b,0)
 |none=>([],3)
def Tq(d:D)(n:Nat)(x ep:Int):Prop:= ∃q s,0<=q/\q<=ep/\s.length=232/\bu d n x=(⟨x,q,2,s⟩,0)
def cJ(c:C)(x:Int):Int:=if x∈c.parts then 1 else if x∈c.bX then(if x∈c.table then 1 else 3)else if x∈c.table then 2 else 0
structure Good(c:C)(n:Nat):Prop where
 up:c.d.down=false
 arm:c.d.bt=0
 br:c.broken=false
 ok:c.d.Ok n
 ml:c.m.length=fi n
 ep:1<=c.ep/\c.ep<1099511627776
 sl:c.slot=0\/c.slot=1
 ti:∀x∈c.table,x= -1\/(0<=x/\x<c.m.length)
 oi:∀x∈c.bX,x= -1\/(0<=x/\x<c.m.length)
 pi:∀x∈c.parts,0<=x/\x<c.m.length
 tj:Bu c.table
 oj:Bu c.bX
 pj:Bu c.parts
 dt:∀x∈c.parts,x∉c.table/\x∉c.bX
 pl:c.parts.length=cM c.bX.length
 sm:∀(i:Nat) (x:Int),c.table[i]?=some x->0<=x->x∈c.bX->c.bX[i]?=some x
 md:∀i:Nat,i<c.m.length->c.m.getD i 0=cJ c i
 rt:∀x∈c.table,0<=x->Tq c.d n x (c.ep+1)
 ro:∀x∈c.bX,0<=x->Tq c.d n x c.ep
def C.cX(c:C)(n:Nat)(x:Int):Option (Bool×List UInt8):=if x<0 then none else some (decide (x∉c.bX),(bu c.d n x).1.s)
def C.bR(c:C)(n:Nat):St:={many:=c.m.length,now:=c.table.map (c.cX n),bX:=c.bX.map λx=>if x<0 then none else some (bu c.d n x).1.s,ep:=c.ep}
theorem mB{c:C}{n:Nat}(g:Good c n):(Fm.gw c.m 0).length=(c.bR n).free/\(c.bR n).fresh+(c.bR n).kept<=c.m.length:=by
 obtain⟨F,hF⟩:∃F,F=(ids c.table).filter (λx=>decide (x∉c.bX)):=⟨_,rfl⟩;have hFl:F.length=(c.bR n).fresh:=by
  rw[hF];unfold St.fresh C.bR ids;rw[D4,<-yG,DW];apply r8;intro x hx;simp only[Function.comp,C.cX]
  by_cases h:x<0
  .rw[if_pos h];simp[fO];omega
  .rw[if_neg h];simp[fO];omega
 have hKl:(c.parts++ids c.bX).length=(c.bR n).kept:=by
  unfold St.kept C.bR ids;rw[aU,g.pl,<-yG,DW,fo];have:c.bX.countP (λx=>decide (0<=x))=c.bX.countP (Option.isSome ∘ λx=>if x<0 then none else some (bu c.d n x).1.s):=by
   apply r8;intro x hx;simp only[Function.comp]
   by_cases h:x<0
   .rw[if_pos h];simp;omega
   .rw[if_neg h];simp;omega
  omega
 have hmF:∀x,x∈F↔x∈c.table/\0<=x/\x∉c.bX:=by
  intro x;rw[hF,ir,kW];simp[and_assoc]
 have xX:(Fm.gw c.m 0++F++(c.parts++ids c.bX)).Nodup:=by
  rw[iu,iu,iu];have hp:c.parts.Nodup:=by
   have:=jR g.pj
   rwa [show ids c.parts=c.parts from vh.2 (λx hx=>by simpa using (g.pi x hx).1)]at this
  refine⟨⟨jQ _ _,?_,?_⟩,⟨hp,jR g.oj,?_⟩,?_⟩
  .rw[hF];exact(jR g.tj).sublist D7
  .intro x hx y hy e;subst e;obtain⟨i,rfl,hi,h0⟩:=fX.1 hx;rw[g.md i hi]at h0;obtain⟨h1,h2,h3⟩:=(hmF _).1 hy;unfold cJ at h0;rw[if_neg h3,if_pos h1]at h0
   split at h0<;>omega
  .intro x hx y hy e;subst e;exact(g.dt x hx).2 (kW.1 hy).1
  .intro x hx y hy e;subst e
   rcases aC.1 hx with hx|hx
   .obtain⟨i,rfl,hi,h0⟩:=fX.1 hx;rw[g.md i hi]at h0;unfold cJ at h0
    rcases aC.1 hy with hy|hy
    .rw[if_pos hy]at h0;omega
    .rw[if_pos (kW.1 hy).1]at h0
     split at h0
     .omega
     .split at h0<;>omega
   .obtain⟨h1,h2,h3⟩:=(hmF _).1 hx
    rcases aC.1 hy with hy|hy
    .exact(g.dt x hy).1 h1
    .exact h3 (kW.1 hy).1
 have hlen:=ui xX (Ku c.m.length) (λx=>by
  rw[GS,aC,aC,aC,fX,hmF,kW]
  constructor
  .rintro((⟨i,rfl,hi,_⟩|⟨h1,h2,_⟩)|(h|⟨h1,h2⟩))
   .omega
   .have:=g.ti x h1;omega
   .exact g.pi x h
   .have:=g.oi x h1;omega
  .rintro⟨h0,h1⟩
   by_cases a1:x∈c.parts
   .exact .inr (.inl a1)
   by_cases a2:x∈c.bX
   .exact .inr (.inr ⟨a2,h0⟩)
   by_cases a3:x∈c.table
   .exact .inl (.inr ⟨a3,h0,a2⟩)
   refine .inl (.inl ⟨x.toNat,by omega,by omega,?_⟩);rw[g.md _ (by omega),show((x.toNat:Nat):Int)=x by omega];unfold cJ;rw[if_neg a1,if_neg a2,if_neg a3])
 rw[xg,aU,aU,hKl,hFl]at hlen;refine⟨?_,by omega⟩;unfold St.free;show _=c.m.length-_-_;omega
variable{t:List Int}{x:Int}{c:C}{n k:Nat}
theorem xi{α β:Type}(f:α->β)(p:β->Bool)(q:α->Bool):∀(t:List α),(∀x∈t,p (f x)=q x)->(t.map f).findIdx p=t.findIdx q
 |[],_=>rfl
 |x::t,h=>by
  have h0:=h x (fY ..);have ih:=xi f p q t (λy hy=>h y (ax _ hy));rw[fN,JJ,JJ,h0,ih]
theorem Tr(h:iR t<t.length):t[iR t]?=some (-1):=by
 unfold iR Fm.de at h ⊢;have:=pL (p:=(· ==(-1:Int))) (xs:=t) (w:=h);rw[aL h];simpa using this
theorem nL{α:Type}(t:List α)(l:Nat)(u:α)(hl:l<=t.length)(i:Nat):(oP t l u)[i]?=if i=l then some u else t[i]?:=by
 unfold oP
 by_cases h:l=t.length
 .rw[if_pos h];subst h
  rcases Nat.lt_trichotomy i t.length with h1|rfl|h1
  .rw[if_neg (by omega),bF h1]
  .rw[if_pos rfl,dW (ak _)];simp
  .rw[if_neg (by omega),dW (by omega),gu (by simp;omega),gu (by omega)]
 .rw[if_neg h,iL]
  by_cases e:l=i
  .subst e;rw[if_pos rfl,if_pos (by omega),if_pos rfl]
  .rw[if_neg e,if_neg (by omega)]
theorem yz(t:List Int)(l:Nat)(u:Int):sE t l u=oP t l u:=rfl
theorem Ts{u:Int}(h0:0<=x):x∈sE t (iR t) u↔x=u\/x∈t:=by
 rw[yz];have hl:=y9 t
 constructor
 .intro hx;obtain⟨i,hi⟩:=kH hx;rw[nL t _ u hl]at hi
  split at hi
  .injection hi with hi;exact .inl hi.symm
  .exact .inr (ay hi)
 .rintro(rfl|hx)
  .have:=nL t _ x hl (iR t);rw[if_pos rfl]at this;exact ay this
  .obtain⟨i,hi⟩:=kH hx;have:=nL t _ u hl i;rw[if_neg]at this
   .exact ay (this.trans hi)
   .rintro rfl;have dH:iR t<t.length:=(aS.1 hi).1;rw[Tr dH]at hi;injection hi with hi
    omega
theorem Bu.sE(h:Bu t)(l:Nat)(u:Int)(hu:u∉t):Bu (sE t l u):=by
 unfold Sh.sE
 split
 .exact h.app u (.inr hu)
 .exact h.bE l u (.inr hu)
theorem Tt{α β:Type}(f:α->β)(t:List α)(l:Nat)(u:α):(oP t l u).map f=oP (t.map f) l (f u):=by
 unfold oP;rw[fo]
 split
 .simp
 .rw[qJ]
theorem Kv{α β:Type}(f g:α->β)(t:List α)(l:Nat)(u:β)(h:∀x∈t,f x=g x):oP (t.map f) l u=oP (t.map g) l u:=by
 rw[gy h]
theorem Tu(g:Good c n):(c.bR n).slot=iR c.table:=by
 unfold St.slot C.bR iR Fm.de;refine xi _ _ _ _ (λx hx=>?_);unfold C.cX
 rcases g.ti x hx with rfl|⟨h0,_⟩
 .simp
 .rw[if_neg (by omega)];simp;omega
theorem vD(g:Good c n)(hf:(c.bR n).free≠0):∃k:Nat,k<c.m.length/\cJ c k=0/\Fm.cR c.m=(c.m.set k 2,((k:Nat):Int),0):=by
 have hl:=(mB g).1;obtain⟨x,hx⟩:∃x,x∈Fm.gw c.m 0:=by
  cases h:Fm.gw c.m 0 with
  |nil=>rw[h]at hl;simp at hl;omega
  |cons x l=>exact⟨x,fY ..⟩
 obtain⟨i,rfl,hi,h0⟩:=fX.1 hx;have dH:Fm.de c.m 0<c.m.length:=by
  unfold Fm.de;rw[JK];refine⟨c.m[i],jJ hi,?_⟩;simp[List.getD,aL hi]at h0;simp[h0]
 refine⟨Fm.de c.m 0,dH,?_,by unfold Fm.cR;rw[if_pos dH]⟩;rw[<-g.md _ dH];have:=pL (p:=(· ==(0:Int))) (xs:=c.m) (w:=dH);simp[List.getD];unfold Fm.de at dH ⊢;rw[aL dH];simpa using this
theorem vE(g:Good c n)(hf:(c.bR n).free=0):Fm.cR c.m=(c.m,0,11):=by
 have hl:=(mB g).1;rw[hf]at hl;unfold Fm.cR;rw[if_neg];intro dH;have:=pL (p:=(· ==(0:Int))) (xs:=c.m) (w:=dH);have hm:((Fm.de c.m 0:Nat):Int)∈Fm.gw c.m 0:=fX.2 ⟨_,rfl,dH,by
  simp[List.getD];unfold Fm.de at dH ⊢;rw[aL dH];simpa using this⟩
 rw[lK hl]at hm;simp at hm
theorem GV(h:cJ c x=0):x∉c.parts/\x∉c.bX/\x∉c.table:=by
 unfold cJ at h
 split at h
 .omega
 .split at h
  .split at h<;>omega
  .split at h
   .omega
   .exact⟨by assumption,by assumption,by assumption⟩
theorem jS(g:Good c n)(h:k<c.m.length):k<cB n:=by
 have:=g.ml;unfold fi at this;omega
theorem sF{d:D}(h:d.Ok n)(id ep kd:Int)(s:List UInt8):(bs d n id ep kd s).1.Ok n:=by
 unfold bs
 split
 .exact h
 .split
  .exact h
  .exact yX h _ _ _
theorem zi(g:Good c n)(hk:k<c.m.length)(h0:cJ c k=0)(p:List UInt8)(hp:p.length<=232):
  (bs c.d n k (c.ep+1) 2 p).2=0/\∀d',d'=(bs c.d n k (c.ep+1) 2 p).1->d'.down=false/\d'.bt=0/\d'.Ok n/\d'.calls<=c.d.calls+4/\bu d' n k=(⟨k,c.ep+1,2,eP p 232⟩,0)/\
   (∀x∈c.table,0<=x->bu d' n x=bu c.d n x)/\∀x∈c.bX,0<=x->bu d' n x=bu c.d n x:=by
 have e:=g.ep;obtain⟨h1,h2,h3,h4,h5⟩:=mz g.ok g.up g.arm k (c.ep+1) 2 p (jS g hk) (by rw[oI];omega) hp;obtain⟨z1,z2,z3⟩:=GV h0;refine⟨h1,λd' hd=>?_⟩;subst hd;refine⟨h2,h3,sF g.ok _ _ _ _,(qT _ _ _ _ _ _ (by rw[g.arm];omega)).1,h4,λx hx ET=>?_,λx hx ET=>?_⟩
 .have:=g.ti x hx;have:=h5 x.toNat (jS g (by omega)) (λe=>z3 (by rw[<-e];rwa [show((x.toNat:Nat):Int)=x by omega]))
  rwa [show((x.toNat:Nat):Int)=x by omega]at this
 .have:=g.oi x hx;have:=h5 x.toNat (jS g (by omega)) (λe=>z2 (by rw[<-e];rwa [show((x.toNat:Nat):Int)=x by omega]))
  rwa [show((x.toNat:Nat):Int)=x by omega]at this
theorem pV(p:List UInt8)(h:p.length<=232):(eP p 232).length=232:=by unfold eP;simp;omega
theorem jT(l:List Int)(k:Nat)(x:Int)(i:Nat)(hi:i<l.length):(l.set k x).getD i 0=if k=i then x else l.getD i 0:=by
 simp only[List.getD,iL]
 by_cases h:k=i
 .subst h;simp[hi]
 .simp[h]
theorem new_ok{c:C}{n:Nat}(g:Good c n){k:Nat}(hk:k<c.m.length)(h0:cJ c k=0)(p:List UInt8)(hp:p.length<=232){d':D}(hd:d'=(bs c.d n k (c.ep+1) 2 p).1){c':C}(hc:c'={c with m:=c.m.set k 2,d:=d',table:=sE c.table (iR c.table) k}):
  Good c' n/\c'.bR n={c.bR n with now:=oP (c.bR n).now (iR c.table) (some (true,eP p 232))}:=by
 obtain⟨_,W⟩:=zi g hk h0 p hp;obtain⟨w1,w2,w3,w4,w5,w6,w7⟩:=W d' hd;obtain⟨z1,z2,z3⟩:=GV h0;have Gf:=g.ep;have mt:∀x,0<=x->(x∈c'.table↔x=k\/x∈c.table):=λx hx=>by subst hc;exact Ts hx
 have Bs:=y9 c.table;have Tv:∀x:Int,0<=x->cJ c' x=if x=k then 2 else cJ c x:=by
  intro x hx;unfold cJ
  by_cases e:x=k
  .rw[if_pos e];subst e;rw[if_neg (by subst hc;exact z1),if_neg (by subst hc;exact z2),if_pos ((mt _ hx).2 (.inl rfl))]
  .rw[if_neg e];have:(x∈c'.table)↔x∈c.table:=(mt x hx).trans ⟨λh=>h.resolve_left e,.inr⟩;rw[show c'.parts=c.parts from by rw[hc],show c'.bX=c.bX from by rw[hc]];simp only[this]
 refine⟨⟨by rw[hc];exact w1,by rw[hc];exact w2,by rw[hc];exact g.br,by rw[hc];exact w3,?_,by rw[hc];exact g.ep,by rw[hc];exact g.sl,?_,?_,?_,?_,by rw[hc];exact g.oj,by rw[hc];exact g.pj,?_,by rw[hc];exact g.pl,?_,?_,?_,?_⟩,?_⟩
 .rw[hc];show(c.m.set k 2).length=_;rw[bW];exact g.ml
 .intro x hx;have oh:c'.m.length=c.m.length:=by rw[hc];show(c.m.set k 2).length=_;rw[bW]
  rw[oh]
  by_cases h:0<=x
  .rcases(mt x h).1 hx with rfl|hx
   .omega
   .exact g.ti x hx
  .obtain⟨i,hi⟩:=kH hx;rw[hc]at hi;have hi:(sE c.table (iR c.table) k)[i]?=some x:=hi;rw[yz,nL _ _ _ Bs]at hi
   split at hi
   .injection hi with hi;omega
   .exact g.ti x (ay hi)
 .intro x hx;rw[hc]at hx ⊢;show _\/_/\x<((c.m.set k 2).length:Int);rw[bW];exact g.oi x hx
 .intro x hx;rw[hc]at hx ⊢;show _/\x<((c.m.set k 2).length:Int);rw[bW];exact g.pi x hx
 .rw[hc];exact g.tj.sE _ _ z3
 .intro x hx;have h:=g.dt x (by rw[hc]at hx;exact hx);have ET:=(g.pi x (by rw[hc]at hx;exact hx)).1;refine⟨λh1=>?_,by rw[hc];exact h.2⟩
  rcases(mt x ET).1 h1 with rfl|h1
  .rw[hc]at hx;exact z1 hx
  .exact h.1 h1
 .intro i x hi hx ho;rw[hc]at hi ho ⊢;have hi:(sE c.table (iR c.table) k)[i]?=some x:=hi;rw[yz,nL _ _ _ Bs]at hi
  split at hi
  .injection hi with hi
   subst hi;exact absurd ho z2
  .exact g.sm i x hi hx ho
 .intro i hi;have hi:i<c.m.length:=by rw[hc]at hi;simpa using hi
  rw[Tv i (by omega),<-g.md i hi,hc];show(c.m.set k 2).getD i 0=_;rw[jT _ _ _ _ hi]
  by_cases e:k=i
  .rw[if_pos e,if_pos (by omega)]
  .rw[if_neg e,if_neg (by omega)]
 .intro x hx ET
  rcases(mt x ET).1 hx with rfl|hx
  .rw[hc];exact⟨c.ep+1,_,by omega,jI _,pV p hp,w5⟩
  .obtain⟨q,s,q1,q2,q3,q4⟩:=g.rt x hx ET;rw[hc];exact⟨q,s,q1,q2,q3,(w6 x hx ET).trans q4⟩
 .intro x hx ET;rw[hc]at hx ⊢;obtain⟨q,s,q1,q2,q3,q4⟩:=g.ro x hx ET;exact⟨q,s,q1,q2,q3,(w7 x hx ET).trans q4⟩
 .rw[hc];unfold C.bR;simp only[bW,St.mk.injEq,true_and,and_true];refine⟨?_,?_⟩
  .rw[yz,Tt];have e1:C.cX {c with m:=c.m.set k 2,d:=d',table:=oP c.table (iR c.table) k} n (k:Int)=some (true,eP p 232):=by
    unfold C.cX;rw[if_neg (by omega)];simp only[w5];simp[z2]
   rw[e1];refine Kv _ _ _ _ _ (λx hx=>?_);unfold C.cX
   by_cases h:x<0
   .rw[if_pos h,if_pos h]
   .rw[if_neg h,if_neg h];simp only[w6 x hx (by omega)]
  .refine gy (λx hx=>?_)
   by_cases h:x<0
   .rw[if_pos h,if_pos h]
   .rw[if_neg h,if_neg h];simp only[w7 x hx (by omega)]
theorem Tw(g:Good c n)(p:List UInt8):
  Good (c.bV n p).1 n/\(c.bV n p).1.bR n=((c.bR n).bV p).1/\(c.bV n p).2=((c.bR n).bV p).2/\(c.bV n p).1.d.calls<=c.d.calls+4/\(c.bV n p).1.bX=c.bX/\(c.bV n p).1.parts=c.parts:=by
 unfold C.bV St.bV;rw[if_neg (by rw[g.br];simp),Tu g]
 by_cases h1:232<p.length
 .rw[if_pos h1,if_pos h1];exact⟨g,rfl,rfl,by show c.d.calls<=_;omega,rfl,rfl⟩
 rw[if_neg h1,if_neg h1]
 by_cases h2:512<=iR c.table
 .rw[if_pos h2,if_pos (.inl h2)];exact⟨g,rfl,rfl,by show c.d.calls<=_;omega,rfl,rfl⟩
 rw[if_neg h2]
 by_cases h3:(c.bR n).free=0
 .have ht:=vE g h3;have hf:c.ct n p=(c,0,11):=by
   unfold C.ct;rw[ht,if_pos (by simp)]
  rw[hf,if_pos (by simp),if_pos (.inr h3)];exact⟨g,rfl,rfl,by show c.d.calls<=_;omega,rfl,rfl⟩
 .obtain⟨k,hk,h0,ht⟩:=vD g h3;obtain⟨W0,W⟩:=zi g hk h0 p (by omega);have hf:c.ct n p=({c with m:=c.m.set k 2,d:=(bs c.d n k (c.ep+1) 2 p).1},(k:Int),0):=by
   unfold C.ct;rw[ht,if_neg (by simp),if_neg (by rw[W0];simp)]
  rw[hf,if_neg (by simp),if_neg (by omega)];obtain⟨G,e⟩:=new_ok g hk h0 p (by omega) rfl (c':={c with m:=c.m.set k 2,d:=(bs c.d n k (c.ep+1) 2 p).1,table:=sE c.table (iR c.table) k}) rfl;exact⟨G,e,rfl,(W _ rfl).2.2.2.1,rfl,rfl⟩
variable{c:C}{n:Nat}
theorem abs_at(l:Int):(c.bR n).at l=if 0<=l then((c.table[l.toNat]?).map (c.cX n)).getD none else none:=by
 unfold St.at C.bR;simp only[jr]
theorem yA(g:Good c n)(l:Int):(c.rI l=true↔((c.bR n).at l).isSome=true)/\(c.rI l=true->∃k x:Nat,l=k/\c.table[k]?=some (x:Int)/\(x:Int)<c.m.length/\(c.bR n).at l=c.cX n x):=by
 rw[abs_at];have key:c.rI l=true↔0<=l/\∃x,c.table[l.toNat]?=some x/\0<=x:=by
  unfold C.rI;simp only[im,decide_eq_true_eq]
  constructor
  .rintro⟨⟨h1,h2⟩,h3⟩;refine⟨h1,c.table.getD l.toNat 0,?_,h3⟩;rw[aL (by omega)];simp[List.getD,aL (show l.toNat<c.table.length by omega)]
  .rintro⟨h1,x,h2,h3⟩;have hl:l.toNat<c.table.length:=(aS.1 h2).1;refine⟨⟨h1,by omega⟩,?_⟩;simp[List.getD,h2];exact h3
 rw[key]
 constructor
 .constructor
  .rintro⟨h1,x,h2,h3⟩;rw[if_pos h1,h2];simp[C.cX];omega
  .intro h
   by_cases h1:0<=l
   .rw[if_pos h1]at h;refine⟨h1,?_⟩
    cases h2:c.table[l.toNat]? with
    |none=>rw[h2]at h;simp at h
    |some x=>
     refine⟨x,rfl,?_⟩;rw[h2]at h;simp[C.cX]at h;omega
   .rw[if_neg h1]at h;simp at h
 .rintro⟨h1,x,h2,h3⟩;have:=g.ti x (ay h2);obtain⟨xn,rfl⟩:=eT h3;refine⟨l.toNat,xn,by omega,h2,by omega,?_⟩;rw[if_pos h1,h2];rfl
theorem zj(g:Good c n)(l:Int):c.jM l=if c.rI l=true then 0 else 3:=by
 unfold C.jM;rw[if_neg (by rw[g.br];simp)]
theorem vF(g:Good c n)(l:Int):c.aP n l=(c.bR n).aP l:=by
 obtain⟨h1,h2⟩:=yA g l;unfold C.aP St.aP;rw[zj g]
 by_cases hh:c.rI l=true
 .obtain⟨k,x,rfl,hk,hx,e⟩:=h2 hh;rw[if_pos hh,if_neg (by simp),e];obtain⟨q,s,q1,q2,q3,q4⟩:=g.rt x (ay hk) (by omega);have e2:c.table.getD ((k:Nat):Int).toNat 0=(x:Int):=by rw[show((k:Nat):Int).toNat=k by omega];simp[List.getD,hk]
  rw[e2,q4,if_neg (by simp)];unfold C.cX;rw[if_neg (by omega),q4]
 .rw[if_neg hh,if_pos (by simp)];have:((c.bR n).at l)=none:=by
   cases h:(c.bR n).at l with
   |none=>rfl
   |some v=>exact absurd (h1.2 (by rw[h];rfl)) hh
  rw[this]
theorem GW(g:Good c n){l:Int}(h:((c.bR n).aP l).2=0):((c.bR n).aP l).1.length=232:=by
 obtain⟨h1,h2⟩:=yA g l
 by_cases hh:c.rI l=true
 .obtain⟨k,x,rfl,hk,hx,e⟩:=h2 hh;obtain⟨q,s,q1,q2,q3,q4⟩:=g.rt x (ay hk) (by omega);unfold St.aP;rw[e];unfold C.cX;rw[if_neg (by omega),q4];exact q3
 .have:((c.bR n).at l)=none:=by
   cases h:(c.bR n).at l with
   |none=>rfl
   |some v=>exact absurd (h1.2 (by rw[h];rfl)) hh
  unfold St.aP at h;rw[this]at h;simp at h
theorem PM(g:Good c n)(l:Int):
  Good (c.aV l).1 n/\(c.aV l).1.bR n=((c.bR n).aV l).1/\(c.aV l).2=((c.bR n).aV l).2/\(c.aV l).1.d=c.d/\(c.aV l).1.bX=c.bX/\(c.aV l).1.parts=c.parts:=by
 obtain⟨h1,h2⟩:=yA g l;unfold C.aV St.aV;rw[zj g]
 by_cases hh:c.rI l=true
 .obtain⟨k,x,rfl,hk,hx,e⟩:=h2 hh;have e2:c.table.getD ((k:Nat):Int).toNat 0=(x:Int):=by rw[show((k:Nat):Int).toNat=k by omega];simp[List.getD,hk]
  have hxt:=ay hk;have hxp:(x:Int)∉c.parts:=λh=>(g.dt _ h).1 hxt;rw[if_pos hh,if_neg (by simp),if_pos (h1.1 hh),e2,show((k:Nat):Int).toNat=k by omega];have Gs:x<c.m.length:=by omega
  have pH:Fm.BF c.m (x:Int)=true:=by unfold Fm.BF;simp;omega
  have hkx:=g.md x Gs;obtain⟨u,hu,hu2⟩:∃u,(Fm.dD c.m (x:Int)).1=c.m.set x u/\u=if(x:Int)∈c.bX then 3 else 0:=by
   unfold Fm.dD;rw[if_pos pH,show((x:Nat):Int).toNat=x by omega,hkx];unfold cJ;rw[if_neg hxp]
   by_cases ho:(x:Int)∈c.bX
   .rw[if_pos ho,if_pos hxt,if_neg (by omega),if_pos rfl];exact⟨3,rfl,by rw[if_pos ho]⟩
   .rw[if_neg ho,if_pos hxt,if_pos rfl];exact⟨0,rfl,by rw[if_neg ho]⟩
  obtain⟨c',hc⟩:∃c':C,c'={c with m:=(Fm.dD c.m (x:Int)).1,table:=c.table.set k (-1)}:=⟨_,rfl⟩;have oh:c'.m.length=c.m.length:=by rw[hc];show(Fm.dD c.m (x:Int)).1.length=_;rw[hu,bW]
  have mt:∀z,0<=z->(z∈c'.table↔z∈c.table/\z≠x):=λz hz=>by rw[hc];exact GU g.tj hk (-1) hz (by omega) (by omega)
  have lW:∀z∈c'.table,0<=z->z∈c.table:=λz hz h0=>((mt z h0).1 hz).1;have Tv:∀z:Int,0<=z->cJ c' z=if z=x then u else cJ c z:=by
   intro z hz;unfold cJ;have e3:c'.parts=c.parts:=by rw[hc]
   have e4:c'.bX=c.bX:=by rw[hc]
   rw[e3,e4]
   by_cases e:z=x
   .rw[if_pos e];subst e;rw[if_neg hxp,hu2];have:(x:Int)∉c'.table:=λh=>((mt _ hz).1 h).2 rfl;simp only[this,if_false]
   .rw[if_neg e];have:(z∈c'.table)↔z∈c.table:=(mt z hz).trans ⟨λh=>h.1,λh=>⟨h,e⟩⟩;simp only[this]
  show Good {c with m:=(Fm.dD c.m (x:Int)).1,table:=c.table.set k (-1)} n/\_;refine⟨?_,?_,rfl,rfl,rfl,rfl⟩
  .rw[<-hc];refine⟨by rw[hc];exact g.up,by rw[hc];exact g.arm,by rw[hc];exact g.br,by rw[hc];exact g.ok,oh.trans g.ml,by rw[hc];exact g.ep,by rw[hc];exact g.sl,?_,by rw[oh,hc];exact g.oi,by rw[oh,hc];exact g.pi,by rw[hc];exact g.tj.bE k (-1) (.inl (by omega)),by rw[hc];exact g.oj,by rw[hc];exact g.pj,?_,by rw[hc];exact g.pl,?_,?_,?_,by rw[hc];exact g.ro⟩
   .intro z hz;rw[oh]
    by_cases h0:0<=z
    .exact g.ti z (lW z hz h0)
    .rw[hc]at hz
     rcases yh hz with hz|rfl
     .exact g.ti z hz
     .exact .inl rfl
   .intro z hz;have hz':z∈c.parts:=by rw[hc]at hz;exact hz
    exact⟨λh=>(g.dt z hz').1 (lW z h (g.pi z hz').1),by rw[hc];exact(g.dt z hz').2⟩
   .intro i z hi hz ho;rw[hc]at hi ho ⊢;have hi:(c.table.set k (-1))[i]?=some z:=hi;rw[iL]at hi
    split at hi
    .split at hi
     .injection hi with hi;omega
     .cases hi
    .exact g.sm i z hi hz ho
   .intro i hi;rw[oh]at hi;rw[Tv i (by omega),<-g.md i hi];have:c'.m=c.m.set x u:=by rw[hc];exact hu
    rw[this,jT _ _ _ _ hi]
    by_cases e:x=i
    .rw[if_pos e,if_pos (by omega)]
    .rw[if_neg e,if_neg (by omega)]
   .intro z hz h0;rw[hc];rw[hc]at hz;exact g.rt z (lW z (by rw[hc];exact hz) h0) h0
  .unfold C.bR;simp only[hu,bW,St.mk.injEq,true_and,and_true];rw[qJ];rfl
 .have:((c.bR n).at l)=none:=by
   cases h:(c.bR n).at l with
   |none=>rfl
   |some v=>exact absurd (h1.2 (by rw[h];rfl)) hh
  rw[if_neg hh,if_pos (by simp),this,if_neg (by simp)];exact⟨g,rfl,rfl,rfl,rfl,rfl⟩
def sG(t:List (Option (Bool×List UInt8))):Nat->List Int
 |0=>[]
 |k+1=>sG t k++if((t[k]?).getD none).isSome then [(k:Int)]else []
theorem NA :∀k,k<=c.table.length->yc c.table k=sG (c.bR n).now k
 |0,_=>rfl
 |k+1,h=>by
  unfold yc sG;rw[NA k (by omega)]
  congr 1
  unfold C.bR;simp only[jr,aL (show k<c.table.length by omega),List.getD,kU,jc,C.cX]
  by_cases h0:c.table[k]<0
  .rw[if_pos h0,if_neg (by omega)];rfl
  .rw[if_neg h0,if_pos (by omega)];rfl
def St.lr(a:St):List Int:=sG a.now a.now.length
theorem xj(t:List (Option (Bool×List UInt8))):∀k,k<=t.length->(sG t k).length=(t.take k).countP Option.isSome
 |0,_=>rfl
 |k+1,h=>by
  unfold sG;rw[aU,xj t k (by omega),gC (by omega),r7,aL (by omega)];simp only[jc]
  cases t[k]<;>simp
theorem slot_le(a:St):a.slot<=a.now.length:=oo
theorem PN(a:St):a.at (a.slot:Nat)=none:=by
 unfold St.at;rw[if_pos (by omega),show(((a.slot:Nat):Int)).toNat=a.slot by omega]
 rcases eR a.slot a.now.length with h|h
 .have:=pL (p:=Option.isNone) (xs:=a.now) (w:=h);unfold St.slot at h ⊢;rw[aL h];simpa using this
 .rw[gu h];rfl
theorem PO(d:D)(h:d.bt<=9223372036854775807):d.et.1.calls<=d.calls+1/\d.et.1.bt<=9223372036854775807:=by
 have:=vy d h;unfold D.et
 split
 .exact⟨by show d.calls<=_;omega,h⟩
 .split
  .exact⟨by show d.cN.1.calls<=_;omega,this.2⟩
  .exact⟨by omega,this.2⟩
theorem Kw(n:Nat)(h1:1<=fi n)(hn:n<=4096)(fu:(eu (D.zero n) n).d.Ok n):Good (eu (D.zero n) n) n/\(eu (D.zero n) n).bR n={many:=fi n,now:=[],bX:=[],ep:=1}/\(eu (D.zero n) n).d.calls<=10:=by
 have hk:2<=n:=by unfold fi cB at h1;omega
 have z:(D.zero n).down=false/\(D.zero n).bt=0/\(D.zero n).calls=0:=⟨rfl,rfl,rfl⟩;obtain⟨w1,w2,w3⟩:=iP (d:=D.zero n) (n:=n) (k:=0) z.1 z.2.1 (by omega) fF;obtain⟨v1,v2,v3⟩:=iP (d:=((D.zero n).aD n (0:Nat) fF).1) (n:=n) (k:=1) w2 w3 (by omega) [];obtain⟨s1,s2,s3,_⟩:=nK v2 v3;have c1:=jh (D.zero n) n 0 fF (by show(0:Int)<=_;omega);have c2:=jh ((D.zero n).aD n 0 fF).1 n 1 [] c1.2;have hc:(eu (D.zero n) n).d.calls<=10:=by
  show(((D.zero n).aD n 0 fF).1.aD n 1 []).1.et.1.calls<=10;have c3:=(PO ((((D.zero n).aD n 0 fF).1.aD n 1 []).1) c2.2).1;have:=c1.1;have:=c2.1;omega
 refine⟨⟨s2,s3,rfl,fu,by simp[eu],by simp[eu],.inl rfl,by simp[eu],by simp[eu],by simp[eu],by simp[eu,Bu],by simp[eu,Bu],by simp[eu,Bu],by simp[eu],by simp[eu,cM],by simp[eu],?_,by simp[eu],by simp[eu]⟩,?_,hc⟩
 .intro i hi;simp[eu]at hi;unfold cJ eu;simp[List.getD,hi]
 .unfold C.bR eu;simp
def St.start(lr:Nat):St:={many:=lr,now:=[],bX:=[],ep:=1}
end Sh
namespace Rt
open Go.RowKit Pk
attribute [local go_sem ↓] Go.wp_at_zero Go.wp_at_succ
def bS(b:List UInt8)(k:Nat):Nat:=(b.getD k 0).toNat*256+(b.getD (k+1) 0).toNat
end Rt
namespace Rt
open Go.RowKit Pk
theorem Ez(N:Nat)(h:N<18446744073709551616):pG (vr N)=N:=by
 have e:vr N=[UInt8.ofNat (N / 72057594037927936),UInt8.ofNat (N / 281474976710656),UInt8.ofNat (N / 1099511627776),UInt8.ofNat (N / 4294967296),UInt8.ofNat (N / 16777216),UInt8.ofNat (N / 65536),UInt8.ofNat (N / 256),UInt8.ofNat (N / 1)]:=rfl;rw[e];simp only[pG,yH,JL,je];omega
theorem kn(ep:Int):(fE ep).length=8:=by unfold fE vr;rw[oH]
theorem Kx(ep:Int)(h0:0<=ep)(h1:ep<=1099511627776):(pG (fE ep):Int)-9223372036854775808=ep:=by
 unfold fE;rw[Ez _ (by omega)];omega
theorem GX(l:List Nat):(l.flatMap eS).length=2*l.length:=by
 induction l with
 |nil=>rfl
 |cons a l ih=>rw[gW,aU,ih];simp[eS];omega
theorem pW(lg:Nat)(l:List Nat)(h:l.length<=5):(nm lg l).length=44:=by
 unfold nm;simp only[aU,GX,ez];simp[eS];omega
theorem xm(m:List UInt8):(jy.bH m).length=m.length+4:=by unfold jy.bH;simp[jy.jl]
theorem drop2(a:Nat)(r:List UInt8):(eS a++r).drop 2=r:=rfl
theorem drop4(a b:Nat)(r:List UInt8):(eS a++(eS b++r)).drop 4=r:=rfl
theorem vG(n:Nat)(h:n<65536)(r:List UInt8):bS (eS n++r) 0=n:=by
 unfold bS eS;simp only[lI,cW,List.getD_cons_zero,List.getD_cons_succ,je];omega
theorem zk(b:List UInt8)(j k:Nat):bS b (j+k)=bS (b.drop j) k:=by
 unfold bS;simp only[gH,gI,Nat.add_assoc]
theorem Tx(l:List Nat)(r:List UInt8)(i:Nat)(h:i<l.length)(hs:∀x∈l,x<65536):bS (l.flatMap eS++r) (2*i)=l[i]:=by
 induction l generalizing i with
 |nil=>simp at h
 |cons a l ih=>
  cases i with
  |zero=>
   rw[gW,cr,tT,vG a (hs a (by simp))];rfl
  |succ i=>
   rw[show 2*(i+1)=2+2*i by omega,zk];have hd:((a::l).flatMap eS++r).drop 2=l.flatMap eS++r:=by rw[gW];rfl
   rw[hd,ih i (by simpa using h) (λx hx=>hs x (ax _ hx))];rfl
def pX(v:List UInt8):Int:=(pG (v.take 8):Int)-9223372036854775808
def EU(v:List UInt8):List UInt8:=(v.drop 12).take 44
def decP(v:List UInt8):List Nat:=(List.range (bS (EU v) 2)).map λi=>bS (EU v) (4+2*i)
def goodR(v:List UInt8):Prop:=bS (EU v) 2<=5/\gK (pX v) (bS (EU v) 0:Nat) (dr (decP v))/\eX (pX v) (bS (EU v) 0) (decP v)=v
theorem zm(ep:Int)(lg:Nat)(l:List Nat):(eX ep lg l).take 8=fE ep:=by
 unfold eX;rw[cr,lT (by rw[kn];exact ak _),cy (by rw[kn];exact ak _)]
theorem xo(ep:Int)(lg:Nat)(l:List Nat):(eX ep lg l).drop 8=jy.bH (nm lg l)++fE ep:=by
 unfold eX;rw[cr,r9 (by rw[kn];exact ak _),DX (by rw[kn];exact ak _),cW]
theorem Ky(ep:Int)(lg:Nat)(l:List Nat)(h:l.length<=5):(eX ep lg l).drop 56=fE ep:=by
 have h2:(jy.bH (nm lg l)).length=48:=by rw[xm,pW _ _ h]
 rw[show 56=8+48 by rfl,<-iK,xo,r9 (by omega),DX (by omega),cW]
theorem uj(ep:Int)(lg:Nat)(l:List Nat)(h:l.length<=5):(eX ep lg l).length=64:=by
 unfold eX;simp only[aU,kn,xm,pW _ _ h]
theorem vH(ep:Int)(lg:Nat)(l:List Nat)(h:l.length<=5):EU (eX ep lg l)=nm lg l:=by
 unfold EU;rw[show 12=8+4 by rfl,<-iK,xo];unfold jy.bH;have hm:=pW lg l h;have hf:∀n,(jy.jl n).length=4:=λn=>by simp[jy.jl]
 rw[cr,r9 (by rw[hf];exact ak _),DX (by rw[hf];exact ak _),cW,lT (by omega),cy (by omega)]
theorem Ty(ep:Int)(lg:Nat)(l:List Nat)(hr:gK ep lg (dr l)):pX (eX ep lg l)=ep/\bS (EU (eX ep lg l)) 0=lg/\bS (EU (eX ep lg l)) 2=l.length/\decP (eX ep lg l)=l:=by
 have h5:l.length<=5:=by have:=kK hr;simpa [dr]using this
 have Gf:=hr.1;have hlg:lg<=512:=by have:=hr.2.2.2.1;omega
 have hs:∀x∈l++List.replicate (5-l.length) 0,x<65536:=by
  intro x hx
  rcases aC.1 hx with hx|hx
  .obtain⟨i,hi,rfl⟩:=oq hx;have h1:=hr.2.2.2.2.2 i ((l[i]:Nat):Int) (by simp[dr];exact⟨l[i],aL hi,rfl⟩);omega
  .have:=om hx;omega
 have h2:bS (nm lg l) 2=l.length:=by
  unfold nm;rw[show(2:Nat)=2+0 by rfl,zk,cr,cr,drop2];exact vG _ (by omega) _
 have h4:∀i,i<l.length->bS (nm lg l) (4+2*i)=l.getD i 0:=by
  intro i hi;unfold nm;rw[zk,cr,cr,drop4,Tx _ _ i (by rw[aU];omega) hs,List.getElem_append_left hi,gH,aL hi];rfl
 refine⟨?_,?_,?_,?_⟩
 .unfold pX;rw[zm];exact Kx ep (by omega) hr.2.1
 .rw[vH _ _ _ h5];unfold nm;rw[cr,cr];exact vG lg (by omega) _
 .rw[vH _ _ _ h5,h2]
 .unfold decP;rw[vH _ _ _ h5,h2];apply vg (by simp);intro i h1 h3;simp only[fo,Eb]at h1;rw[JN,yJ,h4 i h1,gH,aL h1];rfl
attribute [local go_sem ↓] Go.wp_at_zero Go.wp_at_succ
variable{w:World}
def uk(x:Int):Nat:=(max x (-1)+1).toNat
def iB(l:List Int):List UInt8:=(l.map uk).flatMap eS
def gj(l:List Int)(p:Nat):List Int:=(l.drop (116*p)).take 116
theorem pY(l:List Int)(p:Nat):(gj l p).length=min 116 (l.length-116*p):=by simp[gj]
theorem Tz(l:List Int)(p i:Nat)(h:i<116):(gj l p)[i]?=l[116*p+i]?:=by
 unfold gj;rw[pM,if_pos h,gI]
theorem CB{ad:Addr}{n m p i:Nat}{l:List Int}(h:js w (some ad) n l)(hm1:m<=116)(Kc:116*p+m<=n)(hi:i<m):
  ∃x,w.cell? ((ad.add (p*116)).add i)=some (.int .i64 x)/\(gj l p).take (i+1)=(gj l p).take i++[x]/\iB ((gj l p).take (i+1))=iB ((gj l p).take i)++eS (uk x)/\x∈gj l p:=by
 obtain⟨ad',x,e,hx,ck⟩:=h.at (116*p+i) (by omega)
 cases e
 have hl:=h.1;have hg:(gj l p)[i]?=some x:=by rw[Tz _ _ _ (by omega)];exact hx
 obtain⟨dH,Jn⟩:=aS.1 hg;have ht:(gj l p).take (i+1)=(gj l p).take i++[x]:=by rw[gC dH,Jn]
 refine⟨x,?_,ht,?_,ay hg⟩
 .rw[JR,show p*116+i=116*p+i by omega];exact ck
 .rw[ht];unfold iB;rw[dA,sr];simp
theorem GY(A:Option Addr)(n c:Nat)(l:List Int)(h:js w A n l)(hn:n<=1000000)(Gq:n<=c)(p:Nat)(hp:116*p<n):
  Calls prog 198 #[.slice A n c,.int .i64 (p:Nat)] w λe w'=>(((∃x∈gj l p,1023<x)/\e=.returned (.tuple #[.string ⟨#[]⟩,.int .i64 2]))\/((∀x∈gj l p,x<=1023)/\e=.returned (.tuple #[.string ⟨(iB (gj l p)).toArray⟩,.int .i64 0])))/\Below w.heap.size w w':=by
 have hneed:(p:Int)<ll n:=by unfold ll;omega
 have h1:¬(p:Int)<0:=by omega
 have h2:¬(p:Int)≥ll n:=by omega
 have h2b:¬ll n<=(p:Int):=by omega
 have KN:=xh (y8 (n:Int) (by omega) w);have HL:=xh h.1;have HI:=xh h;obtain⟨ad,x0,rfl,_,_⟩:=h.at 0 (by omega);obtain⟨m,hm⟩:∃m,m=min 116 (n-116*p):=⟨_,rfl⟩;have HM:=xh hm;have hm1:m<=116:=by omega
 have Kc:116*p+m<=n:=by omega
 clear h hm;generalize ll n=nd at *;have e1:IntKind.i64.wrap ((p:Int)*116)=(p:Int)*116:=IntWalk.i64_in _ (by omega);have e2:IntKind.i64.wrap ((p:Int)+1)=(p:Int)+1:=IntWalk.i64_in _ (by omega);have e3:IntKind.i64.wrap (((p:Int)+1)*116)=((p:Int)+1)*116:=IntWalk.i64_in _ (by omega);go_enter func198,ntmps198;go_wp2_with fail;refine KN.o.mono ?_;rintro e w1 ⟨rfl,bf⟩;have O1:=xh bf;clear bf KN;go_wp2_with fail
 .rw[show n-p*116=m from by have:=HM.o;omega]
  go_loopw [6,29] (λbv iv wr=> ∃i:Nat,i<=m/\iv=.int .i64 i/\aT wr 5 1 bv (2*i) (dI (iB ((gj l p).take i)))/\Hid (∀x∈(gj l p).take i,x<=1023)/\Below w.heap.size w wr/\Hid (∀g∈ai bv,w.heap.size<=g)) (λ_ iv _=>m-(intOf iv).toNat)
  case atStart=>exact⟨0,aY _,rfl,aT.nil _ _ _,xh (by simp),O1.o,xh (by simp[ai])⟩
  case round=>
   obtain⟨i,hi,rfl,S,GD,O,F⟩:=hrel
   by_cases h':i<m
   .obtain⟨x,ck,ht,hp2,KK⟩:=CB (HI.o.below O) hm1 Kc h';have OO:=xh O;have HT:=xh ht;have HP:=xh hp2;have HX:=xh KK;clear O ht hp2 KK;have hiI:(i:Int)<(m:Int):=by omega
    by_cases hx:1023<x
    .go_wp2_with fail;go_ret2;exact⟨.inl ⟨⟨x,HX.o,hx⟩,rfl⟩,OO.o⟩
    .obtain⟨BA,bc,rfl⟩:=au S;have KT:=xh (eZ _ (2*i) _ S (uk x) (by unfold uk;omega) (by omega));have G2:=xh (show ∀y∈(gj l p).take (i+1),y<=1023 from by
      rw[HT.o];intro y hy
      rcases aC.1 hy with hy|hy
      .exact GD.o y hy
      .simp at hy;omega)
     clear S
     by_cases EV:x< -1
     .rw[show((uk x:Nat):Int)=0 from by unfold uk;omega]at KT;go_wp2_with fail;refine KT.o.mono ?_;rintro e w2 ⟨⟨v2,rfl,S2,fr⟩,ow⟩;rw[<-HP.o]at S2;have S2:=xh S2;have O2:=xh (OO.o.trans (ow.aI OO.o.size F.o));have F2:=xh (show ∀g∈ai v2,w.heap.size<=g from λg hg=>(fr g hg).elim (F.o g) (λh=>ar OO.o.size h));clear fr ow;go_wp2_with fail;go_roundw
      case rel=>exact⟨i+1,by omega,by go_num,S2.o,G2,O2.o,F2⟩
      case measure=>simp[intOf];omega
     .rw[show((uk x:Nat):Int)=x+1 from by unfold uk;omega]at KT;go_wp2_with fail;refine KT.o.mono ?_;rintro e w2 ⟨⟨v2,rfl,S2,fr⟩,ow⟩;rw[<-HP.o]at S2;have S2:=xh S2;have O2:=xh (OO.o.trans (ow.aI OO.o.size F.o));have F2:=xh (show ∀g∈ai v2,w.heap.size<=g from λg hg=>(fr g hg).elim (F.o g) (λh=>ar OO.o.size h));clear fr ow;go_wp2_with fail;go_roundw
      case rel=>exact⟨i+1,by omega,by go_num,S2.o,G2,O2.o,F2⟩
      case measure=>simp[intOf];omega
   .obtain rfl:i=m:=by omega
    have EW:(gj l p).take i=gj l p:=cy (by rw[pY,HL.o];have:=HM.o;omega);rw[EW]at S;have G2:=xh (show ∀y∈gj l p,y<=1023 from by have:=GD.o;rwa [EW]at this);obtain⟨g,cap,rest,rfl,B,hc,_⟩:=S.form (by have:=HM.o;omega) (by omega)
    have ST:=xh (cg (P:=prog) wr 150 9 5 underlying150 underlying5 underlying9 ⟨g,0,none⟩ (2*i) cap (iB (gj l p)) (by have:=S.1;simpa using this) (bq B 0 _ (by intro j u hu;rw[bg];exact bF (aS.1 hu).1▸hu)));have OO:=xh O;clear O S B EW;go_wp2_with fail;rw[ST.o];go_wp2_with fail;go_ret2;exact⟨.inr ⟨G2.o,rfl⟩,OO.o⟩
 .rw[show((((p:Int)+1)*116).toNat-p*116)=m from by have:=HM.o;omega]
  go_loopw [6,29] (λbv iv wr=> ∃i:Nat,i<=m/\iv=.int .i64 i/\aT wr 5 1 bv (2*i) (dI (iB ((gj l p).take i)))/\Hid (∀x∈(gj l p).take i,x<=1023)/\Below w.heap.size w wr/\Hid (∀g∈ai bv,w.heap.size<=g)) (λ_ iv _=>m-(intOf iv).toNat)
  case atStart=>exact⟨0,aY _,rfl,aT.nil _ _ _,xh (by simp),O1.o,xh (by simp[ai])⟩
  case round=>
   obtain⟨i,hi,rfl,S,GD,O,F⟩:=hrel
   by_cases h':i<m
   .obtain⟨x,ck,ht,hp2,KK⟩:=CB (HI.o.below O) hm1 Kc h';have OO:=xh O;have HT:=xh ht;have HP:=xh hp2;have HX:=xh KK;clear O ht hp2 KK;have hiI:(i:Int)<(m:Int):=by omega
    by_cases hx:1023<x
    .go_wp2_with fail;go_ret2;exact⟨.inl ⟨⟨x,HX.o,hx⟩,rfl⟩,OO.o⟩
    .obtain⟨BA,bc,rfl⟩:=au S;have KT:=xh (eZ _ (2*i) _ S (uk x) (by unfold uk;omega) (by omega));have G2:=xh (show ∀y∈(gj l p).take (i+1),y<=1023 from by
      rw[HT.o];intro y hy
      rcases aC.1 hy with hy|hy
      .exact GD.o y hy
      .simp at hy;omega)
     clear S
     by_cases EV:x< -1
     .rw[show((uk x:Nat):Int)=0 from by unfold uk;omega]at KT;go_wp2_with fail;refine KT.o.mono ?_;rintro e w2 ⟨⟨v2,rfl,S2,fr⟩,ow⟩;rw[<-HP.o]at S2;have S2:=xh S2;have O2:=xh (OO.o.trans (ow.aI OO.o.size F.o));have F2:=xh (show ∀g∈ai v2,w.heap.size<=g from λg hg=>(fr g hg).elim (F.o g) (λh=>ar OO.o.size h));clear fr ow;go_wp2_with fail;go_roundw
      case rel=>exact⟨i+1,by omega,by go_num,S2.o,G2,O2.o,F2⟩
      case measure=>simp[intOf];omega
     .rw[show((uk x:Nat):Int)=x+1 from by unfold uk;omega]at KT;go_wp2_with fail;refine KT.o.mono ?_;rintro e w2 ⟨⟨v2,rfl,S2,fr⟩,ow⟩;rw[<-HP.o]at S2;have S2:=xh S2;have O2:=xh (OO.o.trans (ow.aI OO.o.size F.o));have F2:=xh (show ∀g∈ai v2,w.heap.size<=g from λg hg=>(fr g hg).elim (F.o g) (λh=>ar OO.o.size h));clear fr ow;go_wp2_with fail;go_roundw
      case rel=>exact⟨i+1,by omega,by go_num,S2.o,G2,O2.o,F2⟩
      case measure=>simp[intOf];omega
   .obtain rfl:i=m:=by omega
    have EW:(gj l p).take i=gj l p:=cy (by rw[pY,HL.o];have:=HM.o;omega);rw[EW]at S;have G2:=xh (show ∀y∈gj l p,y<=1023 from by have:=GD.o;rwa [EW]at this);obtain⟨g,cap,rest,rfl,B,hc,_⟩:=S.form (by have:=HM.o;omega) (by omega)
    have ST:=xh (cg (P:=prog) wr 150 9 5 underlying150 underlying5 underlying9 ⟨g,0,none⟩ (2*i) cap (iB (gj l p)) (by have:=S.1;simpa using this) (bq B 0 _ (by intro j u hu;rw[bg];exact bF (aS.1 hu).1▸hu)));have OO:=xh O;clear O S B EW;go_wp2_with fail;rw[ST.o];go_wp2_with fail;go_ret2;exact⟨.inr ⟨G2.o,rfl⟩,OO.o⟩
attribute [local go_sem ↓] bz
def nvs(l:List Int):List Value:=l.map (Value.int .i64)
@[simp] theorem nvs_length(l:List Int):(nvs l).length=l.length:=by simp[nvs]
def dK(T:List UInt8)(m:Nat):List Int:=(List.range m).map λj=>(bS T (2*j):Int)-1
@[simp] theorem getF_length(T:List UInt8)(m:Nat):(dK T m).length=m:=by simp[dK]
end Rt
namespace Sh
open Go.RowKit Pk Dk Pg
attribute [local go_sem ↓] Go.wp_at_zero Go.wp_at_succ bz
variable{w:World}
theorem GZ{v:Value}{l:List Int}(S:Sl w 3 v l.length (dm l))(hl:l.length<=100000):
  Calls prog 85 #[v] w λe w'=> ∃v',e=.returned v'/\Sl w' 3 v' l.length (dm l)/\Below w.heap.size w w'/\∀g∈cw v',w.heap.size<=g:=by
 obtain⟨A,c,rfl,hc⟩:=S.val;have O0:=ae (Below.refl w.heap.size w) (.cells #[] 3);have E0:Sl (w.alloc (.cells #[] 3)) 3 (.slice (some ⟨w.heap.size,0,none⟩) 0 0) 0 (dm []):=⟨rfl,.inl ⟨_,rfl,rfl⟩⟩;have HN:∀j u,(dm l)[j]?=some u->∃a,A=some a/\(w.alloc (.cells #[] 3)).cell? (a.add j)=some u:=by
  intro j u hu;have hj:j<l.length:=by have:=(aS.1 hu).1;simpa using this
  obtain⟨g,cap,rest,hv,B,_,_⟩:=(S.alloc (.cells #[] 3)).form (by omega);injection hv with e1 e2 e3
  subst e1;exact⟨_,rfl,bq B 0 _ (by intro i v hi;rw[bg];exact bF (aS.1 hi).1▸hi) j u hu⟩
 obtain⟨v1,w1,ea,S1,o1,f1⟩:=Cj (P:=prog) E0 60 60 (.int .i64 0) 8 underlying60 ji rfl A l.length c (dm l) (by simp) HN (Tc l) (by unfold maxLen;omega) (by omega);rw[bg,<-gi,cW]at S1
 have H1:=xh (show Sl w1 3 v1 l.length (dm l)/\Below w.heap.size w w1/\∀g∈cw v1,w.heap.size<=g from⟨S1,O0.trans (o1.aI (by simp) (λx hx=>by simp[cw]at hx)),λg hg=>(f1 g hg).elim (λh=>by simp[cw]at h) (λh=>by simp at h;omega)⟩);have EA:=xh ea;have HS:=xh S;clear ea S1 o1 f1 HN E0 O0
 cases A with
 |none=>
  have HE:=Lib.run_eql_slice_nil (P:=prog) w 60 3 none 0 0 0 0 underlying60;have h0:l.length=0:=by
   rcases S.2 with⟨A',e,h0⟩|⟨g,cap,rest,e,_⟩
   .exact h0
   .cases e
  have EL:c=0:=by
   rcases S.2 with⟨A',e,_⟩|⟨g,cap,rest,e,_⟩
   .injection e
   .cases e
  subst EL;have GK:l=[]:=lK h0;subst GK;clear S;go_enter func85,ntmps85;go_wp2_with fail;go_ret;exact⟨.slice none 0 0,by first|rfl|simp,Sl.nil _ _,Below.refl _ _,by simp[cw]⟩
 |some a=>
  have HE:=Lib.run_eql_slice_nil (P:=prog) w 60 3 (some a) l.length c 0 0 underlying60;clear S;go_enter func85,ntmps85;go_wp2_with fail;rw[EA.o];go_wp2_with fail;go_ret;exact⟨v1,by first|rfl|simp,H1.o⟩
def C.aD(c:C)(n:Nat)(l:Int)(p:List UInt8):C×Int:=
 if c.broken=true then(c,13)
 else if 232<p.length then(c,4)
 else if c.jM l≠0 then(c,c.jM l)
 else if Fm.ct c.m (c.table.getD l.toNat 0)=true then({c with d:=(bs c.d n (c.table.getD l.toNat 0) (c.ep+1) 2 p).1},(bs c.d n (c.table.getD l.toNat 0) (c.ep+1) 2 p).2)
 else if(c.ct n p).2.2≠0 then((c.ct n p).1,(c.ct n p).2.2)
 else({(c.ct n p).1 with m:=(Fm.dD (c.ct n p).1.m (c.table.getD l.toNat 0)).1,table:=c.table.set l.toNat (c.ct n p).2.1},0)
theorem KQ{x:X}{n:Nat}{c:C}(h:At w x n c)(l:Int)(s:ByteArray)(hs:s.size<=9223372036854775807)(Gf:0<=c.ep/\c.ep<=1099511627776)(hc:c.d.calls<=3999999999999999990)(hr:c.d.bt<=9223372036854775807)(ht:∀k,c.table.getD k 0<=1024):
  Calls prog 147 #[sp x.b,.int .i64 l,.string s] w λe w'=>e=.returned (.int .i64 (c.aD n l s.data.toList).2)/\At w' x n (c.aD n l s.data.toList).1/\ag x.fp w w':=by
 have KW:=jg h;have hl:s.data.toList.length=s.size:=by simp
 obtain⟨R,hR⟩:∃R,c.aD n l s.data.toList=R:=⟨_,rfl⟩;rw[hR];unfold C.aD at hR;rw[hl]at hR;have HH:=xh h
 by_cases h1:c.broken=true
 .rw[if_pos h1]at hR;subst hR;rw[show c.fJ=13 from by unfold C.fJ;rw[if_pos h1]]at KW;have KW:=xh KW;clear h h1;unfold sp at *;go_enter func147,ntmps147;go_wp2_with fail;refine KW.o.mono ?_;rintro e w1 ⟨rfl,rfl⟩;go_wp2_with fail;go_ret;exact aE ⟨HH.o,ag.refl _ _⟩
 rw[if_neg h1]at hR;rw[show c.fJ=0 from by unfold C.fJ;rw[if_neg h1]]at KW;have KW:=xh KW
 by_cases h2:232<s.size
 .rw[if_pos h2]at hR;subst hR;have Te:(232:Int)<(s.size:Int):=by omega
  clear h h1 h2;unfold sp at *;go_enter func147,ntmps147;go_wp2_with fail;refine KW.o.mono ?_;rintro e w1 ⟨rfl,rfl⟩;go_wp2_with fail;go_ret;exact aE ⟨HH.o,ag.refl _ _⟩
 rw[if_neg h2]at hR;have Te:¬(232:Int)<(s.size:Int):=by omega
 have KA:=pR h l
 by_cases h3:c.jM l=0
 .rw[if_neg (by simpa using h3)]at hR;obtain⟨_,h5,h6,h7⟩:=Kg h3;rw[h3]at KA;have KA:=xh KA;obtain⟨k,rfl⟩:=eT h5;have hk:k<c.table.length:=by omega
  rw[show((k:Nat):Int).toNat=k from by omega]at hR h7;obtain⟨g,cp,hv,ck⟩:=h.tk k hk;have f1:=h.f1;have f2:=h.f2;rw[hv]at f2;have Kh:(k:Int)<(c.table.length:Int):=by omega
  have HR:=xh hR;have hid:c.table.getD k 0<=9223372036854775807:=by have:=ht k;omega
  have KF:=xh (λ(m:Nat)=>Fm.qX (h.drewN m).hm (c.table.getD k 0));have KP:=xh (λ(m:Nat)=>jf (h.drewN m) (c.table.getD k 0) 2 s hid Gf hc hr);have KN:=xh (λ(m:Nat)=>qX (h.drewN m) s Gf hc hr);have HD:=xh (λ(m:Nat)=>h.drewN m);obtain⟨pid,TB⟩:∃pid,c.table.getD k 0=pid:=⟨_,rfl⟩;rw[TB]at ck KF KP hR HR;have g1:=h.f1
  by_cases hf:Fm.ct c.m pid=true
  .rw[if_pos hf]at hR;subst hR;rw[hf]at KF;clear h h1 h2 h3 hv hf HR TB hid;generalize c.table.length=tn at *;unfold Fm.mp at *;unfold sp at *;go_enter func147,ntmps147;go_wp2_with fail;refine KW.o.mono ?_;rintro e w1 ⟨rfl,rfl⟩;go_wp2_with fail;refine KA.o.mono ?_;rintro e w1 ⟨rfl,rfl⟩;go_wp2_with fail;go_quiet ((go_at_call 192;exact yQ (KF.o _)));go_wp2_with fail;refine(KP.o nq).mono ?_;rintro e w2 ⟨rfl,A2,o2⟩;have A2:=xh A2
   have o2:=xh (((ag.refl x.fp w).drewN nq).trans (o2.mono (λg hg _=>GM x g hg)));go_wp2_with fail;go_ret;exact aE ⟨A2.o,o2.o⟩
  .have BO:Fm.ct c.m pid=false:=by cases hb:Fm.ct c.m pid with|true=>exact absurd hb hf|false=>rfl
   rw[if_neg hf]at hR;rw[BO]at KF;have FT:=lV c n s.data.toList;obtain⟨c1,Gl⟩:∃c1,c.ct n s.data.toList=c1:=⟨_,rfl⟩;rw[Gl]at KN hR FT;obtain⟨C1,id1,e1⟩:=c1;dsimp only at KN hR FT
   by_cases he:e1=0
   .subst he;rw[if_neg (by simp)]at hR;subst hR;have HT:=xh FT.1;have hpid2:=xh (show C1.table.getD k 0=pid by rw[HT.o];exact TB);have hk2:=xh (show k<C1.table.length by rw[HT.o];exact hk);have HX:=xh (show ∀w1,At w1 x n C1->∀cp',x.tv=.slice (some ⟨g,0,none⟩) c.table.length cp'->(w1.cell? ⟨x.b,1,none⟩=some (Fm.mp x.mb)/\w1.cell? ⟨x.b,2,none⟩=some (.slice (some ⟨g,0,none⟩) c.table.length cp')/\w1.cell? ⟨g,k,none⟩=some (.int .i64 pid))from λw1 A1 cp' e=>by
     obtain⟨g2,cp2,e2,ck2⟩:=A1.tk k hk2.o;rw[e]at e2;injection e2 with e3 e4 e5
     injection e3 with e3
     injection e3 with e3
     subst e3;rw[hpid2.o]at ck2;exact⟨A1.f1,by rw[<-e];exact A1.f2,ck2⟩)
    have HS:=xh (show ∀w2,At w2 x n {C1 with m:=(Fm.dD C1.m pid).1}->∀cp',x.tv=.slice (some ⟨g,0,none⟩) c.table.length cp'->(w2.cell? ⟨g,k,none⟩=some (.int .i64 pid)/\w2.frozen? ⟨g,k,none⟩=false/\At (w2.setCell ⟨g,k,none⟩ (.int .i64 id1)) x n {C1 with m:=(Fm.dD C1.m pid).1,table:=c.table.set k id1}/\ag x.fp w2 (w2.setCell ⟨g,k,none⟩ (.int .i64 id1)))from λw2 A2 cp' e=>by
     obtain⟨g2,cp2,e2,ck2,z2,A3,o3⟩:=A2.iQ k hk2.o id1;rw[e]at e2;injection e2 with e3 e4 e5
     injection e3 with e3
     injection e3 with e3
     subst e3;rw[show({C1 with m:=(Fm.dD C1.m pid).1}:C).table.getD k 0=pid from hpid2.o]at ck2;rw[show({C1 with m:=(Fm.dD C1.m pid).1}:C).table=c.table from HT.o]at A3;exact⟨ck2,z2,A3,o3⟩)
    have HV:=xh hv;have KL:=xh (λ(W:World) (hW:At W x n C1)=>Fm.qV hW.hm pid);have HM:=xh (λ(W W':World) (hW:At W x n C1) (mm:Fm.dE W' x.mb x.mg (Fm.dD C1.m pid).1) (ow:ag [x.mg] W W')=>hW.map mm ow);clear h h1 h2 h3 hv hf BO HR TB hid FT Gl;generalize c.table.length=tn at *;generalize (Fm.dD C1.m pid).2=le at *;unfold Fm.mp at *;unfold sp at *;go_enter func147,ntmps147;go_wp2_with fail;refine KW.o.mono ?_;rintro e w1 ⟨rfl,rfl⟩
    go_wp2_with fail;refine KA.o.mono ?_;rintro e w1 ⟨rfl,rfl⟩;go_wp2_with fail;go_quiet ((go_at_call 192;exact yQ (KF.o _)));go_wp2_with fail;refine(KN.o nq).mono ?_;rintro e w1 ⟨rfl,A1,o1⟩;have A1:=xh A1;have o1:=xh (((ag.refl x.fp w).drewN nq).trans o1);clear f1 f2 ck;have A1d:=xh A1.o.drew;have HK:=xh (HX.o _ A1d.o cp HV.o);go_wp2_with fail
    refine wp_region_held_drew (S:=λW'=>W'.cell? ⟨x.b,1,none⟩=some (.pointer (some ⟨x.mb,0,none⟩))/\W'.cell? ⟨x.b,2,none⟩=some (.slice (some ⟨g,0,none⟩) tn cp)/\W'.cell? ⟨g,k,none⟩=some (.int .i64 pid)) (by kernel_rfl) (HK.o) (λah=>?_);refine bM [(0,56),(1,57),(2,58),(3,59),(4,60),(5,61),(6,62),(7,63),(8,64),(9,65),(10,66)] ?_
    iterate 11 refine aG ?_
    refine bY 11 67 λK hK=>?_;go_simp
    go_at_call 153
    refine(KL.o _ A1d.o).mono ?_;rintro e w2 ⟨rfl,mm,ow⟩;have A2:=xh (HM.o _ _ A1d.o mm ow);have Gk:=xh (HS.o w2 A2.o cp HV.o);have q1:=A2.o.f1;have q2:=A2.o.f2;rw[HV.o]at q2;unfold Fm.mp at q1;have OX:=xh (((o1.o.drew).trans (ow.mono (λg hg _=>rQ x g hg))).trans Gk.o.2.2.2);have z2:=Gk.o.2.1;have ck2:=Gk.o.1;clear mm ow;go_simp;refine aA hK (⟨q1,q2,ck2⟩) (λah=>?_);refine wpAnyH_done (by kernel_rfl) ?_ _;go_wp2_with fail;go_ret
    exact aE ⟨Gk.o.2.2.1,OX.o⟩
   .rw[if_pos he]at hR;subst hR;have hq:(e1 != 0)=true:=by rw[bne_iff_ne];exact he
    have kt:(e1==0)=false:=by rw[beq_eq_false_iff_ne];exact he
    clear h h1 h2 h3 hv hf BO HR TB hid FT Gl;generalize c.table.length=tn at *;unfold Fm.mp at *;unfold sp at *;go_enter func147,ntmps147;go_wp2_with fail;refine KW.o.mono ?_;rintro e w1 ⟨rfl,rfl⟩;go_wp2_with fail;refine KA.o.mono ?_;rintro e w1 ⟨rfl,rfl⟩;go_wp2_with fail;go_quiet ((go_at_call 192;exact yQ (KF.o _)));go_wp2_with fail;refine(KN.o nq).mono ?_;rintro e w1 ⟨rfl,A1,o1⟩;have A1:=xh A1;have o1:=xh (((ag.refl x.fp w).drewN nq).trans o1)
    go_wp2_with fail;go_ret;exact aE ⟨A1.o,o1.o⟩
 .rw[if_pos h3]at hR;subst hR;have KA:=xh KA;have hq:(c.jM l != 0)=true:=by rw[bne_iff_ne];exact h3
  have kt:(c.jM l==0)=false:=by rw[beq_eq_false_iff_ne];exact h3
  generalize c.jM l=ea at *;clear h h1 h2 h3;unfold sp at *;go_enter func147,ntmps147;go_wp2_with fail;refine KW.o.mono ?_;rintro e w1 ⟨rfl,rfl⟩;go_wp2_with fail;refine KA.o.mono ?_;rintro e w1 ⟨rfl,rfl⟩;go_wp2_with fail;go_ret;exact aE ⟨HH.o,ag.refl _ _⟩
end Sh
namespace Sh
open Go.RowKit Pk Dk Pg
attribute [local go_sem ↓] Go.wp_at_zero Go.wp_at_succ
def TC(e:Int):List PanicEntry:=[{v:= .iface 31 (.int .i64 e),recovered:=false}]
theorem oQ(w:World):Calls prog 199 #[.int .i64 0] w λe w'=>e=.returned (.tuple #[])/\w=w':=by
 go_enter func199,ntmps199;go_wp2_with fail
 go_end0
 exact⟨rfl,rfl⟩
theorem um(e0:Int)(he:e0≠0)(w:World):Calls prog 199 #[.int .i64 e0] w λe w'=>e= .panicked (TC e0)/\w=w':=by
 have hq:(e0 != 0)=true:=by rw[bne_iff_ne];exact he
 have kt:(e0==0)=false:=by rw[beq_eq_false_iff_ne];exact he
 unfold TC;go_enter func199,ntmps199;go_wp2_with fail;exact⟨rfl,rfl,rfl⟩
theorem G3(w:World):(Instr.typeAssert .nilIface 20 31 true).run prog w=.ok (.tuple #[.int .i64 0,.bool false]) w:=by kernel_rfl
theorem G4(w:World)(e:Int):(Instr.typeAssert (.iface 31 (.int .i64 e)) 20 31 true).run prog w=.ok (.tuple #[.int .i64 e,.bool true]) w:=by kernel_rfl
theorem KZ(p:Addr)(w:World):
  CallsD prog 196 #[.pointer (some p)] .returning w λe u' w'=>e=.returned (.tuple #[])/\u'= .returning/\w'=w:=by
 have ha:=G3 w;refine callsD_of_wpS func196 rfl λc₀ cs hu=>?_;apply wpS_seq;apply wpS_region;simp[wpOpsS,go_sem,recoverD,hu,ntmps196,Exit.thenS,ha];apply wpS_seq;apply wpS_region;simp[wpOpsS,go_sem,Exit.thenS];refine wpS_cond (t:=false) (by simp[Act.eval,Array.replicate]) ?_;simp only[pw,if_false];refine wpS_of_wp (wp_skip ?_)
 cases c₀
 simp_all[bodyPostS,results,Tryz.results196]
theorem jH(p:Addr)(x e0:Int)(older:List PanicEntry)(w:World)(hc:w.cell? p=some (.int .i64 x))(hz:w.frozen? p=false):
  CallsD prog 196 #[.pointer (some p)] (.panicking ({v:= .iface 31 (.int .i64 e0),recovered:=false}::older)) w λe u' w'=>
   e=.returned (.tuple #[])/\u'= .panicking ({v:= .iface 31 (.int .i64 e0),recovered:=true}::older)/\w'=w.setCell p (.int .i64 e0):=by
 have ha:=G4 w e0;refine callsD_of_wpS func196 rfl λc₀ cs hu=>?_;apply wpS_seq;apply wpS_region;simp[wpOpsS,go_sem,recoverD,hu,ntmps196,Exit.thenS,ha];apply wpS_seq;apply wpS_region;simp[wpOpsS,go_sem,Exit.thenS];refine wpS_cond (t:=true) (by simp[Act.eval,Array.replicate]) ?_;simp only[if_true];apply wpS_region;simp[wpOpsS,go_sem,hc,hz,bodyPostS,results,Tryz.results196]
theorem TD{w:World}{x:X}{n:Nat}{c:C}(h:At w x n c){q:Nat}(hq:w.cell? ⟨q,0,none⟩=some (sp x.b))(i:Nat)(hi:116*i<c.table.length)(hb:∀y∈c.table,y<=1023):
  Calls prog 197 #[.int .i64 (i:Nat),.pointer (some ⟨q,0,none⟩)] w λe w'=>e=.returned (.string ⟨(Rt.iB (Rt.gj c.table i)).toArray⟩)/\Below w.heap.size w w':=by
 have f2:=h.f2;obtain⟨A,cc,hv,hcc⟩:=h.ht.val;have tl:=h.tl;have KP:=Rt.GY (w:=w) A c.table.length cc c.table ⟨rfl,λk y hy=>by
  have hk:k<c.table.length:=(aS.1 hy).1;obtain⟨g,cp,oe,ck⟩:=h.tk k hk;rw[hv]at oe;injection oe with e1 e2 e3
  refine⟨_,e1,?_⟩;rw[show(⟨g,0,none⟩:Addr).add k=⟨g,k,none⟩from by unfold Addr.add;split<;>simp_all,ck]
  congr 2
  simp[List.getD,hy]⟩ (by omega) hcc i hi
 have KP:=xh (KP.mono λe w' hh=>(show e=.returned (.tuple #[.string ⟨(Rt.iB (Rt.gj c.table i)).toArray⟩,.int .i64 0])/\Below w.heap.size w w' from by
  obtain⟨h1|h1,h2⟩:=hh
  .obtain⟨⟨y,hy,dH⟩,_⟩:=h1;have:=hb y (mV (fZ hy));omega
  .exact⟨h1.2,h2⟩))
 rw[hv]at f2;clear h hv;unfold sp at *;go_enter func197,ntmps197;go_wp2_with fail;refine KP.o.mono ?_;rintro e w1 ⟨rfl,bf⟩;have H1:=xh bf;clear bf;go_wp2_with fail;go_ret;exact aE H1.o
variable{w:World}{x:X}{n m cc:Nat}{A:Option Addr}
def C.gP(c:C)(n:Nat)(parts:List Int):Nat->D×Int
 |0=>(c.d,0)
 |i+1=>if(c.gP n parts i).2≠0 then c.gP n parts i else bs (c.gP n parts i).1 n (parts.getD i 0) (c.ep+1) 1 (Rt.iB (Rt.gj c.table i))
def C.bH(c:C)(n:Nat)(parts:List Nat):D×Int:=
 if(c.gP n (Rt.dr parts) parts.length).2≠0 then c.gP n (Rt.dr parts) parts.length
 else if(c.gP n (Rt.dr parts) parts.length).1.et.2≠0 then(c.gP n (Rt.dr parts) parts.length).1.et
 else if((c.gP n (Rt.dr parts) parts.length).1.et.1.aD n (1-c.slot) (Rt.eX (c.ep+1) c.table.length parts)).2≠0 then(c.gP n (Rt.dr parts) parts.length).1.et.1.aD n (1-c.slot) (Rt.eX (c.ep+1) c.table.length parts)
 else((c.gP n (Rt.dr parts) parts.length).1.et.1.aD n (1-c.slot) (Rt.eX (c.ep+1) c.table.length parts)).1.et
theorem NC(c:C)(n:Nat)(parts:List Int)(h:c.d.bt<=9223372036854775807):∀i,(c.gP n parts i).1.calls<=c.d.calls+4*i/\(c.gP n parts i).1.bt<=9223372036854775807
 |0=>⟨by show c.d.calls<=_;omega,h⟩
 |i+1=>by
  have ih:=NC c n parts h i;unfold C.gP
  split
  .exact⟨by omega,ih.2⟩
  .have:=qT (c.gP n parts i).1 n (parts.getD i 0) (c.ep+1) 1 (Rt.iB (Rt.gj c.table i)) ih.2;exact⟨by omega,this.2⟩
theorem vI(c:C)(n:Nat)(parts:List Int)(i:Nat):c.gP n parts (i+1)=if(c.gP n parts i).2≠0 then c.gP n parts i else bs (c.gP n parts i).1 n (parts.getD i 0) (c.ep+1) 1 (Rt.iB (Rt.gj c.table i)):=rfl
theorem CD(c:C)(n:Nat)(parts:List Int)(i:Nat)(h:(c.gP n parts i).2≠0):∀k,c.gP n parts (i+k)=c.gP n parts i
 |0=>rfl
 |k+1=>by
  have ih:=CD c n parts i h k;rw[show i+(k+1)=(i+k)+1 by omega,vI,ih,if_pos h]
structure nM(w0 w:World)(x:X)(n:Nat)(c:C)(d:D)(v:Value)(parts:List Int):Prop where
 at_:At w x n {c with d:=d}
 on:ag x.L.fp w0 w
 bx:aJ w w0.heap.size 61 #[sp x.b]
 bo:aJ w (w0.heap.size+1) 31 #[.int .i64 0]
 ps:Sl w 3 v parts.length (dm parts)
 nf:∀g∈cw v,g∉x.L.fp
 lt2:∀g∈x.fp,g<w0.heap.size
section
variable{w0 w w':World}{x:X}{n:Nat}{c:C}{d:D}{v:Value}{parts:List Int}
theorem nM.lt(h:nM w0 w x n c d v parts):∀g∈x.L.fp,g<w0.heap.size:=λg hg=>h.lt2 g (GM x g hg)
theorem nM.below(h:nM w0 w x n c d v parts)(hb:Below w.heap.size w w'):nM w0 w' x n c d v parts:=
 ⟨h.at_.below hb,h.on.trans (.aj hb),h.bx.below hb h.bx.lt,h.bo.below hb h.bo.lt,h.ps.below hb,h.nf,h.lt2⟩
theorem nM.step{d':D}(h:nM w0 w x n c d v parts)(A:At w' x n {c with d:=d'})(o:ag x.L.fp w w'):nM w0 w' x n c d' v parts:=
 ⟨A,h.on.trans o,h.bx.only o (λhg=>by have:=h.lt _ hg;omega),h.bo.only o (λhg=>by have:=h.lt _ hg;omega),h.ps.only o (λg hg=>h.nf g hg),h.nf,h.lt2⟩
theorem nM.o(h:nM w0 w x n c d v parts)(u:Value):At (w.setCell ⟨w0.heap.size+1,0,none⟩ u) x n {c with d:=d}/\ag x.L.fp w0 (w.setCell ⟨w0.heap.size+1,0,none⟩ u)/\(w.setCell ⟨w0.heap.size+1,0,none⟩ u).cell? ⟨w0.heap.size+1,0,none⟩=some u:=
 ⟨h.at_.only ((ag.refl [w0.heap.size+1] w).setCell (p:=⟨w0.heap.size+1,0,none⟩) (by simp) u) (λg hg hm=>by have:=h.lt2 g hg;simp at hm;omega),h.on.setCell (λdH=>by dsimp only at dH;omega) u,(h.bo.bE 0 u).ab rfl⟩
theorem nM.part(h:nM w0 w x n c d v parts)(i:Nat)(hi:i<parts.length):∃g cp,v=.slice (some ⟨g,0,none⟩) parts.length cp/\w.cell? ⟨g,i,none⟩=some (.int .i64 (parts.getD i 0)):=by
 obtain⟨g,cp,rest,hv,B,_,_⟩:=h.ps.form (by omega);refine⟨g,cp,hv,B.ab ?_⟩;rw[dj,bF (by simpa using hi),pU _ _ hi]
end
theorem zo(d:D)(h:d.bt<=9223372036854775807):d.et.1.calls<=d.calls+1/\d.et.1.bt<=9223372036854775807:=by
 have:=vy d h;unfold D.et
 split
 .exact⟨by show d.calls<=_;omega,h⟩
 .split
  .exact⟨by show d.cN.1.calls<=_;omega,this.2⟩
  .exact⟨by omega,this.2⟩
theorem rput_of{w0:World}{c:C}{d:D}{parts:List Nat}(h:nM w0 w x n c d (.slice A m cc) (Rt.dr parts))(x6:(Rt.dr parts).length=m)(hmc:m<=cc)(hr:Rt.gK (c.ep+1) (c.table.length:Nat) (Rt.dr parts)):
  Calls prog 102 #[Rt.Cy (c.ep+1) (c.table.length:Nat) A m cc] w λe w'=>e=.returned (.tuple #[.string ⟨(Rt.eX (c.ep+1) c.table.length parts).toArray⟩,.int .i64 0])/\Below w.heap.size w w':=by
 refine Rt.GL (c.ep+1) c.table.length A m cc parts ⟨x6,λk y hy=>?_⟩ hmc hr;have hk:k<(Rt.dr parts).length:=(aS.1 hy).1;obtain⟨g,cp,hv,ck⟩:=h.part k hk;rw[x6]at hv;injection hv with e1 e2 e3
 refine⟨_,e1,?_⟩;rw[show(⟨g,0,none⟩:Addr).add k=⟨g,k,none⟩from by unfold Addr.add;split<;>simp_all,ck]
 congr 2
 simp[List.getD,hy]
theorem pZ{P:Program}{fn:Func}{t t':Array Value}{R:Ending->World->Prop}(h:∀w,(results fn t').run P w=(results fn t).run P w):∀(ds:List Deferred) (u:FrameMode) (w:World),Leaves P fn t' R ds u w->Leaves P fn t R ds u w
 |[],.returning,w,⟨v,h1,h2⟩=>⟨v,by rw[<-h w];exact h1,h2⟩
 |[],.panicking _,_,h2=>h2
 |[],.run,_,h2=>h2
 |d::ds,u,w,⟨h1,fv,cap,f,args,h2,h3,h4⟩=>⟨h1,fv,cap,f,args,h2,h3,h4.mono λe u' w' hh=>by
   cases e with
   |returned v=>exact pZ h ds (settle u') w' hh
   |panicked c=>exact pZ h ds (raised u' c) w' hh
   |outgrown=>exact hh⟩
theorem aF(d:Nat)(hd:d≠4){R:Ending->World->Prop}{c:List PanicEntry}{a:Act}{v:Value}(h:bodyPostD prog Tryz.f152 R (.panic c) (a.put (some d) v) w):bodyPostD prog Tryz.f152 R (.panic c) a w:=by
 refine pZ (λw=>?_) _ _ _ h;rw[dJ rfl,dJ rfl];simp only[Act.put];have:(a.tmps.setIfInBounds d v).getD 4 undef=a.tmps.getD 4 undef:=by
  rw[RI,RI,Array.getElem?_setIfInBounds_ne hd]
 rw[this]
theorem yv{c:C}(h:At w x n c)(parts:List Nat)(S:Sl w 3 (.slice A m cc) m (dm (Rt.dr parts)))(hmc:m<=cc)(nf:∀g∈cw (.slice A m cc),g∉x.fp)
 (hr:Rt.gK (c.ep+1) (c.table.length:Nat) (Rt.dr parts))(hb:∀y∈c.table,y<=1023)(Bs:c.slot=0\/c.slot=1)(hc:c.d.calls<=3999999999999999900)(ha:c.d.bt<=9223372036854775807):
  Calls prog 152 #[sp x.b,.slice A m cc] w λe w'=>e=.returned (.int .i64 (c.bH n parts).2)/\At w' x n {c with d:=(c.bH n parts).1}/\ag x.L.fp w w':=by
 have hmf:∀(fn:Fn) (first cap:Array Value) (w:World),(Instr.makeFunc fn first cap).run prog w=.ok (.func fn first cap) w:=λ_ _ _ _=>rfl;have x6:(Rt.dr parts).length=m:=by have:=S.1;simpa using this
 have hpl2:parts.length=m:=by rw[<-x6];simp[Rt.dr]
 have hm5:m<=5:=by have:=Rt.kK hr;omega
 have tl:=h.tl;have Gf:1<=c.ep+1/\c.ep+1<=1099511627776:=⟨hr.1,hr.2.1⟩;have hneed:(m:Int)=Rt.ll (c.table.length:Nat):=by have:=hr.2.2.2.2.1;rw[x6]at this;exact this
 obtain⟨R,hR⟩:∃R,c.bH n parts=R:=⟨_,rfl⟩;rw[hR];unfold C.bH at hR;rw[hpl2]at hR;have HR:=xh hR;have U0:=ae (Below.refl w.heap.size w) (.cells #[sp x.b] 61);have U1:=aB U0 (ae (Below.refl (w.alloc (.cells #[sp x.b] 61)).heap.size _) (.cells #[.int .i64 0] 31));have L0:=xh (show nM w ((w.alloc (.cells #[sp x.b] 61)).alloc (.cells #[.int .i64 0] 31)) x n c c.d (.slice A m cc) (Rt.dr parts)from
  ⟨h.below U1,.aj U1,(aJ.new w _ _).alloc _,by have:=aJ.new (w.alloc (.cells #[sp x.b] 61)) 31 #[.int .i64 0];rw[World.size_alloc]at this;exact this,by rw[x6];exact S.below U1,λg hg hF=>nf g hg (GM x g hF),λg hg=>h.lt g hg⟩)
 have hlb:=xh (λi=>NC c n (Rt.dr parts) ha i);clear hR U0 U1 S nf h;unfold sp at *
 go_enter_defers func152,ntmps152
 go_wp2_with fail
 go_loopw [14] (λiv wr=> ∃i:Nat,i<=m/\iv=.int .i64 i/\Hid ((c.gP n (Rt.dr parts) i).2=0)/\Hid (nM w wr x n c (c.gP n (Rt.dr parts) i).1 (.slice A m cc) (Rt.dr parts))) (λiv _=>m-(intOf iv).toNat)
 case atStart=>exact⟨0,aY _,rfl,xh rfl,L0⟩
 case round=>
  obtain⟨i,hi,rfl,HZ,HL⟩:=hrel;have bb:=hlb.o i
  by_cases h':i<m
  .obtain⟨g,cp,hv,ck⟩:=HL.o.part i (by omega);rw[x6]at hv;injection hv with e1 e2 e3
   subst e1 e3;clear e2;have hiI:(i:Int)<(m:Int):=by omega
   have EW:116*i<c.table.length:=by unfold Rt.ll at hneed;omega
   have hsc:=vI c n (Rt.dr parts) i;rw[if_neg (by rw[HZ.o];simp)]at hsc;have hid:(Rt.dr parts).getD i 0<=9223372036854775807:=by
    have hm:i<(Rt.dr parts).length:=by omega
    have:=(hr.2.2.2.2.2 i _ (aL hm)).2.1;simp only[List.getD,aL hm,jc];omega
   have K2:=xh (λ(W:World) (hW:nM w W x n c (c.gP n (Rt.dr parts) i).1 (.slice (some ⟨g,0,none⟩) m cc) (Rt.dr parts))=>TD hW.at_ (hW.bx.ab (i:=0) rfl) i EW hb);have KP:=xh (λ(W:World) (hW:At W x n {c with d:=(c.gP n (Rt.dr parts) i).1})=>jf hW ((Rt.dr parts).getD i 0) 1 ⟨(Rt.iB (Rt.gj c.table i)).toArray⟩ hid (by show 0<=c.ep/\c.ep<=1099511627776;omega) (by show(c.gP n (Rt.dr parts) i).1.calls<=3999999999999999990;omega) bb.2)
   rw[show({c with d:=(c.gP n (Rt.dr parts) i).1}:C).table=c.table from rfl]at K2;rw[show({c with d:=(c.gP n (Rt.dr parts) i).1}:C).d=(c.gP n (Rt.dr parts) i).1 from rfl,show({c with d:=(c.gP n (Rt.dr parts) i).1}:C).ep=c.ep from rfl,show(⟨(Rt.iB (Rt.gj c.table i)).toArray⟩:ByteArray).data.toList=Rt.iB (Rt.gj c.table i)from rfl,<-hsc]at KP;generalize (⟨(Rt.iB (Rt.gj c.table i)).toArray⟩:ByteArray)=PB at *
   obtain⟨er,vz⟩:∃er,(c.gP n (Rt.dr parts) (i+1)).2=er:=⟨_,rfl⟩;rw[vz]at KP;have HS:=xh vz;clear hsc vz bb;unfold sp at *;have hdc:(0:Int)<=(i:Int):=by omega
   generalize (Rt.dr parts).getD i 0=pid at *
   by_cases he:er=0
   .subst he;go_wp2_with fail;have LD:=xh (HL.o.below ((Below.refl _ _).drew));have bD:=LD.o.bx.ab (i:=0) rfl;refine wp_region_held_drew (S:=λW'=>W'.cell? ⟨w.heap.size,0,none⟩=some (.pointer (some ⟨x.b,0,none⟩))) (by kernel_rfl) (bD) (λah=>?_);refine cH 0 19 (λ_ _ _ h=>aF 19 (by decide) h) ?_;refine cH 1 20 (λ_ _ _ h=>aF 20 (by decide) h) ?_;refine cH 2 21 (λ_ _ _ h=>aF 21 (by decide) h) ?_
    refine cH 3 22 (λ_ _ _ h=>aF 22 (by decide) h) ?_;refine bY 4 23 λK hK=>?_;go_simp
    go_at_call 197
    refine(K2.o _ LD.o).mono ?_;rintro e w2 ⟨rfl,cA⟩;have L2:=xh (LD.o.below cA);have b2:=L2.o.bx.ab (i:=0) rfl;clear cA;go_simp;refine aA hK (b2) (λah=>?_);refine bY 5 24 λK hK=>?_;go_simp
    go_at_call 193
    refine(KP.o _ L2.o.at_).mono ?_;rintro e w3 ⟨rfl,A3,o3⟩;have L3:=xh (L2.o.step A3 o3);have b3:=L3.o.bx.ab (i:=0) rfl;clear A3 o3;go_simp;refine aA hK (b3) (λah=>?_);refine bY 6 25 λK hK=>?_;go_simp
    go_at_call 199
    refine(oQ _).mono ?_;rintro e w4 ⟨rfl,rfl⟩;go_simp;refine aA hK (b3) (λah=>?_);refine wpAnyH_done (by kernel_rfl) ?_ _;go_wp2_with fail;go_roundw
    case rel=>exact⟨i+1,by omega,by go_num,HS,L3⟩
    case measure=>simp[intOf];omega
   .go_wp2_with fail;have LD:=xh (HL.o.below ((Below.refl _ _).drew));have bD:=LD.o.bx.ab (i:=0) rfl;refine wp_region_held_drew (S:=λW'=>W'.cell? ⟨w.heap.size,0,none⟩=some (.pointer (some ⟨x.b,0,none⟩))) (by kernel_rfl) (bD) (λah=>?_);refine cH 0 19 (λ_ _ _ h=>aF 19 (by decide) h) ?_;refine cH 1 20 (λ_ _ _ h=>aF 20 (by decide) h) ?_;refine cH 2 21 (λ_ _ _ h=>aF 21 (by decide) h) ?_;refine cH 3 22 (λ_ _ _ h=>aF 22 (by decide) h) ?_
    refine bY 4 23 λK hK=>?_;go_simp
    go_at_call 197
    refine(K2.o _ LD.o).mono ?_;rintro e w2 ⟨rfl,cA⟩;have L2:=xh (LD.o.below cA);have b2:=L2.o.bx.ab (i:=0) rfl;clear cA;go_simp;refine aA hK (b2) (λah=>?_);refine bY 5 24 λK hK=>?_;go_simp
    go_at_call 193
    refine(KP.o _ L2.o.at_).mono ?_;rintro e w3 ⟨rfl,A3,o3⟩;have L3:=xh (L2.o.step A3 o3);have b3:=L3.o.bx.ab (i:=0) rfl;clear A3 o3;go_simp;refine aA hK (b3) (λah=>?_);refine bY 6 25 λK hK=>?_;go_simp
    go_at_call 199
    refine(um er he _).mono ?_;rintro e w4 ⟨rfl,rfl⟩;dsimp only;have LZ:=L3;refine leaves_cons (f:=196) (args:= #[.pointer (some ⟨w.heap.size+1,0,none⟩)]) (by simp) (by simp[go_sem]) ?_;refine(jH ⟨w.heap.size+1,0,none⟩ 0 er [] _ (LZ.o.bo.ab (i:=0) rfl) (LZ.o.bo.frozen 0 (by simp))).mono ?_;rintro e u' OP ⟨rfl,rfl,rfl⟩;obtain⟨y1,y2,y3⟩:=LZ.o.o (.int .i64 er);refine⟨.int .i64 er,?_,?_⟩
    .rw[dJ rfl];clear y1 y2;go_simp
    .have uW:=HR.o;rw[show m=(i+1)+(m-(i+1)) by omega,CD c n _ (i+1) (by rw[HS.o];exact he),if_pos (by rw[HS.o];exact he)]at uW;subst uW;exact⟨by rw[HS.o],y1,y2⟩
  .obtain rfl:i=m:=by omega
   have uW:=HR.o;rw[if_neg (by rw[HZ.o];simp)]at uW;obtain⟨TA,tc,tF,_⟩:=HL.o.at_.ht.val;have tF:x.tv=.slice TA c.table.length tc:=tF;obtain⟨d1,uX⟩:∃d1,(c.gP n (Rt.dr parts) i).1=d1:=⟨_,rfl⟩;rw[uX]at HL uW bb;have KS1:=xh (λ(W:World) (hW:nM w W x n c d1 (.slice A i cc) (Rt.dr parts))=>yV hW.at_.hd (by show d1.calls<=_;omega) bb.2);have KI:=xh (λ(W:World) (d:D) (hW:nM w W x n c d (.slice A i cc) (Rt.dr parts))=>rput_of hW x6 hmc hr)
   have e1:IntKind.i64.wrap (c.ep+1)=c.ep+1:=IntWalk.i64_in _ (by omega);have e2:IntKind.i64.wrap (1-c.slot)=1-c.slot:=IntWalk.i64_in _ (by omega);have b2:=zo d1 bb.2;rw[show({c with d:=d1}:C).d=d1 from rfl]at KS1;have Jp:d1.calls<=3999999999999999930:=by omega
   clear uX hlb bb HZ;generalize d1.et=s1 at *;obtain⟨sd,se⟩:=s1;dsimp only at KS1 uW b2;have f0:=HL.o.bx.ab (i:=0) rfl;have g0:=HL.o.at_.f0;unfold sp dp at *
   by_cases hse:se=0
   .subst hse;rw[if_neg (by simp)]at uW;have KW:=xh (λ(W:World) (hW:nM w W x n c sd (.slice A i cc) (Rt.dr parts))=>kI hW.at_.hd (1-c.slot) ⟨(Rt.eX (c.ep+1) c.table.length parts).toArray⟩ (by show sd.calls<=_;omega) b2.2);rw[show({c with d:=sd}:C).d=sd from rfl,show(⟨(Rt.eX (c.ep+1) c.table.length parts).toArray⟩:ByteArray).data.toList=Rt.eX (c.ep+1) c.table.length parts from rfl]at KW
    have b3:=jh sd n (1-c.slot) (Rt.eX (c.ep+1) c.table.length parts) b2.2;generalize sd.aD n (1-c.slot) (Rt.eX (c.ep+1) c.table.length parts)=s2 at *;generalize (⟨(Rt.eX (c.ep+1) c.table.length parts).toArray⟩:ByteArray)=RB at *;obtain⟨wd,we⟩:=s2;dsimp only at KW uW b3
    by_cases hwe:we=0
    .subst hwe;rw[if_neg (by simp)]at uW;have KS2:=xh (λ(W:World) (hW:nM w W x n c wd (.slice A i cc) (Rt.dr parts))=>yV hW.at_.hd (by show wd.calls<=_;omega) b3.2);rw[show({c with d:=wd}:C).d=wd from rfl]at KS2;generalize wd.et=s3 at *;obtain⟨zd,ze⟩:=s3;dsimp only at KS2 uW
     by_cases hze:ze=0
     .subst hze;subst uW;go_wp2_with fail;refine(KS1.o _ HL.o).mono ?_;rintro e v1 ⟨rfl,D1,o1⟩;have L1:=xh (HL.o.step (HL.o.at_.BL D1 o1) o1);clear D1 o1 f0 g0;go_wp2_with fail;refine(oQ _).mono ?_;rintro e vm ⟨rfl,rfl⟩;have LV:=xh (L1.o.below ((Below.refl _ _).drew));have q0:=LV.o.bx.ab (i:=0) rfl;have q5:=LV.o.at_.f5;have q2:=LV.o.at_.f2;rw[tF]at q2;go_wp2_with fail
      refine wp_region_held_drew (S:=λW'=>W'.cell? ⟨w.heap.size,0,none⟩=some (.pointer (some ⟨x.b,0,none⟩))/\W'.cell? ⟨x.b,5,none⟩=some (.int .i64 c.ep)/\W'.cell? ⟨x.b,2,none⟩=some (.slice TA c.table.length tc)) (by kernel_rfl) (⟨q0,q5,q2⟩) (λah=>?_);refine cH 0 34 (λ_ _ _ h=>aF 34 (by decide) h) ?_;refine cH 1 35 (λ_ _ _ h=>aF 35 (by decide) h) ?_;refine cH 2 36 (λ_ _ _ h=>aF 36 (by decide) h) ?_;refine cH 3 37 (λ_ _ _ h=>aF 37 (by decide) h) ?_
      refine cH 4 38 (λ_ _ _ h=>aF 38 (by decide) h) ?_;refine cH 5 39 (λ_ _ _ h=>aF 39 (by decide) h) ?_;refine cH 6 40 (λ_ _ _ h=>aF 40 (by decide) h) ?_;refine cH 7 41 (λ_ _ _ h=>aF 41 (by decide) h) ?_;refine cH 8 42 (λ_ _ _ h=>aF 42 (by decide) h) ?_;refine cH 9 43 (λ_ _ _ h=>aF 43 (by decide) h) ?_;refine cH 10 44 (λ_ _ _ h=>aF 44 (by decide) h) ?_;refine cH 11 45 (λ_ _ _ h=>aF 45 (by decide) h) ?_
      refine bY 12 46 λK hK=>?_;go_simp
      go_at_call 102
      refine(KI.o _ _ LV.o).mono ?_;rintro e v2 ⟨rfl,cA⟩;have L2:=xh (LV.o.below cA);have q0:=L2.o.bx.ab (i:=0) rfl;have q5:=L2.o.at_.f5;have q2:=L2.o.at_.f2;rw[tF]at q2;clear cA;go_simp;refine aA hK (⟨q0,q5,q2⟩) (λah=>?_);refine cH 13 33 (λ_ _ _ h=>aF 33 (by decide) h) ?_;refine cH 14 47 (λ_ _ _ h=>aF 47 (by decide) h) ?_;refine cH 15 48 (λ_ _ _ h=>aF 48 (by decide) h) ?_
      refine cH 16 8 (λ_ _ _ h=>aF 8 (by decide) h) ?_;refine cH 17 9 (λ_ _ _ h=>aF 9 (by decide) h) ?_;refine wpAnyH_done (by kernel_rfl) ?_ _;go_wp2_with fail;have LU:=xh (L2.o.below ((Below.refl _ _).drew));have r0:=LU.o.bx.ab (i:=0) rfl;have r1:=LU.o.at_.f0;have r6:=LU.o.at_.f6;clear q0 q5 q2;unfold dp at r1
      refine wp_region_held_drew (S:=λW'=>W'.cell? ⟨w.heap.size,0,none⟩=some (.pointer (some ⟨x.b,0,none⟩))/\W'.cell? ⟨x.b,0,none⟩=some (.pointer (some ⟨x.L.b,0,none⟩))/\W'.cell? ⟨x.b,6,none⟩=some (.int .i64 c.slot)) (by kernel_rfl) (⟨r0,r1,r6⟩) (λah=>?_);refine cH 0 49 (λ_ _ _ h=>aF 49 (by decide) h) ?_;refine cH 1 50 (λ_ _ _ h=>aF 50 (by decide) h) ?_;refine cH 2 51 (λ_ _ _ h=>aF 51 (by decide) h) ?_
      refine cH 3 52 (λ_ _ _ h=>aF 52 (by decide) h) ?_;refine cH 4 53 (λ_ _ _ h=>aF 53 (by decide) h) ?_;refine cH 5 54 (λ_ _ _ h=>aF 54 (by decide) h) ?_;refine cH 6 55 (λ_ _ _ h=>aF 55 (by decide) h) ?_;refine cH 7 56 (λ_ _ _ h=>aF 56 (by decide) h) ?_;refine cH 8 57 (λ_ _ _ h=>aF 57 (by decide) h) ?_;refine cH 9 58 (λ_ _ _ h=>aF 58 (by decide) h) ?_;refine bY 10 59 λK hK=>?_;go_simp
      go_at_call 103
      refine(KW.o _ LU.o).mono ?_;rintro e v3 ⟨rfl,D3,o3⟩;have L3:=xh (LU.o.step (LU.o.at_.BL D3 o3) o3);have r0:=L3.o.bx.ab (i:=0) rfl;have r1:=L3.o.at_.f0;have r6:=L3.o.at_.f6;unfold dp at r1;clear D3 o3;go_simp;refine aA hK (⟨r0,r1,r6⟩) (λah=>?_);refine bY 11 60 λK hK=>?_;go_simp
      go_at_call 199
      refine(oQ _).mono ?_;rintro e v4 ⟨rfl,rfl⟩;go_simp;refine aA hK (⟨r0,r1,r6⟩) (λah=>?_);refine wpAnyH_done (by kernel_rfl) ?_ _;have f3:v3.cell? ⟨w.heap.size,0,none⟩=some (.pointer (some ⟨x.b,0,none⟩)):=r0;have g3:v3.cell? ⟨x.b,0,none⟩=some (.pointer (some ⟨x.L.b,0,none⟩)):=r1;clear r0 r1 r6;go_wp2_with fail;refine(KS2.o _ L3.o).mono ?_;rintro e v5 ⟨rfl,D5,o5⟩;have L5:=xh (L3.o.step (L3.o.at_.BL D5 o5) o5);clear D5 o5;go_wp2_with fail;refine(oQ _).mono ?_
      rintro e vm ⟨rfl,rfl⟩;have o1:=L5.o.bo.ab (i:=0) rfl;have o2:=L5.o.bo.frozen 0 (by simp);go_wp2_with fail;refine leaves_cons (f:=196) (args:= #[.pointer (some ⟨w.heap.size+1,0,none⟩)]) (by simp) (by simp[go_sem]) ?_;refine(KZ ⟨w.heap.size+1,0,none⟩ _).mono ?_;rintro e u' OP ⟨rfl,rfl,rfl⟩;obtain⟨y1,y2,y3⟩:=L5.o.o (.int .i64 0);refine⟨.int .i64 0,?_,?_⟩
      .rw[dJ rfl];clear y1 y2;go_simp
      .exact⟨rfl,y1,y2⟩
     .subst uW;go_wp2_with fail;refine(KS1.o _ HL.o).mono ?_;rintro e v1 ⟨rfl,D1,o1⟩;have L1:=xh (HL.o.step (HL.o.at_.BL D1 o1) o1);clear D1 o1 f0 g0;go_wp2_with fail;refine(oQ _).mono ?_;rintro e vm ⟨rfl,rfl⟩;have LV:=xh (L1.o.below ((Below.refl _ _).drew));have q0:=LV.o.bx.ab (i:=0) rfl;have q5:=LV.o.at_.f5;have q2:=LV.o.at_.f2;rw[tF]at q2;go_wp2_with fail
      refine wp_region_held_drew (S:=λW'=>W'.cell? ⟨w.heap.size,0,none⟩=some (.pointer (some ⟨x.b,0,none⟩))/\W'.cell? ⟨x.b,5,none⟩=some (.int .i64 c.ep)/\W'.cell? ⟨x.b,2,none⟩=some (.slice TA c.table.length tc)) (by kernel_rfl) (⟨q0,q5,q2⟩) (λah=>?_);refine cH 0 34 (λ_ _ _ h=>aF 34 (by decide) h) ?_;refine cH 1 35 (λ_ _ _ h=>aF 35 (by decide) h) ?_;refine cH 2 36 (λ_ _ _ h=>aF 36 (by decide) h) ?_;refine cH 3 37 (λ_ _ _ h=>aF 37 (by decide) h) ?_
      refine cH 4 38 (λ_ _ _ h=>aF 38 (by decide) h) ?_;refine cH 5 39 (λ_ _ _ h=>aF 39 (by decide) h) ?_;refine cH 6 40 (λ_ _ _ h=>aF 40 (by decide) h) ?_;refine cH 7 41 (λ_ _ _ h=>aF 41 (by decide) h) ?_;refine cH 8 42 (λ_ _ _ h=>aF 42 (by decide) h) ?_;refine cH 9 43 (λ_ _ _ h=>aF 43 (by decide) h) ?_;refine cH 10 44 (λ_ _ _ h=>aF 44 (by decide) h) ?_;refine cH 11 45 (λ_ _ _ h=>aF 45 (by decide) h) ?_
      refine bY 12 46 λK hK=>?_;go_simp
      go_at_call 102
      refine(KI.o _ _ LV.o).mono ?_;rintro e v2 ⟨rfl,cA⟩;have L2:=xh (LV.o.below cA);have q0:=L2.o.bx.ab (i:=0) rfl;have q5:=L2.o.at_.f5;have q2:=L2.o.at_.f2;rw[tF]at q2;clear cA;go_simp;refine aA hK (⟨q0,q5,q2⟩) (λah=>?_);refine cH 13 33 (λ_ _ _ h=>aF 33 (by decide) h) ?_;refine cH 14 47 (λ_ _ _ h=>aF 47 (by decide) h) ?_;refine cH 15 48 (λ_ _ _ h=>aF 48 (by decide) h) ?_
      refine cH 16 8 (λ_ _ _ h=>aF 8 (by decide) h) ?_;refine cH 17 9 (λ_ _ _ h=>aF 9 (by decide) h) ?_;refine wpAnyH_done (by kernel_rfl) ?_ _;go_wp2_with fail;have LU:=xh (L2.o.below ((Below.refl _ _).drew));have r0:=LU.o.bx.ab (i:=0) rfl;have r1:=LU.o.at_.f0;have r6:=LU.o.at_.f6;clear q0 q5 q2;unfold dp at r1
      refine wp_region_held_drew (S:=λW'=>W'.cell? ⟨w.heap.size,0,none⟩=some (.pointer (some ⟨x.b,0,none⟩))/\W'.cell? ⟨x.b,0,none⟩=some (.pointer (some ⟨x.L.b,0,none⟩))/\W'.cell? ⟨x.b,6,none⟩=some (.int .i64 c.slot)) (by kernel_rfl) (⟨r0,r1,r6⟩) (λah=>?_);refine cH 0 49 (λ_ _ _ h=>aF 49 (by decide) h) ?_;refine cH 1 50 (λ_ _ _ h=>aF 50 (by decide) h) ?_;refine cH 2 51 (λ_ _ _ h=>aF 51 (by decide) h) ?_
      refine cH 3 52 (λ_ _ _ h=>aF 52 (by decide) h) ?_;refine cH 4 53 (λ_ _ _ h=>aF 53 (by decide) h) ?_;refine cH 5 54 (λ_ _ _ h=>aF 54 (by decide) h) ?_;refine cH 6 55 (λ_ _ _ h=>aF 55 (by decide) h) ?_;refine cH 7 56 (λ_ _ _ h=>aF 56 (by decide) h) ?_;refine cH 8 57 (λ_ _ _ h=>aF 57 (by decide) h) ?_;refine cH 9 58 (λ_ _ _ h=>aF 58 (by decide) h) ?_;refine bY 10 59 λK hK=>?_;go_simp
      go_at_call 103
      refine(KW.o _ LU.o).mono ?_;rintro e v3 ⟨rfl,D3,o3⟩;have L3:=xh (LU.o.step (LU.o.at_.BL D3 o3) o3);have r0:=L3.o.bx.ab (i:=0) rfl;have r1:=L3.o.at_.f0;have r6:=L3.o.at_.f6;unfold dp at r1;clear D3 o3;go_simp;refine aA hK (⟨r0,r1,r6⟩) (λah=>?_);refine bY 11 60 λK hK=>?_;go_simp
      go_at_call 199
      refine(oQ _).mono ?_;rintro e v4 ⟨rfl,rfl⟩;go_simp;refine aA hK (⟨r0,r1,r6⟩) (λah=>?_);refine wpAnyH_done (by kernel_rfl) ?_ _;have f3:v3.cell? ⟨w.heap.size,0,none⟩=some (.pointer (some ⟨x.b,0,none⟩)):=r0;have g3:v3.cell? ⟨x.b,0,none⟩=some (.pointer (some ⟨x.L.b,0,none⟩)):=r1;clear r0 r1 r6;go_wp2_with fail;refine(KS2.o _ L3.o).mono ?_;rintro e v5 ⟨rfl,D5,o5⟩;have L5:=xh (L3.o.step (L3.o.at_.BL D5 o5) o5);clear D5 o5;go_wp2_with fail
      refine(um ze hze _).mono ?_;rintro e vm ⟨rfl,rfl⟩;dsimp only;have LZ:=L5;refine leaves_cons (f:=196) (args:= #[.pointer (some ⟨w.heap.size+1,0,none⟩)]) (by simp) (by simp[go_sem]) ?_;refine(jH ⟨w.heap.size+1,0,none⟩ 0 ze [] _ (LZ.o.bo.ab (i:=0) rfl) (LZ.o.bo.frozen 0 (by simp))).mono ?_;rintro e u' OP ⟨rfl,rfl,rfl⟩;obtain⟨y1,y2,y3⟩:=LZ.o.o (.int .i64 ze);refine⟨.int .i64 ze,?_,?_⟩
      .rw[dJ rfl];clear y1 y2;go_simp
      ·  exact⟨rfl,y1,y2⟩
    .go_wp2_with fail;refine(KS1.o _ HL.o).mono ?_;rintro e v1 ⟨rfl,D1,o1⟩;have L1:=xh (HL.o.step (HL.o.at_.BL D1 o1) o1);clear D1 o1 f0 g0;go_wp2_with fail;refine(oQ _).mono ?_;rintro e vm ⟨rfl,rfl⟩;have LV:=xh (L1.o.below ((Below.refl _ _).drew));have q0:=LV.o.bx.ab (i:=0) rfl;have q5:=LV.o.at_.f5;have q2:=LV.o.at_.f2;rw[tF]at q2;go_wp2_with fail
     refine wp_region_held_drew (S:=λW'=>W'.cell? ⟨w.heap.size,0,none⟩=some (.pointer (some ⟨x.b,0,none⟩))/\W'.cell? ⟨x.b,5,none⟩=some (.int .i64 c.ep)/\W'.cell? ⟨x.b,2,none⟩=some (.slice TA c.table.length tc)) (by kernel_rfl) (⟨q0,q5,q2⟩) (λah=>?_);refine cH 0 34 (λ_ _ _ h=>aF 34 (by decide) h) ?_;refine cH 1 35 (λ_ _ _ h=>aF 35 (by decide) h) ?_;refine cH 2 36 (λ_ _ _ h=>aF 36 (by decide) h) ?_;refine cH 3 37 (λ_ _ _ h=>aF 37 (by decide) h) ?_
     refine cH 4 38 (λ_ _ _ h=>aF 38 (by decide) h) ?_;refine cH 5 39 (λ_ _ _ h=>aF 39 (by decide) h) ?_;refine cH 6 40 (λ_ _ _ h=>aF 40 (by decide) h) ?_;refine cH 7 41 (λ_ _ _ h=>aF 41 (by decide) h) ?_;refine cH 8 42 (λ_ _ _ h=>aF 42 (by decide) h) ?_;refine cH 9 43 (λ_ _ _ h=>aF 43 (by decide) h) ?_;refine cH 10 44 (λ_ _ _ h=>aF 44 (by decide) h) ?_;refine cH 11 45 (λ_ _ _ h=>aF 45 (by decide) h) ?_
     refine bY 12 46 λK hK=>?_;go_simp
     go_at_call 102
     refine(KI.o _ _ LV.o).mono ?_;rintro e v2 ⟨rfl,cA⟩;have L2:=xh (LV.o.below cA);have q0:=L2.o.bx.ab (i:=0) rfl;have q5:=L2.o.at_.f5;have q2:=L2.o.at_.f2;rw[tF]at q2;clear cA;go_simp;refine aA hK (⟨q0,q5,q2⟩) (λah=>?_);refine cH 13 33 (λ_ _ _ h=>aF 33 (by decide) h) ?_;refine cH 14 47 (λ_ _ _ h=>aF 47 (by decide) h) ?_;refine cH 15 48 (λ_ _ _ h=>aF 48 (by decide) h) ?_
     refine cH 16 8 (λ_ _ _ h=>aF 8 (by decide) h) ?_;refine cH 17 9 (λ_ _ _ h=>aF 9 (by decide) h) ?_;refine wpAnyH_done (by kernel_rfl) ?_ _;go_wp2_with fail;have LU:=xh (L2.o.below ((Below.refl _ _).drew));have r0:=LU.o.bx.ab (i:=0) rfl;have r1:=LU.o.at_.f0;have r6:=LU.o.at_.f6;clear q0 q5 q2;unfold dp at r1
     refine wp_region_held_drew (S:=λW'=>W'.cell? ⟨w.heap.size,0,none⟩=some (.pointer (some ⟨x.b,0,none⟩))/\W'.cell? ⟨x.b,0,none⟩=some (.pointer (some ⟨x.L.b,0,none⟩))/\W'.cell? ⟨x.b,6,none⟩=some (.int .i64 c.slot)) (by kernel_rfl) (⟨r0,r1,r6⟩) (λah=>?_);refine cH 0 49 (λ_ _ _ h=>aF 49 (by decide) h) ?_;refine cH 1 50 (λ_ _ _ h=>aF 50 (by decide) h) ?_;refine cH 2 51 (λ_ _ _ h=>aF 51 (by decide) h) ?_
     refine cH 3 52 (λ_ _ _ h=>aF 52 (by decide) h) ?_;refine cH 4 53 (λ_ _ _ h=>aF 53 (by decide) h) ?_;refine cH 5 54 (λ_ _ _ h=>aF 54 (by decide) h) ?_;refine cH 6 55 (λ_ _ _ h=>aF 55 (by decide) h) ?_;refine cH 7 56 (λ_ _ _ h=>aF 56 (by decide) h) ?_;refine cH 8 57 (λ_ _ _ h=>aF 57 (by decide) h) ?_;refine cH 9 58 (λ_ _ _ h=>aF 58 (by decide) h) ?_;refine bY 10 59 λK hK=>?_;go_simp
     go_at_call 103
     refine(KW.o _ LU.o).mono ?_;rintro e v3 ⟨rfl,D3,o3⟩;have L3:=xh (LU.o.step (LU.o.at_.BL D3 o3) o3);have r0:=L3.o.bx.ab (i:=0) rfl;have r1:=L3.o.at_.f0;have r6:=L3.o.at_.f6;unfold dp at r1;clear D3 o3;go_simp;refine aA hK (⟨r0,r1,r6⟩) (λah=>?_);refine bY 11 60 λK hK=>?_;go_simp
     go_at_call 199
     refine(um we hwe _).mono ?_;rintro e v4 ⟨rfl,rfl⟩;dsimp only;have LZ:=L3;rw[if_pos (by exact hwe)]at uW;refine leaves_cons (f:=196) (args:= #[.pointer (some ⟨w.heap.size+1,0,none⟩)]) (by simp) (by simp[go_sem]) ?_;refine(jH ⟨w.heap.size+1,0,none⟩ 0 we [] _ (LZ.o.bo.ab (i:=0) rfl) (LZ.o.bo.frozen 0 (by simp))).mono ?_;rintro e u' OP ⟨rfl,rfl,rfl⟩;obtain⟨y1,y2,y3⟩:=LZ.o.o (.int .i64 we);refine⟨.int .i64 we,?_,?_⟩
     .rw[dJ rfl];clear y1 y2;go_simp
     .subst uW;exact⟨rfl,y1,y2⟩
   .go_wp2_with fail;refine(KS1.o _ HL.o).mono ?_;rintro e v1 ⟨rfl,D1,o1⟩;have L1:=xh (HL.o.step (HL.o.at_.BL D1 o1) o1);clear D1 o1 f0 g0;go_wp2_with fail;refine(um se hse _).mono ?_;rintro e vm ⟨rfl,rfl⟩;dsimp only;have LZ:=L1;rw[if_pos (by exact hse)]at uW;refine leaves_cons (f:=196) (args:= #[.pointer (some ⟨w.heap.size+1,0,none⟩)]) (by simp) (by simp[go_sem]) ?_
    refine(jH ⟨w.heap.size+1,0,none⟩ 0 se [] _ (LZ.o.bo.ab (i:=0) rfl) (LZ.o.bo.frozen 0 (by simp))).mono ?_;rintro e u' OP ⟨rfl,rfl,rfl⟩;obtain⟨y1,y2,y3⟩:=LZ.o.o (.int .i64 se);refine⟨.int .i64 se,?_,?_⟩
    .rw[dJ rfl];clear y1 y2;go_simp
    .subst uW;exact⟨rfl,y1,y2⟩
section
variable{w w':World}{x:X}{n:Nat}{c:C}
theorem At.K8(h:At w x n c){g:Nat}{cs:Array Value}(B:aJ w g 146 cs):g≠x.mb/\g≠x.mg/\g∉x.L.fp/\∀{v:Value} {k:Nat} {l:List Value},Sl w 3 v k l->g∉cw v:=by
 refine⟨λe=>by subst e;exact B.k7 h.hm.hb (by decide) rfl,λe=>by subst e;exact B.k7 h.hm.hg (by decide) rfl,λhg=>?_,λS hg=>?_⟩
 .simp only[Loc.fp,an,gX,or_false]at hg
  rcases hg with rfl|rfl|rfl|rfl
  .exact B.k7 h.hd.hb (by decide) rfl
  .exact B.k7 h.hd.hN (by decide) rfl
  .exact B.k7 h.hd.hO (by decide) rfl
  .exact B.k7 h.hd.hL (by decide) rfl
 .obtain⟨cs',B'⟩:=vC S _ hg;exact B.k7 B' (by decide) rfl
theorem At.newT(h:At w x n c){v':Value}{l:List Int}(S:Sl w 3 v' l.length (dm l))(hg:x.mg∉cw v')(ho:∀g∈cw v',g∉cw x.ov)(hp:∀g∈cw v',g∉cw x.pv)(hl:l.length<=512):
  w.cell? ⟨x.b,2,none⟩=some x.tv/\w.frozen? ⟨x.b,2,none⟩=false/\At (w.setCell ⟨x.b,2,none⟩ v') {x with tv:=v'} n {c with table:=l}/\ag [x.b] w (w.setCell ⟨x.b,2,none⟩ v'):=by
 have o2:=(ag.refl [x.b] w).setCell (p:=⟨x.b,2,none⟩) (by simp) v';obtain⟨n1,n2,n3,n4⟩:=h.K8 h.hb;have ns:∀{v:Value} {k:Nat} {l:List Value},Sl w 3 v k l->∀g∈cw v,g∉[x.b]:=λS g hg hm=>n4 S (by rw[<-aQ.1 hm];exact hg)
 exact⟨h.f2,h.fz 2 (by omega),⟨h.hb.bE 2 v',h.hd.only o2 (λg hg hm=>n3 (by rw[<-aQ.1 hm];exact hg)),h.hm.only o2 (λhm=>n1 (aQ.1 hm).symm) (λhm=>n2 (aQ.1 hm).symm),S.only o2 (ns S),h.ho.only o2 (ns h.ho),h.hp.only o2 (λg hg hm=>h.hp.aW h.hb (by decide) (by decide) (by rw[<-aQ.1 hm];exact hg)),hg,h.n2,h.n3,ho,hp,h.n6,hl⟩,o2⟩
theorem At.newC(h:At w x n c){vo vp:Value}{lo lp:List Int}(So:Sl w 3 vo lo.length (dm lo))(Sp:Sl w 3 vp lp.length (dm lp))(go:∀g∈cw vo,g∉x.fp)(gp:∀g∈cw vp,g∉x.fp)(op:∀g∈cw vo,g∉cw vp)(ep sl:Int):
  At ((((w.setCell ⟨x.b,3,none⟩ vo).setCell ⟨x.b,4,none⟩ vp).setCell ⟨x.b,5,none⟩ (.int .i64 ep)).setCell ⟨x.b,6,none⟩ (.int .i64 sl)) {x with ov:=vo,pv:=vp} n {c with bX:=lo,parts:=lp,ep:=ep,slot:=sl}/\
  ag [x.b] w ((((w.setCell ⟨x.b,3,none⟩ vo).setCell ⟨x.b,4,none⟩ vp).setCell ⟨x.b,5,none⟩ (.int .i64 ep)).setCell ⟨x.b,6,none⟩ (.int .i64 sl)):=by
 have o2:ag [x.b] w ((((w.setCell ⟨x.b,3,none⟩ vo).setCell ⟨x.b,4,none⟩ vp).setCell ⟨x.b,5,none⟩ (.int .i64 ep)).setCell ⟨x.b,6,none⟩ (.int .i64 sl)):=((((ag.refl [x.b] w).setCell (p:=⟨x.b,3,none⟩) (by simp) _).setCell (p:=⟨x.b,4,none⟩) (by simp) _).setCell (p:=⟨x.b,5,none⟩) (by simp) _).setCell (p:=⟨x.b,6,none⟩) (by simp) _;obtain⟨n1,n2,n3,n4⟩:=h.K8 h.hb
 have ns:∀{v:Value} {k:Nat} {l:List Value},Sl w 3 v k l->∀g∈cw v,g∉[x.b]:=λS g hg hm=>n4 S (by rw[<-aQ.1 hm];exact hg)
 exact⟨⟨(((h.hb.bE 3 vo).bE 4 vp).bE 5 _).bE 6 _,h.hd.only o2 (λg hg hm=>n3 (by rw[<-aQ.1 hm];exact hg)),h.hm.only o2 (λhm=>n1 (aQ.1 hm).symm) (λhm=>n2 (aQ.1 hm).symm),h.ht.only o2 (ns h.ht),So.only o2 (ns So),.inl (Sp.only o2 (ns Sp)),h.n1,λhg=>go _ hg (by simp[X.fp]),λhg=>gp _ hg (by simp[X.fp]),λg hg hm=>go g hm (by simp[X.fp,hg]),λg hg hm=>gp g hm (by simp[X.fp,hg]),op,h.tl⟩,o2⟩
end
def C.cq(c:C):C:={c with m:=Fm.jo 1 0 c.m,table:=c.bX}
theorem La{w:World}{x:X}{n:Nat}{c:C}(h:At w x n c)(hol:c.bX.length<=512):
  Calls prog 101 #[sp x.b] w λe w'=>e=.returned (.bool true)/\yb w w' x n c.cq:=by
 have f1:=h.f1;have KA:=xh (Fm.Py h.hm);have HM:=xh (λ(W':World) (mm:Fm.dE W' x.mb x.mg (Fm.jo 1 0 c.m)) (ow:ag [x.mg] w W')=>h.map mm ow);have KC:=xh (λ(W:World) (c':C) (hW:At W x n c') (hl:c'.bX.length<=512)=>GZ hW.ho (by omega));have oO:=xh h.lt;clear h;unfold sp Fm.mp at *;go_enter func101,ntmps101;go_wp2_with fail;refine KA.o.mono ?_;rintro e w1 ⟨rfl,mm,ow⟩;have A1:=xh (HM.o _ mm ow);have O1:=xh ow;have f3:=A1.o.f3
 obtain⟨VA,vc,hv,_⟩:=A1.o.ho.val;have K2:=KC.o w1 _ A1.o hol;rw[hv]at K2 f3;have K2:=xh K2;have HV:=xh hv;clear mm ow f1 hv;go_wp2_with fail;refine K2.o.mono ?_;rintro e w2 ⟨v',rfl,S2,cA,Cz⟩;have A2:=A1.o.below cA;obtain⟨V2,c2,rfl,_⟩:=S2.val;obtain⟨q2,z2,A3,o3⟩:=A2.newT S2 (λhg=>by have:=A1.o.hm.hg.lt;have:=Cz _ hg;omega) (λg hg ho=>by have:=A1.o.ho.lt g ho;have:=Cz g hg;omega) (λg hg ho=>by have:=A1.o.hp.lt g ho;have:=Cz g hg;omega) hol
 have R:=xh (show yb w (w2.setCell ⟨x.b,2,none⟩ (.slice V2 c.bX.length c2)) x n c.cq from
  ⟨{x with tv:= .slice V2 c.bX.length c2},rfl,rfl,A3,((O1.o.mono (λg hg _=>rQ x g hg)).trans (.aj cA)).trans (o3.mono (λg hg _=>by simp at hg;subst hg;simp[X.fp])),λg hg=>by
   simp only[X.fp,an,aC]at hg ⊢
   rcases hg with hg|hg|hg|((hg|hg)|hg)|hg
   .exact .inl (.inl hg)
   .exact .inl (.inr (.inl hg))
   .exact .inl (.inr (.inr (.inl hg)))
   .exact .inl (.inr (.inr (.inr (.inl (.inl (.inl hg))))))
   .exact .inr (by have:=Cz g hg;have:=O1.o.size;omega)
   .exact .inl (.inr (.inr (.inr (.inl (.inr hg)))))
   .exact .inl (.inr (.inr (.inr (.inr hg))))⟩)
 clear S2 cA Cz A2 A3 o3;go_wp2_with fail;go_ret;exact aE R.o
end Sh
namespace Sh
open Go.RowKit Pk Dk Pg
def kE(t:List Int):Nat->Nat
 |0=>0
 |k+1=>if t.getD k 0<0 then kE t k else k+1
theorem mC(t:List Int)(k:Nat):kE t (k+1)=if t.getD k 0<0 then kE t k else k+1:=rfl
theorem zp(t:List Int):∀k,kE t k<=k
 |0=>ak _
 |k+1=>by
  rw[mC]
  split
  .have:=zp t k;omega
  .exact ak _
def takeN(m:List Int):Nat->List Int×List Int
 |0=>(m,[])
 |k+1=>((Fm.cR (takeN m k).1).1,(takeN m k).2++[(Fm.cR (takeN m k).1).2.1])
theorem qZ(m:List Int):∀k,(takeN m k).2.length=k
 |0=>rfl
 |k+1=>by show((takeN m k).2++_).length=_;rw[aU,qZ m k];rfl
def cE(m:List Int):List Int->List Int
 |[]=>m
 |p::l=>cE (Fm.dD m p).1 l
theorem EY(m:List Int)(a b:List Int):cE m (a++b)=cE (cE m a) b:=by
 induction a generalizing m with
 |nil=>rfl
 |cons p l ih=>exact ih _
def C.cv(c:C):C:={c with table:=c.table.take (kE c.table c.table.length)}
def C.aK(c:C)(n:Nat):C×Int:=
 if(Fm.gw c.m 0).length<cM c.cv.table.length then(c.cv,11)
 else if 1099511627776<=c.ep then(c.cv,3)
 else if(({c.cv with m:=(takeN c.m (cM c.cv.table.length)).1}:C).bH n ((takeN c.m (cM c.cv.table.length)).2.map Int.toNat)).2≠0 then
  ({c.cv with m:=(takeN c.m (cM c.cv.table.length)).1,d:=(({c.cv with m:=(takeN c.m (cM c.cv.table.length)).1}:C).bH n ((takeN c.m (cM c.cv.table.length)).2.map Int.toNat)).1,broken:=true},(({c.cv with m:=(takeN c.m (cM c.cv.table.length)).1}:C).bH n ((takeN c.m (cM c.cv.table.length)).2.map Int.toNat)).2)
 else({c.cv with m:=Fm.jo 0 1 (cE (takeN c.m (cM c.cv.table.length)).1 c.parts),d:=(({c.cv with m:=(takeN c.m (cM c.cv.table.length)).1}:C).bH n ((takeN c.m (cM c.cv.table.length)).2.map Int.toNat)).1,bX:=c.cv.table,parts:=(takeN c.m (cM c.cv.table.length)).2,ep:=c.ep+1,slot:=1-c.slot},0)
def ND(w:World)(b:Nat):Nat:=match w.cell? ⟨b,2,none⟩with
 |some (.slice _ n _)=>n
 |_=>0
theorem NG(k:Nat):Rt.ll (k:Nat)=(cM k:Nat):=by unfold Rt.ll cM;omega
theorem zq(A:Option Addr)(k m c:Nat):cw (.slice A k c)=cw (.slice A m c):=by cases A<;>rfl
attribute [local go_sem ↓] Go.wp_at_zero Go.wp_at_succ
abbrev rJ:=Option (Bool×List UInt8)
def iT(l:List (Option (List UInt8))):List rJ:=l.map λo=>o.map λb=>(false,b)
@[simp] theorem G5(l:List (Option (List UInt8))):(iT l).length=l.length:=by simp[iT]
section
variable{w w':World}{b:Nat}{nv ov:Value}{a:St}{S:List Nat}
end
attribute [local go_sem ↓] bz
end Sh
namespace Sh
open Go.RowKit Pk Dk Pg
attribute [local go_sem ↓] Go.wp_at_zero Go.wp_at_succ
def St.aD(a:St)(l:Int)(p:List UInt8):St×Int:=
 if 232<p.length then(a,4)
 else if ¬(a.at l).isSome=true then(a,3)
 else if fO (a.at l)=false/\a.free=0 then(a,11)
 else({a with now:=a.now.set l.toNat (some (true,eP p 232))},0)
attribute [local go_sem ↓] bz
def jU(l:List rJ):Nat->Nat
 |0=>0
 |k+1=>if((l[k]?).getD none).isSome then k+1 else jU l k
theorem G6(l:List rJ):∀k,jU l k<=k
 |0=>ak _
 |k+1=>by
  unfold jU
  split
  .exact ak _
  .have:=G6 l k;omega
def St.eg(a:St):List (Option (List UInt8)):=(a.now.take (jU a.now a.now.length)).map λo=>o.map Prod.snd
def unfr(o:rJ):rJ:=o.map λx=>(false,x.2)
theorem TE(a:St):iT a.eg=(a.now.take (jU a.now a.now.length)).map unfr:=by
 unfold iT St.eg;rw[j6];apply gy;intro o _
 cases o<;>rfl
def St.aK(a:St):St×Int:=if a.free<cM a.eg.length then(a,11)else({a with now:=iT a.eg,bX:=a.eg,ep:=a.ep+1},0)
theorem zu(a:St):a.eg.length<=a.now.length:=by
 unfold St.eg;rw[fo,bm];omega
end Sh
namespace Sh
open Go.RowKit Pk Dk Pg
attribute [local go_sem ↓] Go.wp_at_zero Go.wp_at_succ
def TF(l:List rJ)(o:List rJ)(i:Nat):Bool:=((o[i]?).getD none).isSome && (!((l[i]?).getD none).isSome || fO ((l[i]?).getD none))
def E3(l:List rJ)(o:List rJ):Nat->Nat
 |0=>0
 |k+1=>E3 l o k+if TF l o k then 1 else 0
def St.leaving(a:St):Nat:=E3 a.now (iT a.bX) a.bX.length
end Sh
end Go.Proofs.YtmonobkginiajaaGreat
