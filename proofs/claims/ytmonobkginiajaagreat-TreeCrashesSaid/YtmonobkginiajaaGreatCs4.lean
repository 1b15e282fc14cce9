/- packed. -/
import Derived.WalkMore
import Derived.Defers
import Derived.Recover
import Derived.Test.YtmonobkginiajaaGreatCs3
set_option linter.all false
set_option maxRecDepth 100000
set_option maxHeartbeats 8000000
namespace Go.Proofs.YtmonobkginiajaaGreat
open Go.Proofs.Tryz
open Value renaming string→U7,slice→U3,int→U5,bool→WF,pointer→st,tuple→rg
open Ending renaming returned→fd
open IntKind renaming i64→U6
open Obj renaming cells→Pi
open Go renaming World→BY,Value→By,Calls→io
open List renaming replicate→it
open UInt8 renaming ofNat→wf
namespace Sh
open Go.RowKit Pk Dk Pg
variable{w:BY}{g:Nat}
structure Fr where
 au:Int
 fS:Nm
 held:Int
 cH:Bool
 used:Bool
def Fr.cs(f:Fr):List By:=[U5 U6 f.au,U7 f.fS,U5 U6 f.held,WF f.cH,WF f.used]
def Fr.agg(f:Fr):By:= .agg #[U5 U6 f.au,U7 f.fS,U5 U6 f.held,WF f.cH,WF f.used]
def Fr.nil:Fr:=⟨-1,⟨#[]⟩,0,false,false⟩
def GY(l:List Fr):List By:=l.flatMap Fr.cs
def nU(l:List Fr):(GY l).length=l.length*5:=by
 induction l with
 |nil=>rfl
 |cons f l ih=>simp only[GY,jg,bC]at ih ⊢;rw[ih];simp[Fr.cs];omega
def frc_get(l:List Fr)(k i:Nat)(hi:i<5)(f:Fr)(hf:l[k]?=some f):(GY l)[k*5+i]?=f.cs[i]?:=by
 induction l generalizing k with
 |nil=>simp at hf
 |cons a l ih=>
  have e5:a.cs.length=5:=rfl;simp only[GY,jg]at ih ⊢
  cases k with
  |zero=>
   simp at hf;subst hf;rw[qA,bV,bX ls]
  |succ k=>
   simp at hf;rw[eC ls,e5,show(k+1)*5+i-5=k*5+i from by omega];exact ih k hf
def Af(w:BY)(g:Nat)(l:List Fr):Prop:= ∀k f,l[k]?=some f->w.cell? ⟨g,k*5,none⟩=some (U5 U6 f.au)/\w.cell? ⟨g,k*5+1,none⟩=some (U7 f.fS)/\w.cell? ⟨g,k*5+2,none⟩=some (U5 U6 f.held)/\w.cell? ⟨g,k*5+3,none⟩=some (WF f.cH)/\w.cell? ⟨g,k*5+4,none⟩=some (WF f.used)
def Af.of{l:List Fr}{rest:List By}{t:TypeId}(B:aM w g t (GY l++rest).toArray):Af w g l:=by
 intro k f hf;have hk:k<l.length:=(aW.1 hf).1;have hl:=nU l;have c:∀i v,i<5->f.cs[i]?=some v->w.cell? ⟨g,k*5+i,none⟩=some v:=λi v hi hv=>
  B.ae (by rw[dr,bX ls,frc_get l k i hi f hf,hv])
 exact⟨c 0 _ ls rfl,c 1 _ ls rfl,c 2 _ ls rfl,c 3 _ ls rfl,c 4 _ ls rfl⟩
def Af.below{w':BY}{l:List Fr}(h:Af w g l)(hb:i7 w w'):Af w' g l:=by
 intro k f hf;obtain⟨c0,c1,c2,c3,c4⟩:=h k f hf;exact⟨(hb.cell (dU c0)).trans c0,(hb.cell (dU c1)).trans c1,(hb.cell (dU c2)).trans c2,(hb.cell (dU c3)).trans c3,(hb.cell (dU c4)).trans c4⟩
def Gl(b:Fr->Bool)(l:List Fr):Int:=if l.findIdx b<l.length then(l.findIdx b:Int)else -1
def findF(l:List Fr)(p:Int):Int:=if p<0 then -1 else Gl (λf=>decide (f.au=p)) l
def wX{b:Fr->Bool}{l:List Fr}{k:Nat}{f:Fr}(hf:l[k]?=some f)(hb:b f=true)(ha:∀(j:Nat) (a:Fr),j<k->l[j]?=some a->b a=false):Gl b l=k:=by
 have hk:k<l.length:=(aW.1 hf).1;have hg:l[k]=f:=(aW.1 hf).2;have e:l.findIdx b=k:=by
  rw[List.findIdx_eq hk];exact⟨by rw[hg];exact hb,λj hj=>by have:=ha j l[j] hj (aQ ls);simp[this]⟩
 unfold Gl;rw[e,U8 hk]
def Dq{b:Fr->Bool}{l:List Fr}(ha:∀(j:Nat) (a:Fr),l[j]?=some a->b a=false):Gl b l= -1:=by
 have e:l.findIdx b=l.length:=by
  rw[List.findIdx_eq_length];intro x hx;obtain⟨i,hi,rfl⟩:=List.mem_iff_getElem.1 hx;exact ha i _ (aQ hi)
 unfold Gl;rw[e,U9 (Bu _)]
def UN{fn:Func}{p:Tmp}{f:Fr}{tmps:Array By}(h:fn.results= #[.cell p 167])(hp:tmps.getD p undef=st (some ⟨g,0,none⟩))(B:aM w g 167 f.cs.toArray):
  (results fn tmps).run prog w=.ok f.agg w:=by
 have c0:=B.bi 0;have c1:=B.bi 1;have c2:=B.bi 2;have c3:=B.bi 3;have c4:=B.bi 4;rw[eE h,hp];clear h hp B;unfold Fr.agg;go_simp;exact⟨rfl,rfl,rfl,rfl,rfl⟩
def nE(w:BY):io prog 86 #[] w λe w'=>e=fd Fr.nil.agg/\i7 w w':=by
 unfold Fr.nil Fr.agg;go_in;go_wp2;exact bodyPost_ret (UN (f:=Fr.nil) rfl rfl (aM.new w 167 Fr.nil.cs.toArray)) rfl ⟨rfl,i6 w _⟩
def ub(f:Fr)(q:Nat)(p:Int)(w:BY)(hq:w.cell? (lc q)=some (p:li))(b:Bool)(hb:b=decide (f.au=p)):
  io prog 221 #[f.agg,lc q] w λe w'=>e=fd (WF b)/\i7 w w':=by
 have O0:=xh<|(i5 w).alloc (ai _) (Pi #[f.au,U7 f.fS,f.held,WF f.cH,WF f.used] 167);have B0:=aM.new w 167 #[f.au,U7 f.fS,f.held,WF f.cH,WF f.used];have c0:=B0.bi 0;have HB:=xh hb;have FV:=(O0.o.cell (dU hq)).trans hq;clear hb hq B0;unfold Fr.agg;go_in;go_wp2;go_ret;exact⟨by rw[HB.o];rfl,O0.o⟩
def PY(g n c q:Nat)(p:Int)(l:List Fr)(h:Af w g l)(hl:l.length=n)(hn:n<=1000000)(hq:w.cell? (lc q)=some (p:li)):
  io prog 220 #[U3 (lc g) n c,.func (Fn.func 221) #[] #[lc q]] w λe w'=>e=fd (U5 U6 (Gl (λf=>decide (f.au=p)) l))/\i7 w w':=by
 have HL:=xh hl;have H0:=xh h;have HQ:=xh hq;clear h hq hl;go_in;go_wp2_with fail
 go_loopw [8] (λiv wr=> ∃i:Nat,i<=n/\iv=U5 U6 i/\Hid (∀j a,j<i->l[j]?=some a->decide (a.au=p)=false)/\Hid (i7 w wr)) (λiv _=>n-(intOf iv).toNat)
 case atStart=>exact⟨0,bG _,rfl,xh (λj a hj=>eq hj (lA j)),xh (Below.refl _ _)⟩
 case round=>
  obtain⟨i,hi,rfl,HA,HB⟩:=hrel
  by_cases h:i<n
  .have hf:l[i]?=some (l[i]'(by have:=HL.o;omega)):=aQ _;generalize (l[i]'(by have:=HL.o;omega))=f at hf;obtain⟨c0,c1,c2,c3,c4⟩:=(H0.o.below HB.o) i f hf;have KF:=xh<|ub f q p wr ((HB.o.cell (dU HQ.o)).trans HQ.o) _ rfl;have HF:=xh hf;clear hf;unfold Fr.agg at KF;obtain⟨b,hb⟩:∃b,decide (f.au=p)=b:=⟨_,rfl⟩;rw[hb]at KF;have HD:=xh hb;clear hb;go_wp2_with fail;go_call KF.o as e w1 ⟨rfl,bu⟩
   have Jr:=xh<|aE HB.o bu;clear bu
   cases b with
   |true=>
    have he:=xh<|wX (b:=λf=>decide (f.au=p)) HF.o HD.o HA.o;go_wp2;go_ret;exact⟨by rw[he.o];rfl,Jr.o⟩
   |false=>
    go_wp2;go_roundw
    case rel=>
     refine⟨i+1,ls,by go_num,xh (λj a hj ha=>?_),Jr⟩
     rcases oL.1 hj with hj|rfl
     .exact HA.o j a hj ha
     .have:=HF.o.symm.trans ha;injection this with this
      subst this;exact HD.o
    case measure=>simp[intOf];omega
  .have he:=xh<|Dq (b:=λf=>decide (f.au=p)) (l:=l) (λj a ha=>HA.o j a (by have:=(aW.1 ha).1;have:=HL.o;omega) ha);go_wp2;go_ret;exact⟨by rw[he.o];rfl,HB.o⟩
attribute [local go_sem ↓] bP
variable{w:BY}{v:By}
def PZ:(prog.info? 167).map (λi=>(i.zero,i.size,i.bytes))=some (some (.agg #[U5 U6 0,U7 ⟨#[]⟩,U5 U6 0,WF false,WF false]),5,40):=pm
def P0(l k:List Fr):GY (l++k)=GY l++GY k:=by simp[GY]
def bstep2{a b c:BY}(h:i7 w a)(k:i7 a b)(o:ah (ak v) b c)(hf:∀g∈ak v,w.heap.size<=g):i7 w c:=
 (aE h k).trans (o.bI (aD h.size k.size) hf)
def append_nil{n:Nat}{l:List Fr}(h:bm w 167 5 v n (GY l))(hn:n<=1000):
  ∃v' w',eM prog 141 141 (w.alloc (Pi #[U5 U6 (-1),U7 ⟨#[]⟩,U5 U6 0,WF false,WF false] 167)) v (U3 (lc w.heap.size) 1 1)= .ok v' w'/\bm w' 167 5 v' (n+1) (GY (l++[Fr.nil]))/\ah (ak v) w w'/\(∀g∈ak v',g∈ak v\/w.heap.size<=g):=by
 obtain⟨i0,hi,lC,kH,lM⟩:=info_parts PZ;obtain⟨v',w',h1,h2,h3,h4⟩:=eu (P:=prog) (h.alloc (Pi #[U5 U6 (-1),U7 ⟨#[]⟩,U5 U6 0,WF false,WF false] 167)) 141 141 i0 _ 40 underlying141 hi lC kH lM rfl ls
  ⟨w.heap.size,0,none⟩ 1 1 Fr.nil.cs rfl (bT (l:=Fr.nil.cs) (aM.new w _ #[U5 U6 (-1),U7 ⟨#[]⟩,U5 U6 0,WF false,WF false]) 0 _ (by intro j u hu;rw[bV];exact hu)) (by intro u hu;simp[Fr.cs,Fr.nil]at hu;rcases hu with rfl|rfl|rfl|rfl<;>rfl) (by unfold maxLen;omega) ls
 refine⟨v',w',h1,?_,((ah.refl _ _).alloc _).bj h3 (λx hx _=>hx),λg hg=>(h4 g hg).imp id (λh=>by simp at h;omega)⟩;rw[P0];exact h2
def Lv(b k:Nat)(h1:1<=k)(h2:k<=32):
  io prog 34 #[sp b,(k:Nat)] w λe w'=> ∃pb v,e=fd (rg #[lc pb,U5 U6 0])/\aM w' pb 143 #[sp b,v,U5 U6 0]/\bm w' 167 5 v k (GY (it k Fr.nil))/\i7 w w'/\w.heap.size<=pb/\∀g∈ak v,w.heap.size<=g:=by
 have KE:=xh nE;have O0:=xh<|i6 w (Pi #[sp b,U3 none 0 0,U5 U6 0] 143);have B0:=xh<|aM.new w 143 #[sp b,U3 none 0 0,U5 U6 0];have k1:¬(k:Int)<1:=ls
 have k2:¬(32:Int)<(k:Int):=ls
 unfold sp at *;go_in;go_wp2_with fail;generalize hwa:w.alloc (Pi #[lc b,U3 none 0 0,U5 U6 0] 143)=wa at *;clear hwa
 go_loopw [21] (λiv wr=> ∃i:Nat,i<=k/\iv=U5 U6 i/\∃v,Hid (aM wr w.heap.size 143 #[lc b,v,U5 U6 0])/\Hid (bm wr 167 5 v i (GY (it i Fr.nil)))/\Hid (i7 w wr)/\Hid (∀g∈ak v,w.heap.size<=g)) (λiv _=>k-(intOf iv).toNat)
 case atStart=>exact⟨0,bG _,rfl,U3 none 0 0,B0,xh (bm.nil _ _ _),O0,xh (by simp[ak])⟩
 case round=>
  obtain⟨i,hi,rfl,v,BP,SP,OB,FR⟩:=hrel
  by_cases h:i<k
  .obtain⟨A,cc,rfl⟩:=aI SP.o;have hI:(i:Int)<(k:Int):=ls
   have OD:=g9 (i7 wr wr.drew) ((Below.refl _ _).drew);have c0:=BP.ap 1;have NB:=g9 (w.heap.size∉ak (U3 A i cc)) (eg SP.o BP.o ms);go_wp2;refine kw (λ_=>True) (trivial) (λaC=>?_);refine dj [(0,23),(1,24),(2,25),(3,26)] ?_
   iterate 4 refine bJ ?_
   refine wpAnyH_ready (rs:=[4,5]) pm lw ?_;refine AllReadyH.cons (o:=⟨some 27,_,_,_,_,_⟩) rfl (λK hK=>?_) (AllReadyH.cons (o:=⟨some 28,_,_,_,_,_⟩) rfl (λK hK=>?_) AllReadyH.nil)
   focus
    go_simp;refine ip hK ?_;refine dV 5 28 λK hK=>?_;go_simp
    go_at_call 86
    go_call (KE.o _) as e v1 ⟨rfl,rB⟩;have P1:=xh<|aE OD.o rB;have BP1:=xh<|BP.o.below P1.o BP.o.lt;have SP1:=xh<|SP.o.below P1.o;have cl:=BP1.ap 1;clear rB;unfold Fr.nil Fr.agg;go_simp;refine ip hK ?_;refine dV 6 29 λK hK=>?_;go_simp;obtain⟨v2,w2,ea,S2,Xg,GW⟩:=append_nil SP1.o ls;obtain⟨A2,cc2,rfl⟩:=aI S2;have EA:=xh ea;have SP2:=xh S2;have OW2:=xh Xg
    have FR2:=xh GW;have BP2:=xh<|BP1.o.only OW2.o NB.o;clear ea S2 Xg GW cl;refine ip hK ?_;refine dV 7 30 λK hK=>?_;go_simp;rw[EA.o];go_simp;refine ip hK ?_;refine dj [(8,31),(9,32)] ?_
    iterate 2 refine bJ ?_
    refine pF 10 λK hK=>?_;go_simp;have q0:=BP2.ap 1;have q1:=BP2.o.frozen 1 lw;go_simp;refine ip hK ?_
   rotate_left
   focus
    go_simp
    go_at_call 86
    go_call (KE.o _) as e v1 ⟨rfl,rB⟩;have P1:=xh<|aE OD.o rB;have BP1:=xh<|BP.o.below P1.o BP.o.lt;have SP1:=xh<|SP.o.below P1.o;have cl:=BP1.ap 1;clear rB;unfold Fr.nil Fr.agg;go_simp;refine ip hK ?_;refine wpAnyH_ready (rs:=[4,6]) pm lw ?_;refine AllReadyH.cons (o:=⟨some 27,_,_,_,_,_⟩) rfl (λK hK=>?_) (AllReadyH.cons (o:=⟨some 29,_,_,_,_,_⟩) rfl (λK hK=>?_) AllReadyH.nil)
    focus
     go_simp;refine ip hK ?_;refine dV 6 29 λK hK=>?_;go_simp;obtain⟨v2,w2,ea,S2,Xg,GW⟩:=append_nil SP1.o ls;obtain⟨A2,cc2,rfl⟩:=aI S2;have EA:=xh ea;have SP2:=xh S2;have OW2:=xh Xg;have FR2:=xh GW;have BP2:=xh<|BP1.o.only OW2.o NB.o;clear ea S2 Xg GW cl;refine ip hK ?_;refine dV 7 30 λK hK=>?_;go_simp;rw[EA.o];go_simp;refine ip hK ?_
     refine dj [(8,31),(9,32)] ?_
     iterate 2 refine bJ ?_
     refine pF 10 λK hK=>?_;go_simp;have q0:=BP2.ap 1;have q1:=BP2.o.frozen 1 lw;go_simp;refine ip hK ?_
    rotate_left
    focus
     go_simp;obtain⟨v2,w2,ea,S2,Xg,GW⟩:=append_nil SP1.o ls;obtain⟨A2,cc2,rfl⟩:=aI S2;have EA:=xh ea;have SP2:=xh S2;have OW2:=xh Xg;have FR2:=xh GW;have BP2:=xh<|BP1.o.only OW2.o NB.o;clear ea S2 Xg GW cl;have cl:=(BP1.o.alloc (Pi #[U5 U6 (-1),U7 ⟨#[]⟩,U5 U6 0,WF false,WF false] 167)).ae (i:=1) rfl;refine ip hK ?_;refine dV 4 27 λK hK=>?_;go_simp
     refine ip hK ?_;refine dV 7 30 λK hK=>?_;go_simp;rw[EA.o];go_simp;refine ip hK ?_;refine dj [(8,31),(9,32)] ?_
     iterate 2 refine bJ ?_
     refine pF 10 λK hK=>?_;go_simp;have q0:=BP2.ap 1;have q1:=BP2.o.frozen 1 lw;go_simp;refine ip hK ?_
    rotate_left
   rotate_left 2
   all_goals
    refine jp ?_ _;have BP3:=BP2.o.ct 1 (U3 A2 (i+1) cc2);have SP3:=SP2.o.only ((ah.refl [w.heap.size] w2).setCell (p:=⟨w.heap.size,1,none⟩) lw (U3 A2 (i+1) cc2)) (λg hg hm=>by simp at hm;subst hm;exact eg SP2.o BP2.o ms hg);have O3:=Below.setCell (bstep2 OB.o P1.o OW2.o FR.o) (p:=⟨w.heap.size,1,none⟩) (ai _) (U3 A2 (i+1) cc2)
    have Lw:∀g∈ak (U3 A2 (i+1) cc2),w.heap.size<=g:=λg hg=>(FR2.o g hg).elim (FR.o g) (λh=>by have:=OB.o.size;have:=P1.o.size;omega);have BP4:=xh BP3;have SP4:=xh SP3;have O4:=xh O3;have HFR:=xh Lw;clear BP3 SP3 O3 Lw q0 q1;go_wp2;go_roundw
    case rel=>
     refine⟨i+1,ls,by go_num,U3 A2 (i+1) cc2,BP4,?_,O4,HFR⟩;rw[show it (i+1) Fr.nil=it i Fr.nil++[Fr.nil]from Bo];exact SP4
    case measure=>simp[intOf];omega
  .have e:i=k:=ls
   subst e;go_wp2;go_ret2;exact⟨w.heap.size,v,by first|rfl|simp,BP.o,SP.o,OB.o,ai _,FR.o⟩
end Sh
namespace Sh
open Go.RowKit Pk Dk Pg
structure Y where
 x:X
 pb:Nat
 fg:Nat
 cp:Nat
structure PS where
 c:C
 l:List Fr
 hand:Nat
def pp(b:Nat):By:=st (some ⟨b,0,none⟩)
def Y.fp(y:Y):List Nat:=y.pb::y.fg::y.x.fp
structure ju(w:BY)(y:Y)(n:Nat)(s:PS):Prop where
 hp:aM w y.pb 143 #[sp y.x.b,U3 (lc y.fg) s.l.length y.cp,U5 U6 (s.hand:Nat)]
 hf:bm w 167 5 (U3 (lc y.fg) s.l.length y.cp) s.l.length (GY s.l)
 hs:At w y.x n s.c
 n1:y.pb∉y.x.fp
 n2:y.fg∉y.x.fp
 l1:1<=s.l.length
 l2:s.l.length<=32
 lh:s.hand<s.l.length
section
variable{w w':BY}{y:Y}{n:Nat}{s:PS}{S:List Nat}
def ju.n3(h:ju w y n s):y.pb≠y.fg:=λe=>eg h.hf h.hp ms (by simp[ak,e])
def ju.only(h:ju w y n s)(ho:ah S w w')(hd:∀g∈y.fp,g∉S):ju w' y n s:=
 ⟨h.hp.only ho (hd _ (by simp[Y.fp])),h.hf.only ho (λg hg=>hd g (by simp[ak]at hg;simp[Y.fp,hg])),h.hs.only ho (λg hg=>hd g (by simp[Y.fp,hg])),h.n1,h.n2,h.l1,h.l2,h.lh⟩
def ju.below(h:ju w y n s)(hb:i7 w w'):ju w' y n s:=h.only (S:=[]) (.aj hb) lw
def ju.drew(h:ju w y n s):ju w.drew y n s:=h.below ((Below.refl _ _).drew)
def ju.lt(h:ju w y n s):∀g∈y.fp,g<w.heap.size:=by
 intro g hg;simp only[Y.fp,ax]at hg
 rcases hg with rfl|rfl|hg
 .exact h.hp.lt
 .exact h.hf.lt _ (by simp[ak])
 .exact h.hs.lt g hg
def ju.p0(h:ju w y n s):w.cell? (lc y.pb)=some (lc y.x.b:li):=h.hp.ae rfl
def ju.p1(h:ju w y n s):w.cell? ⟨y.pb,1,none⟩=some (U3 (lc y.fg) s.l.length y.cp):=h.hp.ae rfl
def ju.p2(h:ju w y n s):w.cell? ⟨y.pb,2,none⟩=some ((s.hand:Nat):li):=h.hp.ae rfl
def ju.Cb(h:ju w y n s):Af w y.fg s.l:=by
 obtain⟨rest,B,_⟩:=h.hf.ya;exact .of B
def ju.store(h:ju w y n s){c':C}(p:∃x',x'.b=y.x.b/\x'.L=y.x.L/\At w' x' n c'/\ah y.x.fp w w'/\∀g∈x'.fp,g∈y.x.fp\/w.heap.size<=g):
  ∃y',y'.pb=y.pb/\y'.fg=y.fg/\y'.cp=y.cp/\y'.x.b=y.x.b/\y'.x.L=y.x.L/\ju w' y' n {s with c:=c'}/\ah y.fp w w'/\∀g∈y'.fp,g∈y.fp\/w.heap.size<=g:=by
 obtain⟨x',e1,e2,A,o,fr⟩:=p;have l1:=h.lt y.pb (by simp[Y.fp]);have l2:=h.lt y.fg (by simp[Y.fp]);refine⟨⟨x',y.pb,y.fg,y.cp⟩,rfl,rfl,rfl,e1,e2,⟨?_,h.hf.only o (λg hg=>by simp[ak]at hg;subst hg;exact h.n2),A,?_,?_,h.l1,h.l2,h.lh⟩,o.mono (λg hg _=>by simp[Y.fp,hg]),?_⟩
 .show aM w' y.pb _ #[sp x'.b,_,_];rw[e1];exact h.hp.only o h.n1
 .exact λhg=>(fr _ hg).elim h.n1 (λh=>eq l1 (Bx.2 h))
 .exact λhg=>(fr _ hg).elim h.n2 (λh=>eq l2 (Bx.2 h))
 .intro g hg;simp only[Y.fp,ax]at hg ⊢
  rcases hg with rfl|rfl|hg
  .exact .inl (.inl rfl)
  .exact .inl (.inr (.inl rfl))
  .exact(fr g hg).imp (λh=> .inr (.inr h)) id
end
def jV{w:BY}{y:Y}{n:Nat}{s:PS}(h:ju w y n s)(l:Int):
  io prog 178 #[pp y.pb,l] w λe w'=>e=fd (U5 U6 (findF s.l l))/\i7 w w':=by
 have O0:=xh<|i6 w (Pi #[l] 3);have B0:=xh<|aM.new w 3 #[l];have H0:=h.below O0.o;have q0:=B0.ap 0;have KI:=xh<|PY y.fg s.l.length y.cp w.heap.size l s.l H0.Cb rfl (by have:=h.l2;omega) q0;have p1:=H0.p1;obtain⟨R,hR⟩:∃R,findF s.l l=R:=⟨_,rfl⟩;rw[hR];unfold findF at hR;generalize s.l.length=tn at *;clear H0 h;unfold pp
 by_cases h1:l<0
 .rw[U8 h1]at hR;subst hR;go_in;go_wp2;go_ret;exact bz O0.o
 .rw[U9 h1]at hR;rw[hR]at KI;clear hR;go_in;go_wp2_with fail;go_call KI.o as e w1 ⟨rfl,bu⟩;have O1:=xh<|aE O0.o bu;clear bu;go_wp2;go_ret;exact bz O1.o
def frc_set(l:List Fr)(k j:Nat)(hj:j<5)(f f':Fr)(u:By)(hf:l[k]?=some f)(hu:f'.cs=f.cs.set j u):(GY l).set (k*5+j) u=GY (l.set k f'):=by
 induction l generalizing k with
 |nil=>simp at hf
 |cons a l ih=>
  have e5:a.cs.length=5:=rfl
  cases k with
  |zero=>
   simp at hf;subst hf;simp only[GY,jg,List.set_cons_zero,qA,bV]at ih ⊢;rw[Bq _ _ ls,hu]
  |succ k=>
   simp at hf;have:=ih k hf;simp only[GY,jg,List.set_cons_succ]at this ⊢;rw[tG _ _ ls,e5,show(k+1)*5+j-5=k*5+j from by omega,this]
section
variable{w w':BY}{y:Y}{n:Nat}{s:PS}{S:List Nat}
def ju.eP(h:ju w y n s)(k j:Nat)(hj:j<5){f:Fr}(f':Fr)(u:By)(hf:s.l[k]?=some f)(hu:f'.cs=f.cs.set j u):
  w.frozen? ⟨y.fg,k*5+j,none⟩=false/\ju (w.setCell ⟨y.fg,k*5+j,none⟩ u) y n {s with l:=s.l.set k f'}/\ah y.fp w (w.setCell ⟨y.fg,k*5+j,none⟩ u):=by
 have hk:k<s.l.length:=(aW.1 hf).1;have hl:=nU s.l;obtain⟨rest,B,hr,_,hm⟩:=h.hf.ya;have o:ah [y.fg] w (w.setCell ⟨y.fg,k*5+j,none⟩ u):=(ah.refl _ _).setCell lw _;have B2:=B.ct (k*5+j) u;rw[tF,Bq _ _ ls,frc_set s.l k j hj f f' u hf hu]at B2
 refine⟨B.frozen _ (by simp;omega),⟨?_,?_,h.hs.only o (λg hg hm=>by simp at hm;subst hm;exact h.n2 hg),h.n1,h.n2,by simpa using h.l1,by simpa using h.l2,by simpa using h.lh⟩,o.mono (λg hg _=>by simp at hg;subst hg;simp[Y.fp])⟩
 .have:=h.hp.only o (by simpa using h.n3);simpa using this
 .refine⟨by rw[nU],.inr ⟨y.fg,y.cp,rest,lw,B2,by rw[nU,bR];omega,hm⟩⟩
def ju.setH(h:ju w y n s)(k:Nat)(hk:k<s.l.length):
  w.frozen? ⟨y.pb,2,none⟩=false/\ju (w.setCell ⟨y.pb,2,none⟩ (k:Nat)) y n {s with hand:=k}/\ah y.fp w (w.setCell ⟨y.pb,2,none⟩ (k:Nat)):=by
 have o:ah [y.pb] w (w.setCell ⟨y.pb,2,none⟩ (k:Nat)):=(ah.refl _ _).setCell lw _;have n3:=h.n3;refine⟨h.hp.frozen 2 lw,⟨h.hp.ct 2 _,h.hf.only o (λg hg hm=>by simp[ak]at hg hm;omega),h.hs.only o (λg hg hm=>by simp at hm;subst hm;exact h.n1 hg),h.n1,h.n2,h.l1,h.l2,hk⟩,o.mono (λg hg _=>by simp at hg;subst hg;simp[Y.fp])⟩
end
def Dr(b:Fr->Bool)(l:List Fr):Gl b l= -1\/∃k f,Gl b l=((k:Nat):Int)/\l[k]?=some f/\b f=true:=by
 unfold Gl
 by_cases h:l.findIdx b<l.length
 .rw[U8 h];exact .inr ⟨l.findIdx b,l[l.findIdx b],rfl,aQ h,rN⟩
 .rw[U9 h];exact .inl rfl
def gF(l:List Fr)(p:Int):findF l p= -1\/∃k f,findF l p=((k:Nat):Int)/\l[k]?=some f/\f.au=p/\0<=p:=by
 unfold findF
 by_cases h:p<0
 .rw[U8 h];exact .inl rfl
 .rw[U9 h];exact(Dr _ l).imp id (λ⟨k,f,e1,e2,e3⟩=>⟨k,f,e1,e2,by simpa using e3,ls⟩)
def PS.eX(s:PS)(p:Int):Option (Nat×Fr):=
 if findF s.l p<0 then none else match s.l[(findF s.l p).toNat]? with
  |none=>none
  |some f=>if f.held=0 then none else some ((findF s.l p).toNat,f)
def wY(y:Y):Option (Nat×Fr)->By
 |none=>rg #[st none,U5 U6 16]
 |some (k,_)=>rg #[st (some ⟨y.fg,k*5,none⟩),U5 U6 0]
def Ds{w:BY}{y:Y}{n:Nat}{s:PS}(h:ju w y n s)(p:Int):
  io prog 230 #[pp y.pb,p] w λe w'=>e=fd (wY y (s.eX p))/\i7 w w':=by
 have KF:=xh<|jV h p;have HB:=xh (λw' (hb:i7 w w')=>h.below hb);obtain⟨R,hR⟩:∃R,wY y (s.eX p)=R:=⟨_,rfl⟩;rw[hR];unfold PS.eX at hR;unfold pp at *
 rcases gF s.l p with e|⟨k,f,e,hf,_,_⟩
 .rw[e,g8]at hR;rw[e]at KF;subst hR;unfold wY;clear h e;go_in;go_wp2_with fail;go_call KF.o as e w1 ⟨rfl,bu⟩;have O1:=xh bu;clear bu;go_wp2;go_ret2;exact bz O1.o
 .rw[e,ge,show((k:Nat):Int).toNat=k from by omega,hf]at hR;rw[e]at KF;have hk:k<s.l.length:=(aW.1 hf).1;have Oy:(k:Int)<(s.l.length:Int):=ls
  have UO:¬(k:Int)<0:=ls
  have HX:=xh (λw' (hb:i7 w w')=>(show w'.cell? ⟨y.pb,1,none⟩=some (U3 (lc y.fg) s.l.length y.cp)/\w'.cell? ⟨y.fg,k*5+2,none⟩=some (f.held:li)from⟨(HB.o w' hb).p1,((HB.o w' hb).Cb k f hf).2.2.1⟩));have HL:=g9 (s.l.length<=32) h.l2;dsimp only at hR
  by_cases hh:f.held=0
  .rw[U8 hh]at hR;subst hR;have hq:(f.held==0)=true:=by rw[beq_iff_eq];exact hh
   unfold wY;clear h e hf hk hh;generalize f.held=fh at *;generalize s.l.length=tn at *;go_in;go_wp2_with fail;go_call KF.o as e w1 ⟨rfl,bu⟩;have O1:=xh bu;obtain⟨x1,x2⟩:=HX.o w1 bu;clear bu;go_wp2;go_ret2;exact bz O1.o
  .rw[U9 hh]at hR;subst hR;have hq:(f.held==0)=false:=i4 hh
   unfold wY;clear h e hf hk hh;generalize f.held=fh at *;generalize s.l.length=tn at *;go_in;go_wp2_with fail;go_call KF.o as e w1 ⟨rfl,bu⟩;have O1:=xh bu;obtain⟨x1,x2⟩:=HX.o w1 bu;clear bu;go_wp2;go_ret2;exact bz O1.o
variable{w:BY}{y:Y}{n:Nat}
def PS.fG(s:PS)(p:Int):PS×Int:=match s.eX p with
 |none=>(s,16)
 |some (k,f)=>({s with l:=s.l.set k {f with held:=f.held-1}},0)
def Dt{s:PS}{p:Int}{k:Nat}{f:Fr}(h:s.eX p=some (k,f)):s.l[k]?=some f/\f.held≠0/\findF s.l p=k:=by
 unfold PS.eX at h
 rcases gF s.l p with e|⟨j,g,e,hf,_,_⟩
 .rw[e,g8]at h
  cases h
 .rw[e,ge,show((j:Nat):Int).toNat=j from by omega,hf]at h;dsimp only at h
  split at h
  .cases h
  .rename_i hh;injection h with h
   injection h with h1 h2
   subst h1 h2;exact⟨hf,hh,e⟩
def PostP(w w':BY)(y:Y)(n:Nat)(s':PS):Prop:= ∃y',y'.pb=y.pb/\y'.fg=y.fg/\y'.cp=y.cp/\y'.x.b=y.x.b/\y'.x.L=y.x.L/\ju w' y' n s'/\ah y.fp w w'/\∀g∈y'.fp,g∈y.fp\/w.heap.size<=g
def let_any{s:PS}(h:ju w y n s)(p:Int)(hb:∀f∈s.l,-1000<=f.held/\f.held<=4000000000000):
  io prog 214 #[pp y.pb,p] w λe w'=>e=fd (U5 U6 (s.fG p).2)/\ju w' y n (s.fG p).1/\ah y.fp w w':=by
 have KH:=xh<|Ds h p;have HB:=xh (λw' (hb:i7 w w')=>h.below hb);obtain⟨R,hR⟩:∃R,s.fG p=R:=⟨_,rfl⟩;rw[hR];unfold PS.fG at hR;unfold pp at *
 cases hd:s.eX p with
 |none=>
  rw[hd]at hR KH;dsimp only at hR;subst hR;unfold wY at KH;clear h hd hb;go_in;go_wp2_with fail;go_call KH.o as e w1 ⟨rfl,bu⟩;have O1:=xh bu;clear bu;go_wp2;go_ret;exact bz ⟨HB.o _ O1.o,.aj O1.o⟩
 |some r=>
  obtain⟨k,f⟩:=r;obtain⟨hf,hh,_⟩:=Dt hd;rw[hd]at hR KH;dsimp only at hR;subst hR;have hfb:=hb f (ay hf);have HS:=xh (λw' (hb:i7 w w')=>(HB.o w' hb).eP k 2 ls {f with held:=f.held-1} (U5 U6 (f.held-1)) hf rfl);have HC:=xh (λw' (hb:i7 w w')=>((HB.o w' hb).Cb k f hf).2.2.1);have m1:U6.wrap (f.held-1)=f.held-1:=d9;unfold wY at KH;clear h hd hb hf hfb hh
  generalize f.held=fh at *;go_in;go_wp2_with fail;go_call KH.o as e w1 ⟨rfl,bu⟩;have O1:=xh bu;obtain⟨z1,A1,o1⟩:=HS.o w1 bu;have A1:=xh A1;have o1:=xh o1;have c1:=HC.o w1 bu;clear bu;go_wp2;go_ret;exact bz ⟨A1.o,(ah.aj O1.o).trans o1.o⟩
def UP{s:PS}(h:ju w y n s)(v:Nm)(hs:v.size<=9223372036854775807)(vz:0<=s.c.ep/\s.c.ep<=1099511627776)(hc:s.c.d.calls<=3999999999999999990)(hr:s.c.d.aq<=9223372036854775807):
  io prog 69 #[pp y.pb,U7 v] w λe w'=>e=fd (rg #[U5 U6 (s.c.bE n v.data.toList).2.1,U5 U6 (s.c.bE n v.data.toList).2.2])/\PostP w w' y n {s with c:=(s.c.bE n v.data.toList).1}:=by
 have KN:=xh<|new_any h.hs v hs vz hc hr;have HP:=xh (λw' (p:Be w w' y.x n (s.c.bE n v.pu).1)=>(show PostP w w' y n {s with c:=(s.c.bE n v.pu).1}from h.store p));have p0:=h.p0;generalize (s.c.bE n v.pu)=R at *;clear h hs vz hc hr;unfold pp sp at *;go_in;go_wp2_with fail;go_call KN.o as e w1 ⟨rfl,P1⟩;have P2:=xh<|HP.o w1 P1;clear P1;go_wp2;go_ret2;exact bz P2.o
def Qa{s:PS}(h:ju w y n s):
  io prog 28 #[pp y.pb] w λe w'=>e=fd (sp y.x.b)/\w=w':=by
 have p0:=h.p0;clear h;unfold pp sp at *;go_in;go_wp2;go_ret;exact bz rfl
variable{w:BY}
def UQ(f:Fr)(w:BY)(b:Bool)(hb:b=decide (f.au<0)):
  io prog 244 #[f.agg] w λe w'=>e=fd (WF b)/\i7 w w':=by
 have O0:=xh<|(i5 w).alloc (ai _) (Pi #[f.au,U7 f.fS,f.held,WF f.cH,WF f.used] 167);have B0:=aM.new w 167 #[f.au,U7 f.fS,f.held,WF f.cH,WF f.used];have c0:=B0.bi 0;have HB:=xh hb;clear hb B0;unfold Fr.agg;go_in;go_wp2;go_ret;exact⟨by rw[HB.o];first|rfl|simp,O0.o⟩
def Qb(g n c:Nat)(l:List Fr)(h:Af w g l)(hl:l.length=n)(hn:n<=1000000):
  io prog 220 #[U3 (lc g) n c,.func (Fn.func 244) #[] #[]] w λe w'=>e=fd (U5 U6 (Gl (λf=>decide (f.au<0)) l))/\i7 w w':=by
 have HL:=xh hl;have H0:=xh h;clear h hl;go_in;go_wp2_with fail
 go_loopw [8] (λiv wr=> ∃i:Nat,i<=n/\iv=U5 U6 i/\Hid (∀(j:Nat) (a:Fr),j<i->l[j]?=some a->decide (a.au<0)=false)/\Hid (i7 w wr)) (λiv _=>n-(intOf iv).toNat)
 case atStart=>exact⟨0,bG _,rfl,xh (λj a hj=>eq hj (lA j)),xh (Below.refl _ _)⟩
 case round=>
  obtain⟨i,hi,rfl,HA,HB⟩:=hrel
  by_cases h:i<n
  .have hf:l[i]?=some (l[i]'(by have:=HL.o;omega)):=aQ _;generalize (l[i]'(by have:=HL.o;omega))=f at hf;obtain⟨c0,c1,c2,c3,c4⟩:=(H0.o.below HB.o) i f hf;have KF:=xh<|UQ f wr _ rfl;have HF:=xh hf;clear hf;unfold Fr.agg at KF;obtain⟨b,hb⟩:∃b,decide (f.au<0)=b:=⟨_,rfl⟩;rw[hb]at KF;have HD:=xh hb;clear hb;go_wp2_with fail;go_call KF.o as e w1 ⟨rfl,bu⟩;have Jr:=xh<|aE HB.o bu;clear bu
   cases b with
   |true=>
    have he:=xh<|wX (b:=λf=>decide (f.au<0)) HF.o HD.o HA.o;go_wp2;go_ret;exact⟨by rw[he.o];rfl,Jr.o⟩
   |false=>
    go_wp2;go_roundw
    case rel=>
     refine⟨i+1,ls,by go_num,xh (λj a hj ha=>?_),Jr⟩
     rcases oL.1 hj with hj|rfl
     .exact HA.o j a hj ha
     .have:=HF.o.symm.trans ha;injection this with this
      subst this;exact HD.o
    case measure=>simp[intOf];omega
  .have he:=xh<|Dq (b:=λf=>decide (f.au<0)) (l:=l) (λj a ha=>HA.o j a (by have:=(aW.1 ha).1;have:=HL.o;omega) ha);go_wp2;go_ret;exact⟨by rw[he.o];rfl,HB.o⟩
def Ym{y:Y}{n q:Nat}{s:PS}(h:ju w y n s)(hq:w.cell? (lc q)=some (pp y.pb))(hqp:q≠y.pb):
  io prog 245 #[lc q] w λe w'=>e=fd (st (some ⟨y.fg,s.hand*5,none⟩))/\ju w' y n {s with hand:=(s.hand+1) % s.l.length}/\ah y.fp w w':=by
 have p1:=h.p1;have p2:=h.p2;have l1:=h.l1;have l2:=h.l2;have lh:=h.lh;obtain⟨m,hm⟩:∃m,(s.hand+1) % s.l.length=m:=⟨_,rfl⟩;have qs:m<s.l.length:=by rw[<-hm];exact qz _ ls
 have hmI:((s.hand:Int)+1).tmod (s.l.length:Int)=(m:Int):=by rw[<-hm,show((s.hand:Int)+1)=((s.hand+1:Nat):Int)from by omega];exact(Int.ofNat_tmod _ _).symm
 have hlI:(s.hand:Int)<(s.l.length:Int):=ls
 have m1:U6.wrap ((s.hand:Int)+1)=(s.hand:Int)+1:=d9;have m2:U6.wrap (m:Int)=(m:Int):=d9;have Gd:¬s.l=[]:=by intro e;rw[e]at l1;simp at l1
 rw[hm];have HB:=xh (λw' (hb:i7 w w')=>h.below hb);have QB:=xh (λw' (hb:i7 w w')=>(hb.cell (dU hq)).trans hq);clear h hm;unfold pp at *;go_in;go_wp2_with fail;go_quiet (fail);have O1:=xh<|dC (i5 w) nq;generalize w.drewN nq=w1 at *;have o0:=HB.o _ O1.o;have od:=o0.drew;have z:=(od.setH m qs).1;have A:=xh (od.setH m qs).2.1
 have OA:=xh<|(ah.aj O1.o.drew).trans (od.setH m qs).2.2;have p2d:=od.p2;have HS:=g9 (w1.drew.cell? (lc q)=some (lc y.pb:li)/\w1.drew.cell? ⟨y.pb,1,none⟩=some (U3 (lc y.fg) s.l.length y.cp)) ⟨QB.o _ O1.o.drew,od.p1⟩
 have yG:=xh (show(w1.drew.setCell ⟨y.pb,2,none⟩ (m:Nat)).cell? (lc q)=some (lc y.pb:li)/\(w1.drew.setCell ⟨y.pb,2,none⟩ (m:Nat)).cell? ⟨y.pb,1,none⟩=some (U3 (lc y.fg) s.l.length y.cp)from⟨by
  have c:=QB.o _ O1.o.drew;have o:=(ah.refl [y.pb] w1.drew).setCell (p:=⟨y.pb,2,none⟩) lw (m:Nat);exact(o.cell (dU c) (by simpa using hqp)).trans c,A.o.p1⟩)
 clear o0 od p1 p2 hq;go_wp2;refine kw (λW'=>W'.cell? (lc q)=some (lc y.pb:li)/\W'.cell? ⟨y.pb,1,none⟩=some (U3 (lc y.fg) s.l.length y.cp)) (HS.o) (λaC=>?_);refine dj [(0,12),(1,13),(2,14),(3,15),(6,18),(7,19),(8,20),(9,21),(10,22)] ?_
 iterate 9 refine bJ ?_
 refine dV 4 16 λK hK=>?_;go_simp;refine cq hK (HS.o) (λaC=>?_);refine dj [(5,17),(11,23),(12,24),(13,25)] ?_
 iterate 4 refine bJ ?_
 refine pF 14 λK hK=>?_;go_simp;refine cq hK (yG.o) (λaC=>?_);refine jp ?_ _;go_wp2;go_ret;exact bz ⟨A.o,OA.o⟩
def il(l:List Fr)(k:Nat):Fr:=(l[k]?).getD Fr.nil
def PS.turn(s:PS):PS:={s with hand:=(s.hand+1) % s.l.length}
def PS.gC:Nat->PS->PS×Int
 |0,s=>(s,-1)
 |m+1,s=>
  if 0<(il s.l s.hand).held then PS.gC m s.turn
  else if(il s.l s.hand).used=true then PS.gC m {s.turn with l:=s.l.set s.hand {il s.l s.hand with used:=false}}
  else(s.turn,(s.hand:Int))
def PS.az(s:PS):PS×Int:=
 if 0<=Gl (λf=>decide (f.au<0)) s.l then(s,Gl (λf=>decide (f.au<0)) s.l)else s.gC (2*s.l.length+1)
def j8{l:List Fr}{k:Nat}(h:k<l.length):l[k]?=some (il l k):=by unfold il;rw[aQ h];rfl
def Du{w:BY}{y:Y}{n:Nat}{s:PS}(h:ju w y n s):
  io prog 229 #[pp y.pb] w λe w'=>e=fd s.az.2/\ju w' y n s.az.1/\ah y.fp w w':=by
 have tQ:=h.lt y.pb (by simp[Y.fp]);have O0:=xh<|i6 w (Pi #[lc y.pb] 34);have B0:=xh<|aM.new w 34 #[lc y.pb];have H0:=xh<|h.below O0.o;have KI:=xh<|Qb y.fg s.l.length y.cp s.l H0.o.Cb rfl (by have:=h.l2;omega);have NP:=g9 (w.heap.size≠y.pb) ls;have NF:=g9 (w.heap.size∉y.fp) (λhm=>by have:=h.lt _ hm;omega)
 have q0:=B0.ap 0;have p1:=H0.o.p1;have l2:=h.l2;obtain⟨R,hR⟩:∃R,s.az=R:=⟨_,rfl⟩;rw[hR];unfold PS.az at hR;clear h tQ;unfold pp at *
 rcases Dr (λf=>decide (f.au<0)) s.l with e|⟨k,f,e,hf,_⟩
 .rw[e,ge]at hR;rw[e]at KI;obtain⟨N,hN⟩:∃N,2*s.l.length+1=N:=⟨_,rfl⟩;have m1:U6.wrap (2*(s.l.length:Int))=2*(s.l.length:Int):=d9;have m2:U6.wrap (2*(s.l.length:Int)+1)=(N:Int):=by rw[d9];omega
  have hN65:N<=65:=ls
  rw[hN]at hR;have HN:=xh hN;have HR:=xh hR;clear e hR hN;go_in;go_wp2_with fail
  go_step3
  go_wp2_with fail;go_call KI.o as e w1 ⟨rfl,bu⟩;have O1:=xh<|aE O0.o bu;have H1:=xh<|H0.o.below bu;have B1:=xh<|B0.o.below bu B0.o.lt;have p1':=H1.o.p1;have q1:=B1.ap 0;clear bu p1 q0;go_wp2_with fail
  go_step3
  go_wp2_with fail;clear p1' q1
  go_loopw [5,24] (λov iv wr=> ∃(i:Nat) (s':PS),i<=N/\ov=U5 U6 (-1)/\iv=U5 U6 i/\Hid (ju wr y n s')/\Hid (s'.gC (N-i)=R)/\Hid (ah y.fp w wr)/\Hid (aM wr w.heap.size 34 #[lc y.pb])) (λ_ iv _=>N-(intOf iv).toNat)
  case atStart=>exact⟨0,s,bG _,rfl,rfl,H1,xh (by rw[Nat.sub_zero];exact HR.o),xh (.aj O1.o),B1⟩
  case round=>
   obtain⟨i,s',hi,rfl,rfl,HA,HS,HO,HQ⟩:=hrel
   by_cases h:i<N
   .have KN:=xh<|Ym HA.o (HQ.ap 0) NP.o;have q2:=HQ.ap 0;have p2:=HA.o.p2;have hI:(i:Int)<(N:Int):=ls
    have hf:=j8 HA.o.lh;have hS:=HS.o;rw[show N-i=(N-(i+1))+1 from by omega]at hS;unfold PS.gC at hS;generalize Lw:il s'.l s'.hand=f at *;have HF:=xh hf;clear hf Lw;go_wp2_with fail;go_call KN.o as e w2 ⟨rfl,A2,o2⟩;have A2:=xh A2;have o2r:=o2;have o2:=xh<|HO.o.trans o2r;obtain⟨_,_,x2,_,x4⟩:=A2.o.Cb s'.hand f HF.o;have HF5:=xh<|A2.o.eP s'.hand 4 ls {f with used:=false} (WF false) HF.o rfl;have z5:=HF5.o.1
    have HQ2:=xh<|HQ.o.only o2r NF.o;clear o2r q2 p2
    by_cases h1:0<f.held
    .rw[U8 h1]at hS;have HS:=xh hS;clear hS;generalize f.held=fh at *;go_wp2;go_roundw
     case rel=>exact⟨i+1,s'.turn,ls,rfl,by go_num,A2,HS,o2,HQ2⟩
     case measure=>simp[intOf];omega
    .rw[U9 h1]at hS
     by_cases h2:f.used=true
     .rw[U8 h2]at hS;rw[h2]at x4;have HS:=xh hS;have A5:=xh HF5.o.2.1;have O5:=xh<|o2.o.trans HF5.o.2.2;have HQ5:=xh<|HQ2.o.only HF5.o.2.2 NF.o;clear hS h2 HF5;generalize f.held=fh at *;go_wp2;go_roundw
      case rel=>exact⟨i+1,_,ls,rfl,by go_num,A5,HS,O5,HQ5⟩
      case measure=>simp[intOf];omega
     .have h3:f.used=false:=by simpa using h2
      rw[U9 h2]at hS;rw[h3]at x4;subst hS;clear h2 HF5 HS HR;generalize f.held=fh at *;go_wp2_with fail;rw[Exit.noGoto_ret];go_ret;exact bz ⟨A2.o,o2.o⟩
   .have hiN:i=N:=ls
    subst hiN;have hS:=HS.o;rw[ik]at hS;unfold PS.gC at hS;subst hS;go_wp2_with fail;rw[Exit.noGoto_ret];go_ret;exact bz ⟨HA.o,HO.o⟩
 .rw[e,g8]at hR;rw[e]at KI;subst hR;have UO:(0:Int)<=(k:Int):=ls
  clear e hf;go_in;go_wp2_with fail
  go_step3
  go_wp2_with fail;go_call KI.o as e w1 ⟨rfl,bu⟩;have O1:=xh<|aE O0.o bu;have H1:=xh<|H0.o.below bu;clear bu;go_wp2_with fail;rw[Exit.noGoto_ret];go_ret;exact bz ⟨H1.o,.aj O1.o⟩
def Qc{w:BY}{y:Y}{n:Nat}{s:PS}(h:ju w y n s)(k:Nat){f:Fr}(hf:s.l[k]?=some f)(hd:f.cH=false):
  io prog 99 #[pp y.pb,(k:Nat)] w λe w'=>e=fd (U5 U6 0)/\i7 w w':=by
 have hk:k<s.l.length:=(aW.1 hf).1;have p1:=h.p1;have l2:=h.l2;have Oy:(k:Int)<(s.l.length:Int):=ls
 obtain⟨_,_,_,c3,_⟩:=h.Cb k f hf;rw[hd]at c3;have OB:=xh<|i5 w;clear h hf hd;unfold pp at *;go_in;go_wp2;go_ret;exact bz OB.o
variable{w:BY}{y:Y}{n:Nat}{s:PS}
def Yn(h:ju w y n s)(p:Int)(k:Nat){f:Fr}(hk:findF s.l p=(k:Nat))(hf:s.l[k]?=some f)(hb: -1000<=f.held/\f.held<=4000000000000):
  io prog 213 #[pp y.pb,p] w λe w'=>e=fd (rg #[U7 f.fS,U5 U6 0])/\ju w' y n {s with l:=s.l.set k {f with held:=f.held+1,used:=true}}/\ah y.fp w w':=by
 have KF:=xh<|jV h p;rw[hk]at KF;have lQ:k<s.l.length:=(aW.1 hf).1;have Oy:(k:Int)<(s.l.length:Int):=ls
 have UO:(0:Int)<=(k:Int):=ls
 have HB:=xh (λw' (hb:i7 w w')=>h.below hb);have m1:U6.wrap (f.held+1)=f.held+1:=d9;have HF:=xh hf;have HL:=xh h.l2;clear h hk hf hb;unfold pp at *;go_in;go_wp2_with fail;go_call KF.o as e w1 ⟨rfl,bu⟩;have O1:=xh bu;have A1:=HB.o w1 bu;have p1:=A1.p1;have A2:=A1.eP k 2 ls {f with held:=f.held+1} (U5 U6 (f.held+1)) HF.o rfl;obtain⟨z1,A3,o3⟩:=A2
 have Cc:(s.l.set k {f with held:=f.held+1})[k]?=some {f with held:=f.held+1}:=by rw[eK lQ]
 obtain⟨z2,A4,o4⟩:=A3.eP k 4 ls {f with held:=f.held+1,used:=true} (WF true) Cc rfl;have hf4:((s.l.set k {f with held:=f.held+1}).set k {f with held:=f.held+1,used:=true})[k]?=some {f with held:=f.held+1,used:=true}:=by rw[eK (by simpa using lQ)]
 obtain⟨_,x1,_,_,_⟩:=A4.Cb k _ hf4;obtain⟨_,_,y2,_,_⟩:=A1.Cb k f HF.o;obtain⟨_,_,_,_,y4⟩:=A3.Cb k _ Cc;simp only[ly]at A4;have AZ:=xh A4;have OZ:=xh<|(ah.aj (S:=y.fp) O1.o).trans (o3.trans o4);clear bu A1 A3 A4 o3 o4 Cc hf4;go_wp2;go_ret2;exact bz ⟨AZ.o,OZ.o⟩
def Yo(h:ju w y n s)(p:Int)(hk:findF s.l p= -1)(hr:(s.c.aO n p).2≠0):
  io prog 213 #[pp y.pb,p] w λe w'=>e=fd (rg #[U7 ⟨#[]⟩,U5 U6 (s.c.aO n p).2])/\i7 w w':=by
 have KF:=xh<|jV h p;rw[hk]at KF;have HB:=xh (λw' (hb:i7 w w')=>h.below hb);have KR:=xh (λw' (hb:i7 w w')=>mG (h.below hb).hs p);have hq:((s.c.aO n p).2==0)=false:=i4 hr
 have kP:((s.c.aO n p).2 != 0)=true:=lm hr
 generalize s.c.aO n p=R at *;clear h hk;unfold pp sp at *;go_in;go_wp2_with fail;go_call KF.o as e w1 ⟨rfl,bu⟩;have O1:=xh bu;have p0:=(HB.o w1 bu).p0;clear bu;go_wp2_with fail;go_call (KR.o w1 O1.o) as e w2 ⟨rfl,da⟩;have O2:=xh<|aE O1.o da;clear da;go_wp2;go_ret2;exact bz O2.o
def UR(h:ju w y n s)(p:Int)(hk:findF s.l p= -1)(hr:(s.c.aO n p).2=0)(hv:s.az.2<0):
  io prog 213 #[pp y.pb,p] w λe w'=>e=fd (rg #[U7 ⟨#[]⟩,U5 U6 12])/\ju w' y n s.az.1/\ah y.fp w w':=by
 have KF:=xh<|jV h p;rw[hk]at KF;have HB:=xh (λw' (hb:i7 w w')=>h.below hb);have KR:=xh (λw' (hb:i7 w w')=>mG (h.below hb).hs p);have KV:=xh (λw' (hb:i7 w w')=>Du (h.below hb));rw[hr]at KR;generalize (s.c.aO n p).1=R at *;generalize s.az=V at *;clear h hk;unfold pp sp at *;go_in;go_wp2_with fail;go_call KF.o as e w1 ⟨rfl,bu⟩;have O1:=xh bu
 have p0:=(HB.o w1 bu).p0;clear bu;go_wp2_with fail;go_call (KR.o w1 O1.o) as e w2 ⟨rfl,da⟩;have O2:=xh<|aE O1.o da;clear da;go_wp2_with fail;go_call (KV.o w2 O2.o) as e w3 ⟨rfl,A3,o3⟩;have A3:=xh A3;have o3:=xh<|(ah.aj (S:=y.fp) O2.o).trans o3;go_wp2;go_ret2;exact bz ⟨A3.o,o3.o⟩
variable{w:BY}{y:Y}{n:Nat}{s:PS}{f:Fr}
def ju.same{w':BY}{c':C}(h:ju w y n s)(A:At w' y.x n c')(o:ah y.x.fp w w'):ju w' y n {s with c:=c'}/\ah y.fp w w':=
 ⟨⟨h.hp.only o h.n1,h.hf.only o (λg hg=>by simp[ak]at hg;subst hg;exact h.n2),A,h.n1,h.n2,h.l1,h.l2,h.lh⟩,o.mono (λg hg _=>by simp[Y.fp,hg])⟩
def Qd(h:ju w y n s)(p:Int)(k:Nat)(hk:findF s.l p=(k:Nat))(hf:s.l[k]?=some f)(hh:0<f.held):
  io prog 132 #[pp y.pb,p] w λe w'=>e=fd (U5 U6 16)/\i7 w w':=by
 have KF:=xh<|jV h p;rw[hk]at KF;have HB:=xh (λw' (hb:i7 w w')=>h.below hb);have lQ:k<s.l.length:=(aW.1 hf).1;have Oy:(k:Int)<(s.l.length:Int):=ls
 have UO:(0:Int)<=(k:Int):=ls
 have HF:=xh hf;have l2:=h.l2;clear h hk hf;unfold pp at *;go_in;go_wp2_with fail;go_call KF.o as e w1 ⟨rfl,bu⟩;have O1:=xh bu;have A1:=xh<|HB.o w1 bu;have p0:=A1.o.p0;have p1:=A1.o.p1;obtain⟨_,_,c2,_,_⟩:=A1.o.Cb k f HF.o;clear bu;go_wp2;go_ret;exact bz O1.o
def US(h:ju w y n s)(p:Int)(hk:findF s.l p= -1):
  io prog 132 #[pp y.pb,p] w λe w'=>e=fd (U5 U6 (s.c.aF p).2)/\ju w' y n {s with c:=(s.c.aF p).1}/\ah y.fp w w':=by
 have KF:=xh<|jV h p;rw[hk]at KF;have HB:=xh (λw' (hb:i7 w w')=>h.below hb);have KD:=xh (λw' (hb:i7 w w')=>Lt (h.below hb).hs p);have HP:=xh (λw1 (hb:i7 w w1) w2 (A:At w2 y.x n (s.c.aF p).1) (o:ah y.x.fp w1 w2)=>(h.below hb).same A o);generalize s.c.aF p=R at *;obtain⟨R1,R2⟩:=R;dsimp only at *;clear h hk;unfold sp at *;unfold pp at *;go_in;go_wp2_with fail
 go_call KF.o as e w1 ⟨rfl,bu⟩;have O1:=xh bu;have A1:=xh<|HB.o w1 bu;have p0:=A1.o.p0;have p1:=A1.o.p1;clear bu;go_wp2_with fail;go_call (KD.o w1 O1.o) as e w2 ⟨rfl,A2,o2⟩;have A3:=xh<|HP.o w1 O1.o w2 A2 o2;clear A2 o2
 by_cases h0:R2=0
 .subst h0;go_wp2;go_ret;exact⟨by first|rfl|(simp;done)|(simp[h0];done)|simp_all,A3.o.1,(ah.aj (S:=y.fp) O1.o).trans A3.o.2⟩
 .have hq:(R2 != 0)=true:=lm h0
  have kP:(R2==0)=false:=i4 h0
  go_wp2;go_ret;exact⟨by first|rfl|(simp;done)|(simp[h0];done)|simp_all,A3.o.1,(ah.aj (S:=y.fp) O1.o).trans A3.o.2⟩
def ju.Qe(h:ju w y n s)(k:Nat)(hf:s.l[k]?=some f):
  w.frozen? ⟨y.fg,k*5,none⟩=false/\w.frozen? ⟨y.fg,k*5+1,none⟩=false/\w.frozen? ⟨y.fg,k*5+2,none⟩=false/\w.frozen? ⟨y.fg,k*5+3,none⟩=false/\w.frozen? ⟨y.fg,k*5+4,none⟩=false/\
  ju (((((w.setCell ⟨y.fg,k*5,none⟩ (U5 U6 (-1))).setCell ⟨y.fg,k*5+1,none⟩ (U7 ⟨#[]⟩)).setCell ⟨y.fg,k*5+2,none⟩ (U5 U6 0)).setCell ⟨y.fg,k*5+3,none⟩ (WF false)).setCell ⟨y.fg,k*5+4,none⟩ (WF false)) y n {s with l:=s.l.set k Fr.nil}/\
  ah y.fp w (((((w.setCell ⟨y.fg,k*5,none⟩ (U5 U6 (-1))).setCell ⟨y.fg,k*5+1,none⟩ (U7 ⟨#[]⟩)).setCell ⟨y.fg,k*5+2,none⟩ (U5 U6 0)).setCell ⟨y.fg,k*5+3,none⟩ (WF false)).setCell ⟨y.fg,k*5+4,none⟩ (WF false)):=by
 have lQ:k<s.l.length:=(aW.1 hf).1;obtain⟨z0,B0,q0⟩:=h.eP k 0 ls {f with au:= -1} (U5 U6 (-1)) hf rfl;rw[mq]at z0 B0 q0;have g0:(s.l.set k {f with au:= -1})[k]?=some {f with au:= -1}:=by rw[eK lQ]
 obtain⟨_,B1,q1⟩:=B0.eP k 1 ls {f with au:= -1,fS:=⟨#[]⟩} (U7 ⟨#[]⟩) g0 rfl;simp only[ly]at B1;have g1:(s.l.set k {f with au:= -1,fS:=⟨#[]⟩})[k]?=some {f with au:= -1,fS:=⟨#[]⟩}:=by rw[eK lQ]
 obtain⟨_,B2,q2⟩:=B1.eP k 2 ls {f with au:= -1,fS:=⟨#[]⟩,held:=0} (U5 U6 0) g1 rfl;simp only[ly]at B2;have g2:(s.l.set k {f with au:= -1,fS:=⟨#[]⟩,held:=0})[k]?=some {f with au:= -1,fS:=⟨#[]⟩,held:=0}:=by rw[eK lQ]
 obtain⟨_,B3,q3⟩:=B2.eP k 3 ls {f with au:= -1,fS:=⟨#[]⟩,held:=0,cH:=false} (WF false) g2 rfl;simp only[ly]at B3;have g3:(s.l.set k {f with au:= -1,fS:=⟨#[]⟩,held:=0,cH:=false})[k]?=some {f with au:= -1,fS:=⟨#[]⟩,held:=0,cH:=false}:=by rw[eK lQ]
 obtain⟨_,B4,q4⟩:=B3.eP k 4 ls Fr.nil (WF false) g3 rfl;simp only[ly]at B4;obtain⟨rest,B,hr,_,_⟩:=h.hf.ya;have hl:=nU s.l;have fz:∀j,j<5->w.frozen? ⟨y.fg,k*5+j,none⟩=false:=λj hj=>B.frozen _ (by simp;omega);exact⟨fz 0 ls,fz 1 ls,fz 2 ls,fz 3 ls,fz 4 ls,B4,(((q0.trans q1).trans q2).trans q3).trans q4⟩
def Yp(h:ju w y n s)(p:Int)(k:Nat)(hk:findF s.l p=(k:Nat))(hf:s.l[k]?=some f)(hh:f.held=0):
  io prog 132 #[pp y.pb,p] w λe w'=>e=fd (U5 U6 (s.c.aF p).2)/\ju w' y n (if(s.c.aF p).2=0 then {s with c:=(s.c.aF p).1,l:=s.l.set k Fr.nil}else {s with c:=(s.c.aF p).1})/\ah y.fp w w':=by
 have KF:=xh<|jV h p;rw[hk]at KF;have KE:=xh nE;unfold Fr.nil Fr.agg at KE;have HB:=xh (λw' (hb:i7 w w')=>h.below hb);have lQ:k<s.l.length:=(aW.1 hf).1;have Oy:(k:Int)<(s.l.length:Int):=ls
 have UO:(0:Int)<=(k:Int):=ls
 have HF:=xh hf;have KD:=xh (λw' (hb:i7 w w')=>Lt (h.below hb).hs p);have HP:=xh (λw1 (hb:i7 w w1) w2 (A:At w2 y.x n (s.c.aF p).1) (o:ah y.x.fp w1 w2)=>(h.below hb).same A o);have l2:=h.l2;generalize s.c.aF p=R at *;obtain⟨R1,R2⟩:=R;dsimp only at *;clear h hk hf;unfold sp at *
 by_cases h0:R2=0
 .subst h0;rw[U8 rfl];unfold pp at *;go_in;go_wp2_with fail;go_call KF.o as e w1 ⟨rfl,bu⟩;have O1:=xh bu;have A1:=xh<|HB.o w1 bu;have p0:=A1.o.p0;have p1:=A1.o.p1;obtain⟨_,_,c2,_,_⟩:=A1.o.Cb k f HF.o;rw[hh]at c2;clear bu hh;go_wp2_with fail;go_call (KD.o w1 O1.o) as e w2 ⟨rfl,A2,o2⟩;have A3:=xh<|HP.o w1 O1.o w2 A2 o2;clear A2 o2 p0 p1 c2;have AD:=xh<|A3.o.1.drew
  have OD:=xh<|(((ah.refl y.fp w).trans (ah.aj O1.o)).trans A3.o.2).drew;have P1D:=xh AD.o.p1;clear A3;go_wp2;refine kw (λW'=>W'.cell? ⟨y.pb,1,none⟩=some (U3 (lc y.fg) s.l.length y.cp)) (P1D.o) (λaC=>?_);refine dj [(0,39),(1,40),(2,41),(3,42),(4,43)] ?_
  iterate 5 refine bJ ?_
  refine dV 5 44 λK hK=>?_;go_simp
  go_at_call 86
  go_call (KE.o _) as e w6 ⟨rfl,vA⟩;have A6:=xh<|AD.o.below vA;have O6:=xh<|OD.o.trans (ah.aj (S:=y.fp) vA);have p1y:=A6.o.p1;clear vA;refine cq hK (p1y) (λaC=>?_);refine dj [(6,45)] ?_
  iterate 1 refine bJ ?_
  refine pF 7 λK hK=>?_;go_simp;have p1x:=A6.o.p1;have l2x:=A6.o.l2;obtain⟨c0,c1,c2,c3,c4⟩:=A6.o.Cb k f HF.o;obtain⟨z0,z1,z2,z3,z4,B4,q4⟩:=A6.o.Qe k HF.o;have AZ:=xh B4;have OZ:=xh<|O6.o.trans q4;clear B4 q4;go_simp;refine hK.o _ _ (by have:=AZ.o.p1;simpa using this) (λaC=>?_)
  try simp only[Act.put,pa,pb,pc]
  refine jp ?_ _;go_wp2;go_ret;exact bz ⟨AZ.o,OZ.o⟩
 .have hq:(R2 != 0)=true:=lm h0
  have kP:(R2==0)=false:=i4 h0
  rw[U9 h0];unfold pp at *;go_in;go_wp2_with fail;go_call KF.o as e w1 ⟨rfl,bu⟩;have O1:=xh bu;have A1:=xh<|HB.o w1 bu;have p0:=A1.o.p0;have p1:=A1.o.p1;obtain⟨_,_,c2,_,_⟩:=A1.o.Cb k f HF.o;rw[hh]at c2;clear bu hh;go_wp2_with fail;go_call (KD.o w1 O1.o) as e w2 ⟨rfl,A2,o2⟩;have A3:=xh<|HP.o w1 O1.o w2 A2 o2;clear A2 o2;go_wp2;go_ret
  exact bz ⟨A3.o.1,(ah.aj (S:=y.fp) O1.o).trans A3.o.2⟩
end Sh
namespace Sh
open Go.RowKit Pk Dk Pg
variable{x:Int}{t:List Int}
def wZ:∀(L M:List Int),L.Nodup->(∀x∈L,x∈M)->L.length<=M.length
 |[],_,_,_=>bG _
 |x::L,M,hn,hs=>by
  obtain⟨h1,h2⟩:=iC.1 hn;have hx:x∈M:=hs x (ie ..);have:=wZ L (M.erase x) h2 (λy hy=>(List.mem_erase_of_ne (λe:y=x=>h1 (by rw[<-e];exact hy))).2 (hs y (aH _ hy)));rw[Xu hx]at this;have:0<M.length:=List.length_pos_of_mem hx;simp;omega
def xd{L M:List Int}(hl:L.Nodup)(hm:M.Nodup)(h:∀x,x∈L↔x∈M):L.length=M.length:=
 Nat.le_antisymm (wZ L M hl (λx hx=>(h x).1 hx)) (wZ M L hm (λx hx=>(h x).2 hx))
def Dv(l:List Int)(k:Int)(n:Nat)(x:Int):x∈Fm.jl l k n↔ ∃i:Nat,x=i/\i<n/\l.getD i 0=k:=by
 induction n with
 |zero=>simp[Fm.jl]
 |succ n ih=>
  simp only[Fm.jl,aK,ih]
  constructor
  .rintro(⟨i,e,h,g⟩|h)
   .exact⟨i,e,ls,g⟩
   .by_cases hk:l.getD n 0=k
    .rw[U8 hk]at h;exact⟨n,by simpa using h,ls,hk⟩
    .rw[U9 hk]at h;simp at h
  .rintro⟨i,e,h,g⟩
   rcases oL.1 h with h|rfl
   .exact .inl ⟨i,e,h,g⟩
   .rw[U8 g];exact .inr (by simpa using e)
def iz{l:List Int}{k:Int} :x∈Fm.gY l k↔ ∃i:Nat,x=i/\i<l.length/\l.getD i 0=k:=Dv l k l.length x
def Js(l:List Int)(k:Int)(n:Nat):(Fm.jl l k n).Nodup:=by
 induction n with
 |zero=>exact qv
 |succ n ih=>
  simp only[Fm.jl]
  split
  .rw[jJ];refine⟨ih,lw,λa ha b hb e=>?_⟩;obtain⟨i,e1,h,_⟩:=(Dv l k n a).1 ha;simp at hb;omega
  .simpa using ih
def kY(l:List Int)(k:Int):(Fm.gY l k).Nodup:=Js l k l.length
def upto:Nat->List Int
 |0=>[]
 |n+1=>upto n++[(n:Int)]
def Ag:∀n,(upto n).length=n
 |0=>rfl
 |n+1=>by simp[upto,Ag n]
def Lx(n:Nat)(x:Int):x∈upto n↔0<=x/\x<n:=by
 induction n with
 |zero=>simp[upto];try omega
 |succ n ih=>simp only[upto,aK,ih,aG];omega
def Qf(n:Nat):(upto n).Nodup:=by
 induction n with
 |zero=>exact qv
 |succ n ih=>
  simp only[upto];rw[jJ];refine⟨ih,lw,λa ha b hb e=>?_⟩;have:=(Lx n a).1 ha;simp at hb;omega
def Dw(t:List Int):Prop:= ∀(i j:Nat) (x:Int),t[i]?=some x->t[j]?=some x->0<=x->i=j
def ids(t:List Int):List Int:=t.filter (λx=>decide (0<=x))
def my :x∈ids t↔x∈t/\0<=x:=by simp[ids]
def Dw.tail(h:Dw (x::t)):Dw t:=λi j y hi hj h0=>by
 have:=h (i+1) (j+1) y (by simpa using hi) (by simpa using hj) h0;omega
def kZ:∀{t:List Int},Dw t->(ids t).Nodup
 |[],_=>qv
 |x::t,h=>by
  have ih:=kZ h.tail;unfold ids at ih ⊢;rw[lu]
  split
  .rename_i hx;rw[iC];refine⟨λhm=>?_,ih⟩;obtain⟨hm,_⟩:=my.1 hm;obtain⟨k,hk⟩:=ko hm;have:=h 0 (k+1) x rfl (by simpa using hk) (by simpa using hx);omega
  .exact ih
def Dw.ct(h:Dw t)(k:Nat)(u:Int)(hu:u<0\/u∉t):Dw (t.set k u):=by
 intro i j x hi hj h0;rw[kq]at hi hj
 by_cases e1:k=i<;>by_cases e2:k=j
 .omega
 .rw[U8 e1]at hi;rw[U9 e2]at hj
  split at hi
  .injection hi with hi
   subst hi
   rcases hu with hu|hu
   .omega
   .exact eq (ay hj) hu
  .cases hi
 .rw[U9 e1]at hi;rw[U8 e2]at hj
  split at hj
  .injection hj with hj
   subst hj
   rcases hu with hu|hu
   .omega
   .exact eq (ay hi) hu
  .cases hj
 .rw[U9 e1]at hi;rw[U9 e2]at hj;exact h i j x hi hj h0
def Dw.app(h:Dw t)(u:Int)(hu:u<0\/u∉t):Dw (t++[u]):=by
 intro i j x hi hj h0;have key:∀i,(t++[u])[i]?=some x->(t[i]?=some x)\/(i=t.length/\x=u):=by
  intro i hi
  rcases Bv i t.length with hl|rfl|hl
  .rw[bX hl]at hi;exact .inl hi
  .rw[eC (ai _)]at hi;simp at hi;exact .inr ⟨rfl,hi.symm⟩
  .rw[eC ls,fw (by simp;omega)]at hi;cases hi
 rcases key i hi with a|⟨a,b⟩<;>rcases key j hj with c|⟨c,d⟩
 .exact h i j x a c h0
 .subst d
  rcases hu with hu|hu
  .omega
  .exact eq (ay a) hu
 .subst b
  rcases hu with hu|hu
  .omega
  .exact eq (ay c) hu
 .omega
def Ly{k:Nat}{u:Int}(h:Dw t)(hk:t[k]?=some u)(v:Int)(h0:0<=x)(hv:v<0)(hu:0<=u):x∈t.set k v↔x∈t/\x≠u:=by
 constructor
 .intro hx;obtain⟨i,hi⟩:=ko hx;rw[kq]at hi
  by_cases e:k=i
  .rw[U8 e]at hi
   split at hi
   .injection hi with hi;omega
   .cases hi
  .rw[U9 e]at hi;refine⟨ay hi,λe2=>e ?_⟩;subst e2;exact h k i x hk hi h0
 .rintro⟨hx,fy⟩;obtain⟨i,hi⟩:=ko hx;have:(t.set k v)[i]?=some x:=by
   rw[kq,U9 (λe=>fy (by subst e;rw[hk]at hi;injection hi with hi;exact hi.symm))];exact hi
  exact ay this
structure St where
 many:Nat
 now:List (Option (Bool×UV))
 aR:List (Option (UV))
 ep:Int
def im:Option (Bool×UV)->Bool
 |some (b,_)=>b
 |none=>false
def cd(k:Nat):Nat:=(k+115) / 116
def St.fresh(a:St):Nat:=a.now.countP im
def St.kept(a:St):Nat:=a.aR.countP Option.isSome+cd a.aR.length
def St.free(a:St):Nat:=a.many-a.kept-a.fresh
def St.slot(a:St):Nat:=a.now.findIdx Option.isNone
def qK{α:Type}(t:List α)(l:Nat)(u:α):List α:=if l=t.length then t++[u]else t.set l u
def St.at(a:St)(l:Int):Option (Bool×UV):=if 0<=l then(a.now[l.toNat]?).getD none else none
def St.bE(a:St)(p:UV):St×Int×Int:=
 if 232<p.length then(a,0,4)
 else if 512<=a.slot\/a.free=0 then(a,0,11)
 else({a with now:=qK a.now a.slot (some (true,ff p 232))},(a.slot:Nat),0)
def St.aF(a:St)(l:Int):St×Int:=if(a.at l).isSome=true then({a with now:=a.now.set l.toNat none},0)else(a,3)
def St.aO(a:St)(l:Int):UV×Int:=match a.at l with
 |some (_,b)=>(b,0)
 |none=>([],3)
def Qg(d:D)(n:Nat)(x ep:Int):Prop:= ∃q s,0<=q/\q<=ep/\s.length=232/\aV d n x=(⟨x,q,2,s⟩,0)
def db(c:C)(x:Int):Int:=if x∈c.parts then 1 else if x∈c.aR then(if x∈c.table then 1 else 3)else if x∈c.table then 2 else 0
structure Good(c:C)(n:Nat):Prop where
 up:c.d.down=false
 arm:c.d.aq=0
 br:c.broken=false
 ok:c.d.Ok n
 ml:c.m.length=cN n
 ep:1<=c.ep/\c.ep<1099511627776
 sl:c.slot=0\/c.slot=1
 ti:∀x∈c.table,x= -1\/(0<=x/\x<c.m.length)
 oi:∀x∈c.aR,x= -1\/(0<=x/\x<c.m.length)
 pi:∀x∈c.parts,0<=x/\x<c.m.length
 tj:Dw c.table
 oj:Dw c.aR
 pj:Dw c.parts
 dt:∀x∈c.parts,x∉c.table/\x∉c.aR
 pl:c.parts.length=cd c.aR.length
 sm:∀(i:Nat) (x:Int),c.table[i]?=some x->0<=x->x∈c.aR->c.aR[i]?=some x
 md:∀i:Nat,i<c.m.length->c.m.getD i 0=db c i
 rt:∀x∈c.table,0<=x->Qg c.d n x (c.ep+1)
 ro:∀x∈c.aR,0<=x->Qg c.d n x c.ep
def C.dv(c:C)(n:Nat)(x:Int):Option (Bool×UV):=if x<0 then none else some (decide (x∉c.aR),(aV c.d n x).1.s)
def C.bU(c:C)(n:Nat):St:={many:=c.m.length,now:=c.table.map (c.dv n),aR:=c.aR.map λx=>if x<0 then none else some (aV c.d n x).1.s,ep:=c.ep}
def lY{c:C}{n:Nat}(g:Good c n):(Fm.gY c.m 0).length=(c.bU n).free/\(c.bU n).fresh+(c.bU n).kept<=c.m.length:=by
 obtain⟨F,hF⟩:∃F,F=(ids c.table).filter (λx=>decide (x∉c.aR)):=⟨_,rfl⟩;have hFl:F.length=(c.bU n).fresh:=by
  rw[hF];unfold St.fresh C.bU ids;rw[IU,<-Cy,IP];apply yj;intro x hx;simp only[Function.comp,C.dv]
  by_cases h:x<0
  .rw[U8 h];simp[im];omega
  .rw[U9 h];simp[im];omega
 have hKl:(c.parts++ids c.aR).length=(c.bU n).kept:=by
  unfold St.kept C.bU ids;rw[bC,g.pl,<-Cy,IP,eZ];have:c.aR.countP (λx=>decide (0<=x))=c.aR.countP (Option.isSome ∘ λx=>if x<0 then none else some (aV c.d n x).1.s):=by
   apply yj;intro x hx;simp only[Function.comp]
   by_cases h:x<0
   .rw[U8 h];simp;omega
   .rw[U9 h];simp;omega
  omega
 have hmF:∀x,x∈F↔x∈c.table/\0<=x/\x∉c.aR:=by
  intro x;rw[hF,iB,my];simp[and_assoc]
 have Gx:(Fm.gY c.m 0++F++(c.parts++ids c.aR)).Nodup:=by
  rw[jJ,jJ,jJ];have hp:c.parts.Nodup:=by
   have:=kZ g.pj
   rwa [show ids c.parts=c.parts from yp.2 (λx hx=>by simpa using (g.pi x hx).1)]at this
  refine⟨⟨kY _ _,?_,?_⟩,⟨hp,kZ g.oj,?_⟩,?_⟩
  .rw[hF];exact(kZ g.tj).sublist IV
  .intro x hx y hy e;subst e;obtain⟨i,rfl,hi,h0⟩:=iz.1 hx;rw[g.md i hi]at h0;obtain⟨h1,h2,h3⟩:=(hmF _).1 hy;unfold db at h0;rw[U9 h3,U8 h1]at h0
   split at h0<;>omega
  .intro x hx y hy e;subst e;exact(g.dt x hx).2 (my.1 hy).1
  .intro x hx y hy e;subst e
   rcases aK.1 hx with hx|hx
   .obtain⟨i,rfl,hi,h0⟩:=iz.1 hx;rw[g.md i hi]at h0;unfold db at h0
    rcases aK.1 hy with hy|hy
    .rw[U8 hy]at h0;omega
    .rw[U8 (my.1 hy).1]at h0
     split at h0
     .omega
     .split at h0<;>omega
   .obtain⟨h1,h2,h3⟩:=(hmF _).1 hx
    rcases aK.1 hy with hy|hy
    .exact(g.dt x hy).1 h1
    .exact h3 (my.1 hy).1
 have hlen:=xd Gx (Qf c.m.length) (λx=>by
  rw[Lx,aK,aK,aK,iz,hmF,my]
  constructor
  .rintro((⟨i,rfl,hi,_⟩|⟨h1,h2,_⟩)|(h|⟨h1,h2⟩))
   .omega
   .have:=g.ti x h1;omega
   .exact g.pi x h
   .have:=g.oi x h1;omega
  .rintro⟨h0,h1⟩
   by_cases a1:x∈c.parts
   .exact .inr (.inl a1)
   by_cases a2:x∈c.aR
   .exact .inr (.inr ⟨a2,h0⟩)
   by_cases a3:x∈c.table
   .exact .inl (.inr ⟨a3,h0,a2⟩)
   refine .inl (.inl ⟨x.toNat,ls,ls,?_⟩);rw[g.md _ ls,show((x.toNat:Nat):Int)=x by omega];unfold db;rw[U9 a1,U9 a2,U9 a3])
 rw[Ag,bC,bC,hKl,hFl]at hlen;refine⟨?_,ls⟩;unfold St.free;show _=c.m.length-_-_;omega
variable{t:List Int}{x:Int}{c:C}{n k:Nat}
def Ah{α β:Type}(f:α->β)(p:β->Bool)(q:α->Bool):∀(t:List α),(∀x∈t,p (f x)=q x)->(t.map f).findIdx p=t.findIdx q
 |[],_=>rfl
 |x::t,h=>by
  have h0:=h x (ie ..);have ih:=Ah f p q t (λy hy=>h y (aH _ hy));rw[iA,Pe,Pe,h0,ih]
def Yq(h:jc t<t.length):t[jc t]?=some (-1):=by
 unfold jc Fm.dH at h ⊢;have:=rN (p:=(· ==(-1:Int))) (xs:=t) (w:=h);rw[aQ h];simpa using this
def pK{α:Type}(t:List α)(l:Nat)(u:α)(hl:l<=t.length)(i:Nat):(qK t l u)[i]?=if i=l then some u else t[i]?:=by
 unfold qK
 by_cases h:l=t.length
 .rw[U8 h];subst h
  rcases Bv i t.length with h1|rfl|h1
  .rw[ge,bX h1]
  .rw[U8 rfl,eC (ai _)];simp
  .rw[ge,eC ls,fw (by simp;omega),fw ls]
 .rw[U9 h,kq]
  by_cases e:l=i
  .subst e;rw[U8 rfl,g8,U8 rfl]
  .rw[U9 e,ge]
def Cd(t:List Int)(l:Nat)(u:Int):qJ t l u=qK t l u:=rfl
def Yr{u:Int}(h0:0<=x):x∈qJ t (jc t) u↔x=u\/x∈t:=by
 rw[Cd];have hl:=Dp t
 constructor
 .intro hx;obtain⟨i,hi⟩:=ko hx;rw[pK t _ u hl]at hi
  split at hi
  .injection hi with hi;exact .inl hi.symm
  .exact .inr (ay hi)
 .rintro(rfl|hx)
  .have:=pK t _ x hl (jc t);rw[U8 rfl]at this;exact ay this
  .obtain⟨i,hi⟩:=ko hx;have:=pK t _ u hl i;rw[U9]at this
   .exact ay (this.trans hi)
   .rintro rfl;have dP:jc t<t.length:=(aW.1 hi).1;rw[Yq dP]at hi;injection hi with hi
    omega
def Dw.qJ(h:Dw t)(l:Nat)(u:Int)(hu:u∉t):Dw (qJ t l u):=by
 unfold Sh.qJ
 split
 .exact h.app u (.inr hu)
 .exact h.ct l u (.inr hu)
def Ys{α β:Type}(f:α->β)(t:List α)(l:Nat)(u:α):(qK t l u).map f=qK (t.map f) l (f u):=by
 unfold qK;rw[eZ]
 split
 .simp
 .rw[Bl]
def Qh{α β:Type}(f g:α->β)(t:List α)(l:Nat)(u:β)(h:∀x∈t,f x=g x):qK (t.map f) l u=qK (t.map g) l u:=by
 rw[gm h]
def Yt(g:Good c n):(c.bU n).slot=jc c.table:=by
 unfold St.slot C.bU jc Fm.dH;refine Ah _ _ _ _ (λx hx=>?_);unfold C.dv
 rcases g.ti x hx with rfl|⟨h0,_⟩
 .simp
 .rw[ge];simp;omega
def yH(g:Good c n)(hf:(c.bU n).free≠0):∃k:Nat,k<c.m.length/\db c k=0/\Fm.cP c.m=(c.m.set k 2,((k:Nat):Int),0):=by
 have hl:=(lY g).1;obtain⟨x,hx⟩:∃x,x∈Fm.gY c.m 0:=by
  cases h:Fm.gY c.m 0 with
  |nil=>rw[h]at hl;simp at hl;omega
  |cons x l=>exact⟨x,ie ..⟩
 obtain⟨i,rfl,hi,h0⟩:=iz.1 hx;have dP:Fm.dH c.m 0<c.m.length:=by
  unfold Fm.dH;rw[Pf];refine⟨c.m[i],jR hi,?_⟩;simp[List.getD,aQ hi]at h0;simp[h0]
 refine⟨Fm.dH c.m 0,dP,?_,by unfold Fm.cP;rw[U8 dP]⟩;rw[<-g.md _ dP];have:=rN (p:=(· ==(0:Int))) (xs:=c.m) (w:=dP);simp[List.getD];unfold Fm.dH at dP ⊢;rw[aQ dP];simpa using this
def yI(g:Good c n)(hf:(c.bU n).free=0):Fm.cP c.m=(c.m,0,11):=by
 have hl:=(lY g).1;rw[hf]at hl;unfold Fm.cP;rw[U9];intro dP;have:=rN (p:=(· ==(0:Int))) (xs:=c.m) (w:=dP);have hm:((Fm.dH c.m 0:Nat):Int)∈Fm.gY c.m 0:=iz.2 ⟨_,rfl,dP,by
  simp[List.getD];unfold Fm.dH at dP ⊢;rw[aQ dP];simpa using this⟩
 rw[pf hl]at hm;simp at hm
def Lz(h:db c x=0):x∉c.parts/\x∉c.aR/\x∉c.table:=by
 unfold db at h
 split at h
 .omega
 .split at h
  .split at h<;>omega
  .split at h
   .omega
   .exact⟨by assumption,by assumption,by assumption⟩
def j9(g:Good c n)(h:k<c.m.length):k<cJ n:=by
 have:=g.ml;unfold cN at this;omega
def kQ{d:D}(h:d.Ok n)(id ep kd:Int)(s:UV):(bq d n id ep kd s).1.Ok n:=by
 unfold bq
 split
 .exact h
 .split
  .exact h
  .exact Dd h _ _ _
def Dx(g:Good c n)(hk:k<c.m.length)(h0:db c k=0)(p:UV)(hp:p.length<=232):
  (bq c.d n k (c.ep+1) 2 p).2=0/\∀d',d'=(bq c.d n k (c.ep+1) 2 p).1->d'.down=false/\d'.aq=0/\d'.Ok n/\d'.calls<=c.d.calls+4/\aV d' n k=(⟨k,c.ep+1,2,ff p 232⟩,0)/\
   (∀x∈c.table,0<=x->aV d' n x=aV c.d n x)/\∀x∈c.aR,0<=x->aV d' n x=aV c.d n x:=by
 have e:=g.ep;obtain⟨h1,h2,h3,h4,h5⟩:=nR g.ok g.up g.arm k (c.ep+1) 2 p (j9 g hk) (by rw[qE];omega) hp;obtain⟨z1,z2,z3⟩:=Lz h0;refine⟨h1,λd' hd=>?_⟩;subst hd;refine⟨h2,h3,kQ g.ok _ _ _ _,(nC _ _ _ _ _ _ (by rw[g.arm];omega)).1,h4,λx hx Jt=>?_,λx hx Jt=>?_⟩
 .have:=g.ti x hx;have:=h5 x.toNat (j9 g ls) (λe=>z3 (by rw[<-e];rwa [show((x.toNat:Nat):Int)=x by omega]))
  rwa [show((x.toNat:Nat):Int)=x by omega]at this
 .have:=g.oi x hx;have:=h5 x.toNat (j9 g ls) (λe=>z2 (by rw[<-e];rwa [show((x.toNat:Nat):Int)=x by omega]))
  rwa [show((x.toNat:Nat):Int)=x by omega]at this
def sg(p:UV)(h:p.length<=232):(ff p 232).length=232:=by unfold ff;simp;omega
def jE(l:List Int)(k:Nat)(x:Int)(i:Nat)(hi:i<l.length):(l.set k x).getD i 0=if k=i then x else l.getD i 0:=by
 simp only[List.getD,kq]
 by_cases h:k=i
 .subst h;simp[hi]
 .simp[h]
def new_ok{c:C}{n:Nat}(g:Good c n){k:Nat}(hk:k<c.m.length)(h0:db c k=0)(p:UV)(hp:p.length<=232){d':D}(hd:d'=(bq c.d n k (c.ep+1) 2 p).1){c':C}(hc:c'={c with m:=c.m.set k 2,d:=d',table:=qJ c.table (jc c.table) k}):
  Good c' n/\c'.bU n={c.bU n with now:=qK (c.bU n).now (jc c.table) (some (true,ff p 232))}:=by
 obtain⟨_,W⟩:=Dx g hk h0 p hp;obtain⟨w1,w2,w3,w4,w5,w6,w7⟩:=W d' hd;obtain⟨z1,z2,z3⟩:=Lz h0;have vz:=g.ep;have mt:∀x,0<=x->(x∈c'.table↔x=k\/x∈c.table):=λx hx=>by subst hc;exact Yr hx
 have Ca:=Dp c.table;have Yu:∀x:Int,0<=x->db c' x=if x=k then 2 else db c x:=by
  intro x hx;unfold db
  by_cases e:x=k
  .rw[U8 e];subst e;rw[U9 (by subst hc;exact z1),U9 (by subst hc;exact z2),U8 ((mt _ hx).2 (.inl rfl))]
  .rw[U9 e];have:(x∈c'.table)↔x∈c.table:=(mt x hx).trans ⟨λh=>h.resolve_left e,.inr⟩;rw[show c'.parts=c.parts from by rw[hc],show c'.aR=c.aR from by rw[hc]];simp only[this]
 refine⟨⟨by rw[hc];exact w1,by rw[hc];exact w2,by rw[hc];exact g.br,by rw[hc];exact w3,?_,by rw[hc];exact g.ep,by rw[hc];exact g.sl,?_,?_,?_,?_,by rw[hc];exact g.oj,by rw[hc];exact g.pj,?_,by rw[hc];exact g.pl,?_,?_,?_,?_⟩,?_⟩
 .rw[hc];show(c.m.set k 2).length=_;rw[bR];exact g.ml
 .intro x hx;have qs:c'.m.length=c.m.length:=by rw[hc];show(c.m.set k 2).length=_;rw[bR]
  rw[qs]
  by_cases h:0<=x
  .rcases(mt x h).1 hx with rfl|hx
   .omega
   .exact g.ti x hx
  .obtain⟨i,hi⟩:=ko hx;rw[hc]at hi;have hi:(qJ c.table (jc c.table) k)[i]?=some x:=hi;rw[Cd,pK _ _ _ Ca]at hi
   split at hi
   .injection hi with hi;omega
   .exact g.ti x (ay hi)
 .intro x hx;rw[hc]at hx ⊢;show _\/_/\x<((c.m.set k 2).length:Int);rw[bR];exact g.oi x hx
 .intro x hx;rw[hc]at hx ⊢;show _/\x<((c.m.set k 2).length:Int);rw[bR];exact g.pi x hx
 .rw[hc];exact g.tj.qJ _ _ z3
 .intro x hx;have h:=g.dt x (by rw[hc]at hx;exact hx);have Jt:=(g.pi x (by rw[hc]at hx;exact hx)).1;refine⟨λh1=>?_,by rw[hc];exact h.2⟩
  rcases(mt x Jt).1 h1 with rfl|h1
  .rw[hc]at hx;exact z1 hx
  .exact h.1 h1
 .intro i x hi hx ho;rw[hc]at hi ho ⊢;have hi:(qJ c.table (jc c.table) k)[i]?=some x:=hi;rw[Cd,pK _ _ _ Ca]at hi
  split at hi
  .injection hi with hi
   subst hi;exact eq ho z2
  .exact g.sm i x hi hx ho
 .intro i hi;have hi:i<c.m.length:=by rw[hc]at hi;simpa using hi
  rw[Yu i ls,<-g.md i hi,hc];show(c.m.set k 2).getD i 0=_;rw[jE _ _ _ _ hi]
  by_cases e:k=i
  .rw[U8 e,g8]
  .rw[U9 e,ge]
 .intro x hx Jt
  rcases(mt x Jt).1 hx with rfl|hx
  .rw[hc];exact⟨c.ep+1,_,ls,dG _,sg p hp,w5⟩
  .obtain⟨q,s,q1,q2,q3,q4⟩:=g.rt x hx Jt;rw[hc];exact⟨q,s,q1,q2,q3,(w6 x hx Jt).trans q4⟩
 .intro x hx Jt;rw[hc]at hx ⊢;obtain⟨q,s,q1,q2,q3,q4⟩:=g.ro x hx Jt;exact⟨q,s,q1,q2,q3,(w7 x hx Jt).trans q4⟩
 .rw[hc];unfold C.bU;simp only[bR,St.mk.injEq,true_and,and_true];refine⟨?_,?_⟩
  .rw[Cd,Ys];have e1:C.dv {c with m:=c.m.set k 2,d:=d',table:=qK c.table (jc c.table) k} n (k:Int)=some (true,ff p 232):=by
    unfold C.dv;rw[ge];simp only[w5];simp[z2]
   rw[e1];refine Qh _ _ _ _ _ (λx hx=>?_);unfold C.dv
   by_cases h:x<0
   .rw[U8 h,U8 h]
   .rw[U9 h,U9 h];simp only[w6 x hx ls]
  .refine gm (λx hx=>?_)
   by_cases h:x<0
   .rw[U8 h,U8 h]
   .rw[U9 h,U9 h];simp only[w7 x hx ls]
def Yv(g:Good c n)(p:UV):
  Good (c.bE n p).1 n/\(c.bE n p).1.bU n=((c.bU n).bE p).1/\(c.bE n p).2=((c.bU n).bE p).2/\(c.bE n p).1.d.calls<=c.d.calls+4/\(c.bE n p).1.aR=c.aR/\(c.bE n p).1.parts=c.parts:=by
 unfold C.bE St.bE;rw[U9 (by rw[g.br];simp),Yt g]
 by_cases h1:232<p.length
 .rw[U8 h1,U8 h1];exact⟨g,rfl,rfl,by show c.d.calls<=_;omega,rfl,rfl⟩
 rw[U9 h1,U9 h1]
 by_cases h2:512<=jc c.table
 .rw[U8 h2,U8 (.inl h2)];exact⟨g,rfl,rfl,by show c.d.calls<=_;omega,rfl,rfl⟩
 rw[U9 h2]
 by_cases h3:(c.bU n).free=0
 .have ht:=yI g h3;have hf:c.bA n p=(c,0,11):=by
   unfold C.bA;rw[ht,i9]
  rw[hf,i9,U8 (.inr h3)];exact⟨g,rfl,rfl,by show c.d.calls<=_;omega,rfl,rfl⟩
 .obtain⟨k,hk,h0,ht⟩:=yH g h3;obtain⟨W0,W⟩:=Dx g hk h0 p ls;have hf:c.bA n p=({c with m:=c.m.set k 2,d:=(bq c.d n k (c.ep+1) 2 p).1},(k:Int),0):=by
   unfold C.bA;rw[ht,i8,U9 (by rw[W0];simp)]
  rw[hf,i8,ge];obtain⟨G,e⟩:=new_ok g hk h0 p ls rfl (c':={c with m:=c.m.set k 2,d:=(bq c.d n k (c.ep+1) 2 p).1,table:=qJ c.table (jc c.table) k}) rfl;exact⟨G,e,rfl,(W _ rfl).2.2.2.1,rfl,rfl⟩
variable{c:C}{n:Nat}
def abs_at(l:Int):(c.bU n).at l=if 0<=l then((c.table[l.toNat]?).map (c.dv n)).getD none else none:=by
 unfold St.at C.bU;simp only[iM]
def Ce(g:Good c n)(l:Int):(c.uP l=true↔((c.bU n).at l).isSome=true)/\(c.uP l=true->∃k x:Nat,l=k/\c.table[k]?=some (x:Int)/\(x:Int)<c.m.length/\(c.bU n).at l=c.dv n x):=by
 rw[abs_at];have key:c.uP l=true↔0<=l/\∃x,c.table[l.toNat]?=some x/\0<=x:=by
  unfold C.uP;simp only[jI,decide_eq_true_eq]
  constructor
  .rintro⟨⟨h1,h2⟩,h3⟩;refine⟨h1,c.table.getD l.toNat 0,?_,h3⟩;rw[aQ ls];simp[List.getD,aQ (show l.toNat<c.table.length by omega)]
  .rintro⟨h1,x,h2,h3⟩;have hl:l.toNat<c.table.length:=(aW.1 h2).1;refine⟨⟨h1,ls⟩,?_⟩;simp[List.getD,h2];exact h3
 rw[key]
 constructor
 .constructor
  .rintro⟨h1,x,h2,h3⟩;rw[U8 h1,h2];simp[C.dv];omega
  .intro h
   by_cases h1:0<=l
   .rw[U8 h1]at h;refine⟨h1,?_⟩
    cases h2:c.table[l.toNat]? with
    |none=>rw[h2]at h;simp at h
    |some x=>
     refine⟨x,rfl,?_⟩;rw[h2]at h;simp[C.dv]at h;omega
   .rw[U9 h1]at h;simp at h
 .rintro⟨h1,x,h2,h3⟩;have:=g.ti x (ay h2);obtain⟨xn,rfl⟩:=fu h3;refine⟨l.toNat,xn,ls,h2,ls,?_⟩;rw[U8 h1,h2];rfl
def Dy(g:Good c n)(l:Int):c.jb l=if c.uP l=true then 0 else 3:=by
 unfold C.jb;rw[U9 (by rw[g.br];simp)]
def yJ(g:Good c n)(l:Int):c.aO n l=(c.bU n).aO l:=by
 obtain⟨h1,h2⟩:=Ce g l;unfold C.aO St.aO;rw[Dy g]
 by_cases hh:c.uP l=true
 .obtain⟨k,x,rfl,hk,hx,e⟩:=h2 hh;rw[U8 hh,i8,e];obtain⟨q,s,q1,q2,q3,q4⟩:=g.rt x (ay hk) ls;have e2:c.table.getD ((k:Nat):Int).toNat 0=(x:Int):=by rw[show((k:Nat):Int).toNat=k by omega];simp[List.getD,hk]
  rw[e2,q4,i8];unfold C.dv;rw[ge,q4]
 .rw[U9 hh,i9];have:((c.bU n).at l)=none:=by
   cases h:(c.bU n).at l with
   |none=>rfl
   |some v=>exact eq (h1.2 (by rw[h];rfl)) hh
  rw[this]
def LA(g:Good c n){l:Int}(h:((c.bU n).aO l).2=0):((c.bU n).aO l).1.length=232:=by
 obtain⟨h1,h2⟩:=Ce g l
 by_cases hh:c.uP l=true
 .obtain⟨k,x,rfl,hk,hx,e⟩:=h2 hh;obtain⟨q,s,q1,q2,q3,q4⟩:=g.rt x (ay hk) ls;unfold St.aO;rw[e];unfold C.dv;rw[ge,q4];exact q3
 .have:((c.bU n).at l)=none:=by
   cases h:(c.bU n).at l with
   |none=>rfl
   |some v=>exact eq (h1.2 (by rw[h];rfl)) hh
  unfold St.aO at h;rw[this]at h;simp at h
def GZ(g:Good c n)(l:Int):
  Good (c.aF l).1 n/\(c.aF l).1.bU n=((c.bU n).aF l).1/\(c.aF l).2=((c.bU n).aF l).2/\(c.aF l).1.d=c.d/\(c.aF l).1.aR=c.aR/\(c.aF l).1.parts=c.parts:=by
 obtain⟨h1,h2⟩:=Ce g l;unfold C.aF St.aF;rw[Dy g]
 by_cases hh:c.uP l=true
 .obtain⟨k,x,rfl,hk,hx,e⟩:=h2 hh;have e2:c.table.getD ((k:Nat):Int).toNat 0=(x:Int):=by rw[show((k:Nat):Int).toNat=k by omega];simp[List.getD,hk]
  have hxt:=ay hk;have hxp:(x:Int)∉c.parts:=λh=>(g.dt _ h).1 hxt;rw[U8 hh,i8,U8 (h1.1 hh),e2,show((k:Nat):Int).toNat=k by omega];have OE:x<c.m.length:=ls
  have pI:Fm.yD c.m (x:Int)=true:=by unfold Fm.yD;simp;omega
  have hkx:=g.md x OE;obtain⟨u,hu,hu2⟩:∃u,(Fm.du c.m (x:Int)).1=c.m.set x u/\u=if(x:Int)∈c.aR then 3 else 0:=by
   unfold Fm.du;rw[U8 pI,show((x:Nat):Int).toNat=x by omega,hkx];unfold db;rw[U9 hxp]
   by_cases ho:(x:Int)∈c.aR
   .rw[U8 ho,U8 hxt,ge,U8 rfl];exact⟨3,rfl,by rw[U8 ho]⟩
   .rw[U9 ho,U8 hxt,U8 rfl];exact⟨0,rfl,by rw[U9 ho]⟩
  obtain⟨c',hc⟩:∃c':C,c'={c with m:=(Fm.du c.m (x:Int)).1,table:=c.table.set k (-1)}:=⟨_,rfl⟩;have qs:c'.m.length=c.m.length:=by rw[hc];show(Fm.du c.m (x:Int)).1.length=_;rw[hu,bR]
  have mt:∀z,0<=z->(z∈c'.table↔z∈c.table/\z≠x):=λz hz=>by rw[hc];exact Ly g.tj hk (-1) hz ls ls
  have ni:∀z∈c'.table,0<=z->z∈c.table:=λz hz h0=>((mt z h0).1 hz).1;have Yu:∀z:Int,0<=z->db c' z=if z=x then u else db c z:=by
   intro z hz;unfold db;have e3:c'.parts=c.parts:=by rw[hc]
   have e4:c'.aR=c.aR:=by rw[hc]
   rw[e3,e4]
   by_cases e:z=x
   .rw[U8 e];subst e;rw[U9 hxp,hu2];have:(x:Int)∉c'.table:=λh=>((mt _ hz).1 h).2 rfl;simp only[this,if_false]
   .rw[U9 e];have:(z∈c'.table)↔z∈c.table:=(mt z hz).trans ⟨λh=>h.1,λh=>⟨h,e⟩⟩;simp only[this]
  show Good {c with m:=(Fm.du c.m (x:Int)).1,table:=c.table.set k (-1)} n/\_;refine⟨?_,?_,rfl,rfl,rfl,rfl⟩
  .rw[<-hc];refine⟨by rw[hc];exact g.up,by rw[hc];exact g.arm,by rw[hc];exact g.br,by rw[hc];exact g.ok,qs.trans g.ml,by rw[hc];exact g.ep,by rw[hc];exact g.sl,?_,by rw[qs,hc];exact g.oi,by rw[qs,hc];exact g.pi,by rw[hc];exact g.tj.ct k (-1) (.inl ls),by rw[hc];exact g.oj,by rw[hc];exact g.pj,?_,by rw[hc];exact g.pl,?_,?_,?_,by rw[hc];exact g.ro⟩
   .intro z hz;rw[qs]
    by_cases h0:0<=z
    .exact g.ti z (ni z hz h0)
    .rw[hc]at hz
     rcases oJ hz with hz|rfl
     .exact g.ti z hz
     .exact .inl rfl
   .intro z hz;have hz':z∈c.parts:=by rw[hc]at hz;exact hz
    exact⟨λh=>(g.dt z hz').1 (ni z h (g.pi z hz').1),by rw[hc];exact(g.dt z hz').2⟩
   .intro i z hi hz ho;rw[hc]at hi ho ⊢;have hi:(c.table.set k (-1))[i]?=some z:=hi;rw[kq]at hi
    split at hi
    .split at hi
     .injection hi with hi;omega
     .cases hi
    .exact g.sm i z hi hz ho
   .intro i hi;rw[qs]at hi;rw[Yu i ls,<-g.md i hi];have:c'.m=c.m.set x u:=by rw[hc];exact hu
    rw[this,jE _ _ _ _ hi]
    by_cases e:x=i
    .rw[U8 e,g8]
    .rw[U9 e,ge]
   .intro z hz h0;rw[hc];rw[hc]at hz;exact g.rt z (ni z (by rw[hc];exact hz) h0) h0
  .unfold C.bU;simp only[hu,bR,St.mk.injEq,true_and,and_true];rw[Bl];rfl
 .have:((c.bU n).at l)=none:=by
   cases h:(c.bU n).at l with
   |none=>rfl
   |some v=>exact eq (h1.2 (by rw[h];rfl)) hh
  rw[U9 hh,i9,this,i8];exact⟨g,rfl,rfl,rfl,rfl,rfl⟩
def vE(t:List (Option (Bool×UV))):Nat->List Int
 |0=>[]
 |k+1=>vE t k++if((t[k]?).getD none).isSome then [(k:Int)]else []
def Tc :∀k,k<=c.table.length->yF c.table k=vE (c.bU n).now k
 |0,_=>rfl
 |k+1,h=>by
  unfold yF vE;rw[Tc k ls]
  congr 1
  unfold C.bU;simp only[iM,aQ (show k<c.table.length by omega),List.getD,mr,j0,C.dv]
  by_cases h0:c.table[k]<0
  .rw[U8 h0,ge];rfl
  .rw[U9 h0,g8];rfl
def St.jW(a:St):List Int:=vE a.now a.now.length
def Ai(t:List (Option (Bool×UV))):∀k,k<=t.length->(vE t k).length=(t.take k).countP Option.isSome
 |0,_=>rfl
 |k+1,h=>by
  unfold vE;rw[bC,Ai t k ls,ij ls,Cx,aQ ls];simp only[j0]
  cases t[k]<;>simp
def slot_le(a:St):a.slot<=a.now.length:=qt
def UT(a:St):a.at (a.slot:Nat)=none:=by
 unfold St.at;rw[g8,show(((a.slot:Nat):Int)).toNat=a.slot by omega]
 rcases fo a.slot a.now.length with h|h
 .have:=rN (p:=Option.isNone) (xs:=a.now) (w:=h);unfold St.slot at h ⊢;rw[aQ h];simpa using this
 .rw[fw h];rfl
def UU(d:D)(h:d.aq<=9223372036854775807):d.cX.1.calls<=d.calls+1/\d.cX.1.aq<=9223372036854775807:=by
 have:=yB d h;unfold D.cX
 split
 .exact⟨by show d.calls<=_;omega,h⟩
 .split
  .exact⟨by show d.cG.1.calls<=_;omega,this.2⟩
  .exact⟨ls,this.2⟩
def Qi(n:Nat)(h1:1<=cN n)(hn:n<=4096)(fN:(eI (D.zero n) n).d.Ok n):Good (eI (D.zero n) n) n/\(eI (D.zero n) n).bU n={many:=cN n,now:=[],aR:=[],ep:=1}/\(eI (D.zero n) n).d.calls<=10:=by
 have hk:2<=n:=by unfold cN cJ at h1;omega
 have z:(D.zero n).down=false/\(D.zero n).aq=0/\(D.zero n).calls=0:=⟨rfl,rfl,rfl⟩;obtain⟨w1,w2,w3⟩:=jk (d:=D.zero n) (n:=n) (k:=0) z.1 z.2.1 ls gU;obtain⟨v1,v2,v3⟩:=jk (d:=((D.zero n).ao n (0:Nat) gU).1) (n:=n) (k:=1) w2 w3 ls [];obtain⟨s1,s2,s3,_⟩:=lX v2 v3;have c1:=jD (D.zero n) n 0 gU (by show(0:Int)<=_;omega);have c2:=jD ((D.zero n).ao n 0 gU).1 n 1 [] c1.2;have hc:(eI (D.zero n) n).d.calls<=10:=by
  show(((D.zero n).ao n 0 gU).1.ao n 1 []).1.cX.1.calls<=10;have c3:=(UU ((((D.zero n).ao n 0 gU).1.ao n 1 []).1) c2.2).1;have:=c1.1;have:=c2.1;omega
 refine⟨⟨s2,s3,rfl,fN,by simp[eI],by simp[eI],.inl rfl,by simp[eI],by simp[eI],by simp[eI],by simp[eI,Dw],by simp[eI,Dw],by simp[eI,Dw],by simp[eI],by simp[eI,cd],by simp[eI],?_,by simp[eI],by simp[eI]⟩,?_,hc⟩
 .intro i hi;simp[eI]at hi;unfold db eI;simp[List.getD,hi]
 .unfold C.bU eI;simp
def St.start(jW:Nat):St:={many:=jW,now:=[],aR:=[],ep:=1}
end Sh
namespace Rt
open Go.RowKit Pk
variable{w:BY}{g:Nat}
def bS(b:UV)(k:Nat):Nat:=(b.getD k 0).toNat*256+(b.getD (k+1) 0).toNat
def sj(b:UV)(k:Nat):bS b k<65536:=by
 unfold bS;have:=(b.getD k 0).toNat_lt;have:=(b.getD (k+1) 0).toNat_lt;omega
def or8(a b:Nat)(ha:a<256)(hb:b<256):bits .or U6 ((a:Int)*256) (b:Int)=((a*256+b:Nat):Int):=by
 rw[bits_join U6 32 ms (λn h0 h1=>IntWalk.i64_in n ls) 8 _ _ ls ls ls ls ls ls];omega
def df(s:Nm)(k:Nat)(h:k<s.size):s.data.toList.getD k 0=s[k]:=by
 have:k<s.pu.length:=by simpa using h
 simp[List.getD,aQ this];rfl
def Dz{T:Nm}(B:aM w g 9 #[U7 T])(k:Nat)(hk:k+1<T.size)(hs:T.size<=1000):
  io prog 181 #[(k:Int),lc g] w λe w'=>e=fd (bS T.data.toList k:Nat)/\i7 w w':=by
 have c0:w.cell? (lc g)=some (U7 T):=B.bi 0;have h0:k<T.size:=ls
 have b0:=T[k].toNat_lt;have b1:=T[k+1].toNat_lt;have HV:=xh (show bits .or U6 ((T[k].toNat:Int)*256) (T[k+1].toNat:Int)=((bS T.pu k:Nat):Int)from by
  rw[or8 _ _ ls ls];unfold bS;rw[df _ _ h0,df _ _ hk])
 have e1:U6.wrap ((k:Int)+1)=(k:Int)+1:=d9;have e2:(0:Int)<=(k:Int)+1:=ls
 have e3:((k:Int)+1).toNat=k+1:=ls
 have e7:(k:Int)+1<(T.size:Int):=ls
 have e8:(k:Int)<(T.size:Int):=ls
 have e4:U6.wrap (T[k].toNat:Int)=(T[k].toNat:Int):=d9;have e5:U6.wrap ((T[k].toNat:Int)*256)=(T[k].toNat:Int)*256:=d9;have e6:U6.wrap (T[k+1].toNat:Int)=(T[k+1].toNat:Int):=d9;clear B;go_in;go_wp2_with fail;go_quiet (fail);rw[HV.o];go_wp2;go_ret;exact⟨rfl,dC (Below.refl _ _) _⟩
def lZ{fn:Func}{p u:Tmp}{a b:Int}{A:Option Addr}{n c:Nat}{tmps:Array By}(h:fn.results= #[.cell p 155,.tmp u])(hp:tmps.getD p undef=st (some ⟨g,0,none⟩))(B:aM w g 155 #[a,b,U3 A n c]):
  (results fn tmps).run prog w=.ok (rg #[kk a b A n c,tmps.getD u undef]) w:=by
 have c0:=B.bi 0;have c1:=B.bi 1;have c2:=B.bi 2;rw[results_cell_tmp h,hp];clear h hp B;unfold kk;go_simp
end Rt
namespace Rt
open Go.RowKit Pk
def Jk(N:Nat)(h:N<18446744073709551616):qD (yw N)=N:=by
 have e:yw N=[wf (N / 72057594037927936),wf (N / 281474976710656),wf (N / 1099511627776),wf (N / 4294967296),wf (N / 16777216),wf (N / 65536),wf (N / 256),wf (N / 1)]:=rfl;rw[e];simp only[qD,CD,Ph,j5];omega
def lG(ep:Int):(fM ep).length=8:=by unfold fM yw;rw[qC]
def Qj(ep:Int)(h0:0<=ep)(h1:ep<=1099511627776):(qD (fM ep):Int)-9223372036854775808=ep:=by
 unfold fM;rw[Jk _ ls];omega
def LB(l:List Nat):(l.flatMap jH).length=2*l.length:=by
 induction l with
 |nil=>rfl
 |cons a l ih=>rw[jg,bC,ih];simp[jH];omega
def oU(lg:Nat)(l:List Nat)(h:l.length<=5):(nS lg l).length=44:=by
 unfold nS;simp only[bC,LB,eG];simp[jH];omega
def sk(m:UV):(ky.bM m).length=m.length+4:=by unfold ky.bM;simp[ky.iU]
def drop2(a:Nat)(r:UV):(jH a++r).drop 2=r:=rfl
def drop4(a b:Nat)(r:UV):(jH a++(jH b++r)).drop 4=r:=rfl
def yK(n:Nat)(h:n<65536)(r:UV):bS (jH n++r) 0=n:=by
 unfold bS jH;simp only[oZ,dD,List.getD_cons_zero,List.getD_cons_succ,j5];omega
def DB(b:UV)(j k:Nat):bS b (j+k)=bS (b.drop j) k:=by
 unfold bS;simp only[jG,iu,Nat.add_assoc]
def LC(l:List Nat)(r:UV)(i:Nat)(h:i<l.length)(hs:∀x∈l,x<65536):bS (l.flatMap jH++r) (2*i)=l[i]:=by
 induction l generalizing i with
 |nil=>simp at h
 |cons a l ih=>
  cases i with
  |zero=>
   rw[jg,cV,wJ,yK a (hs a lw)];rfl
  |succ i=>
   rw[show 2*(i+1)=2+2*i by omega,DB];have hd:((a::l).flatMap jH++r).drop 2=l.flatMap jH++r:=by rw[jg];rfl
   rw[hd,ih i (by simpa using h) (λx hx=>hs x (aH _ hx))];rfl
def fi(v:UV):Int:=(qD (v.take 8):Int)-9223372036854775808
def fc(v:UV):UV:=(v.drop 12).take 44
def l5(v:UV):List Nat:=(List.range (bS (fc v) 2)).map λi=>bS (fc v) (4+2*i)
def fT(v:UV):Prop:=bS (fc v) 2<=5/\gP (fi v) (bS (fc v) 0:Nat) (cy (l5 v))/\eV (fi v) (bS (fc v) 0) (l5 v)=v
def vF(ep:Int)(lg:Nat)(l:List Nat):(eV ep lg l).take 8=fM ep:=by
 unfold eV;rw[cV,lz (by rw[lG];exact ai _),cR (by rw[lG];exact ai _)]
def sq(ep:Int)(lg:Nat)(l:List Nat):(eV ep lg l).drop 8=ky.bM (nS lg l)++fM ep:=by
 unfold eV;rw[cV,rM (by rw[lG];exact ai _),Cz (by rw[lG];exact ai _),dD]
def UW(ep:Int)(lg:Nat)(l:List Nat)(h:l.length<=5):((eV ep lg l).drop 8).take 48=ky.bM (nS lg l):=by
 have h2:(ky.bM (nS lg l)).length=48:=by rw[sk,oU _ _ h]
 rw[sq,lz ls,cR ls]
def DE(ep:Int)(lg:Nat)(l:List Nat)(h:l.length<=5):(eV ep lg l).drop 56=fM ep:=by
 have h2:(ky.bM (nS lg l)).length=48:=by rw[sk,oU _ _ h]
 rw[show 56=8+48 by rfl,<-jF,sq,rM ls,Cz ls,dD]
def nj(ep:Int)(lg:Nat)(l:List Nat)(h:l.length<=5):(eV ep lg l).length=64:=by
 unfold eV;simp only[bC,lG,sk,oU _ _ h]
def yL(ep:Int)(lg:Nat)(l:List Nat)(h:l.length<=5):fc (eV ep lg l)=nS lg l:=by
 unfold fc;rw[show 12=8+4 by rfl,<-jF,sq];unfold ky.bM;have hm:=oU lg l h;have hf:∀n,(ky.iU n).length=4:=λn=>by simp[ky.iU]
 rw[cV,rM (by rw[hf];exact ai _),Cz (by rw[hf];exact ai _),dD,lz ls,cR ls]
def DF(ep:Int)(lg:Nat)(l:List Nat)(hr:gP ep lg (cy l)):fi (eV ep lg l)=ep/\bS (fc (eV ep lg l)) 0=lg/\bS (fc (eV ep lg l)) 2=l.length/\l5 (eV ep lg l)=l:=by
 have h5:l.length<=5:=by have:=jU hr;simpa [cy]using this
 have vz:=hr.1;have hlg:lg<=512:=by have:=hr.2.2.2.1;omega
 have hs:∀x∈l++it (5-l.length) 0,x<65536:=by
  intro x hx
  rcases aK.1 hx with hx|hx
  .obtain⟨i,hi,rfl⟩:=qu hx;have h1:=hr.2.2.2.2.2 i ((l[i]:Nat):Int) (by simp[cy];exact⟨l[i],aQ hi,rfl⟩);omega
  .have:=jQ hx;omega
 have h2:bS (nS lg l) 2=l.length:=by
  unfold nS;rw[show(2:Nat)=2+0 by rfl,DB,cV,cV,drop2];exact yK _ ls _
 have h4:∀i,i<l.length->bS (nS lg l) (4+2*i)=l.getD i 0:=by
  intro i hi;unfold nS;rw[DB,cV,cV,drop4,LC _ _ i (by rw[bC];omega) hs,List.getElem_append_left hi,jG,aQ hi];rfl
 refine⟨?_,?_,?_,?_⟩
 .unfold fi;rw[vF];exact Qj ep ls hr.2.1
 .rw[yL _ _ _ h5];unfold nS;rw[cV,cV];exact yK lg ls _
 .rw[yL _ _ _ h5,h2]
 .unfold l5;rw[yL _ _ _ h5,h2];apply vq lw;intro i h1 h3;simp only[eZ,List.length_range]at h1;rw[IY,yr,h4 i h1,jG,aQ h1];rfl
def UX(ep:Int)(lg:Nat)(l:List Nat)(hr:gP ep lg (cy l)):fT (eV ep lg l):=by
 obtain⟨h1,h2,h3,h4⟩:=DF ep lg l hr;have h5:l.length<=5:=by have:=jU hr;simpa [cy]using this
 exact⟨by rw[h3];exact h5,by rw[h1,h2,h4];exact hr,by rw[h1,h2,h4]⟩
def DG{v:UV}(h:fT v):ky.iU (ky.lD ((((v.drop 8).take 48)).drop 4))=((v.drop 8).take 48).take 4/\v.take 8=v.drop 56:=by
 have h5:(l5 v).length<=5:=by unfold l5;simp;exact h.1
 have hv:=h.2.2;generalize fi v=ep at hv;generalize bS (fc v) 0=lg at hv;generalize l5 v=l at hv h5;subst hv;rw[UW _ _ _ h5,vF,DE _ _ _ h5];refine⟨?_,rfl⟩;unfold ky.bM;have hf:∀n,(ky.iU n).length=4:=λn=>by simp[ky.iU]
 rw[rM (by rw[hf];exact ai _),Cz (by rw[hf];exact ai _),dD,lz (by rw[hf];exact ai _),cR (by rw[hf];exact ai _)]
variable{w:BY}
def yM(x:Int):Nat:=(max x (-1)+1).toNat
def iN(l:List Int):UV:=(l.map yM).flatMap jH
def iF(l:List Int)(p:Nat):List Int:=(l.drop (116*p)).take 116
def sr(l:List Int)(p:Nat):(iF l p).length=min 116 (l.length-116*p):=by simp[iF]
def Yw(l:List Int)(p i:Nat)(h:i<116):(iF l p)[i]?=l[116*p+i]?:=by
 unfold iF;rw[rP,U8 h,iu]
def UY{ad:Addr}{n m p i:Nat}{l:List Int}(h:iw w (some ad) n l)(Td:m<=116)(Lk:116*p+m<=n)(hi:i<m):
  ∃x,w.cell? ((ad.add (p*116)).add i)=some (U5 U6 x)/\(iF l p).take (i+1)=(iF l p).take i++[x]/\iN ((iF l p).take (i+1))=iN ((iF l p).take i)++jH (yM x)/\x∈iF l p:=by
 obtain⟨ad',x,e,hx,ck⟩:=h.at (116*p+i) ls
 cases e
 have hl:=h.1;have hg:(iF l p)[i]?=some x:=by rw[Yw _ _ _ ls];exact hx
 obtain⟨dP,CH⟩:=aW.1 hg;have ht:(iF l p).take (i+1)=(iF l p).take i++[x]:=by rw[ij dP,CH]
 refine⟨x,?_,ht,?_,ay hg⟩
 .rw[Pn,show p*116+i=116*p+i by omega];exact ck
 .rw[ht];unfold iN;rw[eS,rO];simp
def LF(A:Option Addr)(n c:Nat)(l:List Int)(h:iw w A n l)(hn:n<=1000000)(Kx:n<=c)(p:Nat)(hp:116*p<n):
  io prog 198 #[U3 A n c,U5 U6 (p:Nat)] w λe w'=>(((∃x∈iF l p,1023<x)/\e=fd (rg #[U7 ⟨#[]⟩,U5 U6 2]))\/((∀x∈iF l p,x<=1023)/\e=fd (rg #[U7 ⟨(iN (iF l p)).toArray⟩,U5 U6 0])))/\i7 w w':=by
 have hneed:(p:Int)<oT n:=by unfold oT;omega
 have h1:¬(p:Int)<0:=ls
 have h2:¬(p:Int)≥oT n:=ls
 have h2b:¬oT n<=(p:Int):=ls
 have KN:=xh<|Dj (n:Int) ls w;have HL:=xh h.1;have HI:=xh h;obtain⟨ad,x0,rfl,_,_⟩:=h.at 0 ls;obtain⟨m,hm⟩:∃m,m=min 116 (n-116*p):=⟨_,rfl⟩;have HM:=xh hm;have Td:m<=116:=ls
 have Lk:116*p+m<=n:=ls
 clear h hm;generalize oT n=nd at *;have e1:U6.wrap ((p:Int)*116)=(p:Int)*116:=d9;have e2:U6.wrap ((p:Int)+1)=(p:Int)+1:=d9;have e3:U6.wrap (((p:Int)+1)*116)=((p:Int)+1)*116:=d9;go_in;go_wp2_with fail;go_call KN.o as e w1 ⟨rfl,bu⟩;have O1:=xh bu;clear bu KN;go_wp2_with fail;rw[show n-p*116=m from by have:=HM.o;omega];rotate_left
 rw[show((((p:Int)+1)*116).toNat-p*116)=m from by have:=HM.o;omega]
 all_goals
  go_loopw [6,29] (λbv iv wr=> ∃i:Nat,i<=m/\iv=U5 U6 i/\bm wr 5 1 bv (2*i) (fq (iN ((iF l p).take i)))/\Hid (∀x∈(iF l p).take i,x<=1023)/\i7 w wr/\Hid (∀g∈ak bv,w.heap.size<=g)) (λ_ iv _=>m-(intOf iv).toNat)
  case atStart=>exact⟨0,bG _,rfl,bm.nil _ _ _,xh lw,O1.o,xh (by simp[ak])⟩
  case round=>
   obtain⟨i,hi,rfl,S,GD,O,F⟩:=hrel
   by_cases h':i<m
   .obtain⟨x,ck,ht,hp2,hmem⟩:=UY (HI.o.below O) Td Lk h';have OO:=xh O;have HT:=xh ht;have HP:=xh hp2;have HX:=xh hmem;clear O ht hp2 hmem;have Xc:(i:Int)<(m:Int):=ls
    by_cases hx:1023<x
    .go_wp2;go_ret2;exact⟨.inl ⟨⟨x,HX.o,hx⟩,rfl⟩,OO.o⟩
    .obtain⟨BA,bc,rfl⟩:=aI S;have KT:=xh<|iS _ (2*i) _ S (yM x) (by unfold yM;omega) ls;have G2:=xh (show ∀y∈(iF l p).take (i+1),y<=1023 from by
      rw[HT.o];intro y hy
      rcases aK.1 hy with hy|hy
      .exact GD.o y hy
      .simp at hy;omega)
     clear S
     by_cases DH:x< -1
     rw[show((yM x:Nat):Int)=0 from by unfold yM;omega]at KT;rotate_left;rw[show((yM x:Nat):Int)=x+1 from by unfold yM;omega]at KT
     all_goals
      go_wp2_with fail;go_call KT.o as e w2 ⟨⟨v2,rfl,S2,fr⟩,ow⟩;rw[<-HP.o]at S2;have S2:=xh S2;have O2:=xh<|OO.o.trans (ow.bI OO.o.size F.o);have F2:=g9 (∀g∈ak v2,w.heap.size<=g) (λg hg=>(fr g hg).elim (F.o g) (λh=>aD OO.o.size h));clear fr ow;go_wp2;go_roundw
      case rel=>exact⟨i+1,ls,by go_num,S2.o,G2,O2.o,F2⟩
      case measure=>simp[intOf];omega
   .obtain rfl:i=m:=ls
    have Ju:(iF l p).take i=iF l p:=cR (by rw[sr,HL.o];have:=HM.o;omega);rw[Ju]at S;have G2:=g9 (∀y∈iF l p,y<=1023) (by have:=GD.o;rwa [Ju]at this);obtain⟨g,cap,rest,rfl,B,hc,_⟩:=S.form (by have:=HM.o;omega) ls
    have ST:=xh<|cQ (P:=prog) wr 150 9 5 underlying150 underlying5 underlying9 ⟨g,0,none⟩ (2*i) cap (iN (iF l p)) (by have:=S.1;simpa using this) (bT B 0 _ (by intro j u hu;rw[bV];exact bX (aW.1 hu).1▸hu));have OO:=xh O;clear O S B Ju;go_wp2_with fail;rw[ST.o];go_wp2;go_ret2;exact⟨.inr ⟨G2.o,rfl⟩,OO.o⟩
attribute [local go_sem ↓] bP
def UZ:(prog.info? 3).map (λi=>(i.zero,i.size,i.bytes))=some (some (U5 U6 0),1,8):=pm
def nvs(l:List Int):List By:=l.map (Value.int U6)
@[simp] theorem nvs_length(l:List Int):(nvs l).length=l.length:=by simp[nvs]
def cF(T:UV)(m:Nat):List Int:=(List.range m).map λj=>(bS T (2*j):Int)-1
def Vc(T:UV)(m:Nat):cF T (m+1)=cF T m++[(bS T (2*m):Int)-1]:=by
 unfold cF;rw[I8,eS];rfl
@[simp] theorem Aj(T:UV)(m:Nat):(cF T m).length=m:=by simp[cF]
def LH(T:Nm)(m:Nat)(hm:m<=116)(hT:2*m<=T.size)(hs:T.size<=1000000)(w:BY):
  io prog 137 #[U7 T,(m:Nat)] w λe w'=>(((∃j,j<m/\1024<bS T.data.toList (2*j))/\e=fd (rg #[U3 none 0 0,U5 U6 14]))\/((∀j,j<m->bS T.data.toList (2*j)<=1024)/\∃v,e=fd (rg #[v,U5 U6 0])/\bm w' 3 1 v m (nvs (cF T.data.toList m))/\∀g∈ak v,w.heap.size<=g))/\i7 w w':=by
 have h1:¬(m:Int)<0:=ls
 have h2:¬(116:Int)<(m:Int):=ls
 have e1:U6.wrap (2*(m:Int))=2*(m:Int):=d9;have h3:¬(T.size:Int)<2*(m:Int):=ls
 go_in;go_wp2_with fail
 go_loopw [6,23] (λbv iv wr=> ∃i:Nat,i<=m/\iv=U5 U6 i/\bm wr 3 1 bv i (nvs (cF T.pu i))/\Hid (∀j,j<i->bS T.pu (2*j)<=1024)/\i7 w wr/\Hid (∀g∈ak bv,w.heap.size<=g)) (λ_ iv _=>m-(intOf iv).toNat)
 case atStart=>exact⟨0,bG _,rfl,bm.nil _ _ _,xh (by intro j hj;omega),Below.refl _ _,xh (by simp[ak])⟩
 case round=>
  obtain⟨i,hi,rfl,S,GD,O,F⟩:=hrel
  by_cases h':i<m
  .have Xc:(i:Int)<(m:Int):=ls
   have h0:2*i<T.size:=ls
   have hk:2*i+1<T.size:=ls
   have b0:=T[2*i].toNat_lt;have b1:=T[2*i+1].toNat_lt;have HV:=xh (show bits .or U6 ((T[2*i].toNat:Int)*256) (T[2*i+1].toNat:Int)=((bS T.pu (2*i):Nat):Int)from by
    rw[or8 _ _ ls ls];unfold bS;rw[df _ _ h0,df _ _ hk])
   have f1:U6.wrap (2*(i:Int))=2*(i:Int):=d9;have f2:U6.wrap (2*(i:Int)+1)=2*(i:Int)+1:=d9;have f3:(0:Int)<=2*(i:Int):=ls
   have f4:(0:Int)<=2*(i:Int)+1:=ls
   have f5:(2*(i:Int)).toNat=2*i:=ls
   have f6:(2*(i:Int)+1).toNat=2*i+1:=ls
   have f7:2*(i:Int)<(T.size:Int):=ls
   have f8:2*(i:Int)+1<(T.size:Int):=ls
   have e4:U6.wrap (T[2*i].toNat:Int)=(T[2*i].toNat:Int):=d9;have e5:U6.wrap ((T[2*i].toNat:Int)*256)=(T[2*i].toNat:Int)*256:=d9;have e6:U6.wrap (T[2*i+1].toNat:Int)=(T[2*i+1].toNat:Int):=d9;go_wp2_with fail;go_quiet (fail);rw[HV.o];have dP:=sj T.pu (2*i);generalize hav:bS T.pu (2*i)=av at *;have HA:=xh hav;clear HV hav
   by_cases hbig:1024<av
   .have hbI:(1024:Int)<(av:Int):=ls
    have OO:=xh<|dC O nq;clear O;go_wp2;go_ret2;refine⟨.inl ⟨⟨i,h',by rw[HA.o];exact hbig⟩,rfl⟩,?_⟩;exact OO.o
   .have hbI:¬(1024:Int)<(av:Int):=ls
    have eW:U6.wrap ((av:Int)-1)=(av:Int)-1:=d9;obtain⟨BA,bc,rfl⟩:=aI S;have O1:=dC O nq;have S1:=S.drewN nq;clear O S;have WD:∃W,W=wr.drewN nq:=⟨_,rfl⟩;obtain⟨W,hW⟩:=WD;rw[<-hW]at O1 S1;obtain⟨v',w2,ea,S2,ow,fr⟩:=gw (P:=prog) S1 60 60 (U5 U6 0) 8 underlying60 UZ rfl (U5 U6 ((av:Int)-1)) rfl (by unfold maxLen;omega) ls;obtain⟨V2,nc,rfl⟩:=aI S2;have pC:W.heap.size=wr.heap.size:=by rw[hW];rfl
    rw[pC]at ea;have EA:=xh ea;have SX:=xh (show bm w2 3 1 (U3 V2 (i+1) nc) (i+1) (nvs (cF T.pu (i+1)))from by
     rw[Vc,HA.o];unfold nvs at S2 ⊢;rw[eS];exact S2)
    have OX:=xh<|O1.trans (ow.bI O1.size F.o);have FX:=g9 (∀x∈ak (U3 V2 (i+1) nc),w.heap.size<=x) (λx hx=>(fr x hx).elim (F.o x) (λh=>aD O1.size h));have G2:=xh (show ∀j,j<i+1->bS T.pu (2*j)<=1024 from λj hj=>by
     rcases oL.1 hj with h|rfl
     .exact GD.o j h
     .rw[HA.o];omega)
    clear ea S2 ow fr O1 S1 pC;have HW:=xh hW;clear hW;go_wp2_with fail;rw[<-HW.o,EA.o];go_wp2;go_roundw
    case rel=>exact⟨i+1,ls,by go_num,SX.o,G2,OX.o,FX⟩
    case measure=>simp[intOf];omega
  .obtain rfl:i=m:=ls
   have OO:=xh O;have SS:=xh S;obtain⟨BA,bc,rfl⟩:=aI S;clear S O;go_wp2;go_ret2;exact⟨.inr ⟨GD.o,_,rfl,SS.o,F.o⟩,OO.o⟩
end Rt
namespace Sh
open Go.RowKit Pk Dk Pg
attribute [local go_sem ↓] bP
variable{w:BY}
def DI{v:By}{l:List Int}(S:Sl w 3 v l.length (di l))(hl:l.length<=100000):
  io prog 85 #[v] w λe w'=> ∃v',e=fd v'/\Sl w' 3 v' l.length (di l)/\i7 w w'/\∀g∈cB v',w.heap.size<=g:=by
 obtain⟨A,c,rfl,hc⟩:=S.val;have O0:=i6 w (Pi #[] 3);have E0:Sl (w.alloc (Pi #[] 3)) 3 (U3 (lc w.heap.size) 0 0) 0 (di []):=⟨rfl,.inl ⟨_,rfl,rfl⟩⟩;have HN:∀j u,(di l)[j]?=some u->∃a,A=some a/\(w.alloc (Pi #[] 3)).cell? (a.add j)=some u:=by
  intro j u hu;have hj:j<l.length:=by have:=(aW.1 hu).1;simpa using this
  obtain⟨g,cap,rest,hv,B,_,_⟩:=(S.alloc (Pi #[] 3)).form ls;injection hv with e1 e2 e3
  subst e1;exact⟨_,rfl,bT B 0 _ (by intro i v hi;rw[bV];exact bX (aW.1 hi).1▸hi) j u hu⟩
 obtain⟨v1,w1,ea,S1,o1,f1⟩:=yu (P:=prog) E0 60 60 (U5 U6 0) 8 underlying60 kX rfl A l.length c (di l) lw HN (Ln l) (by unfold maxLen;omega) ls;rw[bV,<-gS,dD]at S1
 have H1:=g9 (Sl w1 3 v1 l.length (di l)/\i7 w w1/\∀g∈cB v1,w.heap.size<=g) ⟨S1,O0.trans (o1.bI lw (λx hx=>by simp[cB]at hx)),λg hg=>(f1 g hg).elim (λh=>by simp[cB]at h) (λh=>by simp at h;omega)⟩;have EA:=xh ea;have HS:=xh S;clear ea S1 o1 f1 HN E0 O0
 cases A with
 |none=>
  have HE:=Lib.run_eql_slice_nil (P:=prog) w 60 3 none 0 0 0 0 underlying60;have h0:l.length=0:=by
   rcases S.2 with⟨A',e,h0⟩|⟨g,cap,rest,e,_⟩
   .exact h0
   .cases e
  have Oz:c=0:=by
   rcases S.2 with⟨A',e,_⟩|⟨g,cap,rest,e,_⟩
   .injection e
   .cases e
  subst Oz;have Lm:l=[]:=pf h0;subst Lm;clear S;go_in;go_wp2;go_ret;exact⟨U3 none 0 0,by first|rfl|simp,Sl.nil _ _,Below.refl _ _,by simp[cB]⟩
 |some a=>
  have HE:=Lib.run_eql_slice_nil (P:=prog) w 60 3 (some a) l.length c 0 0 underlying60;clear S;go_in;go_wp2_with fail;rw[EA.o];go_wp2;go_ret;exact⟨v1,by first|rfl|simp,H1.o⟩
def C.ao(c:C)(n:Nat)(l:Int)(p:UV):C×Int:=
 if c.broken=true then(c,13)
 else if 232<p.length then(c,4)
 else if c.jb l≠0 then(c,c.jb l)
 else if Fm.bA c.m (c.table.getD l.toNat 0)=true then({c with d:=(bq c.d n (c.table.getD l.toNat 0) (c.ep+1) 2 p).1},(bq c.d n (c.table.getD l.toNat 0) (c.ep+1) 2 p).2)
 else if(c.bA n p).2.2≠0 then((c.bA n p).1,(c.bA n p).2.2)
 else({(c.bA n p).1 with m:=(Fm.du (c.bA n p).1.m (c.table.getD l.toNat 0)).1,table:=c.table.set l.toNat (c.bA n p).2.1},0)
def Qk{x:X}{n:Nat}{c:C}(h:At w x n c)(l:Int)(s:Nm)(hs:s.size<=9223372036854775807)(vz:0<=c.ep/\c.ep<=1099511627776)(hc:c.d.calls<=3999999999999999990)(hr:c.d.aq<=9223372036854775807)(ht:∀k,c.table.getD k 0<=1024):
  io prog 147 #[sp x.b,l,U7 s] w λe w'=>e=fd (U5 U6 (c.ao n l s.data.toList).2)/\At w' x n (c.ao n l s.data.toList).1/\ah x.fp w w':=by
 have KW:=jC h;have hl:s.pu.length=s.size:=lw
 obtain⟨R,hR⟩:∃R,c.ao n l s.pu=R:=⟨_,rfl⟩;rw[hR];unfold C.ao at hR;rw[hl]at hR;have HH:=xh h
 by_cases h1:c.broken=true
 .rw[U8 h1]at hR;subst hR;rw[show c.gM=13 from by unfold C.gM;rw[U8 h1]]at KW;have KW:=xh KW;clear h h1;unfold sp at *;go_in;go_wp2_with fail;go_call KW.o as e w1 ⟨rfl,rfl⟩;go_wp2;go_ret;exact bz ⟨HH.o,ah.refl _ _⟩
 rw[U9 h1]at hR;rw[show c.gM=0 from by unfold C.gM;rw[U9 h1]]at KW;have KW:=xh KW
 by_cases h2:232<s.size
 .rw[U8 h2]at hR;subst hR;have h2I:(232:Int)<(s.size:Int):=ls
  clear h h1 h2;unfold sp at *;go_in;go_wp2_with fail;go_call KW.o as e w1 ⟨rfl,rfl⟩;go_wp2;go_ret;exact bz ⟨HH.o,ah.refl _ _⟩
 rw[U9 h2]at hR;have h2I:¬(232:Int)<(s.size:Int):=ls
 have KA:=rV h l
 by_cases h3:c.jb l=0
 .rw[U9 (by simpa using h3)]at hR;obtain⟨_,h5,h6,h7⟩:=yE h3;rw[h3]at KA;have KA:=xh KA;obtain⟨k,rfl⟩:=fu h5;have hk:k<c.table.length:=ls
  rw[show((k:Nat):Int).toNat=k from by omega]at hR h7;obtain⟨g,cp,hv,ck⟩:=h.tk k hk;have f1:=h.f1;have f2:=h.f2;rw[hv]at f2;have Oy:(k:Int)<(c.table.length:Int):=ls
  have HR:=xh hR;have hid:c.table.getD k 0<=9223372036854775807:=by have:=ht k;omega
  have KF:=xh (λ(m:Nat)=>Fm.tZ (h.drewN m).hm (c.table.getD k 0));have KP:=xh (λ(m:Nat)=>j6 (h.drewN m) (c.table.getD k 0) 2 s hid vz hc hr);have KN:=xh (λ(m:Nat)=>tZ (h.drewN m) s vz hc hr);have HD:=xh (λ(m:Nat)=>h.drewN m);obtain⟨pid,Yx⟩:∃pid,c.table.getD k 0=pid:=⟨_,rfl⟩;rw[Yx]at ck KF KP hR HR;have g1:=h.f1
  by_cases hf:Fm.bA c.m pid=true
  .rw[U8 hf]at hR;subst hR;rw[hf]at KF;clear h h1 h2 h3 hv hf HR Yx hid;generalize c.table.length=tn at *;unfold Fm.mp at *;unfold sp at *;go_in;go_wp2_with fail;go_call KW.o as e w1 ⟨rfl,rfl⟩;go_wp2_with fail;go_call KA.o as e w1 ⟨rfl,rfl⟩;go_wp2_with fail;go_quiet ((go_at_call 192;exact CQ (KF.o _)));go_wp2_with fail;go_call (KP.o nq) as e w2 ⟨rfl,A2,o2⟩;have A2:=xh A2
   have o2:=xh<|((ah.refl x.fp w).drewN nq).trans (o2.mono (λg hg _=>Lo x g hg));go_wp2;go_ret;exact bz ⟨A2.o,o2.o⟩
  .have Cc:Fm.bA c.m pid=false:=by cases hb:Fm.bA c.m pid with|true=>exact eq hb hf|false=>rfl
   rw[U9 hf]at hR;rw[Cc]at KF;have FT:=gQ c n s.pu;obtain⟨c1,Ku⟩:∃c1,c.bA n s.pu=c1:=⟨_,rfl⟩;rw[Ku]at KN hR FT;obtain⟨C1,id1,e1⟩:=c1;dsimp only at KN hR FT
   by_cases he:e1=0
   .subst he;rw[i8]at hR;subst hR;have HT:=xh FT.1;have hpid2:=g9 (C1.table.getD k 0=pid) (by rw[HT.o];exact Yx);have Xe:=g9 (k<C1.table.length) (by rw[HT.o];exact hk);have HX:=xh (show ∀w1,At w1 x n C1->∀cp',x.tv=U3 (lc g) c.table.length cp'->(w1.cell? ⟨x.b,1,none⟩=some (Fm.mp x.mb)/\w1.cell? ⟨x.b,2,none⟩=some (U3 (lc g) c.table.length cp')/\w1.cell? ⟨g,k,none⟩=some (pid:li))from λw1 A1 cp' e=>by
     obtain⟨g2,cp2,e2,ck2⟩:=A1.tk k Xe.o;rw[e]at e2;injection e2 with e3 e4 e5
     injection e3 with e3
     injection e3 with e3
     subst e3;rw[hpid2.o]at ck2;exact⟨A1.f1,by rw[<-e];exact A1.f2,ck2⟩)
    have HS:=xh (show ∀w2,At w2 x n {C1 with m:=(Fm.du C1.m pid).1}->∀cp',x.tv=U3 (lc g) c.table.length cp'->(w2.cell? ⟨g,k,none⟩=some (pid:li)/\w2.frozen? ⟨g,k,none⟩=false/\At (w2.setCell ⟨g,k,none⟩ id1) x n {C1 with m:=(Fm.du C1.m pid).1,table:=c.table.set k id1}/\ah x.fp w2 (w2.setCell ⟨g,k,none⟩ id1))from λw2 A2 cp' e=>by
     obtain⟨g2,cp2,e2,ck2,z2,A3,o3⟩:=A2.fC k Xe.o id1;rw[e]at e2;injection e2 with e3 e4 e5
     injection e3 with e3
     injection e3 with e3
     subst e3;rw[show({C1 with m:=(Fm.du C1.m pid).1}:C).table.getD k 0=pid from hpid2.o]at ck2;rw[show({C1 with m:=(Fm.du C1.m pid).1}:C).table=c.table from HT.o]at A3;exact⟨ck2,z2,A3,o3⟩)
    have HV:=xh hv;have KL:=xh (λ(W:BY) (hW:At W x n C1)=>Fm.tX hW.hm pid);have HM:=xh (λ(W W':BY) (hW:At W x n C1) (mm:Fm.dQ W' x.mb x.mg (Fm.du C1.m pid).1) (ow:ah [x.mg] W W')=>hW.map mm ow);clear h h1 h2 h3 hv hf Cc HR Yx hid FT Ku;generalize c.table.length=tn at *;generalize (Fm.du C1.m pid).2=le at *;unfold Fm.mp at *;unfold sp at *;go_in;go_wp2_with fail;go_call KW.o as e w1 ⟨rfl,rfl⟩
    go_wp2_with fail;go_call KA.o as e w1 ⟨rfl,rfl⟩;go_wp2_with fail;go_quiet ((go_at_call 192;exact CQ (KF.o _)));go_wp2_with fail;go_call (KN.o nq) as e w1 ⟨rfl,A1,o1⟩;have A1:=xh A1;have o1:=xh<|((ah.refl x.fp w).drewN nq).trans o1;clear f1 f2 ck;have A1d:=xh A1.o.drew;have HK:=xh<|HX.o _ A1d.o cp HV.o;go_wp2_with fail
    refine kw (λW'=>W'.cell? ⟨x.b,1,none⟩=some (lc x.mb:li)/\W'.cell? ⟨x.b,2,none⟩=some (U3 (lc g) tn cp)/\W'.cell? ⟨g,k,none⟩=some (pid:li)) (HK.o) (λaC=>?_);refine dj [(0,56),(1,57),(2,58),(3,59),(4,60),(5,61),(6,62),(7,63),(8,64),(9,65),(10,66)] ?_
    iterate 11 refine bJ ?_
    refine dV 11 67 λK hK=>?_;go_simp
    go_at_call 153
    go_call (KL.o _ A1d.o) as e w2 ⟨rfl,mm,ow⟩;have A2:=xh<|HM.o _ _ A1d.o mm ow;have yG:=xh<|HS.o w2 A2.o cp HV.o;have q1:=A2.o.f1;have q2:=A2.o.f2;rw[HV.o]at q2;unfold Fm.mp at q1;have OX:=xh<|((o1.o.drew).trans (ow.mono (λg hg _=>uV x g hg))).trans yG.o.2.2.2;have z2:=yG.o.2.1;have ck2:=yG.o.1;clear mm ow;go_simp;refine cq hK (⟨q1,q2,ck2⟩) (λaC=>?_);refine jp ?_ _;go_wp2;go_ret
    exact bz ⟨yG.o.2.2.1,OX.o⟩
   .rw[U8 he]at hR;subst hR;have hq:(e1 != 0)=true:=lm he
    have kP:(e1==0)=false:=i4 he
    clear h h1 h2 h3 hv hf Cc HR Yx hid FT Ku;generalize c.table.length=tn at *;unfold Fm.mp at *;unfold sp at *;go_in;go_wp2_with fail;go_call KW.o as e w1 ⟨rfl,rfl⟩;go_wp2_with fail;go_call KA.o as e w1 ⟨rfl,rfl⟩;go_wp2_with fail;go_quiet ((go_at_call 192;exact CQ (KF.o _)));go_wp2_with fail;go_call (KN.o nq) as e w1 ⟨rfl,A1,o1⟩;have A1:=xh A1;have o1:=xh<|((ah.refl x.fp w).drewN nq).trans o1
    go_wp2;go_ret;exact bz ⟨A1.o,o1.o⟩
 .rw[U8 h3]at hR;subst hR;have KA:=xh KA;have hq:(c.jb l != 0)=true:=lm h3
  have kP:(c.jb l==0)=false:=i4 h3
  generalize c.jb l=ea at *;clear h h1 h2 h3;unfold sp at *;go_in;go_wp2_with fail;go_call KW.o as e w1 ⟨rfl,rfl⟩;go_wp2_with fail;go_call KA.o as e w1 ⟨rfl,rfl⟩;go_wp2;go_ret;exact bz ⟨HH.o,ah.refl _ _⟩
end Sh
namespace Sh
open Go.RowKit Pk Dk Pg
def Yy(e:Int):List PanicEntry:=[{v:= .iface 31 (U5 U6 e),recovered:=false}]
def Cf(w:BY):io prog 199 #[U5 U6 0] w λe w'=>e=fd (rg #[])/\w=w':=by
 go_in;go_wp2_with fail
 go_end0
 exact⟨rfl,rfl⟩
def xg(e0:Int)(he:e0≠0)(w:BY):io prog 199 #[e0] w λe w'=>e= .panicked (Yy e0)/\w=w':=by
 have hq:(e0 != 0)=true:=lm he
 have kP:(e0==0)=false:=i4 he
 unfold Yy;go_in;go_wp2_with fail;exact⟨rfl,rfl,rfl⟩
def LJ(w:BY):(Instr.typeAssert .nilIface 20 31 true).run prog w=.ok (rg #[U5 U6 0,WF false]) w:=pm
def LL(w:BY)(e:Int):(Instr.typeAssert (.iface 31 e) 20 31 true).run prog w=.ok (rg #[e,WF true]) w:=pm
def Ql(p:Addr)(w:BY):
  CallsD prog 196 #[st (some p)] .returning w λe u' w'=>e=fd (rg #[])/\u'= .returning/\w'=w:=by
 have ha:=LJ w;refine callsD_of_wpS func196 rfl λc₀ cs hu=>?_;apply wpS_seq;apply wpS_region;simp[wpOpsS,go_sem,recoverD,hu,ntmps196,Exit.thenS,ha];apply wpS_seq;apply wpS_region;simp[wpOpsS,go_sem,Exit.thenS];refine wpS_cond (t:=false) (by simp[Act.eval,Array.replicate]) ?_;simp only[oH,if_false];refine wpS_of_wp (wp_skip ?_)
 cases c₀
 simp_all[bodyPostS,results,Tryz.results196]
def kJ(p:Addr)(x e0:Int)(older:List PanicEntry)(w:BY)(hc:w.cell? p=some (x:li))(hz:w.frozen? p=false):
  CallsD prog 196 #[st (some p)] (.panicking ({v:= .iface 31 e0,recovered:=false}::older)) w λe u' w'=>
   e=fd (rg #[])/\u'= .panicking ({v:= .iface 31 e0,recovered:=true}::older)/\w'=w.setCell p e0:=by
 have ha:=LL w e0;refine callsD_of_wpS func196 rfl λc₀ cs hu=>?_;apply wpS_seq;apply wpS_region;simp[wpOpsS,go_sem,recoverD,hu,ntmps196,Exit.thenS,ha];apply wpS_seq;apply wpS_region;simp[wpOpsS,go_sem,Exit.thenS];refine wpS_cond (t:=true) (by simp[Act.eval,Array.replicate]) ?_;simp only[if_true];apply wpS_region;simp[wpOpsS,go_sem,hc,hz,bodyPostS,results,Tryz.results196]
def Yz{w:BY}{x:X}{n:Nat}{c:C}(h:At w x n c){q:Nat}(hq:w.cell? (lc q)=some (sp x.b))(i:Nat)(hi:116*i<c.table.length)(hb:∀y∈c.table,y<=1023):
  io prog 197 #[(i:Nat),lc q] w λe w'=>e=fd (U7 ⟨(Rt.iN (Rt.iF c.table i)).toArray⟩)/\i7 w w':=by
 have f2:=h.f2;obtain⟨A,cc,hv,hcc⟩:=h.ht.val;have tl:=h.tl;have KP:=Rt.LF (w:=w) A c.table.length cc c.table ⟨rfl,λk y hy=>by
  have hk:k<c.table.length:=(aW.1 hy).1;obtain⟨g,cp,rl,ck⟩:=h.tk k hk;rw[hv]at rl;injection rl with e1 e2 e3
  refine⟨_,e1,?_⟩;rw[show(⟨g,0,none⟩:Addr).add k=⟨g,k,none⟩from by unfold Addr.add;split<;>simp_all,ck]
  congr 2
  simp[List.getD,hy]⟩ ls hcc i hi
 have KP:=xh (KP.mono λe w' hh=>(show e=fd (rg #[U7 ⟨(Rt.iN (Rt.iF c.table i)).toArray⟩,U5 U6 0])/\i7 w w' from by
  obtain⟨h1|h1,h2⟩:=hh
  .obtain⟨⟨y,hy,dP⟩,_⟩:=h1;have:=hb y (tE (iR hy));omega
  .exact⟨h1.2,h2⟩))
 rw[hv]at f2;clear h hv;unfold sp at *;go_in;go_wp2_with fail;go_call KP.o as e w1 ⟨rfl,bu⟩;have H1:=xh bu;clear bu;go_wp2;go_ret;exact bz H1.o
end Sh
end Go.Proofs.YtmonobkginiajaaGreat
