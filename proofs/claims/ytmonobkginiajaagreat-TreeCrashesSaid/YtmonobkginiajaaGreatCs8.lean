/- packed. -/
import Derived.Deep.CutRange
import Derived.Lib.Bytealg
import Derived.Laws.StructEq
import Derived.Test.YtmonobkginiajaaGreatCs7
set_option linter.all false
set_option maxRecDepth 100000
set_option maxHeartbeats 8000000
namespace Go.Proofs.YtmonobkginiajaaGreat
open Go.Proofs.Tryz
open Value renaming string→U7,slice→U3,int→U5,bool→WF,tuple→rg
open Ending renaming returned→fd
open IntKind renaming i64→U6,u8→ut
open Obj renaming cells→Pi
open Go renaming World→BY,Value→By,Calls→io,maxLen→sh,TypeId→us
open UInt8 renaming ofNat→wf
namespace Nd
open Go.RowKit Sl
def aw(l:List E):Nat:=(l.map λe=>e.key.size+e.val.size+7).sum
def mL(l:List E)(i:Nat)(e:E)(h:l[i]?=some e):aw (l.take (i+1))=aw (l.take i)+(e.key.size+e.val.size+7):=by
 unfold aw;rw[wH,h];simp
def sK(l:List E)(i:Nat):aw (l.take i)<=aw l:=by
 have:aw l=aw (l.take i)+aw (l.drop i):=by
  unfold aw;rw[<-Br,<-eS,mo]
 omega
def Hn{w:BY}(A:Option Addr)(n c:Nat)(l:List E)(h:rG w A n l)(hn:n<=9223372036854775807)(hb:aw l<=1000000):
  io prog 177 #[U3 A n c] w λr w'=>r=fd (aw l:Nat)/\i7 w w':=by
 have H0:=xh h;have hl:=xh h.1;have hB:=xh hb;clear h hb;go_in;go_wp2_with fail
 go_loopw [3,8] (λsv iv wr=> ∃i:Nat,i<=n/\iv=U5 U6 i/\sv=U5 U6 (aw (l.take i):Nat)/\i7 w wr) (λ_ iv _=>n-(intOf iv).toNat)
 case atStart=>exact⟨0,ls,rfl,by simp[aw],Below.refl _ _⟩
 case round=>
  obtain⟨i,hi,rfl,rfl,hbw⟩:=hrel
  by_cases h:i<n
  .obtain⟨ad,e,rfl,he,AT⟩:=(H0.o.below hbw).at i h;have a0:=AT.c0;have a1:=AT.c1;have a2:=AT.c2;have hs:=mL l i e he;have ht:=sK l (i+1);have hb:=hB.o;have HS:=xh hs;have s1:U6.wrap ((e.key.size:Int)+(e.val.size:Int))=(e.key.size:Int)+(e.val.size:Int):=d9;have s2:U6.wrap ((e.key.size:Int)+(e.val.size:Int)+7)=(e.key.size:Int)+(e.val.size:Int)+7:=d9
   have s3:U6.wrap ((aw (l.take i):Int)+((e.key.size:Int)+(e.val.size:Int)+7))=(aw (l.take i):Int)+((e.key.size:Int)+(e.val.size:Int)+7):=d9;have QR:=xh<|aE hbw (i6 wr (Pi #[U7 e.key,U7 e.val,e.bh] 111));clear AT hs ht hb hbw;go_wp2_with fail;refine⟨⟨i+1,ls,rfl,?_,QR.o⟩,by simp[intOf];omega⟩;rw[HS.o];simp
  .obtain rfl:i=n:=ls
   have QR:=xh hbw;clear hbw;go_wp2;go_ret;refine⟨?_,QR.o⟩;have:=hl.o;rw[cR ls];rfl
def Ek(e:E)(leaf:Bool):eh e leaf↔e.key.size<=32/\e.val.size<=40/\ -1<=e.bh/\e.bh<=511/\(0<=e.bh->e.val.size=0)/\(e.bh<0->leaf=true):=by
 unfold eh
 constructor
 .rintro⟨h1,h2,h3,h4,h5⟩
  cases leaf
  .simp only[oH,if_false]at h3;exact⟨h1,h2,ls,ls,λh=>by omega,λh=>by omega⟩
  .simp only[if_true]at h3;exact⟨h1,h2,ls,ls,λh=>by omega,λ_=>rfl⟩
 .rintro⟨h1,h2,h3,h4,h5,h6⟩;have h7:e.bh<0\/e.val.size=0:=by
   rcases(show e.bh<0\/0<=e.bh by omega)with h|h
   .exact .inl h
   .exact .inr (h5 h)
  cases leaf
  .simp only[oH,if_false];refine⟨h1,h2,?_,ls,h7⟩
   rcases(show e.bh<0\/0<=e.bh by omega)with h|h
   .exact eq (h6 h) ms
   .exact h
  .simp only[if_true];exact⟨h1,h2,h3,ls,h7⟩
end Nd
namespace Nd
open Go.RowKit Sl
variable{l:List E}{w:BY}{t:us}{n:Nat}
def aL(l:List E):List By:=l.flatMap E.cells
def l8(e:E)(l:List E):aL (e::l)=e.cells++aL l:=by simp[aL]
def jf(l m:List E):aL (l++m)=aL l++aL m:=by simp[aL]
def aA(l:List E):(aL l).length=l.length*3:=by
 induction l with
 |nil=>rfl
 |cons e l ih=>rw[l8,bC,ih];simp[E.cells];omega
def Zp{k:Nat}{e:E}(h:l[k]?=some e)(j:Nat)(hj:j<3):(aL l)[k*3+j]?=e.cells[j]?:=by
 induction l generalizing k with
 |nil=>simp at h
 |cons x l ih=>
  rw[l8]
  cases k with
  |zero=>
   simp only[CE,Option.some.injEq]at h;subst h;rw[bX (by simp[E.cells];omega)];congr 1;omega
  |succ k=>
   rw[yq]at h;rw[eC (by simp[E.cells];omega),<-ih h]
   congr 1;simp[E.cells];omega
def jq(g o j:Nat):(⟨g,o,none⟩:Addr).add j=⟨g,o+j,none⟩:=by
 unfold Addr.add
 split
 .next h=>rw[h];rfl
 .rfl
def Mw{g:Nat}{rest:List By}(B:aM w g t (aL l++rest).toArray)(k:Nat)(e:E)(h:l[k]?=some e):Hm w ((⟨g,0,none⟩:Addr).add (k*3)) e:=by
 have hk:=(aW.1 h).1;have hlen:=aA l;have key:∀j,j<3->(aL l++rest).toArray[k*3+j]?=e.cells[j]?:=λj hj=>by
  rw[dr,bX ls,Zp h j hj]
 rw[jq,bV];exact⟨(B.cell _).trans (key 0 ls),(B.cell _).trans (key 1 ls),(B.cell _).trans (key 2 ls)⟩
def bm.aL{A:Option Addr}{c m:Nat}(S:bm w t 3 (U3 A n c) m (aL l)):n=m/\rG w A m l:=by
 have hl:=S.1;rw[aA]at hl;have hlm:l.length=m:=ls
 rcases S.2 with⟨hv,h0⟩|⟨g,cap,rest,hv,B,hc,_⟩
 .simp only[Value.slice.injEq]at hv;obtain⟨rfl,rfl,rfl⟩:=hv;refine⟨h0.symm,hlm,λk e he=>?_⟩;have:=(aW.1 he).1;omega
 .simp only[Value.slice.injEq]at hv;obtain⟨rfl,rfl,rfl⟩:=hv;exact⟨rfl,hlm,λk e he=>⟨_,rfl,Mw B k e he⟩⟩
def El{P:Program}{v:By}{l:List By}(S:bm w t 3 v n l)
 (T ty:us)(z:By)(bytes:Nat)(ht:P.underlying T=some (.slice t))(pE:(P.info? t).map (λi=>(i.zero,i.size,i.bytes))=some (some z,3,bytes))(hz:z.cells.size=3)
 (e:E)(KK:n+1<=sh)(hb:(n+1)*bytes<=140737488355328):
  ∃v' w',eM P T ty (w.alloc (Pi #[U7 e.key,U7 e.val,e.bh] t)) v (U3 (lc w.heap.size) 1 1)= .ok v' w'/\bm w' t 3 v' (n+1) (l++e.cells)/\ah (ak v) w w'/\(∀g∈ak v',g∈ak v\/w.heap.size<=g):=by
 obtain⟨i0,hi,lC,kH,lM⟩:=info_parts pE;obtain⟨v',w',h1,h2,h3,h4⟩:=eu (P:=P) (S.alloc (Pi #[U7 e.key,U7 e.val,e.bh] t)) T ty i0 z bytes ht hi lC kH lM hz ls
  ⟨w.heap.size,0,none⟩ 1 1 e.cells rfl (bT (l:=e.cells) (aM.new w t #[U7 e.key,U7 e.val,e.bh]) 0 _ (by intro j v hv;rw[bV];exact hv)) (by intro u hu;simp[E.cells]at hu;rcases hu with rfl|rfl|rfl<;>rfl) KK hb
 exact⟨v',w',h1,h2,((ah.refl _ _).alloc _).bj h3 (λx hx _=>hx),λg hg=>(h4 g hg).imp id (λh=>by simp at h;omega)⟩
attribute [local go_sem ↓] bP
def sL(e:E):UV:=wf e.key.size::(e.key.data.toList++(jH (e.bh+1).toNat++e.val.data.toList))
def xE(e:E):Nm:=⟨(sL e).toArray⟩
def za(a b:Nm):a++b=⟨(a.data.toList++b.data.toList).toArray⟩:=by
 have:=vr a.pu b;rw[Ty]at this;exact this
def recB_eq(e:E):(⟨[wf e.key.size].toArray⟩++e.key)++⟨(jH (e.bh+1).toNat).toArray⟩++e.val=xE e:=by
 rw[za,za,za];unfold xE sL;simp
def Em(w:BY)(o:Obj):(w.alloc o).heap.size=w.heap.size+1:=lw
def xF{w:BY}(e:E)(hk:e.key.size<=32)(hv:e.val.size<=40)(hf: -1<=e.bh)(Cc:e.bh<=511){g n:Nat}{v:By}{l:List (UV)}(B:aM w g 123 #[v])(S:bm w 9 1 v n (strs l))(hg:g∉ak v)(hn:n<=1000000):
  io prog 118 #[e.agg,lc g] w λr w'=>r=fd (rg #[])/\∃v',aM w' g 123 #[v']/\bm w' 9 1 v' (n+1) (strs (l++[sL e]))/\ah (g::ak v) w w'/\(∀x∈ak v',x∈ak v\/w.heap.size<=x):=by
 obtain⟨A,c,rfl⟩:=aI S;have HR:=xh<|recB_eq e;have hR2:Value.string (xE e)=U7 ⟨(sL e).toArray⟩:=rfl;obtain⟨m,hm⟩:=fu (show 0<=e.bh+1 by omega);have Lk:m<=512:=ls
 have e0:Value.int ut ((m:Int) / 256)=bv (wf (m / 256)):=by
  unfold bv
  congr 1
  rw[j5];omega
 have e1:Value.int ut ((m:Int) % 256)=bv (wf m):=by
  unfold bv;rfl
 have e2:Value.int ut (e.key.size:Int)=bv (wf e.key.size):=by
  unfold bv
  congr 1
  rw[j5];omega
 rw[hm,iL]at HR;have HE:=g9 (#[Value.int ut ((m:Int) / 256),Value.int ut ((m:Int) % 256)]=(fq (jH m)).toArray) (by rw[e0,e1];rfl);have HK:=g9 (#[Value.int ut (e.key.size:Int)]=(fq [wf e.key.size]).toArray) (by rw[e2];rfl);have BX:=xh<|aM.new w 111 #[U7 e.key,U7 e.val,e.bh]
 have s1:=cQ (P:=prog) ((w.alloc (Pi #[U7 e.key,U7 e.val,e.bh] 111)).alloc (Pi (fq [wf e.key.size]).toArray 5)) 150 9 5 underlying150 underlying5 underlying9 ⟨(w.alloc (Pi #[U7 e.key,U7 e.val,e.bh] 111)).heap.size,0,none⟩ 1 1 [wf e.key.size] rfl (bT (l:=fq [wf e.key.size]) (aM.new _ 5 _) 0 _ (by intro j u hu;rw[bV];exact hu));rw[<-HK.o,Em]at s1
 have S1:=xh s1
 have s2:=cQ (P:=prog) (((w.alloc (Pi #[U7 e.key,U7 e.val,e.bh] 111)).alloc (Pi #[U5 ut (e.key.size:Int)] 5)).alloc (Pi (fq (jH m)).toArray 5)) 150 9 5 underlying150 underlying5 underlying9 ⟨((w.alloc (Pi #[U7 e.key,U7 e.val,e.bh] 111)).alloc (Pi #[U5 ut (e.key.size:Int)] 5)).heap.size,0,none⟩ 2 2 (jH m) rfl (bT (l:=fq (jH m)) (aM.new _ 5 _) 0 _ (by intro j u hu;rw[bV];exact hu))
 rw[<-HE.o,Em,Em]at s2;have S2:=xh s2;have B1:=B.alloc (Pi #[U7 e.key,U7 e.val,e.bh] 111);have c1:(w.alloc (Pi #[U7 e.key,U7 e.val,e.bh] 111)).cell? (lc g)=some (U3 A n c):=B1.bi 0
 obtain⟨v',w2,ea,SS,ow,fr⟩:=gw (P:=prog) (((S.alloc (Pi #[U7 e.key,U7 e.val,e.bh] 111)).alloc (Pi #[U5 ut (e.key.size:Int)] 5)).alloc (Pi #[Value.int ut ((m:Int) / 256),Value.int ut ((m:Int) % 256)] 5)) 123 123 (U7 .empty) 16 underlying123 Ar rfl (U7 (⟨#[wf e.key.size]⟩++e.key++⟨(jH m).toArray⟩++e.val)) rfl (by unfold sh;omega) ls;obtain⟨V2,nc,rfl⟩:=aI SS;rw[Em,Em,Em]at ea
 have EA:=xh ea;clear s1 s2 ea;have OO:=xh<|((((ah.refl (g::ak (U3 A n c)) w).alloc (Pi #[U7 e.key,U7 e.val,e.bh] 111)).alloc (Pi #[U5 ut (e.key.size:Int)] 5)).alloc (Pi #[Value.int ut ((m:Int) / 256),Value.int ut ((m:Int) % 256)] 5)).bj ow (λx hx _=>aH _ hx)
 have B2:=xh<|(((B.alloc (Pi #[U7 e.key,U7 e.val,e.bh] 111)).alloc (Pi #[U5 ut (e.key.size:Int)] 5)).alloc (Pi #[Value.int ut ((m:Int) / 256),Value.int ut ((m:Int) % 256)] 5)).only ow hg;have hR3:Value.string (⟨#[wf e.key.size]⟩++e.key++⟨(jH m).toArray⟩++e.val)=U7 ⟨(sL e).toArray⟩:=congrArg Value.string HR.o;rw[hR3,Hk]at SS
 replace SS:=xh SS
 have c2:w2.cell? (lc g)=some (U3 A n c):=B2.ap 0;have c3:w2.frozen? ⟨g,0,none⟩=false:=B2.o.frozen 0 lw;have t8:(jH m).length=2:=rfl;have FR2:=g9 (∀x∈ak (U3 V2 (n+1) nc),x∈ak (U3 A n c)\/w.heap.size<=x) (λx hx=>(fr x hx).imp id (λh=>by rw[Em,Em,Em]at h;omega));have NE:=g9 (g∉ak (U3 V2 (n+1) nc)) (λhx=>(FR2.o g hx).elim hg (λh=>by have:=B.lt;omega));have HM:=xh hm;unfold E.agg
 clear B1 e0 e1 e2 ow fr S B hg hR2 hR3;have m1:IntKind.u8.wrap ((m:Int) / 256)=(m:Int) / 256:=IntWalk.u8_in _ ls;go_in;go_wp2_with fail;rw[S1.o];go_wp2_with fail;rw[S2.o];go_wp2_with fail;rw[EA.o];go_wp2_with fail
 go_end0
 exact⟨rfl,_,B2.o.ct 0 _,SS.o.only ((ah.refl [g] w2).setCell (λ_=>by simp) _) (λx hx=>by simp;exact λhh=>NE.o (hh▸hx)),OO.o.setCell (λ_=>by simp) _,FR2.o⟩
end Nd
namespace Nd
open Go.RowKit Sl
variable{w:BY}
def Ho(leaf:Bool):UV:=if leaf=true then [1]else [2]
def jN(leaf:Bool)(l:List E):List (UV):=Ho leaf::l.map sL
def En(leaf:Bool)(l:List E)(i:Nat)(e:E)(h:l[i]?=some e):jN leaf (l.take (i+1))=jN leaf (l.take i)++[sL e]:=by
 unfold jN;rw[wH,h];simp
def JK(leaf:Bool)(l:List E):(jN leaf l).length=l.length+1:=by simp[jN]
def sM(e:E):(sL e).length=3+e.key.size+e.val.size:=by
 unfold sL jH;simp;omega
def put_no(leaf:Bool)(A:Option Addr)(n c:Nat)(l:List E)(h:rG w A n l)(hn:n<=1000000)(hm:¬dm l leaf):
  io prog 68 #[bQ leaf A n c] w λr w'=>r=fd (rg #[U7 ⟨#[]⟩,U5 U6 2])/\i7 w w':=by
 have O0:=(i5 w).alloc (ai _) (Pi #[WF leaf,U3 A n c] 118);have KM:=xh<|Cj (w:=w.alloc (Pi #[WF leaf,U3 A n c] 118)) leaf A n c l (h.below O0) ls;have O0:=xh O0;have HM:=xh hm;clear h hm;unfold bQ at *;go_in;go_wp2_with fail;go_call KM.o as r w1 ⟨⟨b,rfl,hb⟩,bu⟩;obtain rfl:b=false:=by
  cases b
  .rfl
  .exact eq (hb.1 rfl) HM.o
 have O1:=xh<|aE O0.o bu;clear hb bu;go_wp2;go_ret2;exact⟨rfl,O1.o⟩
def put_yes(leaf:Bool)(A:Option Addr)(n c:Nat)(l:List E)(h:rG w A n l)(hn:n<=1000)(hm:dm l leaf):
  io prog 68 #[bQ leaf A n c] w (Zm (jN leaf l) w):=by
 have O0:=(i5 w).alloc (ai _) (Pi #[WF leaf,U3 A n c] 118);have hl:=xh h.1;have H0:=h.below O0;have KM:=xh<|Cj (w:=w.alloc (Pi #[WF leaf,U3 A n c] 118)) leaf A n c l H0 ls;have B0:=xh<|aM.new w 118 #[WF leaf,U3 A n c];have O0:=xh O0;have H0:=xh H0;have HM:=xh hm;have HH:=xh h
 have HQ:=xh (show ∀(i:Nat) (e:E),l[i]?=some e->e.key.size<=32/\e.val.size<=40/\ -1<=e.bh/\e.bh<=511 from λi e he=>by
  have h2:=(Ek e leaf).1 (hm i (aW.1 he).1 e he).1;exact⟨h2.1,h2.2.1,h2.2.2.1,h2.2.2.2.1⟩)
 have HL:=xh<|JK leaf l;have HS:=xh (show ∀r∈jN leaf l,r.length<=1000000 from λr hr=>by
  unfold jN at hr
  rcases ax.1 hr with rfl|hr
  .unfold Ho;split<;>decide
  .obtain⟨e,he,rfl⟩:=dq.1 hr;obtain⟨i,hi,rfl⟩:=qu he;have:=HQ.o i _ (aQ hi);rw[sM];omega)
 clear h hm;unfold bQ at *;go_in;go_wp2_with fail;generalize (w.alloc (Pi #[WF leaf,U3 A n c] 118))=W0 at *;go_call KM.o as r w1 ⟨⟨b,rfl,hb⟩,bu⟩;obtain rfl:b=true:=hb.2 HM.o;have O1:=xh<|aE O0.o bu;have H1:=xh<|H0.o.below bu;have B1:=xh<|B0.o.below bu B0.o.lt;have c0:w1.cell? (lc w.heap.size)=some (WF leaf):=B1.ap 0
 have c1:w1.cell? ⟨w.heap.size,1,none⟩=some (U3 A n c):=B1.ap 1;have dP:=B1.o.lt;clear hb bu;have SK:=g9 (∀k:UV,bm ((w1.alloc (Pi #[U7 ⟨k.toArray⟩] 9)).alloc (Pi #[U3 (lc w1.heap.size) 1 1] 123)) 9 1 (U3 (lc w1.heap.size) 1 1) 1 (strs [k])) (λk=>⟨rfl,.inr ⟨w1.heap.size,1,[],rfl,(aM.new w1 9 #[U7 ⟨k.toArray⟩]).alloc _,rfl,by unfold sh;omega⟩⟩)
 have BK:=xh (show ∀k:UV,aM ((w1.alloc (Pi #[U7 ⟨k.toArray⟩] 9)).alloc (Pi #[U3 (lc w1.heap.size) 1 1] 123)) (w1.heap.size+1) 123 #[U3 (lc w1.heap.size) 1 1]from λk=>by
  have:=aM.new (w1.alloc (Pi #[U7 ⟨k.toArray⟩] 9)) 123 #[U3 (lc w1.heap.size) 1 1];rw[Em]at this;exact this)
 have OK:=g9 (∀k:UV,i7 w ((w1.alloc (Pi #[U7 ⟨k.toArray⟩] 9)).alloc (Pi #[U3 (lc w1.heap.size) 1 1] 123))) (λk=>aE O1.o (ag (i6 _ _) _))
 cases leaf
 .replace SK:=xh<|SK.o [2]
  replace BK:=xh<|BK.o [2]
  replace OK:=xh<|OK.o [2]
  go_wp2_with fail;generalize hW2:((w1.alloc (Pi #[U7 ⟨#[2]⟩] 9)).alloc (Pi #[U3 (lc w1.heap.size) 1 1] 123))=W2 at *;clear hW2 c0 c1
  go_loopw [20] (λiv wr=> ∃(i:Nat) (v':By),i<=n/\iv=U5 U6 i/\aM wr (w1.heap.size+1) 123 #[v']/\bm wr 9 1 v' (i+1) (strs (jN false (l.take i)))/\i7 w wr/\Hid (∀x∈ak v',w.heap.size<=x/\x≠w1.heap.size+1)) (λiv _=>n-(intOf iv).toNat)
  case atStart=>exact⟨0,_,bG _,rfl,BK.o,SK.o,OK.o,xh (λx hx=>by simp[ak]at hx;omega)⟩
  case round=>
   obtain⟨i,v',hi,rfl,B,S,O,F⟩:=hrel;obtain⟨VA,vc,rfl⟩:=aI S;have hltr:=B.lt
   by_cases h:i<n
   .obtain⟨ad,e,rfl,he,AT⟩:=(HH.o.below O).at i h;have HT:=xh<|En false l i e he;obtain⟨q1,q2,q3,q4⟩:=HQ.o i e he;have KP:=xh<|xF (w:=wr.alloc (Pi #[U7 e.key,U7 e.val,e.bh] 111)) e q1 q2 q3 q4 (B.alloc _) (S.alloc _) (λhx=>(F.o _ hx).2 rfl) ls;have a0:=AT.c0;have a1:=AT.c1;have a2:=AT.c2;have OO:=xh O;have SZ:=g9 (w.heap.size<=w1.heap.size+1) ls;clear AT S B O he;go_wp2_with fail;refine KP.o.mono ?_
    rintro r w2 ⟨rfl,v2,B2,S2,o2,f2⟩;have F2:=g9 (∀x∈ak v2,w.heap.size<=x/\x≠w1.heap.size+1) (λx hx=>(f2 x hx).elim (F.o x) (λh=>by rw[Em]at h;have:=OO.o.size;omega));have O2:=xh<|(OO.o.alloc OO.o.size (Pi #[U7 e.key,U7 e.val,e.bh] 111)).trans (o2.bI (by rw[Em];have:=OO.o.size;omega) (λx hx=>by
     rcases ax.1 hx with rfl|hx
     .exact SZ.o
     .exact(F.o x hx).1))
    rw[<-HT.o]at S2
    replace S2:=xh S2
    replace B2:=xh B2
    clear o2 f2;go_wp2;go_roundw
    case rel=>exact⟨i+1,v2,ls,by go_num,B2.o,S2.o,O2.o,F2⟩
    case measure=>simp[intOf];omega
   .obtain rfl:i=n:=ls
    have oF:=hl.o;rw[cR ls]at S;have KO:=xh<|Zn (l:=jN false l) (by rw[HL.o,oF];exact S) (by rw[HL.o];omega) HS.o;have b0:wr.cell? ⟨w1.heap.size+1,0,none⟩=some (U3 VA (i+1) vc):=B.bi 0;have OO:=xh O;clear S B O oF;go_wp2_with fail;go_call KO.o as r w2 ⟨hx,da⟩;have O2:=xh<|aE OO.o da;clear da
    rcases hx with⟨h0,T,rfl,sT,rT⟩|⟨h0,rfl⟩
    .have HX:=xh<|And.intro h0 (And.intro sT rT);clear h0 sT rT;go_wp2;go_ret2;exact⟨.inl ⟨HX.o.1,T,rfl,HX.o.2.1,HX.o.2.2⟩,O2.o⟩
    .have HX:=xh h0;clear h0;go_wp2;go_ret2;exact⟨.inr ⟨HX.o,rfl⟩,O2.o⟩
 .replace SK:=xh<|SK.o [1]
  replace BK:=xh<|BK.o [1]
  replace OK:=xh<|OK.o [1]
  go_wp2_with fail;generalize hW2:((w1.alloc (Pi #[U7 ⟨#[1]⟩] 9)).alloc (Pi #[U3 (lc w1.heap.size) 1 1] 123))=W2 at *;clear hW2 c0 c1
  go_loopw [20] (λiv wr=> ∃(i:Nat) (v':By),i<=n/\iv=U5 U6 i/\aM wr (w1.heap.size+1) 123 #[v']/\bm wr 9 1 v' (i+1) (strs (jN true (l.take i)))/\i7 w wr/\Hid (∀x∈ak v',w.heap.size<=x/\x≠w1.heap.size+1)) (λiv _=>n-(intOf iv).toNat)
  case atStart=>exact⟨0,_,bG _,rfl,BK.o,SK.o,OK.o,xh (λx hx=>by simp[ak]at hx;omega)⟩
  case round=>
   obtain⟨i,v',hi,rfl,B,S,O,F⟩:=hrel;obtain⟨VA,vc,rfl⟩:=aI S;have hltr:=B.lt
   by_cases h:i<n
   .obtain⟨ad,e,rfl,he,AT⟩:=(HH.o.below O).at i h;have HT:=xh<|En true l i e he;obtain⟨q1,q2,q3,q4⟩:=HQ.o i e he;have KP:=xh<|xF (w:=wr.alloc (Pi #[U7 e.key,U7 e.val,e.bh] 111)) e q1 q2 q3 q4 (B.alloc _) (S.alloc _) (λhx=>(F.o _ hx).2 rfl) ls;have a0:=AT.c0;have a1:=AT.c1;have a2:=AT.c2;have OO:=xh O;have SZ:=g9 (w.heap.size<=w1.heap.size+1) ls;clear AT S B O he;go_wp2_with fail;refine KP.o.mono ?_
    rintro r w2 ⟨rfl,v2,B2,S2,o2,f2⟩;have F2:=g9 (∀x∈ak v2,w.heap.size<=x/\x≠w1.heap.size+1) (λx hx=>(f2 x hx).elim (F.o x) (λh=>by rw[Em]at h;have:=OO.o.size;omega));have O2:=xh<|(OO.o.alloc OO.o.size (Pi #[U7 e.key,U7 e.val,e.bh] 111)).trans (o2.bI (by rw[Em];have:=OO.o.size;omega) (λx hx=>by
     rcases ax.1 hx with rfl|hx
     .exact SZ.o
     .exact(F.o x hx).1))
    rw[<-HT.o]at S2
    replace S2:=xh S2
    replace B2:=xh B2
    clear o2 f2;go_wp2;go_roundw
    case rel=>exact⟨i+1,v2,ls,by go_num,B2.o,S2.o,O2.o,F2⟩
    case measure=>simp[intOf];omega
   .obtain rfl:i=n:=ls
    have oF:=hl.o;rw[cR ls]at S;have KO:=xh<|Zn (l:=jN true l) (by rw[HL.o,oF];exact S) (by rw[HL.o];omega) HS.o;have b0:wr.cell? ⟨w1.heap.size+1,0,none⟩=some (U3 VA (i+1) vc):=B.bi 0;have OO:=xh O;clear S B O oF;go_wp2_with fail;go_call KO.o as r w2 ⟨hx,da⟩;have O2:=xh<|aE OO.o da;clear da
    rcases hx with⟨h0,T,rfl,sT,rT⟩|⟨h0,rfl⟩
    .have HX:=xh<|And.intro h0 (And.intro sT rT);clear h0 sT rT;go_wp2;go_ret2;exact⟨.inl ⟨HX.o.1,T,rfl,HX.o.2.1,HX.o.2.2⟩,O2.o⟩
    .have HX:=xh h0;clear h0;go_wp2;go_ret2;exact⟨.inr ⟨HX.o,rfl⟩,O2.o⟩
end Nd
namespace Nd
open Go.RowKit Sl
variable{w:BY}{g n c:Nat}{leaf:Bool}{A:Option Addr}{tmps:Array By}
def zf{fn:Func}{p q:Tmp}{ty tz:us}(h:fn.results= #[.cell p ty,.cell q tz])(tmps:Array By)(P:Program)(w:BY):
  (results fn tmps).run P w=
   ((asAddr (tmps.getD p undef)).run P w).andThen λa w₁=>((loadVar ty a).run P w₁).andThen λv w₂=>((asAddr (tmps.getD q undef)).run P w₂).andThen λa w₁=>((loadVar tz a).run P w₁).andThen λu w₂=> .ok (rg #[v,u]) w₂:=by
 simp only[results,h];simp[Sem.run_bind,Result.andThen]
def ke{fn:Func}{p u:Tmp}(h:fn.results= #[.cell p 118,.tmp u])(hp:tmps.getD p undef=.pointer (some ⟨g,0,none⟩))(B:aM w g 118 #[WF leaf,U3 A n c]):
  (results fn tmps).run prog w=.ok (rg #[bQ leaf A n c,tmps.getD u undef]) w:=by
 have c0:=B.bi 0;have c1:=B.bi 1;rw[results_cell_tmp h,hp];clear h hp B;unfold bQ;go_simp
def QT{fn:Func}{p q:Tmp}{g':Nat}{leaf':Bool}{A':Option Addr}{n' c':Nat}(h:fn.results= #[.cell p 118,.cell q 118])(hp:tmps.getD p undef=.pointer (some ⟨g,0,none⟩))(hq:tmps.getD q undef=.pointer (some ⟨g',0,none⟩))(B:aM w g 118 #[WF leaf,U3 A n c])(B':aM w g' 118 #[WF leaf',U3 A' n' c']):
  (results fn tmps).run prog w=.ok (rg #[bQ leaf A n c,bQ leaf' A' n' c']) w:=by
 have c0:=B.bi 0;have c1:=B.bi 1;have d0:=B'.bi 0;have d1:=B'.bi 1;rw[zf h,hp,hq];clear h hp hq B B';unfold bQ;go_simp
attribute [local go_sem ↓] bP
def xG(rs:List (UV)):Bool:=decide (rs.head?=some [1])
def pW(rs:List (UV)):List E:=rs.tail.map λr=>l7 ⟨r.toArray⟩
def mU(rs:List (UV)):Prop:=(rs.head?=some [1]\/rs.head?=some [2])/\(∀r∈rs.tail,lK ⟨r.toArray⟩)/\dm (pW rs) (xG rs)
def sN(rs:List (UV))(w:BY)(e:Ending)(w':BY):Prop:=
 ((¬mU rs/\e=fd (rg #[bQ false none 0 0,U5 U6 14]))\/
  (mU rs/\∃A n c,e=fd (rg #[bQ (xG rs) A n c,U5 U6 0])/\bm w' 111 3 (U3 A n c) n (aL (pW rs))/\Hid (∀g∈ak (U3 A n c),w.heap.size<=g)))/\i7 w w'
def got_nil(s:Nm)(w:BY)(hs:s.size<=1000000)(hq:bH s.data.toList=0)(wv:dI s.data.toList=[]):
  io prog 122 #[U7 s] w (sN ([]) w):=by
 have B0:=aM.new w 118 #[WF false,U3 none 0 0];have O0:=i6 w (Pi #[WF false,U3 none 0 0] 118);have KA:=xh<|uk s (w.alloc (Pi #[WF false,U3 none 0 0] 118)) hs;unfold sN bQ;have O0:=xh O0;have B0:=xh B0;have hS:=(gr _).1 hq;have hm:=uo hS;have hsm:=xh<|qX hS;have hN:=ez s.pu;obtain⟨N,QU⟩:∃N,bS s.pu 0=N:=⟨_,rfl⟩;unfold qW at KA
 rw[hq,wv,QU]at KA;rw[wv,QU]at hN;rw[wv]at hm hsm;clear hS hq wv QU;go_in;go_wp2_with fail;go_call KA.o as e w1 ⟨v,rfl,bu,fr,hv⟩;have S1:bm w1 9 1 v N (strs []):=hv.elim (λh=>h.2) (λh=>eq rfl h.1);have Tx:∀x∈ak v,w.heap.size+1<=x:=λx hx=>by have:=fr x hx;rw[Em]at this;exact this
 obtain⟨V1,Pw,rfl⟩:=aI S1;have O1:=xh<|aE O0.o bu;have B1:=xh<|B0.o.below bu B0.o.lt;have f0:w1.frozen? ⟨w.heap.size,0,none⟩=false:=B1.o.frozen 0 lw;have f1:w1.frozen? ⟨w.heap.size,1,none⟩=false:=B1.o.frozen 1 lw;have z0:w1.cell? (lc w.heap.size)=some (WF false):=B1.ap 0;have z1:w1.cell? ⟨w.heap.size,1,none⟩=some (U3 none 0 0):=B1.ap 1
 have BZ:=xh<|(B1.o.ct 0 (WF false)).ct 1 (U3 none 0 0);have OZ:=xh<|((((ah.aj (S:=[]) O1.o).setCell (p:=⟨w.heap.size,0,none⟩) (λh=>eq h lw) (WF false)).setCell (p:=⟨w.heap.size,1,none⟩) (λh=>eq h lw) (U3 none 0 0))).gq;clear fr bu hv;obtain rfl:N=0:=by simpa using hN.symm
 go_wp2;exact bodyPost_ret (ke rfl rfl BZ.o) rfl ⟨.inl ⟨by simp[mU],rfl⟩,OZ.o⟩
def got_odd(s:Nm)(w:BY)(hs:s.size<=1000000)(hq:bH s.data.toList=0)(r0:UV)(rest:List (UV))(h1:¬r0=[1])(h2:¬r0=[2])(wv:dI s.data.toList=r0::rest):
  io prog 122 #[U7 s] w (sN (r0::rest) w):=by
 have B0:=aM.new w 118 #[WF false,U3 none 0 0];have O0:=i6 w (Pi #[WF false,U3 none 0 0] 118);have KA:=xh<|uk s (w.alloc (Pi #[WF false,U3 none 0 0] 118)) hs;unfold sN bQ;have O0:=xh O0;have B0:=xh B0;have hS:=(gr _).1 hq;have hm:=uo hS;have hsm:=xh<|qX hS;have hN:=ez s.pu;obtain⟨N,QU⟩:∃N,bS s.pu 0=N:=⟨_,rfl⟩;unfold qW at KA
 rw[hq,wv,QU]at KA;rw[wv,QU]at hN;rw[wv]at hm hsm;clear hS hq wv QU;go_in;go_wp2_with fail;go_call KA.o as e w1 ⟨v,rfl,bu,fr,hv⟩;have S1:bm w1 9 1 v N (strs (r0::rest)):=hv.elim (λh=>h.2) (λh=>eq rfl h.1);have Tx:∀x∈ak v,w.heap.size+1<=x:=λx hx=>by have:=fr x hx;rw[Em]at this;exact this
 obtain⟨V1,Pw,rfl⟩:=aI S1;have O1:=xh<|aE O0.o bu;have B1:=xh<|B0.o.below bu B0.o.lt;have f0:w1.frozen? ⟨w.heap.size,0,none⟩=false:=B1.o.frozen 0 lw;have f1:w1.frozen? ⟨w.heap.size,1,none⟩=false:=B1.o.frozen 1 lw;have z0:w1.cell? (lc w.heap.size)=some (WF false):=B1.ap 0;have z1:w1.cell? ⟨w.heap.size,1,none⟩=some (U3 none 0 0):=B1.ap 1
 have BZ:=xh<|(B1.o.ct 0 (WF false)).ct 1 (U3 none 0 0);have OZ:=xh<|((((ah.aj (S:=[]) O1.o).setCell (p:=⟨w.heap.size,0,none⟩) (λh=>eq h lw) (WF false)).setCell (p:=⟨w.heap.size,1,none⟩) (λh=>eq h lw) (U3 none 0 0))).gq;clear fr bu hv;obtain rfl:N=rest.length+1:=by simpa using hN.symm
 obtain⟨g,rfl,ck⟩:=sJ S1 0 lw;have hgw:w.heap.size<g:=Tx g (by simp[ak]);have hgl:g<w1.heap.size:=S1.lt g (by simp[ak]);have hwl1:=B1.o.lt;have ck0:w1.cell? (lc g)=some (U7 ⟨r0.toArray⟩):=ck;have S1:=xh S1;have Th:rest.length<=56:=Jc hm;have yZ:rest.length+1<=Pw/\Pw<=sh:=by
  obtain⟨r,_,h1,_,h2⟩:=S1.o.ya;simp at h1;exact⟨by first|omega|(simp;omega),h2⟩
 clear ck Tx KA hN hm;obtain⟨K0,Zq⟩:∃K0:Nm,(⟨r0.toArray⟩:Nm)=K0:=⟨_,rfl⟩;rw[Zq]at ck0;have hKL:K0.toList=r0:=by rw[cM,<-Zq]
 clear Zq;have n1:¬(rest.length:Int)+1=0:=ls
 have n2:((rest.length:Int)+1==0)=false:=by simpa using n1
 rw[<-hKL]at h1 h2;have k1:(K0.toList==[1])=false:=by simpa using h1
 have k2:(K0.toList==[2])=false:=by simpa using h2
 have HNO:=xh (show ¬mU (r0::rest)from λhx=>by
  have:=hx.1;simp only[List.head?_cons,Option.some.injEq]at this;rw[<-hKL]at this;exact this.elim h1 h2)
 clear hKL;go_wp2;exact bodyPost_ret (ke rfl rfl BZ.o) rfl ⟨.inl ⟨HNO.o,rfl⟩,OZ.o⟩
def got_one(s:Nm)(w:BY)(hs:s.size<=1000000)(hq:bH s.data.toList=0)(r0:UV)(leaf:Bool)(Kv:r0=[if leaf then 1 else 2])(wv:dI s.data.toList=[r0]):
  io prog 122 #[U7 s] w (sN ([r0]) w):=by
 have B0:=aM.new w 118 #[WF false,U3 none 0 0];have O0:=i6 w (Pi #[WF false,U3 none 0 0] 118);have KA:=xh<|uk s (w.alloc (Pi #[WF false,U3 none 0 0] 118)) hs;unfold sN bQ;have O0:=xh O0;have B0:=xh B0;have hS:=(gr _).1 hq;have hm:=uo hS;have hsm:=xh<|qX hS;have hN:=ez s.pu;obtain⟨N,QU⟩:∃N,bS s.pu 0=N:=⟨_,rfl⟩;unfold qW at KA
 rw[hq,wv,QU]at KA;rw[wv,QU]at hN;rw[wv]at hm hsm;clear hS hq wv QU;go_in;go_wp2_with fail;go_call KA.o as e w1 ⟨v,rfl,bu,fr,hv⟩;have S1:bm w1 9 1 v N (strs [r0]):=hv.elim (λh=>h.2) (λh=>eq rfl h.1);have Tx:∀x∈ak v,w.heap.size+1<=x:=λx hx=>by have:=fr x hx;rw[Em]at this;exact this
 obtain⟨V1,Pw,rfl⟩:=aI S1;have O1:=xh<|aE O0.o bu;have B1:=xh<|B0.o.below bu B0.o.lt;have f0:w1.frozen? ⟨w.heap.size,0,none⟩=false:=B1.o.frozen 0 lw;have f1:w1.frozen? ⟨w.heap.size,1,none⟩=false:=B1.o.frozen 1 lw;have z0:w1.cell? (lc w.heap.size)=some (WF false):=B1.ap 0;have z1:w1.cell? ⟨w.heap.size,1,none⟩=some (U3 none 0 0):=B1.ap 1
 have BZ:=xh<|(B1.o.ct 0 (WF false)).ct 1 (U3 none 0 0);have OZ:=xh<|((((ah.aj (S:=[]) O1.o).setCell (p:=⟨w.heap.size,0,none⟩) (λh=>eq h lw) (WF false)).setCell (p:=⟨w.heap.size,1,none⟩) (λh=>eq h lw) (U3 none 0 0))).gq;clear fr bu hv;obtain rfl:N=([]:List (UV)).length+1:=by simpa using hN.symm
 obtain⟨g,rfl,ck⟩:=sJ S1 0 lw;have hgw:w.heap.size<g:=Tx g (by simp[ak]);have hgl:g<w1.heap.size:=S1.lt g (by simp[ak]);have hwl1:=B1.o.lt;have ck0:w1.cell? (lc g)=some (U7 ⟨r0.toArray⟩):=ck;have S1:=xh S1;have Th:([]:List (UV)).length<=56:=Jc hm;have yZ:([]:List (UV)).length+1<=Pw/\Pw<=sh:=by
  obtain⟨r,_,h1,_,h2⟩:=S1.o.ya;simp at h1;exact⟨by first|omega|(simp;omega),h2⟩
 clear ck Tx KA hN hm;obtain⟨K0,Zq⟩:∃K0:Nm,(⟨r0.toArray⟩:Nm)=K0:=⟨_,rfl⟩;rw[Zq]at ck0;have hKL:K0.toList=r0:=by rw[cM,<-Zq]
 clear Zq;have hk:K0.toList=[if leaf then 1 else 2]:=by rw[hKL];exact Kv
 have HR0:=xh Kv;have HC:=xh (show(K0.toList=[1]/\(K0.toList==[1])=true/\(K0.toList==[2])=false)\/(¬K0.toList=[1]/\(K0.toList==[1])=false/\(K0.toList==[2])=true)from by rw[hk];cases leaf<;>decide);have H1:=xh (show(K0.toList==[1])=leaf from by rw[hk];cases leaf<;>decide);clear hKL hk
 go_upto_region 4 with fail
 go_cut [21]from 22 to 36 (λv21 wx=>v21=WF false/\w1=wx)
 case first=>
  rcases HC.o with⟨k3,k1,k2⟩|⟨k3,k1,k2⟩
  all_goals
   go_wp2;go_meet
   case rel=>exact⟨rfl,rfl⟩
 obtain⟨rfl,rfl⟩:=hcut;have k1:=H1.o;have R0:=g9 (aM (w1.alloc (Pi #[WF leaf,U3 none 0 0] 118)) w1.heap.size 118 #[WF leaf,U3 none 0 0]) (aM.new w1 _ _);have R2:=xh<|B1.o.alloc (Pi #[WF leaf,U3 none 0 0] 118);have RO:=xh<|aE O1.o (i6 _ (Pi #[WF leaf,U3 none 0 0] 118));have HLF:=g9 (xG [r0]=leaf) (by rw[HR0.o];cases leaf<;>decide)
 have HM:=g9 (dm ([]:List E) leaf) (λi hi=>eq hi (lA _));have HYES:=g9 (mU [r0]) ⟨by rw[HR0.o];cases leaf<;>simp,lw,by rw[HLF.o];exact HM.o⟩
 by_cases rB:Pw=1
 all_goals
  go_wp2_with fail;generalize hW6:(w1.alloc (Pi #[WF leaf,U3 none 0 0] 118))=W6 at *;clear hW6 f0 f1 z0 z1 ck0;have KM:=xh<|Cj (w:=W6) leaf none 0 0 [] (show rG W6 none 0 []from⟨rfl,λk e h=>by simp at h⟩) ls;unfold bQ at KM
  go_loopw [46] (λiv wr=>iv=U5 U6 0/\wr=W6) (λ_ _=>0)
  case atStart=>exact⟨rfl,rfl⟩
  case round=>
   obtain⟨rfl,rfl⟩:=hrel;have d0:wr.cell? (lc w1.heap.size)=some (WF leaf):=R0.ap 0;have d1:wr.cell? ⟨w1.heap.size,1,none⟩=some (U3 none 0 0):=R0.ap 1;go_wp2_with fail;go_call KM.o as e' w2 ⟨⟨b,rfl,hb⟩,da⟩;obtain rfl:=hb.2 HM.o;have CW:=R2.o.below da R2.o.lt;have CN:=R0.o.below da R0.o.lt;have f0:w2.frozen? ⟨w.heap.size,0,none⟩=false:=CW.frozen 0 lw
   have f1:w2.frozen? ⟨w.heap.size,1,none⟩=false:=CW.frozen 1 lw;have z0:w2.cell? (lc w.heap.size)=some (WF false):=CW.bi 0;have z1:w2.cell? ⟨w.heap.size,1,none⟩=some (U3 none 0 0):=CW.bi 1;have y0:w2.cell? (lc w1.heap.size)=some (WF leaf):=CN.bi 0;have y1:w2.cell? ⟨w1.heap.size,1,none⟩=some (U3 none 0 0):=CN.bi 1;have hwlt:=R2.o.lt;have CX:=xh<|(CW.ct 0 (WF leaf)).ct 1 (U3 none 0 0)
   have OX:=xh<|(((ah.aj (S:=[]) (aE RO.o da)).setCell (p:=⟨w.heap.size,0,none⟩) (λh=>eq h lw) (WF leaf)).setCell (p:=⟨w.heap.size,1,none⟩) (λh=>eq h lw) (U3 none 0 0)).gq;clear CW CN da hb d0 d1;go_wp2;exact bodyPost_ret (ke rfl rfl CX.o) rfl ⟨.inr ⟨HYES.o,none,0,0,by rw[HLF.o];rfl,bm.nil _ _ _,xh (λx hx=>by simp[ak]at hx)⟩,OX.o⟩
def Zr(s:Nm)(w:BY)(hs:s.size<=1000000)(hq:bH s.data.toList=0)(r0:UV)(rest:List (UV))(leaf:Bool)(Kv:r0=[if leaf then 1 else 2])(fy:rest≠[])(wv:dI s.data.toList=r0::rest):
  io prog 122 #[U7 s] w (sN (r0::rest) w):=by
 have B0:=aM.new w 118 #[WF false,U3 none 0 0];have O0:=i6 w (Pi #[WF false,U3 none 0 0] 118);have KA:=xh<|uk s (w.alloc (Pi #[WF false,U3 none 0 0] 118)) hs;unfold sN bQ;have O0:=xh O0;have B0:=xh B0;have hS:=(gr _).1 hq;have hm:=uo hS;have hsm:=xh<|qX hS;have hN:=ez s.pu;obtain⟨N,QU⟩:∃N,bS s.pu 0=N:=⟨_,rfl⟩;unfold qW at KA
 rw[hq,wv,QU]at KA;rw[wv,QU]at hN;rw[wv]at hm hsm;clear hS hq wv QU;go_in;go_wp2_with fail;go_call KA.o as e w1 ⟨v,rfl,bu,fr,hv⟩;have S1:bm w1 9 1 v N (strs (r0::rest)):=hv.elim (λh=>h.2) (λh=>eq rfl h.1);have Tx:∀x∈ak v,w.heap.size+1<=x:=λx hx=>by have:=fr x hx;rw[Em]at this;exact this
 obtain⟨V1,Pw,rfl⟩:=aI S1;have O1:=xh<|aE O0.o bu;have B1:=xh<|B0.o.below bu B0.o.lt;have f0:w1.frozen? ⟨w.heap.size,0,none⟩=false:=B1.o.frozen 0 lw;have f1:w1.frozen? ⟨w.heap.size,1,none⟩=false:=B1.o.frozen 1 lw;have z0:w1.cell? (lc w.heap.size)=some (WF false):=B1.ap 0;have z1:w1.cell? ⟨w.heap.size,1,none⟩=some (U3 none 0 0):=B1.ap 1
 have BZ:=xh<|(B1.o.ct 0 (WF false)).ct 1 (U3 none 0 0);have OZ:=xh<|((((ah.aj (S:=[]) O1.o).setCell (p:=⟨w.heap.size,0,none⟩) (λh=>eq h lw) (WF false)).setCell (p:=⟨w.heap.size,1,none⟩) (λh=>eq h lw) (U3 none 0 0))).gq;clear fr bu hv;obtain rfl:N=rest.length+1:=by simpa using hN.symm
 obtain⟨g,rfl,ck⟩:=sJ S1 0 lw;have hgw:w.heap.size<g:=Tx g (by simp[ak]);have hgl:g<w1.heap.size:=S1.lt g (by simp[ak]);have hwl1:=B1.o.lt;have ck0:w1.cell? (lc g)=some (U7 ⟨r0.toArray⟩):=ck;have S1:=xh S1;have Th:rest.length<=56:=Jc hm;have yZ:rest.length+1<=Pw/\Pw<=sh:=by
  obtain⟨r,_,h1,_,h2⟩:=S1.o.ya;simp at h1;exact⟨by first|omega|(simp;omega),h2⟩
 clear ck Tx KA hN hm;obtain⟨K0,Zq⟩:∃K0:Nm,(⟨r0.toArray⟩:Nm)=K0:=⟨_,rfl⟩;rw[Zq]at ck0;have hKL:K0.toList=r0:=by rw[cM,<-Zq]
 clear Zq;have hk:K0.toList=[if leaf then 1 else 2]:=by rw[hKL];exact Kv
 have HR0:=xh Kv;have HC:=xh (show(K0.toList=[1]/\(K0.toList==[1])=true/\(K0.toList==[2])=false)\/(¬K0.toList=[1]/\(K0.toList==[1])=false/\(K0.toList==[2])=true)from by rw[hk];cases leaf<;>decide);have H1:=xh (show(K0.toList==[1])=leaf from by rw[hk];cases leaf<;>decide);clear hKL hk;have n1:¬(rest.length:Int)+1=0:=ls
 have n2:((rest.length:Int)+1==0)=false:=by simpa using n1
 have rB:¬Pw=1:=λh=>by
  have:0<rest.length:=I2.2 fy;omega
 go_upto_region 4 with fail
 go_cut [21]from 22 to 36 (λv21 wx=>v21=WF false/\w1=wx)
 case first=>
  rcases HC.o with⟨k3,k1,k2⟩|⟨k3,k1,k2⟩
  all_goals
   go_wp2;go_meet
   case rel=>exact⟨rfl,rfl⟩
 obtain⟨rfl,rfl⟩:=hcut;have k1:=H1.o;have R0:=g9 (aM (w1.alloc (Pi #[WF leaf,U3 none 0 0] 118)) w1.heap.size 118 #[WF leaf,U3 none 0 0]) (aM.new w1 _ _);have R2:=xh<|B1.o.alloc (Pi #[WF leaf,U3 none 0 0] 118);have RS:=xh<|S1.o.alloc (Pi #[WF leaf,U3 none 0 0] 118);have RO:=xh<|aE O1.o (i6 _ (Pi #[WF leaf,U3 none 0 0] 118));go_wp2_with fail
 generalize hW6:(w1.alloc (Pi #[WF leaf,U3 none 0 0] 118))=W6 at *;clear hW6 f0 f1 z0 z1 ck0
 go_loopw [46] (λiv wr=> ∃(i:Nat) (v':By),i<=rest.length/\iv=U5 U6 i/\aM wr w1.heap.size 118 #[WF leaf,v']/\aM wr w.heap.size 118 #[WF false,U3 none 0 0]/\bm wr 111 3 v' i (aL ((rest.take i).map λr=>l7 ⟨r.toArray⟩))/\bm wr 9 1 (U3 (lc g) (rest.length+1) Pw) (rest.length+1) (strs (r0::rest))/\Hid (∀r∈rest.take i,lK ⟨r.toArray⟩)/\i7 w wr/\Hid (∀x∈ak v',w1.heap.size+1<=x)) (λiv _=>rest.length-(intOf iv).toNat)
 case atStart=>exact⟨0,_,bG _,rfl,R0.o,R2.o,bm.nil _ _ _,RS.o,xh lw,RO.o,xh (λx hx=>by simp[ak]at hx)⟩
 case round=>
  obtain⟨i,v',hi,rfl,C6,C2,S,RS,EO,O,F⟩:=hrel;obtain⟨VA,vc,rfl⟩:=aI S;have hltr:=C6.lt;have hg6:w1.heap.size∉ak (U3 VA i vc):=λhx=>by have:=F.o _ hx;omega
  have hg2:w.heap.size∉ak (U3 VA i vc):=λhx=>by have:=F.o _ hx;omega
  have Ze:g∉ak (U3 VA i vc):=λhx=>by have:=F.o _ hx;omega
  by_cases h:i<rest.length
  .obtain⟨g',hgx,ck⟩:=sJ RS (i+1) (by simp;omega);simp only[Option.some.injEq,Addr.mk.injEq,and_true]at hgx;subst hgx;have hri:(r0::rest)[i+1]'(by simp;omega)=rest[i]:=List.getElem_cons_succ ..;rw[hri]at ck;have pC:rest[i].length<=232:=hsm.o _ (aH _ (jR h));have HT:=xh<|ij h;obtain⟨T,hT⟩:∃T:Nm,(⟨rest[i].toArray⟩:Nm)=T:=⟨_,rfl⟩;have hTs:T.size<=232:=by rw[<-hT,Sl.size_of_list];exact pC
   rw[hT]at ck;have HTT:=xh hT;have ck2:wr.cell? ((⟨g,1,none⟩:Addr).add i)=some (U7 T):=by rw[jq,Nat.add_comm];exact ck
   have Xc:(i:Int)<(rest.length:Int):=ls
   have ck3:wr.cell? ⟨g,1+i,none⟩=some (U7 T):=by rw[Nat.add_comm];exact ck
   clear hT hri pC
   by_cases fN:lK T
   .have KE:=xh (λw=>VD w T fN ls);have Kq:=xh fN;obtain⟨e,he⟩:∃e,l7 T=e:=⟨_,rfl⟩;rw[he]at KE;have HE:=xh he;have SL:=xh S;have CL:=xh C6;have C2L:=xh C2;have RL:=xh RS;have OL:=xh O;unfold E.agg at KE;clear fN he S C6 C2 RS O;go_wp2_with fail;go_call (KE.o _) as e' w2 ⟨rfl,da⟩
    obtain⟨v2,w3,ea,S3,ow,f3⟩:=El (P:=prog) ((SL.o.below da).alloc (Pi #[U7 e.key,U7 e.val,e.bh] 111)) 108 108 (.agg #[U7 .empty,U7 .empty,U5 U6 0]) 40 underlying108 pm rfl e (by unfold sh;omega) ls;rw[Em]at ea;obtain⟨V2,nc,rfl⟩:=aI S3;have EA:=xh ea;have O2:=xh<|(ah.aj (S:=ak (U3 VA i vc)) da).alloc (Pi #[U7 e.key,U7 e.val,e.bh] 111)
    have OW:=O2.o.trans ow;have CW:=((CL.o.below da CL.o.lt).alloc (Pi #[U7 e.key,U7 e.val,e.bh] 111)).only ow hg6;have c61:((w2.alloc (Pi #[U7 e.key,U7 e.val,e.bh] 111))).cell? ⟨w1.heap.size,1,none⟩=some (U3 VA i vc):=((CL.o.below da CL.o.lt).alloc (Pi #[U7 e.key,U7 e.val,e.bh] 111)).ae (i:=1) rfl;have fz:w3.frozen? ⟨w1.heap.size,1,none⟩=false:=CW.frozen 1 lw
    have cz:w3.cell? ⟨w1.heap.size,1,none⟩=some (U3 VA i vc):=CW.bi 1;have hsz2:wr.heap.size<=w2.heap.size:=da.size;have OX:=OW.mono (S':=w1.heap.size::ak (U3 VA i vc)) (λx hx _=>aH _ hx)|>.setCell (p:=⟨w1.heap.size,1,none⟩) (λ_=>by simp) (U3 V2 (i+1) nc);have CX:=xh<|CW.ct 1 (U3 V2 (i+1) nc);have C2X:=xh<|C2L.o.only OX (by simp;exact⟨ls,hg2⟩)
    have RX:=xh<|RL.o.only OX (λx hx=>by simp[ak]at hx;subst hx;simp;exact⟨ls,Ze⟩);have rl:∀x∈ak (U3 V2 (i+1) nc),w1.heap.size+1<=x:=λx hx=>(f3 x hx).elim (F.o x) (λh=>by rw[Em]at h;omega);have FX:=xh rl;have SX:=xh<|S3.only ((ah.refl [w1.heap.size] w3).setCell (p:=⟨w1.heap.size,1,none⟩) (λ_=>by simp) (U3 V2 (i+1) nc)) (λx hx=>by have:=rl x hx;simp;omega)
    have OB:=xh<|OL.o.trans (OX.bI OL.o.size (λx hx=>by
     rcases ax.1 hx with rfl|hx
     .omega
     .have:=F.o x hx;omega))
    have HSX:=xh (show aL ((rest.take (i+1)).map λr=>l7 ⟨r.toArray⟩)=aL ((rest.take i).map λr=>l7 ⟨r.toArray⟩)++e.cells from by
     rw[HT.o,eS,jf,iA,HTT.o,HE.o];simp[aL])
    have EX:=xh (show ∀r∈rest.take (i+1),lK ⟨r.toArray⟩from λr hr=>by
     rw[HT.o]at hr
     rcases aK.1 hr with hr|hr
     .exact EO.o r hr
     .simp only[aG]at hr;rw[hr,HTT.o];exact Kq.o)
    clear ea S3 ow f3 OW CW OX rl da;go_wp2_with fail;rw[EA.o];go_wp2;go_roundw
    case rel=>exact⟨i+1,_,ls,by go_num,CX.o,C2X.o,by rw[HSX.o];exact SX.o,RX.o,EX,OB.o,FX⟩
    case measure=>simp[intOf];omega
   .have KE:=xh (λw=>Zo w T fN);have Kq:=xh fN;have HNO:=g9 (¬mU (r0::rest)) (λhx=>fN (by rw[<-HTT.o];exact hx.2.1 _ (by rw[mj];exact jR h)));have C2L:=xh C2;have OL:=xh O;unfold E.agg E.zero at KE;clear fN S C6 C2 RS O;go_wp2_with fail;go_call (KE.o _) as e' w2 ⟨rfl,da⟩;have CW:=(C2L.o.below da C2L.o.lt).alloc (Pi #[U7 .empty,U7 .empty,U5 U6 0] 111)
    have f0:(w2.alloc (Pi #[U7 .empty,U7 .empty,U5 U6 0] 111)).frozen? ⟨w.heap.size,0,none⟩=false:=CW.frozen 0 lw;have f1:(w2.alloc (Pi #[U7 .empty,U7 .empty,U5 U6 0] 111)).frozen? ⟨w.heap.size,1,none⟩=false:=CW.frozen 1 lw;have z0:(w2.alloc (Pi #[U7 .empty,U7 .empty,U5 U6 0] 111)).cell? (lc w.heap.size)=some (WF false):=CW.bi 0
    have z1:(w2.alloc (Pi #[U7 .empty,U7 .empty,U5 U6 0] 111)).cell? ⟨w.heap.size,1,none⟩=some (U3 none 0 0):=CW.bi 1;have CX:=xh<|(CW.ct 0 (WF false)).ct 1 (U3 none 0 0)
    have OX:=xh<|(((ah.aj (S:=[]) (aE OL.o (ag da (Pi #[U7 .empty,U7 .empty,U5 U6 0] 111)))).setCell (p:=⟨w.heap.size,0,none⟩) (λh=>eq h lw) (WF false)).setCell (p:=⟨w.heap.size,1,none⟩) (λh=>eq h lw) (U3 none 0 0)).gq;have hwlt:=C2L.o.lt;clear CW da;go_wp2;exact bodyPost_ret (ke rfl rfl CX.o) rfl ⟨.inl ⟨HNO.o,rfl⟩,OX.o⟩
  .obtain rfl:i=rest.length:=ls
   rw[ig]at S EO;have HE:=g9 (pW (r0::rest)=rest.map λr=>l7 ⟨r.toArray⟩) rfl;have HLF:=g9 (xG (r0::rest)=leaf) (by rw[HR0.o];cases leaf<;>simp[xG]);rw[<-HE.o]at S;obtain⟨-,EN⟩:=bm.aL S;have KM:=xh<|Cj (w:=wr) leaf VA rest.length vc (pW (r0::rest)) EN ls
   have HF:=xh (show(dm (pW (r0::rest)) leaf->mU (r0::rest))/\(mU (r0::rest)->dm (pW (r0::rest)) leaf)from⟨λhm=>⟨by rw[HR0.o];cases leaf<;>simp,EO.o,by rw[HLF.o];exact hm⟩,λhx=>by have:=hx.2.2;rw[HLF.o]at this;exact this⟩);have d0:wr.cell? (lc w1.heap.size)=some (WF leaf):=C6.bi 0;have d1:wr.cell? ⟨w1.heap.size,1,none⟩=some (U3 VA rest.length vc):=C6.bi 1;have SL:=xh S;have CL:=xh C6
   have C2L:=xh C2;have OL:=xh O;unfold bQ at KM;clear S C6 C2 RS O EN;go_wp2_with fail;go_call KM.o as e' w2 ⟨⟨b,rfl,hb⟩,da⟩;have CW:=C2L.o.below da C2L.o.lt;have CN:=CL.o.below da CL.o.lt;have f0:w2.frozen? ⟨w.heap.size,0,none⟩=false:=CW.frozen 0 lw;have f1:w2.frozen? ⟨w.heap.size,1,none⟩=false:=CW.frozen 1 lw;have z0:w2.cell? (lc w.heap.size)=some (WF false):=CW.bi 0
   have z1:w2.cell? ⟨w.heap.size,1,none⟩=some (U3 none 0 0):=CW.bi 1;have y0:w2.cell? (lc w1.heap.size)=some (WF leaf):=CN.bi 0;have y1:w2.cell? ⟨w1.heap.size,1,none⟩=some (U3 VA rest.length vc):=CN.bi 1;have hwlt:=C2L.o.lt
   cases b
   .have HNO:=g9 (¬mU (r0::rest)) (λhx=>by have:=hb.2 (HF.o.2 hx);cases this);have CX:=xh<|(CW.ct 0 (WF false)).ct 1 (U3 none 0 0);have OX:=xh<|(((ah.aj (S:=[]) (aE OL.o da)).setCell (p:=⟨w.heap.size,0,none⟩) (λh=>eq h lw) (WF false)).setCell (p:=⟨w.heap.size,1,none⟩) (λh=>eq h lw) (U3 none 0 0)).gq;clear CW CN da hb d0 d1;go_wp2
    exact bodyPost_ret (ke rfl rfl CX.o) rfl ⟨.inl ⟨HNO.o,rfl⟩,OX.o⟩
   .have HYES:=xh<|HF.o.1 (hb.1 rfl);have CX:=xh<|(CW.ct 0 (WF leaf)).ct 1 (U3 VA rest.length vc);have OX:=xh<|(((ah.aj (S:=[]) (aE OL.o da)).setCell (p:=⟨w.heap.size,0,none⟩) (λh=>eq h lw) (WF leaf)).setCell (p:=⟨w.heap.size,1,none⟩) (λh=>eq h lw) (U3 VA rest.length vc)).gq
    have SX:=xh<|(SL.o.below da).only (((ah.refl [w.heap.size] w2).setCell (p:=⟨w.heap.size,0,none⟩) (λ_=>by simp) (WF leaf)).setCell (p:=⟨w.heap.size,1,none⟩) (λ_=>by simp) (U3 VA rest.length vc)) (λx hx=>by simp;exact λhxx=>hg2 (hxx▸hx));clear CW CN da hb d0 d1;go_wp2;exact bodyPost_ret (ke rfl rfl CX.o) rfl ⟨.inr (⟨HYES.o,VA,rest.length,vc,by rw[HLF.o];rfl,SX.o,xh (λx hx=>by have:=F.o x hx;omega)⟩),OX.o⟩
def JL(s:Nm)(w:BY)(e:Ending)(w':BY):Prop:=
 (bH s.data.toList≠0/\e=fd (rg #[bQ false none 0 0,U5 U6 (bH s.data.toList)])/\i7 w w')\/(bH s.data.toList=0/\sN (dI s.data.toList) w e w')
def got_any(s:Nm)(w:BY)(hs:s.size<=1000000):
  io prog 122 #[U7 s] w (JL s w):=by
 by_cases hq:bH s.pu=0
 .have lift:∀{rs},dI s.pu=rs->io prog 122 #[U7 s] w (sN rs w)->io prog 122 #[U7 s] w (JL s w):=λh k=>k.mono λe w' h2=> .inr ⟨hq,by rw[h];exact h2⟩
  match wv:dI s.pu with
  |[]=>exact lift wv (got_nil s w hs hq wv)
  |r0::rest=>
   refine lift wv ?_;have both:∀leaf:Bool,r0=[if leaf then 1 else 2]->io prog 122 #[U7 s] w (sN (r0::rest) w):=λleaf h=>by
    by_cases fy:rest=[]
    .subst fy;exact got_one s w hs hq r0 leaf h wv
    .exact Zr s w hs hq r0 rest leaf h fy wv
   by_cases h1:r0=[1]
   .exact both true h1
   .by_cases h2:r0=[2]
    .exact both false h2
    .exact got_odd s w hs hq r0 rest h1 h2 wv
 .have HQ:=xh hq;have B0:=aM.new w 118 #[WF false,U3 none 0 0];have O0:=i6 w (Pi #[WF false,U3 none 0 0] 118);have KA:=xh<|uk s (w.alloc (Pi #[WF false,U3 none 0 0] 118)) hs;unfold JL bQ;have O0:=xh O0;have B0:=xh B0;unfold qW at KA;generalize bH s.pu=q at *;go_in;go_wp2_with fail;go_call KA.o as e w1 ⟨v,rfl,bu,fr,hv⟩
  rcases hv with⟨h0,-⟩|⟨-,rfl⟩
  .exact eq h0 hq
  have O1:=xh<|aE O0.o bu;have B1:=xh<|B0.o.below bu B0.o.lt;have f0:w1.frozen? ⟨w.heap.size,0,none⟩=false:=B1.o.frozen 0 lw;have f1:w1.frozen? ⟨w.heap.size,1,none⟩=false:=B1.o.frozen 1 lw;have z0:w1.cell? (lc w.heap.size)=some (WF false):=B1.ap 0;have z1:w1.cell? ⟨w.heap.size,1,none⟩=some (U3 none 0 0):=B1.ap 1;have BZ:=xh<|(B1.o.ct 0 (WF false)).ct 1 (U3 none 0 0)
  have OZ:=xh<|((((ah.aj (S:=[]) O1.o).setCell (p:=⟨w.heap.size,0,none⟩) (λh=>eq h lw) (WF false)).setCell (p:=⟨w.heap.size,1,none⟩) (λh=>eq h lw) (U3 none 0 0))).gq;have q2:(q==0)=false:=by simpa using hq
  clear fr bu KA;go_wp2;exact bodyPost_ret (ke rfl rfl BZ.o) rfl (.inl ⟨HQ.o,rfl,OZ.o⟩)
end Nd
namespace Nd
open Go.RowKit Sl
variable{l:List E}{leaf:Bool}
def ur(e:E):(xE e).data.toList=sL e:=by simp[xE]
def VE(e:E):(sL e).drop 1=e.key.data.toList++(jH (e.bh+1).toNat++e.val.data.toList):=rfl
def Eo(e:E)(h:e.key.size<=32):oh (xE e)=e.key.size:=by
 unfold oh;rw[ur];show(wf e.key.size).toNat=e.key.size;rw[j5];omega
def Hp(e:E):(xE e).size=3+e.key.size+e.val.size:=by
 unfold xE;rw[Sl.size_of_list,sM]
def Mx(e:E)(h:e.key.size<=32):lK (xE e):=by
 unfold lK;rw[Eo e h,Hp];omega
def keyL(e:E):e.key.data.toList.length=e.key.size:=lw
def QV(e:E)(h:e.key.size<=32)(h1: -1<=e.bh)(h2:e.bh<=511):l7 (xE e)=e:=by
 obtain⟨m,hm⟩:=fu (show 0<=e.bh+1 by omega);have hk:=keyL e;have hd:=VE e;have d2:(sL e).drop (1+e.key.size)=jH (e.bh+1).toNat++e.val.pu:=by
  rw[<-jF,hd,rM ls,<-hk,Pc,dD]
 have d3:(sL e).drop (3+e.key.size)=e.val.pu:=by
  rw[show 3+e.key.size=(1+e.key.size)+2 by omega,<-jF,d2];rfl
 unfold l7;rw[Eo e h];have a1:(xE e).extract 1 (1+e.key.size)=e.key:=by
  rw[qV,ur,hd,lz ls,<-hk,ig]
 have a2:(xE e).extract (3+e.key.size) (xE e).size=e.val:=by
  rw[Hp,qV,ur,d3,cR lw]
 have a3:bS (xE e).data.toList (1+e.key.size)=m:=by
  rw[ur];have g0:(sL e).getD (1+e.key.size) 0=wf (m / 256):=by
   have:=congrArg (λl=>l.getD 0 0) d2;simp only[jG,iu,mq]at this;rw[jG,this,hm];rfl
  have g1:(sL e).getD (1+e.key.size+1) 0=wf m:=by
   have:=congrArg (λl=>l.getD 1 0) d2;simp only[jG,iu]at this;rw[jG,this,hm];rfl
  unfold bS;rw[g0,g1,j5,j5];omega
 rw[a1,a2,a3];obtain⟨k,v,f⟩:=e;dsimp only at *;rw[show((m:Nat):Int)-1=f by omega]
def Ep(hm:dm l leaf)(e:E)(he:e∈l):e.key.size<=32/\e.val.size<=40/\ -1<=e.bh/\e.bh<=511:=by
 obtain⟨i,hi,rfl⟩:=qu he;have h2:=(Ek l[i] leaf).1 (hm i hi l[i] (aQ hi)).1;exact⟨h2.1,h2.2.1,h2.2.2.1,h2.2.2.2.1⟩
def Er(hm:dm l leaf):pW (jN leaf l)=l:=by
 unfold pW jN;rw[mj,iQ];have:l.map ((λr=>l7 ⟨r.toArray⟩) ∘ sL)=l.map id:=by
  apply gm;intro e he;obtain⟨b1,b2,b3,b4⟩:=Ep hm e he;exact QV e b1 b3 b4
 rw[this,List.map_id]
def Es(leaf:Bool)(l:List E):xG (jN leaf l)=leaf:=by
 unfold xG jN Ho
 cases leaf<;>simp
def My(hm:dm l leaf):mU (jN leaf l):=by
 refine⟨?_,?_,?_⟩
 .unfold jN Ho
  cases leaf<;>simp
 .intro r hr;unfold jN at hr;rw[mj]at hr;obtain⟨e,he,rfl⟩:=dq.1 hr;exact Mx e (Ep hm e he).1
 .rw[Er hm,Es];exact hm
def l0:List E:=[⟨⟨#[97]⟩,⟨#[120]⟩,-1⟩,⟨⟨#[99]⟩,⟨#[]⟩,7⟩]
variable{w:BY}{t g j:Nat}{u:us}{l:List E}{rest:List By}{pz R:Int}
section
open Go.RowKit Sl
attribute [local go_sem ↓] bP
def lO(l:List E)(i:Nat):Int:=max ((aw (l.take i):Int)-((aw l:Int)-aw (l.take i))) ((aw l:Int)-aw (l.take i)-aw (l.take i))
def zg(l:List E)(m t:Nat):Prop:=1<=t/\t<m/\(∀j,1<=j->j<m->lO l t<=lO l j)/\∀j,1<=j->j<t->lO l t<lO l j
def zh(l:List E)(k:Nat):(aL l).take (k*3)=aL (l.take k):=by
 induction l generalizing k with
 |nil=>simp[aL]
 |cons e l ih=>
  cases k with
  |zero=>simp[aL]
  |succ k=>
   rw[l8,oK,l8,show(k+1)*3=e.cells.length+k*3 by simp[E.cells];omega,List.take_length_add_append,ih]
def nK(l:List E)(k:Nat):(aL l).drop (k*3)=aL (l.drop k):=by
 induction l generalizing k with
 |nil=>simp[aL]
 |cons e l ih=>
  cases k with
  |zero=>simp[aL]
  |succ k=>
   rw[l8,CA,show(k+1)*3=e.cells.length+k*3 by simp[E.cells];omega,List.drop_length_add_append,ih]
def mM(l:List E):∀v∈aL l,v.oneCell'=true:=by
 intro v hv;simp only[aL,oI]at hv;obtain⟨e,_,hv⟩:=hv;simp[E.cells]at hv
 rcases hv with rfl|rfl|rfl<;>rfl
def Ax{P:Program}{t:us}{v:By}{n:Nat}{l0:List E}(S:bm w t 3 v n (aL l0))(B:aM w g u (aL l++rest).toArray)(o m c:Nat)(hom:o+m<=l.length)
 (T ty:us)(z:By)(bytes:Nat)(ht:P.underlying T=some (.slice t))(pE:(P.info? t).map (λi=>(i.zero,i.size,i.bytes))=some (some z,3,bytes))(hz:z.cells.size=3)
 (KK:n+m<=sh)(hb:(n+m)*bytes<=140737488355328):
  ∃v' w',eM P T ty w v (U3 (some ⟨g,o*3,none⟩) m c)= .ok v' w'/\bm w' t 3 v' (n+m) (aL (l0++(l.drop o).take m))/\ah (ak v) w w'/\(∀x∈ak v',x∈ak v\/w.heap.size<=x):=by
 obtain⟨i0,hi,lC,kH,lM⟩:=info_parts pE;have hlen:(aL ((l.drop o).take m)).length=m*3:=by rw[aA,bY,ef];congr 1;omega
 obtain⟨v',w',h1,h2,h3,h4⟩:=eu (P:=P) S T ty i0 z bytes ht hi lC kH lM hz ls
  ⟨g,o*3,none⟩ m c (aL ((l.drop o).take m)) hlen (λj x hx=>by
   have hj:j<m*3:=by rw[<-hlen];exact(aW.1 hx).1
   rw[jq];refine(B.cell _).trans ?_;rw[<-zh,<-nK,rP,U8 hj,iu]at hx;rw[dr,bX (by rw[aA];omega)];exact hx) (mM _) KK hb
 exact⟨v',w',h1,by rw[jf];exact h2,h3,h4⟩
def VF(B:aM w g u (aL l++rest).toArray)(j:Nat)(e:E)(he:l[j]?=some e):rG w (some ⟨g,j*3,none⟩) 1 [e]:=by
 refine⟨rfl,λk x hx=>?_⟩;have hk:k=0:=by have:=(aW.1 hx).1;simp at this;exact this
 subst hk;simp only[CE,Option.some.injEq]at hx;subst hx;have:=Mw B j e he;rw[jq,bV]at this;exact⟨_,rfl,by rw[qA,Addr.add,U8 rfl];exact this⟩
def Zs(l:List E)(i:Nat):0<=lO l i:=by unfold lO;omega
def uu(l:List E)(j t:Nat)(pz:Int):Prop:=(j=0/\pz= -1/\t=1)\/(0<j/\zg l (j+1) t/\pz=lO l t)
def Hr(h:uu l j t pz)(hR:R=lO l (j+1))(hb:pz<0\/R<pz):uu l (j+1) (j+1) R:=by
 have lt:∀i,1<=i->i<j+1->lO l (j+1)<lO l i:=λi hi1 Ti=>by
  rcases h with⟨rfl,_,_⟩|⟨h0,hB,Bd⟩
  .omega
  .have:=hB.2.2.1 i hi1 Ti;have:=Zs l t;omega
 refine .inr ⟨ls,⟨ls,ls,λi hi1 Ti=>?_,lt⟩,hR⟩
 rcases fo i (j+1)with h1|h1
 .have:=lt i hi1 h1;omega
 .obtain rfl:i=j+1:=ls
  exact dG _
def Hs(h:uu l j t pz)(hR:R=lO l (j+1))(h1:¬pz<0)(h2:¬R<pz):uu l (j+1) t pz:=by
 rcases h with⟨rfl,hb,_⟩|⟨h0,hB,Bd⟩
 .omega
 .refine .inr ⟨ls,⟨hB.1,by have:=hB.2.1;omega,λi hi1 Ti=>?_,hB.2.2.2⟩,Bd⟩
  rcases fo i (j+1)with h3|h3
  .exact hB.2.2.1 i hi1 h3
  .obtain rfl:i=j+1:=ls
   omega
def QW(leaf:Bool)(A:Option Addr)(n c:Nat)(l:List E)(S:bm w 111 3 (U3 A n c) n (aL l))(hn:2<=n)(XB:n<=100)(hb:aw l<=100000):
  io prog 129 #[bQ leaf A n c] w λr w'=>(∃t A1 c1 A2 c2,r=fd (rg #[bQ leaf A1 t c1,bQ leaf A2 (n-t) c2])/\zg l n t/\bm w' 111 3 (U3 A1 t c1) t (aL (l.take t))/\bm w' 111 3 (U3 A2 (n-t) c2) (n-t) (aL (l.drop t))/\∀x∈ak (U3 A2 (n-t) c2),w.heap.size<=x)/\i7 w w':=by
 obtain⟨g,cap,rest,hv,BG,hcn,Bg⟩:=S.form ls ls;simp only[Value.slice.injEq,true_and]at hv;obtain⟨rfl,rfl⟩:=hv;have rS:c<=sh:=by obtain⟨_,_,_,_,h⟩:=S.ya;exact h
 have wM:l.length=n:=by have:=S.1;rw[aA]at this;omega
 have pD:=xh wM;have hgl:=BG.lt;have B1:=xh<|((aM.new w 118 #[WF leaf,U3 (lc g) n c]).alloc (Pi #[WF false,U3 none 0 0] 118)).alloc (Pi #[WF false,U3 none 0 0] 118);have B2:=(aM.new (w.alloc (Pi #[WF leaf,U3 (lc g) n c] 118)) 118 #[WF false,U3 none 0 0]).alloc (Pi #[WF false,U3 none 0 0] 118)
 have B3:=aM.new ((w.alloc (Pi #[WF leaf,U3 (lc g) n c] 118)).alloc (Pi #[WF false,U3 none 0 0] 118)) 118 #[WF false,U3 none 0 0];rw[Em]at B2;rw[Em,Em]at B3;have B2:=xh B2;have B3:=xh B3;have O0:=xh<|ag (ag (i6 w (Pi #[WF leaf,U3 (lc g) n c] 118)) (Pi #[WF false,U3 none 0 0] 118)) (Pi #[WF false,U3 none 0 0] 118)
 have G0:=xh<|((BG.alloc (Pi #[WF leaf,U3 (lc g) n c] 118)).alloc (Pi #[WF false,U3 none 0 0] 118)).alloc (Pi #[WF false,U3 none 0 0] 118);have E0:=xh<|((S.alloc (Pi #[WF leaf,U3 (lc g) n c] 118)).alloc (Pi #[WF false,U3 none 0 0] 118)).alloc (Pi #[WF false,U3 none 0 0] 118);clear BG S wM;unfold bQ;go_in
 have bx1:(((w.alloc (Pi #[WF leaf,U3 (lc g) n c] 118)).alloc (Pi #[WF false,U3 none 0 0] 118)).alloc (Pi #[WF false,U3 none 0 0] 118)).cell? ⟨w.heap.size,1,none⟩=some (U3 (lc g) n c):=B1.ap 1;go_wp2_with fail;generalize hW:(((w.alloc (Pi #[WF leaf,U3 (lc g) n c] 118)).alloc (Pi #[WF false,U3 none 0 0] 118)).alloc (Pi #[WF false,U3 none 0 0] 118))=W at *;clear hW
 go_call (Hn (w:=W) (some ⟨g,0,none⟩) n c l (bm.aL E0.o).2 ls ls) as r w1 ⟨rfl,bu⟩;have O1:=xh<|aE O0.o bu;have C1:=xh<|B1.o.below bu B1.o.lt;have C2:=xh<|B2.o.below bu B2.o.lt;have C3:=xh<|B3.o.below bu B3.o.lt;have G1:=xh<|G0.o.below bu G0.o.lt;have hwl:=C1.o.lt;have x1:w1.cell? ⟨w.heap.size,1,none⟩=some (U3 (lc g) n c):=C1.ap 1
 obtain⟨all,py⟩:∃all,aw l=all:=⟨_,rfl⟩;have HALL:=xh py;rw[py]at hb ⊢;have Td:min (1:Int) (n:Int)=1:=ls
 clear bu py bx1;go_wp2_with fail;go_quiet (fail);go_wp2_with fail;have x0:w1.cell? (lc w.heap.size)=some (WF leaf):=C1.ap 0
 go_loopw [5,6,7,8] (λbv av lv iv wr=> ∃(j t:Nat) (pz:Int),j+1<=n/\bv=U5 U6 pz/\av=U5 U6 (t:Nat)/\lv=U5 U6 (aw (l.take j):Nat)/\iv=U5 U6 ((j:Int)+1)/\Hid (uu l j t pz)/\i7 w1 wr) (λ_ _ _ iv _=>n-(intOf iv).toNat)
 case atStart=>exact⟨0,1,-1,ls,rfl,rfl,by simp[aw],rfl,xh (.inl ⟨rfl,rfl,rfl⟩),dC (Below.refl _ _) _⟩
 case round=>
  obtain⟨j,t,pz,hj,rfl,rfl,rfl,rfl,BI,O⟩:=hrel;have D1:=xh<|C1.o.below O C1.o.lt;have y1:wr.cell? ⟨w.heap.size,1,none⟩=some (U3 (lc g) n c):=D1.ap 1
  by_cases h:j+1<n
  .have he:=aQ (show j<l.length by rw[pD.o];omega);obtain⟨e,Tk⟩:∃e,l[j]'(by rw[pD.o];omega)=e:=⟨_,rfl⟩;rw[Tk]at he;have hs:=mL l j e he;have ht:=sK l (j+1);have hone:aw [e]=e.key.size+e.val.size+7:=by simp[aw]
   rw[HALL.o]at ht;have KB:=xh (λcc=>Hn (w:=wr) (some ⟨g,j*3,none⟩) 1 cc [e] (VF (G1.o.below O G1.o.lt) j e he) ls (by rw[hone];omega));have HRF:=g9 (lO l (j+1)=max ((aw (l.take (j+1)):Int)-((all:Int)-aw (l.take (j+1)))) ((all:Int)-aw (l.take (j+1))-aw (l.take (j+1)))) (by unfold lO;rw[HALL.o]);obtain⟨P,hP⟩:∃P,aw (l.take j)=P:=⟨_,rfl⟩;obtain⟨q,hq⟩:∃q,aw (l.take (j+1))=q:=⟨_,rfl⟩
   obtain⟨ce,hce⟩:∃ce,aw [e]=ce:=⟨_,rfl⟩;rw[hce]at KB hone;rw[hP,hq]at hs;rw[hq]at ht HRF;rw[hP];have HQ:=xh hq;have hqP:(P:Int)+(ce:Int)=(q:Int):=ls
   have s1:U6.wrap ((P:Int)+(ce:Int))=(q:Int):=by rw[hqP];exact d9
   have s2:U6.wrap ((all:Int)-(q:Int))=(all:Int)-(q:Int):=d9;have s3:U6.wrap ((q:Int)-((all:Int)-(q:Int)))=(q:Int)-((all:Int)-(q:Int)):=d9;have s4:U6.wrap ((all:Int)-(q:Int)-(q:Int))=(all:Int)-(q:Int)-(q:Int):=d9;have s5:U6.wrap (j:Int)=(j:Int):=d9;have s6:U6.wrap ((j:Int)+1-1)=(j:Int):=by rw[IM];exact s5
   have s7:U6.wrap ((j:Int)+1+1)=(j:Int)+1+1:=d9;have s8:(j:Int)+1<(n:Int):=ls
   have s9:(j:Int)<=(j:Int)+1:=ls
   have s10:(j:Int)+1<=(c:Int):=ls
   have s11:((j:Int)+1).toNat=j+1:=ls
   have s12:(0:Int)<=(j:Int)+1:=ls
   have OO:=xh O;clear he Tk hs hone hP hq hce O;go_wp2_with fail;go_call (KB.o _) as r w2 ⟨rfl,da⟩;have O2:=xh<|aE OO.o da;clear da;go_wp2_with fail
   all_goals
    have hRI:∀R:Int,R=(if((q:Int)-((all:Int)-q))<(all:Int)-q-q then(all:Int)-q-q else(q:Int)-((all:Int)-q))->R=lO l (j+1):=λR h=>by rw[h,HRF.o];split<;>omega
    refine⟨?_,by simp[intOf];omega⟩
    first
     |exact⟨j+1,t,pz,ls,rfl,rfl,by rw[HQ.o],by go_num,xh (Hs BI.o (hRI _ (by first|rfl|(split<;>omega))) (by first|assumption|omega) (by first|assumption|omega)),O2.o⟩
     |exact⟨j+1,j+1,_,ls,rfl,by go_num,by rw[HQ.o],by go_num,xh (Hr BI.o (hRI _ (by first|rfl|(split<;>omega))) (by first|(left;assumption)|(right;assumption)|omega)),O2.o⟩
  .obtain rfl:n=j+1:=ls
   have D2:=xh<|C2.o.below O C2.o.lt;have D3:=xh<|C3.o.below O C3.o.lt;have G2:=xh<|G1.o.below O G1.o.lt;have y0:wr.cell? (lc w.heap.size)=some (WF leaf):=D1.ap 0;have HBT:=xh (show zg l (j+1) t from by
    rcases BI.o with⟨rfl,_,_⟩|⟨_,hB,_⟩
    .omega
    .exact hB)
   have ht1:=HBT.o.1;have ht2:=HBT.o.2.1;have OO:=xh<|aE O1.o O;have s8:¬(j:Int)+1<((j+1:Nat):Int):=ls
   have t1:(t:Int)<=(c:Int):=ls
   have t2:(t:Int)<=((j+1:Nat):Int):=ls
   have t3:t<c:=ls
   have t4:¬t=c:=ls
   clear O;go_wp2_with fail;have t5:(t:Int)<=(j:Int)+1:=ls
   have t6:¬c=t:=ls
   have HK:=g9 (∀W',ah [w.heap.size+1,w.heap.size+1+1] wr W'->(W'.cell? (lc w.heap.size)=some (WF leaf)/\W'.cell? ⟨w.heap.size,1,none⟩=some (U3 (lc g) (j+1) c))) (λW' ho=>⟨(D1.o.only ho (by simp;omega)).ae (i:=0) rfl,(D1.o.only ho (by simp;omega)).ae (i:=1) rfl⟩)
   have HK0:=g9 (∀W',ah [] wr W'->(W'.cell? (lc w.heap.size)=some (WF leaf)/\W'.cell? ⟨w.heap.size,1,none⟩=some (U3 (lc g) (j+1) c))) (λW' ho=>HK.o W' (ho.mono (λx hx _=>eq hx lw)));have OD:=xh<|(ah.refl [] wr).drew;have GD:=xh<|G2.o.drew;have YS:=D2.o.lt;have hd3:=D3.o.lt
   have AP1:=xh (show ∀W' u,aM W' g u (aL l++rest).toArray->∃V1 k1 w2,eM prog 108 108 W' (U3 none 0 0) (U3 (lc g) t t)= .ok (U3 V1 t k1) w2/\bm w2 111 3 (U3 V1 t k1) t (aL (l.take t))/\ah [] W' w2/\(∀x∈ak (U3 V1 t k1),W'.heap.size<=x)from λW' u B=>by
    obtain⟨v,w2,e1,S,o,f⟩:=Ax (P:=prog) (l0:=[]) (bm.nil W' 111 3) B 0 t t (by rw[pD.o];omega) 108 108 (.agg #[U7 .empty,U7 .empty,U5 U6 0]) 40 underlying108 pm rfl (by unfold sh;omega) ls;rw[bV,dD,CB]at S;obtain⟨V1,k1,rfl⟩:=aI S;exact⟨V1,k1,w2,e1,S,o,λx hx=>(f x hx).elim (λh=>by simp[ak]at h) id⟩)
   have AP2:=xh (show ∀W' u,aM W' g u (aL l++rest).toArray->∃V1 k1 w2,eM prog 108 108 W' (U3 none 0 0) (U3 (some ⟨g,t*3,none⟩) (j+1-t) (c-t))= .ok (U3 V1 (j+1-t) k1) w2/\bm w2 111 3 (U3 V1 (j+1-t) k1) (j+1-t) (aL (l.drop t))/\ah [] W' w2/\(∀x∈ak (U3 V1 (j+1-t) k1),W'.heap.size<=x)from λW' u B=>by
    obtain⟨v,w2,e1,S,o,f⟩:=Ax (P:=prog) (l0:=[]) (bm.nil W' 111 3) B t (j+1-t) (c-t) (by rw[pD.o];omega) 108 108 (.agg #[U7 .empty,U7 .empty,U5 U6 0]) 40 underlying108 pm rfl (by unfold sh;omega) ls;rw[bV,dD,cR (by rw[ef,pD.o];exact ai _)]at S;obtain⟨V1,k1,rfl⟩:=aI S;exact⟨V1,k1,w2,e1,S,o,λx hx=>(f x hx).elim (λh=>by simp[ak]at h) id⟩)
   refine kw (λW'=>W'.cell? (lc w.heap.size)=some (WF leaf)/\W'.cell? ⟨w.heap.size,1,none⟩=some (U3 (lc g) (j+1) c)) (HK0.o _ OD.o) (λaC=>?_);refine dj [(0,53),(1,54),(2,55),(3,56),(4,57),(5,58),(6,59),(9,62),(10,63),(11,64),(12,65),(13,66),(14,67)] ?_
   iterate 13 refine bJ ?_
   refine dV 7 60 λK hK=>?_
   .obtain⟨Va,ka,w2,ea,Sa,oa,fa⟩:=AP1.o _ _ GD.o;have Oa:=xh<|OD.o.trans oa;obtain⟨Vb,kb,w3,eb,Sb,ob,fb⟩:=AP2.o _ _ (GD.o.only oa lw);have Ob:=xh<|Oa.o.trans ob;have E1:=xh ea;have E2:=xh eb;have Sa3:=Sa.only ob lw;have Fa:=g9 (∀x∈ak _,wr.heap.size<=x) fa;have Fb:=g9 (∀x∈ak _,wr.heap.size<=x) (λx hx=>aD oa.size (fb x hx));have D23:=D2.o.only Ob.o lw;have D33:=D3.o.only Ob.o lw
    clear ea eb;go_simp;rw[E1.o];go_simp;refine cq hK (HK0.o _ Oa.o) (λaC=>?_);refine dj [(8,61)] ?_
    iterate 1 refine bJ ?_
    refine dV 15 68 λK hK=>?_;go_simp;rw[E2.o];go_simp;refine cq hK (HK0.o _ Ob.o) (λaC=>?_);refine dj [(16,69)] ?_
    iterate 1 refine bJ ?_
    refine zpe ?_;have p0:w3.frozen? ⟨w.heap.size+1,0,none⟩=false:=D23.frozen 0 lw;have p1:w3.frozen? ⟨w.heap.size+1,1,none⟩=false:=D23.frozen 1 lw;have p2:w3.cell? ⟨w.heap.size+1,0,none⟩=some (WF false):=D23.bi 0;have p3:w3.cell? ⟨w.heap.size+1,1,none⟩=some (U3 none 0 0):=D23.bi 1;have r0:w3.frozen? ⟨w.heap.size+1+1,0,none⟩=false:=D33.frozen 0 lw;have r1:w3.frozen? ⟨w.heap.size+1+1,1,none⟩=false:=D33.frozen 1 lw
    have r2:w3.cell? ⟨w.heap.size+1+1,0,none⟩=some (WF false):=D33.bi 0;have r3:w3.cell? ⟨w.heap.size+1+1,1,none⟩=some (U3 none 0 0):=D33.bi 1;have OX1:=xh<|((Ob.o.mono (S':=[w.heap.size+1,w.heap.size+1+1]) (λx hx _=>eq hx lw)).setCell (p:=⟨w.heap.size+1,0,none⟩) (λ_=>by simp) (WF leaf)).setCell (p:=⟨w.heap.size+1,1,none⟩) (λ_=>by simp) (U3 Va t ka)
    have OX2:=xh<|(OX1.o.setCell (p:=⟨w.heap.size+1+1,0,none⟩) (λ_=>by simp) (WF leaf)).setCell (p:=⟨w.heap.size+1+1,1,none⟩) (λ_=>by simp) (U3 Vb (j+1-t) kb);have BX2:=xh<|(((D23.ct 0 (WF leaf)).ct 1 (U3 Va t ka)).bh (p:=⟨w.heap.size+1+1,0,none⟩) lw (WF leaf)).bh (p:=⟨w.heap.size+1+1,1,none⟩) lw (U3 Vb (j+1-t) kb)
    have BX3:=xh<|(((D33.bh (p:=⟨w.heap.size+1,0,none⟩) lw (WF leaf)).bh (p:=⟨w.heap.size+1,1,none⟩) lw (U3 Va t ka)).ct 0 (WF leaf)).ct 1 (U3 Vb (j+1-t) kb)
    have OS:=xh<|(((((ah.refl [w.heap.size+1,w.heap.size+1+1] w3).setCell (p:=⟨w.heap.size+1,0,none⟩) (λ_=>by simp) (WF leaf)).setCell (p:=⟨w.heap.size+1,1,none⟩) (λ_=>by simp) (U3 Va t ka)).setCell (p:=⟨w.heap.size+1+1,0,none⟩) (λ_=>by simp) (WF leaf)).setCell (p:=⟨w.heap.size+1+1,1,none⟩) (λ_=>by simp) (U3 Vb (j+1-t) kb));have SX1:=xh<|Sa3.only OS.o (λx hx=>by have:=Fa.o x hx;simp;omega)
    have SX2:=xh<|Sb.only OS.o (λx hx=>by have:=Fb.o x hx;simp;omega);have OB:=xh<|OO.o.trans (OX2.o.bI OO.o.size (λx hx=>by simp at hx;omega));clear Sa Sb Sa3 oa ob fa fb D23 D33;refine pF 17 λK hK=>?_;go_simp;refine cq hK (HK.o _ OX1.o) (λaC=>?_);refine pF 18 λK hK=>?_;go_simp;refine cq hK (HK.o _ OX2.o) (λaC=>?_);refine jp ?_ _;go_wp2
    exact bodyPost_ret (QT rfl rfl rfl BX2.o BX3.o) rfl ⟨⟨t,_,_,_,_,rfl,HBT.o,SX1.o,SX2.o,λx hx=>aD OO.o.size (Fb.o x hx)⟩,OB.o⟩
end
section
open Go.RowKit Sl Go.Deep Go.ChangeShapes Go.WideShapes
def cost(e:E):Nat:=e.key.size+e.val.size+7
def Gr(l m:List E):aw (l++m)=aw l+aw m:=by simp[aw]
def Ay(l:List E)(t:Nat):aw l=aw (l.take t)+aw (l.drop t):=by rw[<-Gr,mo]
def Et(leaf:Bool)(l:List E):kF (jN leaf l)=223-(aw l:Int):=by
 unfold kF jN aw;have h:∀l:List E,((l.map sL).map λr=>4+r.length).sum=(l.map λe=>e.key.size+e.val.size+7).sum:=by
  intro l
  induction l with
  |nil=>rfl
  |cons e l ih=>simp only[iA,mi,ih,sM];omega
 have hk:(Ho leaf).length=1:=by unfold Ho;split<;>rfl
 rw[iA,mi,h,hk];omega
def Ht(l:List E)(hc:∀e∈l,cost e<=79)(hn:2<=l.length):∃i,1<=i/\i<l.length/\lO l i<=79:=by
 have step:∀k,k+1<l.length->(∃i,1<=i/\i<l.length/\lO l i<=79)\/2*aw (l.take (k+1))<aw l:=by
  intro k
  induction k with
  |zero=>
   intro hk
   by_cases h:2*aw (l.take 1)<aw l
   .exact .inr h
   .refine .inl ⟨1,by omega,by omega,?_⟩;have he:=aQ (show 0<l.length by omega);have hs:=mL l 0 _ he;have hx:=hc _ (jR (show 0<l.length by omega));unfold cost at hx;have ht:=sK l 1;rw[jK]at hs;have h0:aw ([]:List E)=0:=rfl;rw[bV]at hs;unfold lO;omega
  |succ k ih=>
   intro hk
   rcases ih (by omega)with h|h
   .exact .inl h
   .by_cases h2:2*aw (l.take (k+1+1))<aw l
    .exact .inr h2
    .have he:=aQ (show k+1<l.length by omega);have hs:=mL l (k+1) _ he;have hx:=hc _ (jR (show k+1<l.length by omega));unfold cost at hx
     by_cases h3:2*aw (l.take (k+1+1))<=aw l+79
     .refine .inl ⟨k+1+1,by omega,by omega,?_⟩;unfold lO;omega
     .refine .inl ⟨k+1,by omega,by omega,?_⟩;unfold lO;omega
 rcases step (l.length-2) (by omega)with h|h
 .exact h
 .refine⟨l.length-1,by omega,by omega,?_⟩;rw[show l.length-2+1=l.length-1 by omega]at h;have he:=aQ (show l.length-1<l.length by omega);have hs:=mL l (l.length-1) _ he;have hx:=hc _ (jR (show l.length-1<l.length by omega));unfold cost at hx;rw[show l.length-1+1=l.length by omega,ig]at hs;unfold lO;omega
def VG(hc:∀e∈l,cost e<=79)(hn:2<=l.length)(hb:aw l<=302)(h:zg l l.length t):aw (l.take t)<=223/\aw (l.drop t)<=223:=by
 obtain⟨i,h1,h2,h3⟩:=Ht l hc hn;have h4:=h.2.2.1 i h1 h2;have h5:=Ay l t;unfold lO at h3 h4;omega
end
def QX(a b:Nm)(w:BY):
  io prog 161 #[U7 a,U7 b] w λe w'=>e=fd (U5 U6 (Lib.compareBytes a.data.toList b.data.toList))/\i7 w w':=by
 go_in;go_wp2_with fail;rw[run_callFunc_extern func205 pm pm pm (e:=Extern.BytealgCompare.compare) pm,Lib.run_compareString];simp only[Result.andThen];rw[Oper.upon_value]
 go_wp2
 go_ret;exact⟨rfl,Below.refl _ _⟩
def Mz(a b:Nm)(w:BY):
  io prog 115 #[U7 a,U7 b] w λe w'=>e=fd (U5 U6 (Lib.compareBytes a.data.toList b.data.toList))/\i7 w w':=by
 have K:=xh<|QX a b w;go_in;go_wp2_with fail;go_call K.o as e w1 ⟨rfl,hb⟩;have HB:=xh hb;go_wp2;go_ret;exact⟨rfl,HB.o⟩
def ub(e:E)(k:Nm)(w:BY):
  io prog 114 #[e.agg,U7 k] w λr w'=>r=fd (U5 U6 (Lib.compareBytes e.key.data.toList k.data.toList))/\i7 w w':=by
 have O0:=xh<|(i5 w).alloc (ai _) (Pi #[U7 e.key,U7 e.val,e.bh] 111);have B0:=aM.new w 111 #[U7 e.key,U7 e.val,e.bh];have c0:=B0.bi 0;have K:=xh (λw=>Mz e.key k w);clear B0;unfold E.agg;go_in;go_wp2_with fail;go_call (K.o _) as e w1 ⟨rfl,hb⟩;have HB:=xh<|aE O0.o hb;clear hb;go_wp2;go_ret;exact⟨rfl,HB.o⟩
def uS(e:E)(k:Nm):Int:=Lib.compareBytes e.key.data.toList k.data.toList
def uv(l:List E)(key:Nm)(k:Nat):Prop:=k<=l.length/\(∀e,0<k->l[k-1]?=some e->uS e key<0)/\(∀e,l[k]?=some e->0<=uS e key)
def Hu(l:List E)(key:Nm)(k:Nat):Prop:= ∃e,l[k]?=some e/\uS e key=0
def MA{w:BY}(A:Option Addr)(n c:Nat)(l:List E)(key:Nm)(h:rG w A n l)(hn:n<=1000000):
  io prog 113 #[U3 A n c,U7 key,.func (Fn.func 114) #[] #[]] w λr w'=>(∃k b,r=fd (rg #[(k:Nat),WF b])/\uv l key k/\(b=true↔Hu l key k))/\i7 w w':=by
 have hl:=xh h.1;have H0:=xh h;clear h;go_in;go_wp2_with fail
 go_loopw [9,10] (λiv jv wr=> ∃i j:Nat,i<=j/\j<=n/\iv=U5 U6 i/\jv=U5 U6 j/\Hid (∀e,0<i->l[i-1]?=some e->uS e key<0)/\Hid (∀e,l[j]?=some e->0<=uS e key)/\i7 w wr) (λiv jv _=>(intOf jv).toNat-(intOf iv).toNat)
 case atStart=>exact⟨0,n,bG _,ai _,rfl,rfl,xh (λe h=>eq h (Bu _)),xh (λe h=>by have:=(aW.1 h).1;have:=hl.o;omega),Below.refl _ _⟩
 case round=>
  obtain⟨i,j,hij,hj,rfl,rfl,LO,HI,hb⟩:=hrel
  by_cases h:i<j
  .obtain⟨m,hm⟩:∃m,(i+j) / 2=m:=⟨_,rfl⟩;have hmj:m<j:=ls
   have hmi:i<=m:=ls
   have hmI:((i:Int)+(j:Int)) / 2=(m:Int):=ls
   obtain⟨ad,e,rfl,he,AT⟩:=(H0.o.below hb).at m ls;have HB:=xh hb;have a0:=AT.c0;have a1:=AT.c1;have a2:=AT.c2;have e1:U6.wrap ((i:Int)+(j:Int))=(i:Int)+(j:Int):=d9;have e2:IntKind.u64.wrap ((i:Int)+(j:Int))=(i:Int)+(j:Int):=gc;have e3:U6.wrap (m:Int)=(m:Int):=d9;have hmn:m<n:=ls
   have KF:=xh<|ub e key wr;have HE:=xh he;unfold E.agg at KF;clear AT hb he;obtain⟨q,hq⟩:∃q,Lib.compareBytes e.key.pu key.pu=q:=⟨_,rfl⟩;have HQ:=g9 (uS e key=q) hq;rw[hq]at KF;clear hq;go_wp2_with fail;go_call KF.o as r w1 ⟨rfl,bu⟩;have Jr:=xh<|aE HB.o bu;clear bu
   by_cases hq:q<0
   .have HLO:=xh (show ∀x,0<m+1->l[m+1-1]?=some x->uS x key<0 from λx _ hx=>by
     rw[qx,HE.o]at hx;injection hx with hx
     rw[<-hx,HQ.o];exact hq)
    go_wp2;go_roundw
    case rel=>exact⟨m+1,j,ls,hj,by go_num,rfl,HLO,HI,Jr.o⟩
    case measure=>simp[intOf];omega
   .have HHI:=xh (show ∀x,l[m]?=some x->0<=uS x key from λx hx=>by
     rw[HE.o]at hx;injection hx with hx
     rw[<-hx,HQ.o];omega)
    go_wp2;go_roundw
    case rel=>exact⟨i,m,hmi,ls,rfl,rfl,LO,HHI,Jr.o⟩
    case measure=>simp[intOf];omega
  .obtain rfl:i=j:=ls
   have HB:=xh hb;have yf:=g9 (uv l key i) ⟨by have:=hl.o;omega,LO.o,HI.o⟩
   by_cases pI:i<n
   .obtain⟨ad,e,rfl,he,AT⟩:=(H0.o.below hb).at i pI;have a0:=AT.c0;have a1:=AT.c1;have a2:=AT.c2;have KF:=xh<|ub e key wr;have HE:=xh he;unfold E.agg at KF;clear AT hb he;obtain⟨q,hq⟩:∃q,Lib.compareBytes e.key.pu key.pu=q:=⟨_,rfl⟩;have HQ:=g9 (uS e key=q) hq;rw[hq]at KF;clear hq;have HI2:(i:Int)<(n:Int):=ls
    go_wp2_with fail;go_call KF.o as r w1 ⟨rfl,bu⟩;have Jr:=xh<|aE HB.o bu;clear bu
    by_cases hq:q=0
    .subst hq;go_wp2;go_ret2;exact⟨⟨i,true,rfl,yf.o,by simp only[true_iff];exact⟨e,HE.o,HQ.o⟩⟩,Jr.o⟩
    .go_wp2;go_ret2;refine⟨⟨i,false,by simp[hq],yf.o,?_⟩,Jr.o⟩;simp only[oH,false_iff];rintro⟨x,hx,h0⟩;rw[HE.o]at hx;injection hx with hx
     subst hx;exact hq (HQ.o.symm.trans h0)
   .have hin2:¬(i:Int)<(n:Int):=ls
    clear hb;go_wp2;go_ret2;refine⟨⟨i,.inl ⟨rfl,yf.o,?_⟩⟩,HB.o⟩;rintro⟨x,hx,h0⟩;have:=(aW.1 hx).1;have:=hl.o;omega
variable{w:BY}
def jV(leaf:Bool)(A:Option Addr)(n c:Nat)(l:List E)(key:Nm)(h:rG w A n l)(hn:n<=1000000):
  io prog 64 #[bQ leaf A n c,U7 key] w λr w'=>(∃k b,r=fd (rg #[(k:Nat),WF b])/\uv l key k/\(b=true↔Hu l key k))/\i7 w w':=by
 have O0:=(i5 w).alloc (ai _) (Pi #[WF leaf,U3 A n c] 118);have B0:=aM.new w 118 #[WF leaf,U3 A n c];have c1:(w.alloc (Pi #[WF leaf,U3 A n c] 118)).cell? ⟨w.heap.size,1,none⟩=some (U3 A n c):=B0.bi 1;have K:=xh<|MA (w:=w.alloc (Pi #[WF leaf,U3 A n c] 118)) A n c l key (h.below O0) hn;have O0:=xh O0;clear h B0;unfold bQ;go_in;go_wp2_with fail
 go_call K.o as r w1 ⟨⟨k,b,rfl,hp,hh⟩,bu⟩;have HP:=xh hp;have HH:=xh hh;have O1:=xh<|aE O0.o bu;clear hp hh bu;go_wp2;go_ret2;exact⟨⟨k,b,rfl,HP.o,HH.o⟩,O1.o⟩
def VH(leaf:Bool)(A:Option Addr)(n c:Nat)(l:List E)(key:Nm)(h:rG w A n l)(hn:n<=1000000):
  io prog 110 #[bQ leaf A n c,U7 key] w λr w'=>(∃m:Nat,r=fd (m:Nat)/\∃k,uv l key k/\((Hu l key k/\m=k)\/(¬Hu l key k/\m=k-1)))/\i7 w w':=by
 have O0:=(i5 w).alloc (ai _) (Pi #[WF leaf,U3 A n c] 118);have B0:=aM.new w 118 #[WF leaf,U3 A n c];have c0:(w.alloc (Pi #[WF leaf,U3 A n c] 118)).cell? (lc w.heap.size)=some (WF leaf):=B0.bi 0;have c1:(w.alloc (Pi #[WF leaf,U3 A n c] 118)).cell? ⟨w.heap.size,1,none⟩=some (U3 A n c):=B0.bi 1
 have K:=xh<|jV (w:=w.alloc (Pi #[WF leaf,U3 A n c] 118)) leaf A n c l key (h.below O0) hn;have O0:=xh O0;have HL:=xh h.1;clear h B0;unfold bQ at *;go_in;go_wp2_with fail;go_call K.o as r w1 ⟨⟨k,b,rfl,hp,hh⟩,bu⟩;have HP:=xh hp;have HH:=xh hh;have O1:=xh<|aE O0.o bu;have hk:k<=1000000:=by have:=hp.1;have:=HL.o;omega
 clear hp hh bu
 cases b
 .rcases(show k=0\/∃j,k=j+1 from by cases k;exact .inl rfl;exact .inr ⟨_,rfl⟩)with rfl|⟨j,rfl⟩
  .go_wp2;go_ret;exact⟨⟨0,rfl,0,HP.o,.inr ⟨λhx=>eq (HH.o.2 hx) ms,rfl⟩⟩,O1.o⟩
  .have e1:U6.wrap ((j:Int)+1-1)=(j:Int):=by rw[IM];exact d9
   have e2:U6.wrap (j:Int)=(j:Int):=d9;have e3:max (j:Int) 0=(j:Int):=ls
   have e4:¬(j:Int)<0:=ls
   go_wp2;go_ret;refine⟨⟨j,?_,j+1,HP.o,.inr ⟨λhx=>eq (HH.o.2 hx) ms,rfl⟩⟩,O1.o⟩
   first|rfl|simp[e3]
 .have e3:max (k:Int) 0=(k:Int):=ls
  have e4:¬(k:Int)<0:=ls
  go_wp2;go_ret;refine⟨⟨k,?_,k,HP.o,.inl ⟨HH.o.1 (by trivial),rfl⟩⟩,O1.o⟩
  first|rfl|simp[e3]
attribute [local go_sem ↓] bP
end Nd
namespace Nd
open Go.RowKit Sl Go.Deep Go.ChangeShapes Go.WideShapes
instance:Inhabited E:=⟨⟨.empty,.empty,0⟩⟩
open Go.RowKit Sl
variable{l:List E}{leaf:Bool}
abbrev cb:=Lib.compareBytes
def qY(a:UInt8)(x:UV)(b:UInt8)(y:UV):cb (a::x) (b::y)=if a<b then -1 else if b<a then 1 else cb x y:=rfl
def TC{a b:UInt8}(h1:¬a<b)(h2:¬b<a):a=b:=by
 rw[Bz]at h1 h2;exact UInt8.toNat_inj.1 ls
def Zt:∀(x y:UV),cb x y=0↔x=y
 |[],[]=>by simp[cb,Lib.compareBytes]
 |[],_::_=>by simp[cb,Lib.compareBytes]
 |_::_,[]=>by simp[cb,Lib.compareBytes]
 |a::x,b::y=>by
  rw[qY]
  by_cases h1:a<b
  .rw[U8 h1];have:a≠b:=λe=>by subst e;exact eq h1 (by rw[Bz];omega)
   simp[this]
  .rw[U9 h1]
   by_cases h2:b<a
   .rw[U8 h2];have:a≠b:=λe=>by subst e;exact h1 h2
    simp[this]
   .rw[U9 h2,Zt x y,TC h1 h2];simp
def JM:∀(x y:UV),cb y x= -cb x y
 |[],[]=>rfl
 |[],_::_=>rfl
 |_::_,[]=>rfl
 |a::x,b::y=>by
  rw[qY,qY]
  by_cases h1:a<b
  .have h2:¬b<a:=by rw[Bz]at *;omega
   rw[U8 h1,U9 h2,U8 h1];rfl
  .rw[U9 h1,U9 h1]
   by_cases h2:b<a
   .rw[U8 h2,U8 h2]
   .rw[U9 h2,U9 h2];exact JM x y
def sP:∀(x y z:UV),cb x y<0->cb y z<0->cb x z<0
 |[],[],_=>λh _=>eq h ms
 |[],_::_,[]=>λ_ h=>eq h (by simp[cb,Lib.compareBytes])
 |[],_::_,_::_=>λ_ _=>by simp[cb,Lib.compareBytes]
 |_::_,[],_=>λh _=>eq h (by simp[cb,Lib.compareBytes])
 |_::_,_::_,[]=>λ_ h=>eq h (by simp[cb,Lib.compareBytes])
 |a::x,b::y,c::z=>by
  rw[qY,qY,qY];intro h1 h2
  by_cases p1:a<b
  .by_cases p2:b<c
   .rw[U8 (by rw[Bz]at *;omega)];decide
   .rw[U9 p2]at h2
    by_cases p3:c<b
    .rw[U8 p3]at h2;exact eq h2 ms
    .obtain rfl:=TC p2 p3;rw[U8 p1];decide
  .rw[U9 p1]at h1
   by_cases p4:b<a
   .rw[U8 p4]at h1;exact eq h1 ms
   .rw[U9 p4]at h1;obtain rfl:=TC p1 p4
    by_cases p2:a<c
    .rw[U8 p2];decide
    .rw[U9 p2]at h2 ⊢
     by_cases p3:c<a
     .rw[U8 p3]at h2;exact eq h2 ms
     .rw[U9 p3]at h2 ⊢;exact sP x y z h1 h2
def TD:∀(x y:UV),Op.bytesLess x y=decide (cb x y<0)
 |[],[]=>by simp[Op.bytesLess,cb,Lib.compareBytes]
 |[],_::_=>by simp[Op.bytesLess,cb,Lib.compareBytes]
 |_::_,[]=>by simp[Op.bytesLess,cb,Lib.compareBytes]
 |a::x,b::y=>by
  rw[qY,Op.bytesLess]
  by_cases h1:a<b
  .simp[h1]
  .by_cases h2:b<a
   .have h3:¬a=b:=λe=>by subst e;exact h1 h2
    simp[h1,h2,h3]
   .have h3:=TC h1 h2;subst h3;simp[h1,TD x y]
def Zu(a b:Nm):leB a b=decide (cb a.data.toList b.data.toList<=0):=by
 unfold leB;rw[cM,cM,TD];have h:=Zt a.data.toList b.data.toList
 by_cases h1:cb a.data.toList b.data.toList<0
 .rw[ww h1,ww (by omega)];rfl
 .rw[wn h1]
  by_cases h2:a.data.toList=b.data.toList
  .rw[ww (by rw[h.2 h2];omega),h2];simp
  .rw[wn (by
    have:cb a.data.toList b.data.toList≠0:=λe=>h2 (h.1 e);omega)]
   simpa using h2
def MB(hm:dm l leaf){i:Nat}{p e:E}(hp:l[i]?=some p)(he:l[i+1]?=some e):cb p.key.data.toList e.key.data.toList<0:=by
 have h:=(hm (i+1) (aW.1 he).1 e he).2 (by omega) p (by rw[qx];exact hp);rw[Zu,decide_eq_false_iff_not]at h;have:=JM p.key.data.toList e.key.data.toList;omega
def QY(hm:dm l leaf)(i d:Nat):∀{p e:E},l[i]?=some p->l[i+1+d]?=some e->cb p.key.data.toList e.key.data.toList<0:=by
 induction d with
 |zero=>intro p e hp he;exact MB hm hp he
 |succ d ih=>
  intro p e hp he;have dP:=(aW.1 he).1;have hq:=aQ (show i+1+d<l.length by omega);exact sP _ _ _ (ih hp hq) (MB hm hq (by rw[show i+1+d+1=i+1+(d+1) by omega];exact he))
def QZ{key:Nm}{p:Nat}(hm:dm l leaf)(h:uv l key p)(j:Nat)(e:E)(he:l[j]?=some e):uS e key<0↔j<p:=by
 constructor
 .intro hc
  rcases fo j p with h1|h1
  .exact h1
  .exfalso
   rcases Nat.lt_or_eq_of_le h1 with h2|rfl
   .have hq:=aQ (show p<l.length by have:=(aW.1 he).1;omega);have h3:=h.2.2 _ hq;have h4:=QY hm p (j-p-1) hq (by rw[show p+1+(j-p-1)=j by omega];exact he);have h5:=sP _ _ _ h4 hc;unfold uS at h3;exact eq h5 (by unfold cb;omega)
   .have:=h.2.2 _ he;omega
 .intro hj;have hp:=h.1;have hq:=aQ (show p-1<l.length by omega);have h3:=h.2.1 _ ls hq
  rcases fo j (p-1)with h1|h1
  .have h4:=QY hm j (p-1-j-1) he (by rw[show j+1+(p-1-j-1)=p-1 by omega];exact hq);exact sP _ _ _ h4 h3
  .obtain rfl:j=p-1:=ls
   rw[he]at hq;injection hq with hq
   rw[hq];exact h3
variable{leaf:Bool}{l:List E}{key:Nm}{k:Nat}{w:BY}
def mayB(l:List E)(leaf:Bool):Bool:=(List.range l.length).all λi=>match l[i]? with
 |none=>true
 |some e=>decide (eh e leaf) && (decide (i=0) || match l[i-1]? with
  |none=>true
  |some p=> !leB e.key p.key)
def mN(l:List E)(leaf:Bool):mayB l leaf=true↔dm l leaf:=by
 unfold mayB dm okAt;rw[rL];refine⟨λh i hi e he=>?_,λh i hi=>?_⟩
 .have:=h i (mf.2 hi);rw[he]at this;simp only[jI,decide_eq_true_eq,zW]at this;refine⟨this.1,λh0 p hp=>?_⟩;have h2:=this.2.resolve_left ls;rw[hp]at h2;simpa using h2
 .have hi:=mf.1 hi;have he:=aQ hi;obtain⟨a,b⟩:=h i hi _ he;rw[he];simp only[jI,decide_eq_true_eq,zW];refine⟨a,?_⟩
  by_cases h0:i=0
  .exact .inl h0
  .right;have hp:=aQ (show i-1<l.length by omega);rw[hp];simpa using b ls _ hp
def Zv(rs:List (UV)):Bool:=(decide (rs.head?=some [1]) || decide (rs.head?=some [2])) && (rs.tail.all (λr=>decide (3+oh ⟨r.toArray⟩<=r.length)) && mayB (pW rs) (xG rs))
def uw(rs:List (UV)):Zv rs=true↔mU rs:=by
 unfold Zv mU lK;simp only[jI,zW,decide_eq_true_eq,rL,mN];refine and_congr_right λ_=>and_congr_left λ_=>?_;have:∀r:UV,(⟨r.toArray⟩:Nm).size=r.length:=λr=>by show r.toArray.size=_;simp
 simp only[this]
def aJ(b:UV):Bool×List E×Int:=
 if bH b≠0 then(false,[],bH b)else if Zv (dI b)=true then(xG (dI b),pW (dI b),0)else(false,[],14)
def aP(leaf:Bool)(l:List E):UV×Int:=
 if mayB l leaf=true then(if 0<=kF (jN leaf l)then(ofL (jN leaf l),0)else([],11))else([],2)
def Eu(l:List (UV))(h:0<=kF l):∀k,k<=l.length->Sound (Mv l k)/\dI (Mv l k)=l.take k
 |0,_=>⟨sG.1,by rw[jK];exact sG.2.1⟩
 |k+1,hk=>by
  obtain⟨s,r⟩:=Eu l h k ls;have e:l.getD k []=l[k]:=by rw[jG,aQ ls];rfl
  have h1:=Ei l k ls;have h2:=Ej l (k+1);obtain⟨_,a,b⟩:=Tz s k l[k] (by rw[r];omega) (by rw[r,bY];omega);unfold Mv;rw[e];refine⟨a,?_⟩;rw[b,r,ij ls,cR (by rw[bY];omega),lT (by rw[bY];omega)]
def zi(l:List (UV))(h:0<=kF l):Sound (ofL l)/\dI (ofL l)=l:=by
 have:=Eu l h l.length (ai _);rw[ig]at this;exact this
def Az(leaf:Bool)(l:List E):(aP leaf l).1.length<=232:=by
 unfold aP
 split
 .split
  .rename_i h;exact Bt (zi _ h).1.len
  .exact bG _
 .exact bG _
def MD(b:UV):(aJ b).2.1.length<=57:=by
 unfold aJ
 split
 .exact bG _
 .rename_i h
  split
  .have hs:Sound b:=(gr b).1 (by simpa using h);have h1:=hs.head;have h2:=hs.heap;show(pW (dI b)).length<=57;unfold pW;rw[eZ,List.length_tail,ez];omega
  .exact bG _
def AA{b:UV}(h:(aJ b).2.2=0):dm (aJ b).2.1 (aJ b).1:=by
 unfold aJ at h ⊢
 split at h
 .rename_i h2;exact eq h h2
 .rename_i h2;rw[U9 h2]
  split at h
  .rename_i h3;rw[U8 h3];exact((uw _).1 h3).2.2
  .exact eq h ms
def ME(h:(aP leaf l).2=0):aJ (aP leaf l).1=(leaf,l,0):=by
 unfold aP at h ⊢
 split at h
 .rename_i hm;rw[U8 hm]
  split at h
  .rename_i hr;rw[U8 hr];obtain⟨s,r⟩:=zi _ hr;have Lk:=(mN _ _).1 hm;unfold aJ;rw[U9 (by rw[(gr _).2 s];simp),r,U8 ((uw _).2 (My Lk)),Es,Er Lk]
  .exact eq h ms
 .exact eq h ms
def aY(l:List E)(key:Nm):Nat:=l.findIdx λe=>decide (0<=uS e key)
def cg(l:List E)(key:Nm):Bool:=match l[aY l key]? with
 |none=>false
 |some e=>decide (uS e key=0)
def bw(l:List E)(key:Nm):Nat:=if cg l key=true then aY l key else aY l key-1
def aZ(l:List E):Nat:=((List.range l.length).find? λt=>decide (1<=t) && (List.range l.length).all λj=>decide (j=0) || decide (lO l t<=lO l j)).getD 1
def TE{t:Nat}(h:zg l l.length t):aZ l=t:=by
 obtain⟨h1,h2,h3,h4⟩:=h;unfold aZ;have:(List.range l.length).find? (λt=>decide (1<=t) && (List.range l.length).all λj=>decide (j=0) || decide (lO l t<=lO l j))=some t:=by
  rw[List.find?_eq_some_iff_append];refine⟨?_,List.range t,(List.range (l.length-t-1)).map (· +(t+1)),?_,λa ha=>?_⟩
  .simp only[jI,decide_eq_true_eq,rL,zW,mf];exact⟨h1,λj hj=>by
    by_cases h0:j=0
    .exact .inl h0
    .exact .inr (h3 j ls hj)⟩
  .apply vq
   .simp;omega
   .intro i hi1 Ti;rw[yr,List.getElem_append];simp only[List.length_range]
    split
    .rw[yr]
    .rename_i hi;rw[List.getElem_cons]
     split
     .omega
     .simp;omega
  .have ha:=mf.1 ha
   by_cases h0:a=0
   .subst h0;simp
   .have:=h4 a ls ha;simp only[Bool.not_eq_true',Bool.and_eq_false_iff];right;rw[Bool.eq_false_iff];intro hc;rw[rL]at hc;have:=hc t (mf.2 h2);simp only[zW,decide_eq_true_eq]at this;omega
 rw[this];rfl
def Ew(hm:dm l leaf)(h:uv l key k):aY l key=k:=by
 unfold aY;obtain⟨h1,h2,h3⟩:=h;have hp:=QZ hm ⟨h1,h2,h3⟩
 rcases fo k l.length with hk|hk
 .have XL:=aQ hk;rw[List.findIdx_eq hk];refine⟨by simpa using h3 _ XL,λj hj=>?_⟩;have:=(hp j _ (aQ ls)).2 hj;simpa using this
 .obtain rfl:k=l.length:=ls
  rw[List.findIdx_eq_length];intro e he;obtain⟨j,hj,rfl⟩:=qu he;have:=(hp j _ (aQ hj)).2 hj;simpa using this
def zj(h:aY l key=k):cg l key=true↔Hu l key k:=by
 unfold cg Hu;rw[h]
 cases l[k]? with
 |none=>simp
 |some e=>simp
section
open Go.RowKit
def Zw(s:Nm)(w:BY)(hs:s.size<=1000000):
  io prog 122 #[U7 s] w λe w'=> ∃A c,e=fd (rg #[bQ (aJ s.data.toList).1 A (aJ s.data.toList).2.1.length c,U5 U6 (aJ s.data.toList).2.2])/\
   bm w' 111 3 (U3 A (aJ s.data.toList).2.1.length c) (aJ s.data.toList).2.1.length (aL (aJ s.data.toList).2.1)/\(∀g∈ak (U3 A (aJ s.data.toList).2.1.length c),w.heap.size<=g)/\i7 w w':=by
 refine(got_any s w hs).mono ?_;unfold aJ;rintro e w' (⟨h1,rfl,hb⟩|⟨h1,h2,hb⟩)
 .rw[U8 h1];exact⟨none,0,rfl,bm.nil _ _ _,by simp[ak],hb⟩
 .rw[U9 (by simpa using h1)]
  rcases h2 with⟨h2,rfl⟩|⟨h2,A,n,c,rfl,S,f⟩
  .rw[U9 (λh=>h2 ((uw _).1 h))];exact⟨none,0,rfl,bm.nil _ _ _,by simp[ak],hb⟩
  .rw[U8 ((uw _).2 h2)];have hn:=S.1;rw[aA]at hn;obtain rfl:(pW (dI s.data.toList)).length=n:=by omega
   exact⟨A,c,rfl,S,f.o,hb⟩
def Ex(leaf:Bool)(A:Option Addr)(n c:Nat)(l:List E)(h:rG w A n l)(hn:n<=1000):
  io prog 68 #[bQ leaf A n c] w λe w'=>e=fd (rg #[U7 ⟨(aP leaf l).1.toArray⟩,U5 U6 (aP leaf l).2])/\i7 w w':=by
 unfold aP
 by_cases hm:dm l leaf
 .rw[U8 ((mN _ _).2 hm)];go_call (put_yes leaf A n c l h hn hm) as e w' ⟨h1|h1,hb⟩
  .obtain⟨h0,b,rfl,_,_,he⟩:=h1;rw[U8 h0];refine⟨?_,hb⟩;rw[show(⟨(ofL (jN leaf l)).toArray⟩:Nm)=b by rw[<-he]]
  .obtain⟨h0,rfl⟩:=h1;rw[ge];exact⟨rfl,hb⟩
 .rw[U9 (λh=>hm ((mN _ _).1 h))];exact put_no leaf A n c l h ls hm
def zm(leaf:Bool)(A:Option Addr)(n c:Nat)(l:List E)(key:Nm)(h:rG w A n l)(hn:n<=1000000)(hm:dm l leaf):
  io prog 64 #[bQ leaf A n c,U7 key] w λr w'=>r=fd (rg #[(aY l key:Nat),WF (cg l key)])/\i7 w w':=by
 go_call (jV leaf A n c l key h hn) as e w' ⟨⟨k,b,rfl,h1,h2⟩,hb⟩;have hk:=Ew hm h1;refine⟨?_,hb⟩;rw[hk];have:cg l key=b:=by
  rw[Bool.eq_iff_iff,zj hk,h2]
 rw[this]
def Ey(leaf:Bool)(A:Option Addr)(n c:Nat)(l:List E)(key:Nm)(h:rG w A n l)(hn:n<=1000000)(hm:dm l leaf):
  io prog 110 #[bQ leaf A n c,U7 key] w λr w'=>r=fd (bw l key:Nat)/\i7 w w':=by
 go_call (VH leaf A n c l key h hn) as e w' ⟨⟨m,rfl,k,h1,h2⟩,hb⟩;have hk:=Ew hm h1;refine⟨?_,hb⟩;unfold bw;rw[hk]
 rcases h2 with⟨h2,rfl⟩|⟨h2,rfl⟩
 .rw[U8 ((zj hk).2 h2)]
 .rw[U9 (λh=>h2 ((zj hk).1 h))]
end
end Nd
end Go.Proofs.YtmonobkginiajaaGreat
