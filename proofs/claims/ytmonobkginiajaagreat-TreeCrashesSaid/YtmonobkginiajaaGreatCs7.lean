/- packed. -/
import Derived.IntWalk
import Derived.Deep.Slices
import Derived.Deep.Grids
import Derived.Lib.SmallJoins
import Derived.Deep.Cut
import Derived.Test.YtmonobkginiajaaGreatCs1
set_option linter.all false
set_option maxRecDepth 100000
set_option maxHeartbeats 8000000
namespace Go.Proofs.YtmonobkginiajaaGreat
open Go.Proofs.Tryz
open Value renaming string→U7,slice→U3,int→U5,bool→WF,tuple→rg
open Ending renaming returned→fd
open IntKind renaming i64→U6
open Obj renaming cells→Pi
open Go renaming World→BY,Value→By,Calls→io,maxLen→sh
open List renaming replicate→it
open UInt8 renaming ofNat→wf
namespace Sl
open Go.RowKit
def jH(n:Nat):UV:=[wf (n / 256),wf n]
def bS(b:UV)(k:Nat):Nat:=(b.getD k 0).toNat*256+(b.getD (k+1) 0).toNat
abbrev Slot:=Nat×Nat
def slot(b:UV)(i:Nat):Slot:=(bS b (4+4*i),bS b (6+4*i))
def cw(b:UV):List Slot:=(List.range (bS b 0)).map (slot b)
def apart(x y:Slot):Bool:=decide (x.2=0) || (decide (y.2=0) || (decide (x.1+x.2<=y.1) || decide (y.1+y.2<=x.1)))
structure Fit(heap:Nat)(l:List Slot):Prop where
 rF:∀x∈l,heap<=x.1/\x.1+x.2<=232
 apart:l.Pairwise λx y=>Sl.apart x y=true
structure Sound(b:UV):Prop where
 len:b.length=232
 heap:bS b 2<=232
 head:4+4*bS b 0<=bS b 2
 fit:Fit (bS b 2) (cw b)
def yX(l:List Slot):Nat:=(l.map Prod.snd).sum
def nt(b:UV)(x:Slot):UV:=(b.drop x.1).take x.2
def dI(b:UV):List (UV):=(cw b).map (nt b)
def sj(b:UV)(k:Nat):bS b k<65536:=by
 have h1:=(b.getD k 0).toNat_lt;have h2:=(b.getD (k+1) 0).toNat_lt;unfold bS;omega
def dF(b:UV):(cw b).length=bS b 0:=by simp[cw]
def Hg(b:UV)(i:Nat)(h:i<bS b 0):(cw b)[i]?=some (slot b i):=by simp[cw,h]
def qT(x y:Slot):apart x y=apart y x:=by
 unfold apart
 cases h1:decide (x.2=0)<;>cases h2:decide (y.2=0)<;>cases h3:decide (x.1+x.2<=y.1)<;>cases h4:decide (y.1+y.2<=x.1)<;>rfl
def ui(x y:Slot):apart x y=true↔x.2=0\/y.2=0\/x.1+x.2<=y.1\/y.1+y.2<=x.1:=by simp[apart]
def Y3(x y:Slot):apart x y=false↔ ∃k,(x.1<=k/\k<x.1+x.2)/\(y.1<=k/\k<y.1+y.2):=by
 constructor
 .intro h;have:¬(x.2=0\/y.2=0\/x.1+x.2<=y.1\/y.1+y.2<=x.1):=by rw[<-ui];simp[h]
  refine⟨max x.1 y.1,⟨ls,ls⟩,⟨ls,ls⟩⟩
 .rintro⟨k,h1,h2⟩
  cases h:apart x y
  .rfl
  .rw[ui]at h;omega
def Eb(l:List Slot)(x:Slot):Bool:=l.all λy=>apart x y
def Y5(heap:Nat):List Slot->List Slot->Bool
 |_,[]=>true
 |p,x::l=>decide (heap<=x.1) && (decide (x.1+x.2<=232) && (Eb p x && Y5 heap (p++[x]) l))
def QH(b:UV):Bool:=decide (b.length=232) && (decide (bS b 2<=232) && (decide (4+4*bS b 0<=bS b 2) && Y5 (bS b 2) [] (cw b)))
def Fit.snoc{heap:Nat}{p:List Slot}{x:Slot}:Fit heap (p++[x])↔Fit heap p/\(heap<=x.1/\x.1+x.2<=232)/\∀y∈p,Sl.apart x y=true:=by
 constructor
 .rintro⟨h1,h2⟩;rw[eH]at h2;exact⟨⟨λy hy=>h1 y (by simp[hy]),h2.1⟩,h1 x lw,λy hy=>by rw[qT];exact h2.2.2 y hy x lw⟩
 .rintro⟨⟨h1,h2⟩,h3,h4⟩;refine⟨λy hy=>?_,?_⟩
  .rcases aK.1 hy with h|h
   .exact h1 y h
   .simp at h;subst h;exact h3
  .rw[eH];exact⟨h2,lw,λy hy z hz=>by simp at hz;subst hz;rw[qT];exact h4 y hy⟩
def Fit.nil(heap:Nat):Fit heap []:=⟨λx h=>by simp at h,lw⟩
def Y6(heap:Nat)(l:List Slot):∀p:List Slot,Fit heap p->(Y5 heap p l=true↔Fit heap (p++l)):=by
 induction l with
 |nil=>intro p h;simp[Y5,h]
 |cons x l ih=>
  intro p h;have key:(heap<=x.1/\x.1+x.2<=232/\Eb p x=true)↔Fit heap (p++[x]):=by
   rw[Fit.snoc];simp only[Eb,rL];exact⟨λ⟨h1,h2,h3⟩=>⟨h,⟨h1,h2⟩,h3⟩,λ⟨_,⟨h1,h2⟩,h3⟩=>⟨h1,h2,h3⟩⟩
  simp only[Y5,jI,decide_eq_true_eq]
  constructor
  .rintro⟨h1,h2,h3,h4⟩;have hf:=key.1 ⟨h1,h2,h3⟩;have:=(ih _ hf).1 h4;simpa using this
  .intro hf;have hp:Fit heap (p++[x]):=by
    refine⟨λy hy=>hf.rF y (by simp at hy ⊢;rcases hy with h|h<;>simp[h]),?_⟩;have:=hf.apart;rw[show p++x::l=(p++[x])++l by simp,eH]at this;exact this.1
   obtain⟨h1,h2,h3⟩:=key.2 hp;exact⟨h1,h2,h3,(ih _ hp).2 (by simpa using hf)⟩
def vL(b:UV):QH b=true↔Sound b:=by
 have h:=Y6 (bS b 2) (cw b) [] (Fit.nil _);rw[dD]at h;simp only[QH,jI,decide_eq_true_eq,h];exact⟨λ⟨h1,h2,h3,h4⟩=>⟨h1,h2,h3,h4⟩,λh=>⟨h.len,h.heap,h.head,h.fit⟩⟩
def bH(b:UV):Int:=if b.length=232 then(if QH b then 0 else 14)else 6
def gr(b:UV):bH b=0↔Sound b:=by
 rw[<-vL];unfold bH
 constructor
 .intro h
  split at h
  .split at h
   .assumption
   .cases h
  .cases h
 .intro h;have:=((vL b).1 h).len;rw[U8 this,U8 h]
def jM(b:UV):Int:=228-((((cw b).map λx=>4+x.2).sum:Nat):Int)
def cover(l:List Slot)(k:Nat):Bool:=l.any λx=>decide (x.1<=k) && decide (k<x.1+x.2)
def count_range(a n m:Nat)(h:a+n<=m):((List.range m).countP λk=>decide (a<=k) && decide (k<a+n))=n:=by
 induction m generalizing n with
 |zero=>
  have:n=0:=ls
  subst this;simp
 |succ m ih=>
  rw[I8,Cx]
  rcases fo (a+n) (m+1)with h1|h1
  .rw[ih n ls];simp;omega
  .obtain rfl|hn:n=0\/0<n:=wI n
   .have:(List.range m).countP (λk=>decide (a<=k) && decide (k<a+0))=0:=by
     rw[OU];intro k _;simp<;>omega
    rw[this];simp<;>omega
   .have e:(List.range m).countP (λk=>decide (a<=k) && decide (k<a+n))=(List.range m).countP (λk=>decide (a<=k) && decide (k<a+(n-1))):=by
     apply yj;intro k hk;have:=mf.1 hk;simp;omega
    rw[e,ih (n-1) ls];simp;have:a<=m/\m<a+n:=ls
    simp[this];omega
def Mg(l:List Slot)(heap:Nat)(h:Fit heap l):(List.range 232).countP (cover l)=yX l:=by
 induction l with
 |nil=>simp[cover,yX]
 |cons x l ih=>
  have hx:=h.rF x lw;have hp:=eT.1 h.apart;have ht:Fit heap l:=⟨λy hy=>h.rF y (by simp[hy]),hp.2⟩;have e:(List.range 232).countP (cover (x::l))=(List.range 232).countP (λk=>decide (x.1<=k) && decide (k<x.1+x.2))+(List.range 232).countP (cover l):=by
   generalize List.range 232=r
   induction r with
   |nil=>rfl
   |cons k r ihr=>
    simp only[List.countP_cons,ihr];have hdis:¬((x.1<=k/\k<x.1+x.2)/\cover l k=true):=by
     rintro⟨h1,h2⟩;simp only[cover,OQ,jI,decide_eq_true_eq]at h2;obtain⟨y,hy,h3⟩:=h2;have hn:=(Y3 x y).2 ⟨k,h1,h3⟩;rw[hp.1 y hy]at hn;cases hn
    have ec:cover (x::l) k=((decide (x.1<=k) && decide (k<x.1+x.2)) || cover l k):=rfl;rw[ec]
    cases h1:(decide (x.1<=k) && decide (k<x.1+x.2))<;>cases h2:cover l k
    .simp
    .simp;omega
    .simp;omega
    .exfalso;apply hdis;simp at h1;exact⟨h1,h2⟩
  rw[e,count_range _ _ _ hx.2,ih ht];simp[yX]
def Hh(l:List Slot)(heap:Nat)(h:Fit heap l)(hh:heap<=232):yX l<=232-heap:=by
 rw[<-Mg l heap h];have e:(List.range 232).countP (cover l)<=(List.range 232).countP (λk=>decide (heap<=k) && decide (k<heap+(232-heap))):=by
  apply List.countP_mono_left;intro k hk hc;simp only[cover,OQ,jI,decide_eq_true_eq]at hc;obtain⟨y,hy,h3⟩:=hc;have:=h.rF y hy;have:=mf.1 hk;simp;omega
 have:=count_range heap (232-heap) 232 ls;omega
variable{F c b:UV}{o:Nat}
def lay(F:UV)(o:Nat)(c:UV):UV:=F.take o++c++F.drop (o+c.length)
def jj(h:o+c.length<=F.length):(lay F o c).length=F.length:=by
 simp[lay];omega
def tR(F:UV)(o:Nat)(c:UV):putAt (fq F) o (fq c)=fq (lay F o c):=by
 simp[putAt,lay,fq]
def ng(h:o+c.length<=F.length)(j:Nat):(lay F o c)[j]?=if o<=j/\j<o+c.length then c[j-o]? else F[j]?:=by
 unfold lay
 by_cases h1:j<o
 .rw[ge,cV,bX (by simp;omega),kr h1]
 .have e:(F.take o).length=o:=by simp;omega
  by_cases h2:j<o+c.length
  .rw[U8 ⟨by omega,h2⟩,cV,eC (by omega),e,bX (by omega)]
  .rw[ge,eC (by simp;omega),iu]
   congr 1
   simp;omega
def n8(b:UV)(k n:Nat):UV:=(b.set k (wf (n / 256))).set (k+1) (wf n)
def fO(b:UV)(k n:Nat):(n8 b k n).length=b.length:=by simp[n8]
def pT(b:UV)(k n j:Nat)(h:j<k\/k+1<j):(n8 b k n)[j]?=b[j]?:=by
 unfold n8;rw[fW ls,fW ls]
def at2_eq{k:Nat}(h0:b[k]?=c[k]?)(h1:b[k+1]?=c[k+1]?):bS b k=bS c k:=by
 simp only[bS,List.getD,h0,h1]
def gf(b:UV)(k n j:Nat)(h:j+1<k\/k+1<j):bS (n8 b k n) j=bS b j:=
 at2_eq (pT b k n j ls) (pT b k n (j+1) ls)
def xx(b:UV)(k n:Nat)(h:k+1<b.length)(hn:n<65536):bS (n8 b k n) k=n:=by
 have e0:(n8 b k n)[k]?=some (wf (n / 256)):=by
  unfold n8;rw[fW ls,eK ls]
 have e1:(n8 b k n)[k+1]?=some (wf n):=by
  unfold n8;rw[eK (by simpa using h)]
 simp only[bS,List.getD,e0,e1,j0,j5];omega
def jo(b:UV)(l:List Slot)(heap:Nat):Nat->UV
 |0=>n8 (n8 b 0 l.length) 2 heap
 |i+1=>n8 (n8 (jo b l heap i) (4+4*i) (l.getD i (0,0)).1) (6+4*i) (l.getD i (0,0)).2
def lS(b:UV)(l:List Slot)(heap:Nat):UV:=jo b l heap l.length
def mz(b:UV)(l:List Slot)(heap:Nat):∀i,(jo b l heap i).length=b.length
 |0=>by simp[jo,fO]
 |i+1=>by rw[jo,fO,fO];exact mz b l heap i
def Ec(b:UV)(l:List Slot)(heap:Nat)(j:Nat):∀i,4+4*i<=j->(jo b l heap i)[j]?=b[j]?
 |0,h=>by rw[jo,pT _ _ _ _ ls,pT _ _ _ _ ls]
 |i+1,h=>by rw[jo,pT _ _ _ _ ls,pT _ _ _ _ ls];exact Ec b l heap j i ls
def uj(b:UV)(l:List Slot)(heap:Nat)(hb:b.length=232)(hh:heap<65536)(hl:l.length<65536)(hx:∀x∈l,x.1<65536/\x.2<65536):
  ∀i,i<=l.length->4+4*i<=232->bS (jo b l heap i) 0=l.length/\bS (jo b l heap i) 2=heap/\∀k,k<i->slot (jo b l heap i) k=l.getD k (0,0)
 |0,_,_=>by
  rw[jo];refine⟨?_,?_,λk hk=>eq hk ls⟩
  .rw[gf _ _ _ _ ls,xx _ _ _ ls hl]
  .rw[xx _ _ _ (by rw[fO];omega) hh]
 |i+1,hi,h4=>by
  obtain⟨h0,h2,hs⟩:=uj b l heap hb hh hl hx i ls ls;have hlen:=mz b l heap i;rw[jo];refine⟨?_,?_,λk hk=>?_⟩
  .rw[gf _ _ _ _ ls,gf _ _ _ _ ls];exact h0
  .rw[gf _ _ _ _ ls,gf _ _ _ _ ls];exact h2
  .unfold slot
   by_cases e:k=i
   .subst e;have hm:l.getD k (0,0)∈l:=by
     rw[List.getD,aQ ls];exact jR _
    have:=hx _ hm;rw[gf _ _ _ _ ls,xx _ _ _ ls this.1,xx _ _ _ (by rw[fO];omega) this.2]
   .rw[gf _ _ _ _ ls,gf _ _ _ _ ls,gf _ _ _ _ ls,gf _ _ _ _ ls];exact hs k ls
section
variable{b:UV}{l:List Slot}{heap:Nat}
structure Laid(b:UV)(l:List Slot)(heap:Nat):Prop where
 len:b.length=232
 hh:heap<=232
 head:4+4*l.length<=heap
 fit:Fit heap l
def Laid.small(h:Laid b l heap):∀x∈l,x.1<65536/\x.2<65536:=λx hx=>by
 have:=(h.fit.rF x hx).2;omega
def Laid.n0(h:Laid b l heap):bS (lS b l heap) 0=l.length:=(uj b l heap h.len (by have:=h.hh;omega) (by have:=h.head;have:=h.hh;omega) h.small l.length (ai _) (by have:=h.head;have:=h.hh;omega)).1
def Laid.n2(h:Laid b l heap):bS (lS b l heap) 2=heap:=(uj b l heap h.len (by have:=h.hh;omega) (by have:=h.head;have:=h.hh;omega) h.small l.length (ai _) (by have:=h.head;have:=h.hh;omega)).2.1
def Laid.sl(h:Laid b l heap):cw (lS b l heap)=l:=by
 have hs:=(uj b l heap h.len (by have:=h.hh;omega) (by have:=h.head;have:=h.hh;omega) h.small l.length (ai _) (by have:=h.head;have:=h.hh;omega)).2.2;apply vq
 .rw[dF,h.n0]
 .intro i h1 h2;have:(cw (lS b l heap))[i]=slot (lS b l heap) i:=by simp[cw]
  rw[this,show slot (lS b l heap) i=l.getD i (0,0)from hs i h2];simp[List.getD,aQ h2]
def Laid.length(h:Laid b l heap):(lS b l heap).length=232:=(mz b l heap l.length).trans h.len
def Laid.sound(h:Laid b l heap):Sound (lS b l heap):=
 ⟨h.length,by rw[h.n2];exact h.hh,by rw[h.n2,h.n0];exact h.head,by rw[h.n2,h.sl];exact h.fit⟩
def Laid.rc(h:Laid b l heap):∀x∈l,nt (lS b l heap) x=nt b x:=by
 intro x hx;have h1:=(h.fit.rF x hx).1;unfold nt
 congr 1
 apply lr;intro j;rw[iu,iu];exact Ec b l heap _ _ (by have:=h.head;omega)
def Laid.rcs(h:Laid b l heap):dI (lS b l heap)=l.map (nt b):=by
 unfold dI;rw[h.sl];exact gm h.rc
def Mh(h:o+c.length<=F.length)(x:Slot)(hx:x.1+x.2<=o\/o+c.length<=x.1):nt (lay F o c) x=nt F x:=by
 unfold nt;apply lr;intro j
 by_cases hj:j<x.2
 .rw[kr hj,kr hj,iu,iu,ng h,ge]
 .rw[fw (by simp;omega),fw (by simp;omega)]
def Hi(h:o+c.length<=F.length):nt (lay F o c) (o,c.length)=c:=by
 unfold nt;apply lr;intro j
 by_cases hj:j<c.length
 .rw[kr hj,iu,ng h,U8 ⟨ls,ls⟩]
  congr 1;omega
 .rw[fw (by simp;omega),fw ls]
end
structure uQ where
 o:UV
 ts:List Slot
 heap:Nat
def Hj:uQ:=⟨it 232 0,[],232⟩
def uQ.add(c:uQ)(r:UV):uQ:=⟨lay c.o (c.heap-r.length) r,c.ts++[(c.heap-r.length,r.length)],c.heap-r.length⟩
def uW(l:List (UV)):uQ:=l.foldl uQ.add Hj
structure uQ.Ok(c:uQ)(l:List (UV)):Prop where
 len:c.o.length=232
 heap:c.heap+(l.map List.length).sum=232
 fit:Fit c.heap c.ts
 dI:c.ts.map (nt c.o)=l
def Y7:Hj.Ok []:=⟨eG,rfl,Fit.nil _,rfl⟩
def Fit.mono{heap heap':Nat}{l:List Slot}(h:Fit heap l)(hh:heap'<=heap):Fit heap' l:=⟨λx hx=>⟨aD hh (h.rF x hx).1,(h.rF x hx).2⟩,h.apart⟩
def uQ.Ok.add{c:uQ}{l:List (UV)}(h:c.Ok l)(r:UV)(hr:r.length<=c.heap):(c.add r).Ok (l++[r]):=by
 have h1:=h.heap;have h2:=h.len;refine⟨by show(lay _ _ _).length=232;rw[jj ls];exact h.len,by show c.heap-r.length+_=232;simp;omega,?_,?_⟩
 .show Fit (c.heap-r.length) (c.ts++[(c.heap-r.length,r.length)]);rw[Fit.snoc];refine⟨h.fit.mono (Nat.sub_le _ _),⟨ai _,by show c.heap-r.length+r.length<=232;omega⟩,λy hy=>?_⟩;have:=(h.fit.rF y hy).1;rw[ui];exact .inr (.inr (.inl (by show c.heap-r.length+r.length<=y.1;omega)))
 .show(c.ts++[(c.heap-r.length,r.length)]).map (nt (lay c.o (c.heap-r.length) r))=l++[r];rw[eS,<-h.dI]
  congr 1
  .apply gm;intro y hy;have:=(h.fit.rF y hy).1;exact Mh ls y (.inr ls)
  .simp only[iA,tD];rw[Hi ls]
def Ed(l:List (UV))(h:(l.map List.length).sum<=232):(uW l).Ok l:=by
 have key:∀(l m:List (UV)) (c:uQ),c.Ok m->((m++l).map List.length).sum<=232->(l.foldl uQ.add c).Ok (m++l):=by
  intro l
  induction l with
  |nil=>intro m c h _;simpa using h
  |cons r l ih=>
   intro m c h hs;have h1:=h.heap;have:=ih (m++[r]) (c.add r) (h.add r (by simp at hs h1;omega)) (by simpa using hs);simpa using this
 have:=key l [] Hj Y7 (by simpa using h);rw[dD]at this;exact this
def iX(b:UV):UV:=lS (uW (dI b)).o (uW (dI b)).ts (uW (dI b)).heap
def Ao{x:Slot}(h:x.1+x.2<=b.length):(nt b x).length=x.2:=by
 simp[nt];omega
def Sound.lens(h:Sound b):((dI b).map List.length)=(cw b).map Prod.snd:=by
 unfold dI;rw[iQ];apply gm;intro x hx;exact Ao (by rw[h.len];exact(h.fit.rF x hx).2)
def Sound.sum(h:Sound b):((dI b).map List.length).sum<=232-bS b 2:=by
 rw[h.lens];exact Hh _ _ h.fit h.heap
def uQ.Ok.Y8{c:uQ}{l:List (UV)}(h:c.Ok l):c.ts.length=l.length:=by rw[<-h.dI,eZ]
def ez(b:UV):(dI b).length=bS b 0:=by simp[dI,dF]
def Sound.comp(h:Sound b):Laid (uW (dI b)).o (uW (dI b)).ts (uW (dI b)).heap:=by
 have hs:=h.sum;have hh:=h.heap;have h4:=h.head;have hc:=Ed (dI b) ls;have h1:=hc.heap;have h2:=hc.Y8;rw[ez]at h2;exact⟨hc.len,ls,ls,hc.fit⟩
def Sound.compact(h:Sound b):Sound (iX b)/\dI (iX b)=dI b/\bS (iX b) 2+((dI b).map List.length).sum=232/\cw (iX b)=(uW (dI b)).ts:=by
 have hs:=h.sum;have hh:=h.heap;have hc:=Ed (dI b) ls;have L:=h.comp;exact⟨L.sound,L.rcs.trans hc.dI,by unfold iX;rw[L.n2];exact hc.heap,L.sl⟩
def Ee(h:Sound b):jM b=228-4*(bS b 0:Int)-(((dI b).map List.length).sum:Nat):=by
 rw[h.lens];have e:∀l:List Slot,(l.map λx=>4+x.2).sum=4*l.length+(l.map Prod.snd).sum:=by
  intro l
  induction l with
  |nil=>rfl
  |cons x l ih=>simp only[iA,mi,ih,jh];omega
 unfold jM;rw[e,dF];omega
def kF(l:List (UV)):Int:=228-((l.map λr=>4+r.length).sum:Nat)
def Tt(h:Sound b):jM b=kF (dI b):=by
 rw[Ee h];have e:∀l:List (UV),(l.map λr=>4+r.length).sum=4*l.length+(l.map List.length).sum:=by
  intro l
  induction l with
  |nil=>rfl
  |cons x l ih=>simp only[iA,mi,ih,jh];omega
 unfold kF;rw[e,ez];omega
def k8(b r:UV):UV:=if 4+4*(bS b 0+1)+r.length>bS b 2 then iX b else b
def vM(b:UV)(i:Nat)(r:UV):UV:=
 lS (lay (k8 b r) (bS (k8 b r) 2-r.length) r) ((cw (k8 b r)).take i++(bS (k8 b r) 2-r.length,r.length)::(cw (k8 b r)).drop i) (bS (k8 b r) 2-r.length)
def Sound.base(h:Sound b)(r:UV)(hr:(r.length:Int)<=jM b-4):Sound (k8 b r)/\dI (k8 b r)=dI b/\bS (k8 b r) 0=bS b 0/\4+4*(bS b 0+1)+r.length<=bS (k8 b r) 2:=by
 unfold k8
 split
 .obtain⟨h1,h2,h3,_⟩:=h.compact;have e0:bS (iX b) 0=bS b 0:=by rw[<-ez,<-ez,h2]
  rw[Ee h]at hr;exact⟨h1,h2,e0,ls⟩
 .exact⟨h,rfl,rfl,ls⟩
def Laid.insert(h:Sound b)(i:Nat)(r:UV)(hr:4+4*(bS b 0+1)+r.length<=bS b 2)(hi:i<=bS b 0):
  Laid (lay b (bS b 2-r.length) r) ((cw b).take i++(bS b 2-r.length,r.length)::(cw b).drop i) (bS b 2-r.length):=by
 have h1:=h.heap;have h2:=h.len;have hl:=dF b;refine⟨by rw[jj ls];exact h2,ls,by simp[hl];omega,?_,?_⟩
 .intro x hx;have hx:x∈(cw b).take i\/x=(bS b 2-r.length,r.length)\/x∈(cw b).drop i:=by simpa using hx
  rcases hx with hx|rfl|hx
  .have:=h.fit.rF x (iR hx);omega
  .exact⟨ai _,by show bS b 2-r.length+r.length<=232;omega⟩
  .have:=h.fit.rF x (tE hx);omega
 .have hp:=h.fit.apart;rw[<-mo i (cw b),eH]at hp;rw[eH,eT];have hz:∀y∈cw b,apart (bS b 2-r.length,r.length) y=true:=by
   intro y hy;have:=(h.fit.rF y hy).1;rw[ui];exact .inr (.inr (.inl (by show bS b 2-r.length+r.length<=y.1;omega)))
  refine⟨hp.1,⟨λy hy=>hz y (tE hy),hp.2.1⟩,λx hx y hy=>?_⟩
  rcases ax.1 hy with rfl|hy
  .rw[qT];exact hz x (iR hx)
  .exact hp.2.2 x hx y hy
def Sound.insert(h:Sound b)(i:Nat)(r:UV)(hr:(r.length:Int)<=jM b-4)(hi:i<=bS b 0):
  Sound (vM b i r)/\dI (vM b i r)=(dI b).take i++r::(dI b).drop i:=by
 obtain⟨hs,he,h0,hh⟩:=h.base r hr;rw[<-h0]at hi hh;have L:=Laid.insert hs i r hh hi;refine⟨L.sound,?_⟩;have h2:=hs.len;have h3:=hs.heap;have key:∀x∈cw (k8 b r),nt (lay (k8 b r) (bS (k8 b r) 2-r.length) r) x=nt (k8 b r) x:=by
  intro x hx;have:=(hs.fit.rF x hx).1;exact Mh ls x (.inr ls)
 unfold vM;rw[L.rcs,eS,iA,Hi ls,<-he];unfold dI;rw[gm (λx hx=>key x (iR hx)),gm (λx hx=>key x (tE hx)),mZ,List.map_drop]
def mR:UV:=n8 (it 232 0) 2 232
def sG:Sound mR/\dI mR=[]/\bS mR 0=0/\bS mR 2=232:=by
 have e0:bS mR 0=0:=ms
 have e2:bS mR 2=232:=ms
 have es:cw mR=[]:=by unfold cw;rw[e0];rfl
 exact⟨⟨by unfold mR;rw[fO,eG],ls,ls,by rw[es];exact Fit.nil _⟩,by unfold dI;rw[es];rfl,e0,e2⟩
def or8(a b:Nat)(ha:a<256)(hb:b<256):bits .or U6 ((a:Int)*256) (b:Int)=((a*256+b:Nat):Int):=by
 rw[bits_join U6 32 ms (λn h0 h1=>IntWalk.i64_in n ls) 8 _ _ ls ls ls ls ls ls];omega
def df(s:Nm)(k:Nat)(h:k<s.size):s.data.toList.getD k 0=s[k]:=by
 have:k<s.pu.length:=by simpa using h
 simp[List.getD,aQ this];rfl
def iS(s:Nm)(i:Int)(w:BY)(h0:0<=i)(h:i+1<s.size)(hs:s.size<=1000000):
  io prog 210 #[U7 s,i] w λe w'=>e=fd (bS s.data.toList i.toNat:Nat)/\i7 w w':=by
 obtain⟨k,rfl⟩:=fu h0;rw[iL];have hk:k<s.size:=ls
 have h:k+1<s.size:=ls
 have b0:=s[k].toNat_lt;have b1:=s[k+1].toNat_lt;have HV:=xh (show bits .or U6 ((s[k].toNat:Int)*256) (s[k+1].toNat:Int)=((bS s.pu k:Nat):Int)from by
  rw[or8 _ _ ls ls];unfold bS;rw[df _ _ hk,df _ _ h])
 have e1:U6.wrap ((k:Int)+1)=(k:Int)+1:=d9;have e2:(0:Int)<=(k:Int)+1:=ls
 have e3:((k:Int)+1).toNat=k+1:=ls
 have e7:(k:Int)+1<(s.size:Int):=ls
 have e8:(k:Int)<(s.size:Int):=ls
 have e4:U6.wrap (s[k].toNat:Int)=(s[k].toNat:Int):=d9;have e5:U6.wrap ((s[k].toNat:Int)*256)=(s[k].toNat:Int)*256:=d9;have e6:U6.wrap (s[k+1].toNat:Int)=(s[k+1].toNat:Int):=d9;go_in
 go_wp2
 go_quiet (fail);rw[HV.o]
 go_wp2
 go_ret;exact⟨rfl,dC (Below.refl _ _) _⟩
def sc(l:List Slot):List By:=l.flatMap λx=>[U5 U6 (x.1:Int),U5 U6 (x.2:Int)]
def lj(l:List Slot):(sc l).length=2*l.length:=by
 induction l with
 |nil=>rfl
 |cons x l ih=>simp only[sc,jg]at ih ⊢;simp[ih];omega
def pU(l m:List Slot):sc (l++m)=sc l++sc m:=by simp[sc]
def Y9(l:List Slot)(i:Nat)(hi:i<l.length):(sc l)[i*2]?=some ((l[i].1:Int):li)/\(sc l)[i*2+1]?=some ((l[i].2:Int):li):=by
 induction l generalizing i with
 |nil=>simp at hi
 |cons x l ih=>
  have e:sc (x::l)=U5 U6 (x.1:Int)::U5 U6 (x.2:Int)::sc l:=rfl;rw[e]
  cases i with
  |zero=>exact⟨rfl,rfl⟩
  |succ i=>
   have:=ih i (by simpa using hi);rw[show(i+1)*2=i*2+1+1 by omega,show i*2+1+1+1=(i*2+1)+1+1 by omega];simpa using this
def Za(l:List Slot):∀v∈sc l,v.oneCell'=true:=by
 intro v hv;simp only[sc,oI]at hv;obtain⟨x,_,h⟩:=hv;simp at h
 rcases h with rfl|rfl<;>rfl
def yY:(prog.info? 271).map (λi=>(i.zero,i.size,i.bytes))=some (some (.agg #[U5 U6 0,U5 U6 0]),2,16):=pm
def vN(b:UV)(k:Nat)(h:k<bS b 0):(cw b).take (k+1)=(cw b).take k++[slot b k]:=by
 rw[ij (by rw[dF];exact h)];simp[cw]
attribute [local go_sem ↓] bP
def lF(s:Nm)(w:BY)(h4:4+4*bS s.data.toList 0<=s.size)(hs:s.size<=1000000):
  io prog 208 #[U7 s] w λe w'=> ∃v,e=fd v/\bm w' 271 2 v (bS s.data.toList 0) (sc (cw s.data.toList))/\i7 w w'/\(∀g∈ak v,w.heap.size<=g):=by
 have hn:=sj s.pu 0;have HL:=xh<|dF s.pu;go_in;go_wp2_with fail;go_call (iS s 0 _ ls ls hs) as e w1 ⟨rfl,bu⟩;rw[show(0:Int).toNat=0 from rfl];have HS:=g9 (∀k,k<bS s.pu 0->(cw s.pu).take (k+1)=(cw s.pu).take k++[slot s.pu k]) (λk hk=>vN _ k hk)
 have HE:=xh (show(cw s.pu).take (bS s.pu 0)=cw s.pu from cR (by rw[dF];exact ai _));have HSl:=g9 (∀k,slot s.pu k=(bS s.pu (4+4*k),bS s.pu (6+4*k))) (λk=>rfl);generalize hgn:bS s.pu 0=n at *;have HN:=xh hgn;clear hgn;go_wp2_with fail
 go_loopw [3,4,5,8] (λv _ _ i wr=> ∃k:Nat,k<=n/\i=U5 U6 k/\bm wr 271 2 v k (sc ((cw s.pu).take k))/\i7 w wr/\Hid (∀g∈ak v,w.heap.size<=g)) (λ_ _ _ i _=>n-(intOf i).toNat)
 case atStart=>exact⟨0,bG _,rfl,by rw[jK];exact bm.nil _ _ _,bu,xh (by simp[ak])⟩
 case round=>
  obtain⟨k,hk,rfl,S,O,F⟩:=hrel;obtain⟨A,c,rfl⟩:=aI S
  by_cases h:k<n
  .have x6:=xh<|HS.o k h;go_wp2_with fail;go_call (iS s _ _ ls ls hs) as e w2 ⟨rfl,da⟩;have S2:=xh<|S.below da;have O2:=xh<|aE O da;clear da S O;go_wp2_with fail;go_call (iS s _ _ ls ls hs) as e w3 ⟨rfl,gK⟩;have S3:=S2.o.below gK;have O3:=xh<|aE O2.o gK;clear gK S2 O2;rw[show(4+4*(k:Int)).toNat=4+4*k by omega,show(4+4*(k:Int)+2).toNat=6+4*k by omega]
   obtain⟨i0,hi,lC,kH,lM⟩:=info_parts yY;obtain⟨v',w',ea,S',O',F'⟩:=eu (P:=prog) (S3.alloc (Pi #[U5 U6 (bS s.pu (4+4*k):Nat),U5 U6 (bS s.pu (6+4*k):Nat)] 271)) 266 266 i0 (.agg #[U5 U6 0,U5 U6 0]) 16 underlying266 hi lC kH lM rfl ls
    ⟨w3.heap.size,0,none⟩ 1 1 [U5 U6 (bS s.pu (4+4*k):Nat),U5 U6 (bS s.pu (6+4*k):Nat)] rfl (bT (l:=[_,_]) (aM.new _ _ _) 0 _ lw) (by intro u hu;simp at hu;rcases hu with rfl|rfl<;>rfl) (by unfold sh;omega) ls
   have e1:sc ((cw s.pu).take k)++[U5 U6 (bS s.pu (4+4*k):Nat),U5 U6 (bS s.pu (6+4*k):Nat)]=sc ((cw s.pu).take (k+1)):=by
    rw[x6.o,pU,HSl.o];rfl
   rw[e1]at S';have EA:=ea;have F2:=g9 (∀g∈ak v',w.heap.size<=g) (λg hg=>(F' g hg).elim (F.o g) (λh=>aD O3.o.size (by simp at h;omega)));have O2:=xh<|O3.o.trans ((((ah.refl (ak (U3 A k c)) w3).alloc (Pi #[U5 U6 (bS s.pu (4+4*k):Nat),U5 U6 (bS s.pu (6+4*k):Nat)] 271)).trans O').bI O3.o.size F.o);have S2:=xh S';clear S3 F' O' S' e1 x6 hi lC kH lM ea
   change eM _ _ _ _ _ _=_ at EA
   obtain⟨A2,c2,rfl⟩:=aI S2.o;go_wp2;go_roundw
   case rel=>exact⟨k+1,ls,by go_num,S2.o,O2.o,F2⟩
   case measure=>simp[intOf];omega
  .have Gf:k=n:=ls
   have H2:=xh Gf;have SS:=xh S;clear Gf S;go_wp2;go_ret;refine⟨_,rfl,?_,O,F.o⟩;have:=SS.o
   cases H2.o
   rw[HE.o]at this;rw[HN.o];exact this
variable{w w':BY}{e:TypeId}{g n cap:Nat}{l:List By}{v:By}{F:UV}
def bm.set1(S:bm w e 1 (U3 (lc g) n cap) n l)(k:Nat)(hk:k<n)(x:By):bm (w.setCell ⟨g,k,none⟩ x) e 1 (U3 (lc g) n cap) n (l.set k x):=by
 have hl:l.length=n:=by have:=S.1;omega
 rcases S.2 with⟨h0,_⟩|⟨g',Ky,rest,hv,B,hc,hm⟩
 .cases h0
 .simp only[Value.slice.injEq,Option.some.injEq,Addr.mk.injEq,and_true,true_and]at hv;obtain⟨rfl,rfl⟩:=hv;refine⟨by simp[hl],.inr ⟨g,cap,rest,rfl,?_,by simpa using hc,hm⟩⟩;have:=B.ct k x;rw[tF,Bq _ _ ls]at this;exact this
def bm.cell(S:bm w e 1 (U3 (lc g) n cap) n l)(k:Nat)(hk:k<n)(x:By)(hx:l[k]?=some x):w.cell? ⟨g,k,none⟩=some x/\w.frozen? ⟨g,k,none⟩=false:=by
 have hl:l.length=n:=by have:=S.1;omega
 rcases S.2 with⟨h0,_⟩|⟨g',Ky,rest,hv,B,hc,hm⟩
 .cases h0
 .simp only[Value.slice.injEq,Option.some.injEq,Addr.mk.injEq,and_true,true_and]at hv;obtain⟨rfl,rfl⟩:=hv;exact⟨B.ae (by rw[dr,bX ls];exact hx),B.frozen k (by simp;omega)⟩
def oP(w:BY)(v:By)(F:UV):Prop:=bm w 5 1 v F.length (fq F)
def oP.form(S:oP w v F)(h:0<F.length):∃g cap,v=U3 (lc g) F.length cap/\F.length<=cap:=by
 obtain⟨g,cap,rest,rfl,B,hc,_⟩:=bm.form S h ls;exact⟨g,cap,rfl,hc⟩
def kI:(prog.info? 5).map (λi=>(i.zero,i.size,i.bytes))=some (some (U5 .u8 0),1,1):=pm
def j6(S:oP w v F)(i m:Int)(Ko:0<=i)(hi:i+1<F.length)(hF:F.length<=1000000)(hm0:0<=m)(hm:m<65536):
  io prog 206 #[v,i,m] w λe w'=>e=fd (rg #[])/\oP w' v (n8 F i.toNat m.toNat)/\ah (ak v) w w':=by
 obtain⟨k,rfl⟩:=fu Ko;obtain⟨n,rfl⟩:=fu hm0;obtain⟨g,cap,rfl,yZ⟩:=S.form ls;have c0:=(bm.cell S k ls (bv F[k]) (by rw[tM,aQ ls];rfl));have c1:=(bm.cell S (k+1) ls (bv F[k+1]) (by rw[tM,aQ ls];rfl));obtain⟨c0,z0⟩:=c0;obtain⟨c1,z1⟩:=c1
 have HS:=xh<|bm.set1 (bm.set1 S k ls (bv (wf (n / 256)))) (k+1) ls (bv (wf n));have HO:=g9 (ah [g] w ((w.setCell ⟨g,k,none⟩ (bv (wf (n / 256)))).setCell ⟨g,k+1,none⟩ (bv (wf n)))) (((ah.refl _ _).setCell lw _).setCell lw _);clear S;generalize F[k]=x0 at *;generalize F[k+1]=x1 at *;unfold bv at c0 c1;go_in
 go_wp2
 have e0:bv (wf (n / 256))=U5 .u8 ((n:Int) / 256):=by
  unfold bv
  congr 1
  rw[j5];omega
 have e1:bv (wf n)=U5 .u8 ((n:Int) % 256):=by
  unfold bv;rfl
 have el:((fq F).set k (bv (wf (n / 256)))).set (k+1) (bv (wf n))=fq (n8 F k n):=by
  simp[fq,n8]
 have h1:=HS.o;have h2:=HO.o;rw[el]at h1;rw[e0,e1]at h1 h2;clear el e0 e1
 go_end0
 refine⟨rfl,?_,by simpa [ak]using h2⟩;rw[iL,iL];unfold oP;rw[fO];exact h1
def qB(n:Nat)(h1:n<=140737488355328)(w:BY):
  (Instr.makeSlice 150 n n).run prog w=.ok (U3 (lc w.heap.size) n n) (w.alloc (Pi (fq (it n 0)).toArray 5)):=by
 obtain⟨i0,hi,lC,kH,lM⟩:=info_parts kI;have h:=run_make (P:=prog) w 150 5 i0 (U5 .u8 0) underlying150 hi lC U6 U6 n n ls (dG _) (by rw[lM];omega) ls;rw[h,kH];have e:madeCells (Value.int .u8 0).cells (((n:Int).toNat)*1)=(fq (it n 0)).toArray:=by
  show madeCells #[Value.int .u8 0] (n*1)=_;rw[Nat.mul_one,jB];simp[fq,bv]
 rw[e];rfl
def oP.string(S:oP w v F)(h:0<F.length):(convert 150 9 v).run prog w=.ok (U7 ⟨F.toArray⟩) w:=by
 obtain⟨g,cap,rest,rfl,B,_,_⟩:=bm.form S h ls;exact cQ (P:=prog) w 150 9 5 underlying150 underlying5 underlying9 ⟨g,0,none⟩ F.length cap F rfl (bT B 0 (fq F) (by
  intro j u hu;rw[bV,bX]
  .exact hu
  .exact(aW.1 hu).1))
def oP.only{S:List Nat}(B:oP w v F)(ho:ah S w w')(hd:∀g∈ak v,g∉S):oP w' v F:=bm.only B ho hd
def oP.below(B:oP w v F)(ho:i7 w w'):oP w' v F:=bm.below B ho
def oP.new(w:BY)(F:UV)(h:F.length<=sh):oP (w.alloc (Pi (fq F).toArray 5)) (U3 (lc w.heap.size) F.length F.length) F:=
 ⟨lw,.inr ⟨w.heap.size,F.length,[],rfl,by rw[kM];exact aM.new _ _ _,lw,h⟩⟩
def nE(w:BY):
  io prog 163 #[] w λe w'=>e=fd (U7 ⟨mR.toArray⟩)/\i7 w w':=by
 have hmk:Hid (∀w':BY,(Instr.makeSlice 150 (U5 U6 232) (U5 U6 232)).run prog w'= .ok (U3 (lc w'.heap.size) 232 232) (w'.alloc (Pi (fq (it 232 0)).toArray 5))):=xh (λw':BY=>qB 232 ls w');have B0:=xh<|oP.new w (it 232 0) (by unfold sh;rw[eG];omega);have O0:=xh<|(i5 w).alloc (ai _) (Pi (fq (it 232 0)).toArray 5)
 have hl:(it 232 (0:UInt8)).length=232:=eG;have e1:mR=n8 (it 232 0) 2 232:=rfl;rw[e1];clear e1;generalize it 232 (0:UInt8)=Z at *;rw[hl]at B0;have HL:=xh hl;clear hl;have hm:=hmk.o;clear hmk;go_in;go_wp2_with fail;generalize w.alloc (Pi (fq Z).toArray 5)=W at *;clear hm;refine(j6 B0.o 2 232 ls (by rw[HL.o];omega) (by rw[HL.o];omega) ls ls).mono ?_
 rintro e w1 ⟨rfl,B1,o1⟩;have KS:=xh<|B1.string (by rw[fO,HL.o];omega);have O1:=xh<|O0.o.trans (o1.bI O0.o.size (by simp[ak]));clear B1 o1;go_wp2_with fail;rw[KS.o];go_wp2;go_ret;exact⟨rfl,O1.o⟩
variable{b:UV}{k:Nat}
def Zb{a b:Bool}(h:a=b):Ending.returned (WF a)=fd (WF b):=by rw[h]
def Vu(x y:Slot)(w:BY)(hx:x.1+x.2<=1000000)(hy:y.1+y.2<=1000000):
  io prog 227 #[.agg #[x.1,x.2],.agg #[y.1,y.2]] w λe w'=>e=fd (WF (apart x y))/\i7 w w':=by
 obtain⟨a,b⟩:=x;obtain⟨c,d⟩:=y;have O:=xh<|((i5 w).alloc (ai _) (Pi #[a,b] 271)).alloc lw (Pi #[c,d] 271);simp only at hx hy;have HA:=g9 (apart (a,b) (c,d)=(decide (b=0) || (decide (d=0) || (decide (a+b<=c) || decide (c+d<=a))))) rfl;go_in
 go_wp2
 all_goals go_ret
 all_goals
  refine⟨Zb ?_,((Below.refl _ _).alloc (ai _) _).alloc lw _⟩;rw[HA.o,Bool.eq_iff_iff];simp
  try omega
def y5(hl:b.length=232)(h:¬Sound b):bH b=14:=by
 unfold bH;rw[U8 hl,U9];rw[vL];exact h
def QI(hl:b.length=232)(hk:k<bS b 0)(h:¬(bS b 2<=(slot b k).1/\(slot b k).1+(slot b k).2<=232)):bH b=14:=
 y5 hl λS=>h (S.fit.rF _ (ay (Hg b k hk)))
def Mi(hl:b.length=232){j:Nat}(hk:k<bS b 0)(hj:j<k)(h:apart (slot b k) (slot b j)=false):bH b=14:=
 y5 hl λS=>by
  have hp:=S.fit.apart;rw[I4]at hp;have h1:=hp j k (by rw[dF];omega) (by rw[dF];omega) hj;simp only[cw,IY,yr]at h1;rw[qT,h]at h1
  cases h1
def QJ(hl:b.length=232)(hh:bS b 2<=232)(h4:4+4*bS b 0<=bS b 2)(hf:Fit (bS b 2) (cw b)):bH b=0:=(gr b).2 ⟨hl,hh,h4,hf⟩
def Zd{heap:Nat}(hk:k<bS b 0)(hf:Fit heap ((cw b).take k))(hx:heap<=(slot b k).1/\(slot b k).1+(slot b k).2<=232)(ha:∀j,j<k->apart (slot b k) (slot b j)=true):Fit heap ((cw b).take (k+1)):=by
 rw[vN b k hk,Fit.snoc];refine⟨hf,hx,λy hy=>?_⟩;obtain⟨j,hj,rfl⟩:=qu hy;have hj2:j<k:=by simp at hj;omega
 simp only[cw,List.getElem_take,IY,yr];exact ha j hj2
def qU{w:BY}{g n cap:Nat}{l:List Slot}(S:bm w 271 2 (U3 (lc g) n cap) n (sc l))(k:Nat)(hk:k<l.length):w.cell? ⟨g,k*2,none⟩=some (U5 U6 l[k].1)/\w.cell? ⟨g,k*2+1,none⟩=some (U5 U6 l[k].2):=by
 obtain⟨rest,B,_⟩:=S.ya;obtain⟨h0,h1⟩:=Y9 l k hk;have hlen:=lj l;exact⟨B.ae (by rw[dr,bX ls];exact h0),B.ae (by rw[dr,bX ls];exact h1)⟩
def mA(b:UV)(k:Nat)(h:k<(cw b).length):(cw b)[k]=slot b k:=by simp[cw]
def QK(s:Nm)(w:BY)(hl:s.size=232)(hh:bS s.data.toList 2<=232)(h4:4+4*bS s.data.toList 0<=bS s.data.toList 2):
  io prog 207 #[U7 s] w λe w'=>e=fd (U5 U6 (bH s.data.toList))/\i7 w w':=by
 have hL:s.data.toList.length=232:=by simpa using hl
 have HLI:=xh (λ(k:Nat) (hk:k<bS s.data.toList 0) (h:¬(bS s.data.toList 2<=(slot s.data.toList k).1/\(slot s.data.toList k).1+(slot s.data.toList k).2<=232))=>QI hL hk h);have HAP:=xh (λ(k j:Nat) (hk:k<bS s.data.toList 0) (hj:j<k) (h:apart (slot s.data.toList k) (slot s.data.toList j)=false)=>Mi hL hk hj h);have Kq:=xh (λ(hf:Fit (bS s.data.toList 2) (cw s.data.toList))=>QJ hL hh h4 hf)
 have QL:=xh (λ(k:Nat) (hk:k<bS s.data.toList 0) (hf:Fit (bS s.data.toList 2) ((cw s.data.toList).take k)) (hx:bS s.data.toList 2<=(slot s.data.toList k).1/\(slot s.data.toList k).1+(slot s.data.toList k).2<=232) (ha:∀j,j<k->apart (slot s.data.toList k) (slot s.data.toList j)=true)=>Zd hk hf hx ha);have HAL:=xh (show(cw s.data.toList).take (bS s.data.toList 0)=cw s.data.toList from cR (by rw[dF];exact ai _))
 have HN:=xh<|dF s.data.toList;have Bh:=λk=>sj s.data.toList k;have Ca:∀k,(slot s.data.toList k).1<65536/\(slot s.data.toList k).2<65536:=λk=>⟨Bh _,Bh _⟩;have Xl:=xh Ca;have KL:=xh (λw'=>lF s w' (by omega) (by omega));clear Bh Ca hL;have Kw:s.size<=232:=by omega
 have hs2:232<=s.size:=by omega
 have hsb:((s.size:Int)==232)=true:=by simp;omega
 have HHL:=xh hl;clear hl;have K0:=xh (λw'=>iS s 0 w' (by omega) (by omega) (by omega));have K2:=xh (λw'=>iS s 2 w' (by omega) (by omega) (by omega));simp only[show(0:Int).toNat=0 from rfl,show(2:Int).toNat=2 from rfl]at K0 K2;generalize hq:bH s.data.toList=q at *;have HQ:=xh hq;clear hq;generalize bS s.data.toList 0=n at *;generalize bS s.data.toList 2=heap at *;go_in;go_wp2_with fail;refine(K0.o _).mono ?_
 rintro e w1 ⟨rfl,bu⟩;go_wp2_with fail;go_call (K2.o _) as e w2 ⟨rfl,da⟩;go_wp2_with fail;go_call (KL.o _) as e w3 ⟨v,rfl,S,gK,fr⟩;obtain⟨A,c,rfl⟩:=aI S;have S:=xh S;have O3:=xh<|aE (aE bu da) gK;clear bu da gK fr K0 K2 KL;go_wp2_with fail
 go_loopw [31] (λiv wr=> ∃k:Nat,k<=n/\iv=U5 U6 k/\bm wr 271 2 (U3 A n c) n (sc (cw s.data.toList))/\i7 w wr/\Hid (Fit heap ((cw s.data.toList).take k))) (λiv _=>n-(intOf iv).toNat)
 case atStart=>exact⟨0,bG _,rfl,S.o,O3.o,xh (by rw[jK];exact Fit.nil _)⟩
 case round=>
  obtain⟨k,hk,rfl,S,O,F⟩:=hrel
  by_cases h:k<n
  .obtain⟨g,cap,rest,hv,-,yZ,-⟩:=S.form (by omega) (by omega);simp only[Value.slice.injEq,true_and]at hv;obtain⟨rfl,rfl⟩:=hv;have iO:=qU S k (by rw[HN.o];exact h);rw[mA]at iO;obtain⟨c0,c1⟩:=iO;have b0:=Xl.o k;have LI:=xh<|HLI.o k h;have AP:=xh (λj=>HAP.o k j h);have ST:=xh<|QL.o k h F.o;have SS:=xh S;have OO:=xh O;clear S O;generalize slot s.data.toList k=x at *;obtain⟨x0,x1⟩:=x;simp only at b0 c0 c1
   have B8:=xh<|aM.new wr 271 #[U5 U6 x0,U5 U6 x1];have S8:=xh<|SS.o.alloc (Pi #[U5 U6 x0,U5 U6 x1] 271);have O8:=xh<|OO.o.alloc OO.o.size (Pi #[U5 U6 x0,U5 U6 x1] 271);have hx:heap<=x0/\x0+x1<=232\/(heap<=x0/\232<x0+x1)\/x0<heap:=by omega
   rcases hx with⟨g1,g2⟩|⟨g1,g2⟩|g1
   .go_wp2_with fail;generalize wr.alloc (Pi #[U5 U6 x0,U5 U6 x1] 271)=W at *;generalize wr.heap.size=z at *
    go_loopw [52] (λjv w4=> ∃j:Nat,j<=k/\jv=U5 U6 j/\bm w4 271 2 (U3 (some ⟨g,0,none⟩) n c) n (sc (cw s.data.toList))/\aM w4 z 271 #[U5 U6 x0,U5 U6 x1]/\i7 w w4/\Hid (∀i,i<j->apart (x0,x1) (slot s.data.toList i)=true)) (λjv _=>k-(intOf jv).toNat)
    case atStart=>exact⟨0,bG _,rfl,S8.o,B8.o,O8.o,xh λi hi=>eq hi (lA i)⟩
    case round=>
     obtain⟨j,hj,rfl,S9,B9,O9,HJ⟩:=hrel
     by_cases hjk:j<k
     .have iO:=qU S9 j (by rw[HN.o];omega);rw[mA]at iO;obtain⟨d0,d1⟩:=iO;have b2:=Xl.o j;have hn1:=AP.o j hjk;have HJS:=xh (show apart (x0,x1) (slot s.data.toList j)=true->∀i,i<j+1->apart (x0,x1) (slot s.data.toList i)=true from λe i hi=>by
       rcases fo i j with h|h
       .exact HJ.o i h
       .obtain rfl:i=j:=by omega
        exact e)
      have HN1:=xh hn1;have z0:=B9.bi 0;have z1:=B9.bi 1;have zl:=B9.lt;have SS9:=xh S9;have BB9:=xh B9;have OO9:=xh O9;clear S9 B9 O9 hn1 HJ;generalize slot s.data.toList j=y at *;obtain⟨y0,y1⟩:=y;simp only at b2 d0 d1;have KA:=xh (λw'=>Vu (x0,x1) (y0,y1) w' (by show x0+x1<=1000000;omega) (by show y0+y1<=1000000;omega));simp only at KA;go_wp2_with fail;go_call (KA.o _) as e w5 ⟨rfl,oQ⟩
      have oQ:=xh<|((i5 wr).alloc (ai _) (Pi #[U5 U6 y0,U5 U6 y1] 271)).trans (oQ.mono (by simp))
      cases ha:apart (x0,x1) (y0,y1)
      .have hq:=HN1.o ha;go_wp2;go_ret;exact⟨by first|rfl|(rw[hq];rfl),aE OO9.o oQ.o⟩
      .have HA:=xh ha;clear ha;go_wp2;go_roundw
       case rel=>exact⟨j+1,by omega,by go_num,SS9.o.below oQ.o,BB9.o.below oQ.o BB9.o.lt,aE OO9.o oQ.o,xh (HJS.o HA.o)⟩
       case measure=>simp[intOf];omega
     .have SS9:=xh S9;have OO9:=xh O9;have hjk2:=g9 (j=k) (by omega);clear S9 B9 O9;go_wp2;go_roundw
      case rel=>exact⟨k+1,by omega,by go_num,SS9.o,OO9.o,xh (ST.o ⟨g1,g2⟩ (hjk2.o▸HJ.o))⟩
      case measure=>simp[intOf];omega
   .have hq:=LI.o (by omega);go_wp2;go_ret;exact⟨by first|rfl|(rw[hq];rfl),O8.o⟩
   .have hq:=LI.o (by omega);go_wp2;go_ret;exact⟨by first|rfl|(rw[hq];rfl),O8.o⟩
  .have Gf:k=n:=by omega
   have H2:=xh Gf;have OO:=xh O;have SS:=xh S;clear Gf S O;go_wp2;go_ret;refine⟨?_,OO.o⟩;have hf:=F.o;rw[H2.o,HAL.o]at hf;rw[Kq.o hf];rfl
def l6(s:Nm)(w:BY)(hs:s.size<=1000000):
  io prog 207 #[U7 s] w λe w'=>e=fd (U5 U6 (bH s.data.toList))/\i7 w w':=by
 by_cases hl:s.size=232
 .by_cases hg:bS s.data.toList 2<=232/\4+4*bS s.data.toList 0<=bS s.data.toList 2
  .exact QK s w hl hg.1 hg.2
  .have hL:s.data.toList.length=232:=by simpa using hl
   have e1:bH s.data.toList=14:=y5 hL λS=>hg ⟨S.heap,S.head⟩;rw[e1];have K0:=xh (λw'=>iS s 0 w' (by omega) (by omega) (by omega));have K2:=xh (λw'=>iS s 2 w' (by omega) (by omega) (by omega));simp only[show(0:Int).toNat=0 from rfl,show(2:Int).toNat=2 from rfl]at K0 K2;have b0:=sj s.data.toList 0;generalize bS s.data.toList 0=n at *;generalize bS s.data.toList 2=heap at *;have hsb:((s.size:Int)==232)=true:=by simp;omega
   have hx:232<heap\/(heap<=232/\heap<4+4*n):=by omega
   clear hl hg e1 hL
   rcases hx with h1|⟨h1,h2⟩
   all_goals
    go_in;go_wp2_with fail;go_call (K0.o _) as e w1 ⟨rfl,bu⟩;go_wp2_with fail;go_call (K2.o _) as e w2 ⟨rfl,da⟩;have O:=xh<|aE bu da;clear bu da;go_wp2;go_ret;exact⟨rfl,O.o⟩
 .have e1:bH s.data.toList=6:=by unfold bH;rw[U9 (by simpa using hl)]
  rw[e1];have hsb:((s.size:Int)==232)=false:=by simp;omega
  clear e1 hl;go_in;go_wp2;go_ret;exact⟨rfl,Below.refl _ _⟩
def n9(l:List Slot)(k:Nat):Int:=228-((((l.take k).map λx=>4+x.2).sum:Nat):Int)
def Mj(l:List Slot)(k:Nat)(h:k<l.length):n9 l (k+1)=n9 l k-(4+(l[k].2:Int)):=by
 unfold n9;rw[ij h,eS,Br];simp;omega
def QM(b:UV):n9 (cw b) (cw b).length=jM b:=by unfold n9 jM;rw[ig]
def xy(b:UV):Int:=if bH b=0 then jM b else 0
def Mk(s:Nm)(w:BY)(hs:s.size<=1000000):
  io prog 209 #[U7 s] w λe w'=>e=fd (U5 U6 (xy s.data.toList))/\i7 w w':=by
 have KC:=xh<|l6 s w hs
 by_cases h:bH s.data.toList=0
 .have e1:xy s.data.toList=jM s.data.toList:=by unfold xy;rw[U8 h]
  have hS:=(gr _).1 h;have PU:s.size=232:=by have:=hS.len;simpa using this
  have h4:=hS.head;have h5:=hS.heap;rw[e1];rw[h]at KC;have KL:=xh (λw'=>lF s w' (by omega) hs);have HN:=xh<|dF s.data.toList;have HA:=xh<|QM s.data.toList;have HX:=g9 (∀k,(n9 (cw s.data.toList) k<=228/\∀h:k<(cw s.data.toList).length,(cw s.data.toList)[k].2<65536)) (λk=>⟨by unfold n9;omega,λh=>by rw[mA];exact sj _ _⟩)
  have HLO:=xh (show ∀k,k<=bS s.data.toList 0-> -1000000<=n9 (cw s.data.toList) k from λk hk=>by
   have hsum:=Hh _ _ hS.fit hS.heap;have:((((cw s.data.toList).take k).map λx=>4+x.2).sum)<=4*(cw s.data.toList).length+yX (cw s.data.toList):=by
    generalize cw s.data.toList=l;unfold yX
    induction l generalizing k with
    |nil=>simp
    |cons x l ih=>
     cases k with
     |zero=>simp
     |succ k=>
      have:=ih k;simp only[oK,iA,mi,jh];omega
   rw[dF]at this;unfold n9;omega)
  clear e1 h hS;generalize jM s.data.toList=q at *;generalize bS s.data.toList 0=n at *;go_in;go_wp2_with fail;go_call KC.o as e w1 ⟨rfl,bu⟩;have bu:=xh bu;go_wp2_with fail;go_call (KL.o _) as e w3 ⟨v,rfl,S,gK,fr⟩;obtain⟨A,c,rfl⟩:=aI S;have S:=xh S;have O3:=xh<|aE bu.o gK;clear gK fr KL bu;go_wp2_with fail
  go_loopw [3,12] (λrv iv wr=> ∃k:Nat,k<=n/\iv=U5 U6 k/\rv=U5 U6 (n9 (cw s.data.toList) k)/\bm wr 271 2 (U3 A n c) n (sc (cw s.data.toList))/\i7 w wr) (λ_ iv _=>n-(intOf iv).toNat)
  case atStart=>exact⟨0,bG _,rfl,rfl,S.o,O3.o⟩
  case round=>
   obtain⟨k,hk,rfl,rfl,S,O⟩:=hrel;have Vv:=(HX.o k).1;have Kv:=HLO.o k hk
   by_cases h:k<n
   .obtain⟨g,cap,rest,hv,-,yZ,-⟩:=S.form (by omega) (by omega);simp only[Value.slice.injEq,true_and]at hv;obtain⟨rfl,rfl⟩:=hv;have lQ:k<(cw s.data.toList).length:=by rw[HN.o];exact h
    obtain⟨c0,c1⟩:=qU S k lQ;have hb:=(HX.o k).2 lQ;have QL:=xh<|Mj _ k lQ;generalize (cw s.data.toList)[k]=x at *;obtain⟨x0,x1⟩:=x;simp only at hb c0 c1 QL;have S8:=xh<|S.alloc (Pi #[U5 U6 x0,U5 U6 x1] 271);have O8:=xh<|O.alloc O.size (Pi #[U5 U6 x0,U5 U6 x1] 271);clear S O lQ;generalize n9 (cw s.data.toList) k=r at *;go_wp2;go_roundw
    case rel=>exact⟨k+1,by omega,by go_num,by rw[QL.o],S8.o,O8.o⟩
    case measure=>simp[intOf];omega
   .have Gf:=g9 (k=n) (by omega);have OO:=xh O;clear S O;go_wp2;go_ret;refine⟨?_,OO.o⟩;rw[<-HA.o,HN.o,<-Gf.o];rfl
 .have e1:xy s.data.toList=0:=by unfold xy;rw[U9 h]
  have hb:(bH s.data.toList==0)=false:=by simpa using h
  rw[e1];clear e1 h;generalize bH s.data.toList=q at *;go_in;go_wp2_with fail;go_call KC.o as e w1 ⟨rfl,bu⟩;have bu:=xh bu;go_wp2;go_ret;exact⟨rfl,bu.o⟩
def qV(s:Nm)(a b:Nat):s.extract a (a+b)=⟨((s.data.toList.drop a).take b).toArray⟩:=by
 apply mP;apply rk.1;rw[IL,Sy,IQ];simp
def QN(s:Nm)(x:Slot)(w:BY)(hx:x.1+x.2<=s.size)(hs:s.size<=1000000):
  io prog 215 #[U7 s,.agg #[x.1,x.2]] w λe w'=>e=fd (U7 ⟨(nt s.data.toList x).toArray⟩)/\i7 w w':=by
 obtain⟨a,b⟩:=x;simp only at hx;have HE:=xh<|qV s a b;go_in
 go_wp2
 go_ret;refine⟨?_,(Below.refl _ _).alloc (ai _) _⟩;show Ending.returned (U7 (s.extract a (a+b)))=_;rw[HE.o];rfl
attribute [local go_sem ↓] bP
variable{w:BY}{e:TypeId}{size n:Nat}{v:By}{l:List By}
def y6(h:bm w e size v n l):∀g∈ak v,∃cs,aM w g e cs:=by
 rcases h.2 with⟨rfl,_⟩|⟨g,cap,rest,rfl,B,_⟩
 .simp[ak]
 .intro x hx;simp[ak]at hx;subst hx;exact⟨_,B⟩
def eg{e':TypeId}{size' n':Nat}{v':By}{l':List By}(h:bm w e size v n l)(h':bm w e' size' v' n' l')(fy:e≠e'):∀g∈ak v,g∉ak v':=by
 intro g hg hg';obtain⟨_,B⟩:=y6 h g hg;obtain⟨_,B'⟩:=y6 h' g hg';exact B.mx B' fy rfl
def strs(l:List (UV)):List By:=l.map λr=>U7 ⟨r.toArray⟩
def Hk(l:List (UV))(r:UV):strs l++[U7 ⟨r.toArray⟩]=strs (l++[r]):=by simp[strs]
@[simp] theorem Aq(l:List (UV)):(strs l).length=l.length:=by simp[strs]
def Ar:(prog.info? 9).map (λi=>(i.zero,i.size,i.bytes))=some (some (U7 .empty),1,16):=pm
def y7(b:UV)(k:Nat)(h:k<bS b 0):(dI b).take (k+1)=(dI b).take k++[nt b (slot b k)]:=by
 unfold dI;rw[<-mZ,vN b k h,eS,mZ];rfl
def qW(s:Nm)(w:BY)(e:Ending)(w':BY):Prop:=
 ∃v,e=fd (rg #[v,U5 U6 (bH s.data.toList)])/\i7 w w'/\(∀g∈ak v,w.heap.size<=g)/\
  ((bH s.data.toList=0/\bm w' 9 1 v (bS s.data.toList 0) (strs (dI s.data.toList)))\/(bH s.data.toList≠0/\v=U3 none 0 0))
def uk(s:Nm)(w:BY)(hs:s.size<=1000000):
  io prog 169 #[U7 s] w (qW s w):=by
 have KC:=xh<|l6 s w hs
 by_cases h:bH s.data.toList=0
 .have hS:=(gr _).1 h;have PU:s.size=232:=by have:=hS.len;simpa using this
  have h4:=hS.head;have h5:=hS.heap;rw[h]at KC;have HC:=xh h;have KL:=xh (λw'=>lF s w' (by omega) hs);have HN:=xh<|dF s.data.toList;have HG:=xh<|mA s.data.toList;have HT:=xh<|y7 s.data.toList;have HF:=xh (λk (hk:k<bS s.data.toList 0)=>hS.fit.rF _ (ay (Hg s.data.toList k hk)))
  have HA:=xh (show(dI s.data.toList).take (bS s.data.toList 0)=dI s.data.toList from cR (by rw[ez];exact ai _));clear hS h;generalize hn:bS s.data.toList 0=n at *;have HN0:=xh hn;clear hn;go_in;go_wp2_with fail;go_call KC.o as e w1 ⟨rfl,bu⟩;have bu:=xh bu;go_wp2_with fail;go_call (KL.o _) as e w3 ⟨v,rfl,S,gK,fr⟩;obtain⟨A,c,rfl⟩:=aI S;have S:=xh S
  have O3:=xh<|aE bu.o gK;have FR:=g9 (∀x∈ak (U3 A n c),w.heap.size<=x) (λx hx=>aD bu.o.size (fr x hx));clear gK fr KL bu;go_wp2_with fail
  go_loopw [5,16] (λv iv wr=> ∃k:Nat,k<=n/\iv=U5 U6 k/\bm wr 9 1 v k (strs ((dI s.data.toList).take k))/\bm wr 271 2 (U3 A n c) n (sc (cw s.data.toList))/\i7 w wr/\Hid (∀g∈ak v,w.heap.size<=g)) (λ_ iv _=>n-(intOf iv).toNat)
  case atStart=>exact⟨0,bG _,rfl,by rw[jK];exact bm.nil _ _ _,S.o,O3.o,xh (by simp[ak])⟩
  case round=>
   obtain⟨k,hk,rfl,T,S,O,F⟩:=hrel;obtain⟨TA,tc,rfl⟩:=aI T
   by_cases h:k<n
   .obtain⟨g,cap,rest,hv,-,yZ,-⟩:=S.form (by omega) (by omega);simp only[Value.slice.injEq,true_and]at hv;obtain⟨rfl,rfl⟩:=hv;have lQ:k<(cw s.data.toList).length:=by rw[HN.o];exact h
    obtain⟨c0,c1⟩:=qU S k lQ;rw[HG.o k lQ]at c0 c1;have hf:=HF.o k h;have KR:=xh (λw'=>QN s (slot s.data.toList k) w' (by omega) hs);have HTk:=xh<|HT.o k (HN0.o▸h);generalize slot s.data.toList k=x at *;obtain⟨x0,x1⟩:=x;simp only at hf c0 c1 KR;have O8:=xh<|((i5 wr).alloc (ai _) (Pi #[U5 U6 x0,U5 U6 x1] 271));have OO:=xh O;have SS:=xh S;have TT:=xh T;clear S T O;go_wp2_with fail
    go_call (KR.o _) as e w4 ⟨rfl,iZ⟩;have iZ:=aE O8.o iZ;have T4:=TT.o.below iZ;have S4:=SS.o.below iZ;have O4:=xh<|aE OO.o iZ;generalize nt s.data.toList (x0,x1)=r at *;obtain⟨v',w5,ea,T5,o5,F5⟩:=gw (P:=prog) T4 123 123 (U7 .empty) 16 underlying123 Ar rfl (U7 ⟨r.toArray⟩) rfl (by unfold sh;omega) (by omega);rw[Hk,<-HTk.o]at T5;have S5:=xh<|S4.only o5 (eg S4 T4 ms)
    have F6:=g9 (∀g∈ak v',w.heap.size<=g) (λg hg=>(F5 g hg).elim (F.o g) (λh=>aD O4.o.size h));have O5:=xh<|O4.o.trans (o5.bI O4.o.size F.o);obtain⟨VA,vc,rfl⟩:=aI T5;have T5:=xh T5;clear iZ T4 S4 o5 F5 SS TT OO;go_wp2;go_roundw
    case rel=>exact⟨k+1,by omega,by go_num,T5.o,S5.o,O5.o,F6⟩
    case measure=>simp[intOf];omega
   .have Gf:=g9 (k=n) (by omega);have OO:=xh O;have TT:=xh T;clear S O T;go_wp2;go_ret2;refine⟨_,by rw[HC.o];rfl,OO.o,F.o,.inl ⟨HC.o,?_⟩⟩;have h1:=TT.o
    cases Gf.o
    rw[HA.o]at h1;rw[HN0.o];exact h1
 .have HC:=xh h;have hb:(bH s.data.toList==0)=false:=by simpa using h
  clear h;generalize hq:bH s.data.toList=q at *;have HQ:=xh hq;clear hq;go_in;go_wp2_with fail;go_call KC.o as e w1 ⟨rfl,bu⟩;have bu:=xh bu;go_wp2;go_ret2;exact⟨_,by rw[HQ.o];rfl,bu.o,by simp[ak],.inr ⟨by rw[HQ.o];exact HC.o,rfl⟩⟩
end Sl
namespace Sl
open Go.RowKit
variable{w w':BY}{v:By}{n:Nat}{l:List Slot}{F:UV}
def vO(w:BY)(v:By)(l:List Slot):Prop:=
 ∃A c,v=U3 A l.length c/\(0<l.length->∃g cs,A=some ⟨g,0,none⟩/\aM w g 271 cs/\∀(j:Nat) (u:By),(sc l)[j]?=some u->cs[j]?=some u)
def vO.of(S:bm w 271 2 v n (sc l)):vO w v l:=by
 have hl:=S.1;rw[lj]at hl;obtain rfl:n=l.length:=ls
 obtain⟨A,c,rfl⟩:=aI S;refine⟨A,c,rfl,λh=>?_⟩;obtain⟨g,cap,rest,hv,B,_,_⟩:=S.form h ls;simp only[Value.slice.injEq,true_and]at hv;obtain⟨rfl,rfl⟩:=hv;exact⟨g,_,rfl,B,λj u hu=>by rw[dr,bX (aW.1 hu).1];exact hu⟩
def vO.only{S:List Nat}(h:vO w v l)(ho:ah S w w')(hd:∀g cs,aM w g 271 cs->g∉S):vO w' v l:=by
 obtain⟨A,c,rfl,h⟩:=h;refine⟨A,c,rfl,λhl=>?_⟩;obtain⟨g,cs,rfl,B,hc⟩:=h hl;exact⟨g,cs,rfl,B.only ho (hd g cs B),hc⟩
def vO.below(h:vO w v l)(hb:i7 w w'):vO w' v l:=h.only (S:=[]) (.aj hb) lw
def Vx(B:oP w v F):∀g cs,aM w g 271 cs->g∉ak v:=by
 intro g cs hg hm;obtain⟨_,B'⟩:=y6 B g hm;exact hg.mx B' ms rfl
def vO.cells{A:Option Addr}{c:Nat}(h:vO w (U3 A n c) l)(k:Nat)(hk:k<l.length):∃g,A=some ⟨g,0,none⟩/\w.cell? ⟨g,k*2,none⟩=some (U5 U6 l[k].1)/\w.cell? ⟨g,k*2+1,none⟩=some (U5 U6 l[k].2):=by
 obtain⟨A',c',hv,h⟩:=h;simp only[Value.slice.injEq]at hv;obtain⟨rfl,rfl,rfl⟩:=hv;obtain⟨g,cs,rfl,B,hc⟩:=h ls;obtain⟨h0,h1⟩:=Y9 l k hk;exact⟨g,rfl,B.ae (hc _ _ h0),B.ae (hc _ _ h1)⟩
def Ef{vb vl:By}(B:oP w vb F)(S:vO w vl l)(heap:Int)(hF:F.length=232)(hl:4+4*l.length<=232)(hh0:0<=heap)(hh:heap<65536)(hx:∀x∈l,x.1<65536/\x.2<65536):
  io prog 212 #[vb,vl,heap] w λe w'=>e=fd (U7 ⟨(lS F l heap.toNat).toArray⟩)/\ah (ak vb) w w':=by
 obtain⟨h,rfl⟩:=fu hh0;rw[iL];obtain⟨A,c,rfl,-⟩:=id S;have SS:=xh S;have UK:=xh<|mz F l h;have HX:=g9 (∀k (hk:k<l.length),l[k].1<65536/\l[k].2<65536) (λk hk=>hx _ (jR hk));have QL:=xh (show ∀k (hk:k<l.length),jo F l h (k+1)=n8 (n8 (jo F l h k) (4+4*k) l[k].1) (6+4*k) l[k].2 from λk hk=>by
  rw[jo];simp[List.getD,aQ hk])
 have H0:=g9 (jo F l h 0=n8 (n8 F 0 l.length) 2 h) rfl;have HW:=g9 (lS F l h=jo F l h l.length) rfl;have K0:=xh<|j6 B 0 l.length ls ls ls ls ls;have AP:=xh (λ(w':BY) (F':UV) (B':oP w' vb F')=>Vx B');have BB:=xh B;have HFF:=xh hF;clear S B hx hF;go_in;go_wp2_with fail;go_call K0.o as e w1 ⟨rfl,B1,o1⟩
 have S1:=xh<|SS.o.only o1 (AP.o _ _ BB.o);have O1:=xh o1;have K2:=xh<|j6 B1 2 h ls (by rw[fO,HFF.o];omega) (by rw[fO,HFF.o];omega) ls ls;have BB1:=xh B1;clear B1 o1 K0 SS;go_wp2_with fail;go_call K2.o as e w2 ⟨rfl,B2,o2⟩;have S2:=xh<|S1.o.only o2 (AP.o _ _ BB1.o);have O2:=xh<|O1.o.trans o2
 rw[show(2:Int).toNat=2 from rfl,show(0:Int).toNat=0 from rfl,iL,iL,<-H0.o]at B2;have BB2:=xh B2;clear B2 o2 K2 O1 S1 BB1;go_wp2_with fail
 go_loopw [18] (λiv wr=> ∃k:Nat,k<=l.length/\iv=U5 U6 k/\oP wr vb (jo F l h k)/\vO wr (U3 A l.length c) l/\ah (ak vb) w wr) (λiv _=>l.length-(intOf iv).toNat)
 case atStart=>exact⟨0,bG _,rfl,BB2.o,S2.o,O2.o⟩
 case round=>
  obtain⟨k,hk,rfl,B,S,O⟩:=hrel
  by_cases lQ:k<l.length
  .obtain⟨g,rfl,c0,c1⟩:=S.cells k lQ;have hx:=HX.o k lQ;have HSTk:=xh<|QL.o k lQ;have hkl2:(k:Int)<(l.length:Int):=ls
   generalize l[k]=x at *;obtain⟨x0,x1⟩:=x;simp only at hx c0 c1 HSTk;have b8:=(i5 wr).alloc (ai _) (Pi #[x0,x1] 271);have B8:=xh<|B.below b8;have S8:=xh<|S.below b8;have O8:=xh<|O.trans (.aj b8);have Z8:=xh<|aM.new wr 271 #[x0,x1];have K3:=xh<|j6 B8.o (4+4*k) x0 ls (by rw[UK.o,HFF.o];omega) (by rw[UK.o,HFF.o];omega) ls ls;clear b8 B S O
   go_wp2_with fail;generalize wr.alloc (Pi #[x0,x1] 271)=W at *;generalize wr.heap.size=z at *;go_call K3.o as e w3 ⟨rfl,B3,o3⟩;have S3:=xh<|S8.o.only o3 (AP.o _ _ B8.o);have O3:=xh<|O8.o.trans o3;have Z3:=xh<|Z8.o.only o3 (AP.o _ _ B8.o _ _ Z8.o);have z1:=Z3.ap 1
   have K4:=xh<|j6 B3 (4+4*k+2) x1 ls (by rw[fO,UK.o,HFF.o];omega) (by rw[fO,UK.o,HFF.o];omega) ls ls;have B3:=xh B3;clear o3 K3 B8 S8 O8 Z8 c0 c1;go_wp2_with fail;go_call K4.o as e w4 ⟨rfl,B4,o4⟩;have S4:=xh<|S3.o.only o4 (AP.o _ _ B3.o);have O4:=xh<|O3.o.trans o4
   rw[show(4+4*(k:Int)).toNat=4+4*k by omega,show(4+4*(k:Int)+2).toNat=6+4*k by omega,iL,iL,<-HSTk.o]at B4;have B4:=xh B4;clear o4 K4 S3 O3 Z3 z1;go_wp2;go_roundw
   case rel=>exact⟨k+1,ls,by go_num,B4.o,S4.o,O4.o⟩
   case measure=>simp[intOf];omega
  .have Gf:=g9 (k=l.length) ls;have KS:=xh<|B.string (by rw[UK.o,HFF.o];omega);have OO:=xh O;clear B S O;go_wp2_with fail;rw[KS.o];go_wp2;go_ret;refine⟨?_,OO.o⟩;rw[HW.o,<-Gf.o];rfl
attribute [local go_sem ↓] bP
variable{l:List By}{w:BY}{g n:Nat}{F b:UV}{v:By}
def m8:(prog.info? 5).map (·.size)=some 1:=pm
def Tu(F:UV)(o:Nat):lay F o []=F:=by simp[lay]
def QO{r c:List By}{o:Nat}(h:o+c.length<=l.length):putAt (l++r) o c=putAt l o c++r:=by
 unfold putAt;rw[lz ls,rM h];simp
def sH{cap:Nat}(B:oP w (U3 (some ⟨g,0,none⟩) F.length cap) F)(o oa CI:Nat)(s:Nm)(ho:o+s.size<=F.length)(hoa:oa=o\/(s.size=0/\oa<=F.length))(wL:Nat)(hd:wL=F.length-o):
  ∃w',(Builtin.copy_ #[150,9] 3 #[U3 (some ⟨g,oa,none⟩) wL CI,U7 s]).run prog w=.ok (goInt s.size) w'/\oP w' (U3 (some ⟨g,0,none⟩) F.length cap) (lay F o s.data.toList)/\ah [g] w w':=by
 obtain⟨rest,BB,hc,_,hm⟩:=bm.ya B;have hl:(fq F).length=F.length:=jS F;have Ca:s.data.toList.length=s.size:=by simp
 obtain⟨w',e,B',o'⟩:=oM (P:=prog) BB 150 9 3 5 oa wL CI s s.size underlying150 m8 (by rw[hd];exact(tJ (by omega)).symm) (by simp;omega);refine⟨w',e,?_,o'⟩;rw[cR (by omega),QO (by simp;omega),tR]at B';have el:lay F oa s.data.toList=lay F o s.data.toList:=by
  rcases hoa with rfl|⟨h0,_⟩
  .rfl
  .have:s.data.toList=[]:=pf (by omega);rw[this,Tu,Tu]
 rw[el]at B';have wM:(lay F o s.data.toList).length=F.length:=jj (by omega);unfold oP;rw[wM];exact⟨by simp[wM],.inr ⟨g,cap,rest,rfl,B',by simp[wM];simpa using hc,hm⟩⟩
def Ml{l:List Slot}(S:bm w 271 2 v n (sc l))(a b:Nat)(hn:n<=1000000):
  ∃v' w',eM prog 266 266 (w.alloc (Pi #[U5 U6 a,U5 U6 b] 271)) v (U3 (some ⟨w.heap.size,0,none⟩) 1 1)= .ok v' w'/\bm w' 271 2 v' (n+1) (sc (l++[(a,b)]))/\ah (ak v) w w'/\(∀g∈ak v',g∈ak v\/w.heap.size<=g):=by
 obtain⟨i0,hi,lC,kH,lM⟩:=info_parts yY;obtain⟨v',w',ea,S',O',F'⟩:=eu (P:=prog) (S.alloc (Pi #[U5 U6 a,U5 U6 b] 271)) 266 266 i0 (.agg #[U5 U6 0,U5 U6 0]) 16 underlying266 hi lC kH lM rfl ls
  ⟨w.heap.size,0,none⟩ 1 1 [U5 U6 a,U5 U6 b] rfl (bT (l:=[_,_]) (aM.new _ _ _) 0 _ lw) (by intro u hu;simp at hu;rcases hu with rfl|rfl<;>rfl) (by unfold sh;omega) ls
 rw[show sc l++[U5 U6 (a:Int),U5 U6 (b:Int)]=sc (l++[(a,b)])from by rw[pU];rfl]at S';exact⟨v',w',ea,S',((ah.refl _ _).alloc _).bj O' (λx hx _=>hx),λg hg=>(F' g hg).imp id (λh=>by simp at h;omega)⟩
def xC{c:Nat}{e:TypeId}{size m:Nat}(h:bm w e size v m l)(B:oP w (U3 (lc g) n c) F)(fy:e≠5):∀x∈ak v,x∉[g]:=by
 have:=eg h B fy;simpa [ak]using this
def gR(b:UV)(k:Nat):uQ:=((dI b).take k).foldl uQ.add Hj
def Mm(b:UV)(k:Nat)(h:k<bS b 0):gR b (k+1)=(gR b k).add (nt b (slot b k)):=by
 unfold gR;rw[y7 b k h,List.foldl_append];rfl
def Eg(b:UV):gR b (bS b 0)=uW (dI b):=by
 unfold gR uW;rw[cR (by rw[ez];exact ai _)]
def Au(l:List Nat):∀k,(l.take k).sum<=l.sum:=by
 induction l with
 |nil=>intro k;simp
 |cons x l ih=>
  intro k
  cases k with
  |zero=>simp
  |succ k=>simp only[oK,mi];have:=ih k;omega
def y8(h:Sound b)(k:Nat):(gR b k).Ok ((dI b).take k):=by
 refine Ed _ ?_;rw[mZ];have:=Au ((dI b).map List.length) k;have:=h.sum;omega
def Mn(h:Sound b)(k:Nat)(hk:k<bS b 0):(nt b (slot b k)).length<=(gR b k).heap:=by
 have h1:=(y8 h k).heap;have h2:=(y8 h (k+1)).heap;rw[y7 b k hk,eS,Br]at h2;simp only[iA,tD,mi,List.sum_nil]at h2;omega
def mK(b:UV):UV×Int:=if bH b=0 then(iX b,0)else([],bH b)
def Mo(s:Nm)(w:BY)(hs:s.size<=1000000):
  io prog 211 #[U7 s] w λe w'=>e=fd (rg #[U7 ⟨(mK s.data.toList).1.toArray⟩,U5 U6 (mK s.data.toList).2])/\i7 w w':=by
 have KA:=xh<|uk s w hs
 by_cases h:bH s.pu=0
 .have hS:=(gr _).1 h;have e1:mK s.pu=(iX s.pu,0):=by unfold mK;rw[U8 h]
  rw[e1];clear e1;have PU:s.size=232:=by have:=hS.len;simpa using this
  have h4:=hS.head;have h5:=hS.heap;have HC:=xh h;have hlist:(dI s.pu).length=bS s.pu 0:=ez _;have HGET:=xh (show ∀k,k<bS s.pu 0->(strs (dI s.pu))[k]?=some (U7 ⟨(nt s.pu (slot s.pu k)).toArray⟩)from λk hk=>by
   simp[strs,dI,cw,hk])
  have HSU:=xh<|Mm s.pu;have Kq:=xh (λk=>y8 hS k);have HRM:=xh (λk hk=>Mn hS k hk);have HCF:=g9 (iX s.pu=lS (gR s.pu (bS s.pu 0)).o (gR s.pu (bS s.pu 0)).ts (gR s.pu (bS s.pu 0)).heap) (by rw[Eg];rfl);have HLA:=xh hS.comp;have HAL:=xh<|Eg s.pu
  have H0:=g9 (gR s.pu 0=Hj) rfl;clear h hS hlist PU;generalize hn:bS s.pu 0=n at *;have HN0:=xh hn;clear hn;have hmk:Hid (∀w':BY,(Instr.makeSlice 150 (U5 U6 232) (U5 U6 232)).run prog w'= .ok (U3 (lc w'.heap.size) 232 232) (w'.alloc (Pi (fq (it 232 0)).toArray 5))):=xh (λw':BY=>qB 232 ls w');have HZ:=g9 (Hj=⟨it 232 0,[],232⟩) rfl
  have HZL:=xh (show(it 232 (0:UInt8)).length=232 from eG);generalize it 232 (0:UInt8)=Z at *;go_in;go_wp2_with fail;go_call KA.o as e w1 ⟨v,rfl,bu,fr,hv⟩
  rcases hv with⟨-,T⟩|⟨fy,-⟩
  .rw[HC.o];rw[HN0.o]at T;obtain⟨A,c,rfl⟩:=aI T;have hm:=hmk.o;have B0:=xh<|oP.new w1 Z (by rw[HZL.o];unfold sh;omega);rw[HZL.o]at B0;have b0:=(i5 w1).alloc (ai _) (Pi (fq Z).toArray 5);have T0:=xh<|T.below b0;have O0:=xh<|aE bu b0;have hg:=bu.size;clear b0 T bu fr hmk KA;go_wp2_with fail;generalize w1.alloc (Pi (fq Z).toArray 5)=W at *;generalize w1.heap.size=g at *;clear hm
   go_loopw [7,8,22] (λv hv iv wr=> ∃k:Nat,k<=n/\iv=U5 U6 k/\hv=U5 U6 (gR s.pu k).heap/\oP wr (U3 (lc g) 232 232) (gR s.pu k).o/\bm wr 271 2 v k (sc (gR s.pu k).ts)/\bm wr 9 1 (U3 A n c) n (strs (dI s.pu))/\i7 w wr/\Hid (∀g∈ak v,w.heap.size<=g)) (λ_ _ iv _=>n-(intOf iv).toNat)
   case atStart=>exact⟨0,bG _,rfl,by rw[H0.o];rfl,by rw[H0.o,HZ.o];exact B0.o,by rw[H0.o];exact bm.nil _ _ _,T0.o,O0.o,xh (by simp[ak])⟩
   case round=>
    obtain⟨k,hk,rfl,rfl,B,S,T,O,F⟩:=hrel;obtain⟨SA,cS,rfl⟩:=aI S;have Gp:=(Kq.o k).len;have hsum:=(Kq.o k).heap
    by_cases h:k<n
    .obtain⟨gT,cT,restT,hv,BT,yZ,-⟩:=T.form ls ls;simp only[Value.slice.injEq,true_and]at hv;obtain⟨rfl,rfl⟩:=hv;have ck:wr.cell? ⟨gT,k,none⟩=some (U7 ⟨(nt s.pu (slot s.pu k)).toArray⟩):=BT.ae (by
      have h1:=HGET.o k h;rw[dr,bX (aW.1 h1).1];exact h1)
     have hrm:=HRM.o k h;have HS:=xh<|HSU.o k h;have TT:=xh T;have OO:=xh O;have SS:=xh S;clear T O S BT;generalize nt s.pu (slot s.pu k)=r at *;have HCk:=g9 (gR s.pu (k+1)=⟨lay (gR s.pu k).o ((gR s.pu k).heap-r.length) r,(gR s.pu k).ts++[((gR s.pu k).heap-r.length,r.length)],(gR s.pu k).heap-r.length⟩) HS.o;generalize gR s.pu k=C at *
     obtain⟨out,ts,heap⟩:=C;simp only at hrm B HCk SS Gp hsum;have hhp:heap<=232:=ls
     clear hsum;obtain⟨R,rfl⟩:∃R:Nm,R.pu=r:=⟨⟨r.toArray⟩,lw⟩;have cA:(⟨R.pu.toArray⟩:Nm)=R:=lw
     have hRl:R.pu.length=R.size:=lw
     rw[cA]at ck;rw[hRl]at hrm HCk;obtain⟨h',rfl⟩:∃h',heap=h'+R.size:=⟨heap-R.size,ls⟩;rw[qx]at HCk;have HB:=xh B;rw[<-Gp]at B;have KCP:=xh (λ(oa:Nat) (hoa:oa=h'\/(R.size=0/\oa<=232)) (CI:Nat)=>sH B h' oa CI R ls (by rw[Gp];exact hoa) (232-h') ls);rw[Gp]at KCP;clear B Gp cA hRl HS;have NS:=xh<|xC SS.o HB.o ms;have NT:=xh<|xC TT.o HB.o ms
     have KX:=xh (show ∃(oa dc:Nat) (w5:BY),((h'=232/\oa=0/\dc=0)\/(h'≠232/\oa=h'/\dc=232-h'))/\(Builtin.copy_ #[150,9] 3 #[U3 (some ⟨g,oa,none⟩) (232-h') dc,U7 R]).run prog wr=.ok (goInt R.size) w5/\oP w5 (U3 (lc g) 232 232) (lay out h' R.pu)/\ah [g] wr w5 from by
      by_cases hz:h'=232
      .obtain⟨w5,h1,h2,h3⟩:=KCP.o 0 (.inr ⟨ls,ls⟩) 0;exact⟨0,0,w5,.inl ⟨hz,rfl,rfl⟩,h1,h2,h3⟩
      .obtain⟨w5,h1,h2,h3⟩:=KCP.o h' (.inl rfl) (232-h');exact⟨h',232-h',w5,.inr ⟨hz,rfl,rfl⟩,h1,h2,h3⟩)
     obtain⟨oa,dc,w5,hoa,cp,B5,o5⟩:=KX.o;have S5:=SS.o.only o5 NS.o;have T5:=TT.o.only o5 NT.o;have O5:=xh<|OO.o.trans (o5.bI OO.o.size (by simp;exact hg));obtain⟨v6,w6,ea,S6,o6,F6⟩:=Ml S5 h' R.size ls;obtain⟨VA,vc,rfl⟩:=aI S6;have B6:=xh<|B5.only o6 (λx hx SD=>eg S5 B5 ms x SD hx);have T6:=xh<|T5.only o6 (eg T5 S5 ms);have O6:=xh<|O5.o.trans (o6.bI O5.o.size F.o)
     have F7:=g9 (∀g∈ak (U3 VA (k+1) vc),w.heap.size<=g) (λg hg=>(F6 g hg).elim (F.o g) (λh=>aD O5.o.size h));have S6:=xh S6;clear KX B5 o5 S5 T5 o6 F6 KCP NS NT HB
     rcases hoa with⟨rfl,rfl,rfl⟩|⟨hz,rfl,rfl⟩
     all_goals
      try simp only[show((232:Nat):Int)=232 from rfl]at ea
      go_wp2;go_roundw
      case rel=>exact⟨k+1,ls,by go_num,by rw[HCk.o]<;>rfl,by rw[HCk.o];exact B6.o,by rw[HCk.o];exact S6.o,T6.o,O6.o,F7⟩
      case measure=>simp[intOf];omega
    .have Gf:=g9 (k=n) ls;obtain rfl:k=n:=Gf.o;have HL:=xh HLA.o;have HTL:=xh (Kq.o k).Y8;rw[<-HAL.o]at HL;have KW:=xh<|Ef B (vO.of S) (gR s.pu k).heap Gp (by have h1:=HL.o.head;have h2:=HL.o.hh;omega) ls (by have:=HL.o.hh;omega) HL.o.small;rw[iL,<-HCF.o]at KW;have Ze:=hg;have OO:=xh O;have XN:(gR s.pu k).heap<=232:=HL.o.hh;clear B S T O HL
     generalize gR s.pu k=C at *;go_wp2_with fail;go_call KW.o as e w5 ⟨rfl,o5⟩;have O6:=xh<|OO.o.trans (o5.bI OO.o.size (by simpa [ak]using Ze));clear o5;go_wp2;go_ret2;exact⟨rfl,O6.o⟩
  .exact eq HC.o fy
 .have HC:=xh h;have hb:(bH s.pu==0)=false:=by simpa using h
  have e1:mK s.pu=([],bH s.pu):=by unfold mK;rw[U9 h]
  rw[e1];clear h e1;unfold qW at KA;generalize bH s.pu=q at *;go_in;go_wp2_with fail;go_call KA.o as e w1 ⟨v,rfl,bu,fr,hv⟩
  rcases hv with⟨h0,-⟩|⟨-,rfl⟩
  .exact eq h0 HC.o
  .have O:=xh bu;clear bu fr;go_wp2;go_ret2;exact⟨rfl,O.o⟩
variable{w:BY}{A:Option Addr}{n c:Nat}{l:List Slot}
def mS:∃i:TypeInfo,prog.info? 271=some i/\i.zero=some (.agg #[U5 U6 0,U5 U6 0])/\i.size=2/\i.bytes=16:=info_parts yY
def Zf{cc:Nat}(h:n<=c):eM prog 266 266 w (U3 A n c) (U3 none 0 cc)= .ok (U3 A n c) w:=by
 obtain⟨i0,Ko,lC,kH,lM⟩:=mS;unfold eM
 cases A with
 |none=>simp[Builtin.append_,run_underlying underlying266,sizeOf,typeInfo,Ko,Builtin.lenOf,Builtin.firstCells,Bx.2 h,h]
 |some a=>simp[Builtin.append_,run_underlying underlying266,sizeOf,typeInfo,Ko,Builtin.lenOf,Builtin.firstCells,h,storeCells]
def Mq(l:List Slot)(i:Nat):sc l=sc (l.take i)++sc (l.drop i):=by rw[<-pU,mo]
def Mr(S:bm w 271 2 (U3 A n c) n (sc l))(i:Nat)(hi:i<=n)(hn:n<=1000000)(a:Addr)(cc:Nat)(lx:List Slot)(hm0:0<lx.length)(Td:lx.length<=1000000)(hx:∀j u,(sc lx)[j]?=some u->w.cell? (a.add j)=some u):
  ∃v' w',eM prog 266 266 w (U3 A i i) (U3 (some a) lx.length cc)= .ok v' w'/\bm w' 271 2 v' (i+lx.length) (sc (l.take i++lx))/\i7 w w'/\(∀g∈ak v',w.heap.size<=g):=by
 obtain⟨i0,Ko,lC,kH,lM⟩:=mS;have hl:=S.1;rw[lj]at hl;have hnl:(sc lx).length=lx.length*2:=by rw[lj];omega
 rcases S.2 with⟨hv,h0⟩|⟨g,cap,rest,hv,B,hc,_⟩
 .simp only[Value.slice.injEq]at hv;obtain⟨rfl,-,rfl⟩:=hv;subst h0;obtain rfl:i=0:=ls
  obtain⟨v',w',e,S',o,F⟩:=eu (P:=prog) (bm.nil w 271 2) 266 266 i0 (.agg #[U5 U6 0,U5 U6 0]) 16 underlying266 Ko lC kH lM rfl ls a lx.length cc (sc lx) hnl hx (Za lx) (by unfold sh;omega) ls;exact⟨v',w',e,by rw[jK,dD];simpa using S',o.below (by simp[ak]),λx hx=>(F x hx).elim (by simp[ak]) id⟩
 .simp only[Value.slice.injEq]at hv;obtain⟨rfl,-,rfl⟩:=hv;have hli:(sc (l.take i)).length=i*2:=by rw[lj,bY];omega
  obtain⟨v',w',CO,h2,h3⟩:=run_append_arg_grows (P:=prog) w 266 266 271 i0 (.agg #[U5 U6 0,U5 U6 0]) 2 16 underlying266 Ko lC kH lM rfl ls ⟨g,0,none⟩ i i (sc (l.take i)) hli
   (bT B 0 _ (by
    intro j u hu;rw[bV];have hj:j<(sc (l.take i)).length:=(aW.1 hu).1;rw[Mq l i,cV,bX hj];exact hu)) a lx.length cc (sc lx) hnl hx ls (by unfold sh;omega) ls
  rw[<-pU]at h2;refine⟨v',w',CO,.CJ h2,((ah.refl [] w).grown h3 lw).gq,?_⟩;intro g' hg
  rcases h2.2 with⟨rfl,_⟩|⟨g'',Ky,cur,rfl,hb,_⟩
  .simp[ak]at hg
  .simp[ak]at hg;subst hg;exact hb
def Eh(S:bm w 271 2 (U3 A n c) n (sc l))(i:Nat)(hi:i<=n)(hn:n<=1000000)(a b:Nat):
  ∃v' w',eM prog 266 266 (w.alloc (Pi #[a,b] 271)) (U3 A i i) (U3 (lc w.heap.size) 1 1)= .ok v' w'/\bm w' 271 2 v' (i+1) (sc (l.take i++[(a,b)]))/\i7 w w'/\(∀g∈ak v',w.heap.size<=g):=by
 have b0:=(i5 w).alloc (ai _) (Pi #[(a:Int),(b:Int)] 271);obtain⟨v',w',e,S',o,F⟩:=Mr (S.below b0) i hi hn ⟨w.heap.size,0,none⟩ 1 [(a,b)] lw lw (bT (l:=[(a:Int),(b:Int)]) (aM.new _ _ _) 0 _ (by intro j u hu;rw[bV];exact hu));exact⟨v',w',e,S',aE b0 o,λg hg=>aD lw (F g hg)⟩
def Av{vt:By}{m:Nat}{lt:List Slot}(T:bm w 271 2 vt m (sc lt))(S:bm w 271 2 (U3 A n c) n (sc l))(i:Nat)(hi:i<=n)(hn:n<=1000000)(hm:m<=1000000)(hmp:0<m):
  ∃A' cc v' w',((A=none/\n=0/\i=0/\c=0/\A'=none/\cc=0)\/(∃g,A=some ⟨g,0,none⟩/\c=i/\n=i/\A'=some ⟨g,0,none⟩/\cc=0)\/(∃g,A=some ⟨g,0,none⟩/\c≠i/\i<c/\n<=c/\A'=some ⟨g,i*2,none⟩/\cc=c-i))/\
   eM prog 266 266 w vt (U3 A' (n-i) cc)= .ok v' w'/\bm w' 271 2 v' (m+(n-i)) (sc (lt++l.drop i))/\ah (ak vt) w w'/\(∀g∈ak v',g∈ak vt\/w.heap.size<=g):=by
 obtain⟨i0,Ko,lC,kH,lM⟩:=mS;have hl:=S.1;rw[lj]at hl
 rcases S.2 with⟨hv,h0⟩|⟨g,cap,rest,hv,B,hc,_⟩
 .simp only[Value.slice.injEq]at hv;obtain⟨rfl,-,rfl⟩:=hv;subst h0;obtain rfl:i=0:=ls
  have Lm:l=[]:=pf ls;subst Lm;obtain⟨g,cap,rest,rfl,_,yZ,_⟩:=T.form hmp ls;exact⟨none,0,_,w,.inl ⟨rfl,rfl,rfl,rfl,rfl,rfl⟩,Zf yZ,by simpa using T,ah.refl _ _,λx hx=> .inl hx⟩
 .simp only[Value.slice.injEq]at hv;obtain⟨rfl,-,rfl⟩:=hv;have Kx:n<=c:=by
   have:=S.1;omega
  have Zg:(sc (l.drop i)).length=(n-i)*2:=by rw[lj,ef];omega
  have hcells:∀(o:Nat),o=i*2\/n-i=0->∀j u,(sc (l.drop i))[j]?=some u->w.cell? ((⟨g,o,none⟩:Addr).add j)=some u:=λo ho=>bT B o _ (by
   intro j u hu;have hj:j<(sc (l.drop i)).length:=(aW.1 hu).1
   rcases ho with rfl|h0
   .have hti:(sc (l.take i)).length=i*2:=by rw[lj,bY];omega
    rw[Mq l i,cV,eC ls,hti,Nat.add_sub_cancel_left,bX hj];exact hu
   .omega)
  have key:∀(o cc:Nat),o=i*2\/n-i=0->∃v' w',eM prog 266 266 w vt (U3 (some ⟨g,o,none⟩) (n-i) cc)= .ok v' w'/\bm w' 271 2 v' (m+(n-i)) (sc (lt++l.drop i))/\ah (ak vt) w w'/\(∀g∈ak v',g∈ak vt\/w.heap.size<=g):=by
   intro o cc ho;obtain⟨v',w',e,S',o',F⟩:=eu (P:=prog) T 266 266 i0 (.agg #[U5 U6 0,U5 U6 0]) 16 underlying266 Ko lC kH lM rfl ls ⟨g,o,none⟩ (n-i) cc (sc (l.drop i)) Zg (hcells o ho) (Za _) (by unfold sh;omega) ls;rw[<-pU]at S';exact⟨v',w',e,S',o',F⟩
  by_cases hci:c=i
  .have hni:n=i:=ls
   obtain⟨v',w',h1,h2,h3,h4⟩:=key 0 0 (.inr ls);exact⟨_,0,v',w',.inr (.inl ⟨g,rfl,hci,hni,rfl,rfl⟩),h1,h2,h3,h4⟩
  .obtain⟨v',w',h1,h2,h3,h4⟩:=key (i*2) (c-i) (.inl rfl);exact⟨_,c-i,v',w',.inr (.inr ⟨g,rfl,hci,ls,Kx,rfl,rfl⟩),h1,h2,h3,h4⟩
variable{b r:UV}
def xD(b:UV)(i:Int)(r:UV):UV×Int:=
 if bH b=0 then(if 0<=i/\i<=(bS b 0:Int)then(if(r.length:Int)<=jM b-4 then(vM b i.toNat r,0)else([],11))else([],3))else([],bH b)
def Zh(h:¬4+4*(bS b 0+1)+r.length>bS b 2):k8 b r=b:=by unfold k8;rw[U9 h]
def Vy(h:4+4*(bS b 0+1)+r.length>bS b 2):k8 b r=iX b:=by unfold k8;rw[U8 h]
def uX(s:Nm)(w:BY)(hs:s.size<=1000000):
  ∃cap w',(convert 9 150 (U7 s)).run prog w=.ok (U3 (lc w.heap.size) s.size cap) w'/\oP w' (U3 (lc w.heap.size) s.size cap) s.data.toList/\i7 w w':=by
 obtain⟨cap,w1,e1,S1,bu⟩:=AV (P:=prog) w 9 150 5 s underlying9 underlying150 underlying5 (by unfold sh;omega);refine⟨cap,w1,e1,?_,bu⟩;unfold oP;rw[show s.pu.length=s.size from by simp];exact S1
def Mu(h:Sound b)(i:Nat)(hr:(r.length:Int)<=jM b-4)(hi:i<=bS b 0):
  ∃t:UV,t=k8 b r/\Sound t/\bS t 0=bS b 0/\4+4*(bS b 0+1)+r.length<=bS t 2/\
   vM b i r=lS (lay t (bS t 2-r.length) r) (((cw t).take i++[(bS t 2-r.length,r.length)])++(cw t).drop i) (bS t 2-r.length)/\
   Laid (lay t (bS t 2-r.length) r) (((cw t).take i++[(bS t 2-r.length,r.length)])++(cw t).drop i) (bS t 2-r.length):=by
 obtain⟨hs,he,h0,hh⟩:=h.base r hr;refine⟨_,rfl,hs,h0,hh,?_,?_⟩
 .unfold vM;simp
 .rw[cV];exact Laid.insert hs i r (by rw[h0];exact hh) (by rw[h0];exact hi)
def Vz(s r:Nm)(i:Nat)(w:BY)(hs:Sound s.data.toList)(hr:(r.size:Int)<=jM s.data.toList-4)(hi:i<=bS s.data.toList 0):
  io prog 164 #[U7 s,U5 U6 i,U7 r] w λe w'=>e=fd (rg #[U7 ⟨(vM s.data.toList i r.data.toList).toArray⟩,U5 U6 0])/\i7 w w':=by
 have PU:s.size=232:=by have:=hs.len;simpa using this
 have h4:=hs.head;have h5:=hs.heap;have Th:r.data.toList.length=r.size:=by simp
 obtain⟨t,ht,tS,t0,t2,hF,Tv⟩:=Mu hs i (r:=r.data.toList) (by rw[Th];exact hr) hi;rw[Th]at t2 hF Tv;rw[hF];have Oz:=(gr _).2 hs;have YE:xy s.data.toList=jM s.data.toList:=by unfold xy;rw[U8 Oz]
 have hrle:jM s.data.toList<=228:=by unfold jM;omega
 have KC:=xh (λw'=>l6 s w' (by omega));have KL:=xh (λw'=>lF s w' (by omega) (by omega));have KR:=xh (λw'=>Mk s w' (by omega));have K2:=xh (λw'=>iS s 2 w' (by omega) (by omega) (by omega));have KM:=xh (λw'=>Mo s w' (by omega));have hcg:mK s.data.toList=(iX s.data.toList,0):=by unfold mK;rw[U8 Oz]
 rw[hcg]at KM;rw[Oz]at KC;rw[YE]at KR;simp only[show(2:Int).toNat=2 from rfl]at K2;obtain⟨T,rfl⟩:∃T:Nm,T.data.toList=t:=⟨⟨t.toArray⟩,by simp⟩;have BH:T.size=232:=by have:=tS.len;simpa using this
 have tH:=tS.heap;have KLT:=xh (λw'=>lF T w' (by rw[t0];omega) (by omega));have K2T:=xh (λw'=>iS T 2 w' (by omega) (by omega) (by omega));simp only[show(2:Int).toNat=2 from rfl]at K2T;rw[t0]at KLT;have Xl:=xh<|dF T.data.toList;rw[t0]at Xl;obtain⟨h',hh'⟩:∃h',bS T.data.toList 2=h'+r.size:=⟨bS T.data.toList 2-r.size,by omega⟩;rw[hh',qx]at Tv;rw[hh',qx];rw[hh']at tH t2 K2T
 have Bh:bS s.data.toList 0<65536:=sj _ _;have Aw:=xh Tv;have HT:=xh ht;have HCB:=xh (show 4+4*(bS s.data.toList 0+1)+r.size>bS s.data.toList 2->(⟨(iX s.data.toList).toArray⟩:Nm)=T from λhg=>by
  rw[Vy (by rw[Th];exact hg)]at ht;rw[<-ht])
 have Zi:=xh (show ¬4+4*(bS s.data.toList 0+1)+r.size>bS s.data.toList 2->s=T from λhg=>by
  rw[Zh (by rw[Th];exact hg)]at ht;apply mP;apply rk.1;exact ht.symm)
 have HTL:=xh BH;have hTl1:T.size<=1000000:=by omega
 clear ht tS hF Tv Oz YE hcg PU Th hh' BH t0 hs;generalize bS s.data.toList 0=n at *;generalize bS s.data.toList 2=heap at *;generalize jM s.data.toList=room at *;go_in;go_wp2_with fail;go_call (KC.o _) as e w1 ⟨rfl,bu⟩;have O1:=xh bu;clear bu;go_wp2_with fail;go_call (KL.o _) as e w2 ⟨v,rfl,S2,da,GW⟩;have O2:=xh<|aE O1.o da;have hS2:=xh S2;obtain⟨A2,c2,rfl⟩:=aI S2
 have FR2:=g9 (∀g∈ak (U3 A2 n c2),w.heap.size<=g) (λg hg=>aD O1.o.size (GW g hg));clear S2 da GW;go_wp2_with fail;go_call (KR.o _) as e w3 ⟨rfl,gK⟩;have O3:=xh<|aE O2.o gK;have S3:=xh<|hS2.o.below gK;clear gK hS2;go_wp2_with fail;go_call (K2.o _) as e w4 ⟨rfl,iZ⟩;have O4:=xh<|aE O3.o iZ;have S4:=xh<|S3.o.below iZ;clear iZ S3 O3 O2 O1
 by_cases hg:4+4*(n+1)+r.size>heap
 .have e1:=HCB.o hg;rw[e1]at KM;clear e1;have Tx:heap<4+4*(n+1)+r.size:=hg;clear hg HCB Zi;go_wp2_with fail;go_call (KM.o _) as e w5 ⟨rfl,oQ⟩;have O5:=xh<|aE O4.o oQ;clear oQ O4;go_wp2_with fail;go_call (KLT.o _) as e w6 ⟨v,rfl,S6,vA,fr6⟩;have O6:=xh<|aE O5.o vA;obtain⟨A,c,rfl⟩:=aI S6;have S:=xh S6;have FR:=g9 (∀g∈ak (U3 A n c),w.heap.size<=g) (λg hg=>aD O5.o.size (fr6 g hg))
  clear S6 vA fr6 O5 S4;go_wp2_with fail;go_call (K2T.o _) as e w7 ⟨rfl,oC⟩;have O7:=xh<|aE O6.o oC;have S7:=xh<|S.o.below oC;clear oC S O6 Tx KM K2 KC KL KR K2T KLT;obtain⟨cap,w8,e8,B8,AW⟩:=uX T w7 (by omega);rw[HTL.o]at e8 B8;have E8:=xh e8;have O8:=xh<|aE O7.o AW;have S8:=S7.o.below AW;have hgw:=aD O7.o.size (ai w7.heap.size);have sI:T.data.toList.length=232:=by have:=HTL.o;simpa using this
  have NS:=xh<|xC S8 B8 ms;have yZ:232<=cap:=by obtain⟨rest,_,h2,_⟩:=bm.ya B8;rw[jS,sI]at h2;omega
  obtain⟨oa,dc,w9,hoa,cp,B9,o9⟩:∃(oa dc:Nat) (w9:BY),((h'=232/\cap=232/\oa=0/\dc=0)\/(h'≠cap/\h'<cap/\oa=h'/\dc=cap-h'))/\(Builtin.copy_ #[150,9] 3 #[U3 (some ⟨w7.heap.size,oa,none⟩) (232-h') dc,U7 r]).run prog w8=.ok (goInt r.size) w9/\oP w9 (U3 (some ⟨w7.heap.size,0,none⟩) 232 cap) (lay T.data.toList h' r.data.toList)/\ah [w7.heap.size] w8 w9:=by
   rw[<-sI]at B8
   by_cases hz:h'=cap
   .obtain⟨w9,h1,h2,h3⟩:=sH B8 h' 0 0 r (by omega) (.inr ⟨by omega,by omega⟩) (232-h') (by omega);rw[sI]at h2;exact⟨0,0,w9,.inl ⟨by omega,by omega,rfl,rfl⟩,h1,h2,h3⟩
   .obtain⟨w9,h1,h2,h3⟩:=sH B8 h' h' (cap-h') r (by omega) (.inl rfl) (232-h') (by omega);rw[sI]at h2;exact⟨h',cap-h',w9,.inr ⟨hz,by omega,rfl,rfl⟩,h1,h2,h3⟩
  have S9:=S8.only o9 NS.o;have O9:=xh<|O8.o.trans (o9.bI O8.o.size (by simpa using hgw));obtain⟨v10,yd,ea,T10,uR,Zj⟩:=Eh S9 i hi (by omega) h' r.size;obtain⟨V10,c10,rfl⟩:=aI T10;have O10:=xh<|aE O9.o uR;have B10:=B9.below uR;have Gq:=S9.below uR;obtain⟨A',cc,v11,w11,hd,eb,T11,o11,-⟩:=Av T10 Gq i hi (by omega) (by omega) (by omega);obtain⟨V11,c11,rfl⟩:=aI T11
  have B11:=B10.only o11 (λx hx SD=>eg T10 B10 ms x SD hx);have JJ:=xh<|O10.o.trans (o11.bI O10.o.size (λx hx=>aD O9.o.size (Zj x hx)));have KW:=xh<|Ef B11 (vO.of T11) h' Aw.o.len (by have h1:=Aw.o.head;have h2:=Aw.o.hh;omega) (by omega) (by omega) Aw.o.small;rw[iL]at KW;have Ze:=g9 (∀x∈ak (U3 (some ⟨w7.heap.size,0,none⟩) 232 cap),w.heap.size<=x) (by simpa [ak]using hgw)
  generalize Zk:lS (lay T.data.toList h' r.data.toList) (List.take i (cw T.data.toList)++[(h',r.size)]++List.drop i (cw T.data.toList)) h'=RES at *;have Yh:=xh Zk;clear Zk;clear e8 B8 AW S8 NS B9 o9 S9 T10 uR Zj B10 Gq T11 o11 B11 O7 S7 O8 O9 O10 sI;go_wp2_with fail;rw[E8.o]
  rcases hoa with⟨rfl,rfl,rfl,rfl⟩|⟨hz,lM,rfl,rfl⟩
  all_goals
   rcases hd with⟨rfl,rfl,rfl,rfl,rfl,rfl⟩|⟨gA,rfl,rfl,rfl,rfl,rfl⟩|⟨gA,rfl,hci,hci2,Kx,rfl,rfl⟩
  all_goals
   try simp only[show((232:Nat):Int)=232 from rfl,show((0:Nat):Int)=0 from rfl]at ea
   try simp only[ik,mq]at eb KW
   go_wp2_with fail;go_call KW.o as e w12 ⟨rfl,o12⟩;have O12:=xh<|JJ.o.trans (o12.bI JJ.o.size Ze.o);clear o12;go_wp2;go_ret2;refine⟨?_,O12.o⟩
   first|rfl|(rw[Yh.o];rfl)
 .have e1:=Zi.o hg;have Tx:4+4*(n+1)+r.size<=heap:=by omega
  clear hg HCB Zi;subst e1;have A2':=FR2;go_wp2_with fail;go_call (K2T.o _) as e w7 ⟨rfl,oC⟩;have O7:=xh<|aE O4.o oC;have S7:=xh<|S4.o.below oC;clear oC S4 O4 Tx KM K2 KC KL KR K2T KLT;obtain⟨cap,w8,e8,B8,AW⟩:=uX s w7 (by omega);rw[HTL.o]at e8 B8;have E8:=xh e8;have O8:=xh<|aE O7.o AW;have S8:=S7.o.below AW;have hgw:=aD O7.o.size (ai w7.heap.size)
  have sI:s.data.toList.length=232:=by have:=HTL.o;simpa using this
  have NS:=xh<|xC S8 B8 ms;have yZ:232<=cap:=by obtain⟨rest,_,h2,_⟩:=bm.ya B8;rw[jS,sI]at h2;omega
  obtain⟨oa,dc,w9,hoa,cp,B9,o9⟩:∃(oa dc:Nat) (w9:BY),((h'=232/\cap=232/\oa=0/\dc=0)\/(h'≠cap/\h'<cap/\oa=h'/\dc=cap-h'))/\(Builtin.copy_ #[150,9] 3 #[U3 (some ⟨w7.heap.size,oa,none⟩) (232-h') dc,U7 r]).run prog w8=.ok (goInt r.size) w9/\oP w9 (U3 (some ⟨w7.heap.size,0,none⟩) 232 cap) (lay s.data.toList h' r.data.toList)/\ah [w7.heap.size] w8 w9:=by
   rw[<-sI]at B8
   by_cases hz:h'=cap
   .obtain⟨w9,h1,h2,h3⟩:=sH B8 h' 0 0 r (by omega) (.inr ⟨by omega,by omega⟩) (232-h') (by omega);rw[sI]at h2;exact⟨0,0,w9,.inl ⟨by omega,by omega,rfl,rfl⟩,h1,h2,h3⟩
   .obtain⟨w9,h1,h2,h3⟩:=sH B8 h' h' (cap-h') r (by omega) (.inl rfl) (232-h') (by omega);rw[sI]at h2;exact⟨h',cap-h',w9,.inr ⟨hz,by omega,rfl,rfl⟩,h1,h2,h3⟩
  have S9:=S8.only o9 NS.o;have O9:=xh<|O8.o.trans (o9.bI O8.o.size (by simpa using hgw));obtain⟨v10,yd,ea,T10,uR,Zj⟩:=Eh S9 i hi (by omega) h' r.size;obtain⟨V10,c10,rfl⟩:=aI T10;have O10:=xh<|aE O9.o uR;have B10:=B9.below uR;have Gq:=S9.below uR;obtain⟨A',cc,v11,w11,hd,eb,T11,o11,-⟩:=Av T10 Gq i hi (by omega) (by omega) (by omega);obtain⟨V11,c11,rfl⟩:=aI T11
  have B11:=B10.only o11 (λx hx SD=>eg T10 B10 ms x SD hx);have JJ:=xh<|O10.o.trans (o11.bI O10.o.size (λx hx=>aD O9.o.size (Zj x hx)));have KW:=xh<|Ef B11 (vO.of T11) h' Aw.o.len (by have h1:=Aw.o.head;have h2:=Aw.o.hh;omega) (by omega) (by omega) Aw.o.small;rw[iL]at KW;have Ze:=g9 (∀x∈ak (U3 (some ⟨w7.heap.size,0,none⟩) 232 cap),w.heap.size<=x) (by simpa [ak]using hgw)
  generalize Zk:lS (lay s.data.toList h' r.data.toList) (List.take i (cw s.data.toList)++[(h',r.size)]++List.drop i (cw s.data.toList)) h'=RES at *;have Yh:=xh Zk;clear Zk;clear e8 B8 AW S8 NS B9 o9 S9 T10 uR Zj B10 Gq T11 o11 B11 O7 S7 O8 O9 O10 sI;go_wp2_with fail;rw[E8.o]
  rcases hoa with⟨rfl,rfl,rfl,rfl⟩|⟨hz,lM,rfl,rfl⟩
  all_goals
   rcases hd with⟨rfl,rfl,rfl,rfl,rfl,rfl⟩|⟨gA,rfl,rfl,rfl,rfl,rfl⟩|⟨gA,rfl,hci,hci2,Kx,rfl,rfl⟩
  all_goals
   try simp only[show((232:Nat):Int)=232 from rfl,show((0:Nat):Int)=0 from rfl]at ea
   try simp only[ik,mq]at eb KW
   go_wp2_with fail;go_call KW.o as e w12 ⟨rfl,o12⟩;have O12:=xh<|JJ.o.trans (o12.bI JJ.o.size Ze.o);clear o12;go_wp2;go_ret2;refine⟨?_,O12.o⟩
   first|rfl|(rw[Yh.o];rfl)
def QP(s r:Nm)(i:Int)(w:BY)(hs:s.size<=1000000)(hr:r.size<=9223372036854775807):
  io prog 164 #[U7 s,U5 U6 i,U7 r] w λe w'=>e=fd (rg #[U7 ⟨(xD s.data.toList i r.data.toList).1.toArray⟩,U5 U6 (xD s.data.toList i r.data.toList).2])/\i7 w w':=by
 have Th:r.data.toList.length=r.size:=by simp
 have KC:=xh (λw'=>l6 s w' hs)
 by_cases h:bH s.data.toList=0
 .have hS:=(gr _).1 h;have PU:s.size=232:=by have:=hS.len;simpa using this
  have h4:=hS.head;have h5:=hS.heap
  by_cases hi:0<=i/\i<=(bS s.data.toList 0:Int)
  .by_cases hg:(r.size:Int)<=jM s.data.toList-4
   .have e1:xD s.data.toList i r.data.toList=(vM s.data.toList i.toNat r.data.toList,0):=by unfold xD;rw[U8 h,U8 hi,Th,U8 hg]
    rw[e1];obtain⟨k,rfl⟩:=fu hi.1;rw[iL];exact Vz s r k w hS hg (by omega)
   .have e1:xD s.data.toList i r.data.toList=([],11):=by unfold xD;rw[U8 h,U8 hi,Th,U9 hg]
    rw[e1];have YE:xy s.data.toList=jM s.data.toList:=by unfold xy;rw[U8 h]
    have Kr: -1000000<=jM s.data.toList:=by
     rw[Ee hS];have:=hS.sum;omega
    have VC:jM s.data.toList<=228:=by unfold jM;omega
    have KL:=xh (λw'=>lF s w' (by omega) hs);have KR:=xh (λw'=>Mk s w' hs);rw[YE]at KR;rw[h]at KC;have Tx:jM s.data.toList-4<(r.size:Int):=by omega
    clear e1 h hS YE hg;generalize jM s.data.toList=room at *;generalize bS s.data.toList 0=n at *;obtain⟨hi1,Ti⟩:=hi;go_in;go_wp2_with fail;go_call (KC.o _) as e w1 ⟨rfl,bu⟩;have O1:=xh bu;clear bu;go_wp2_with fail;go_call (KL.o _) as e w2 ⟨v,rfl,S2,da,-⟩;have O2:=xh<|aE O1.o da;obtain⟨A2,c2,rfl⟩:=aI S2;clear S2 da;go_wp2_with fail;go_call (KR.o _) as e w3 ⟨rfl,gK⟩
    have O3:=xh<|aE O2.o gK;clear gK;go_wp2;go_ret2;exact⟨rfl,O3.o⟩
  .have e1:xD s.data.toList i r.data.toList=([],3):=by unfold xD;rw[U8 h,U9 hi]
   rw[e1];have KL:=xh (λw'=>lF s w' (by omega) hs);rw[h]at KC;generalize bS s.data.toList 0=n at *;have hx:i<0\/(¬i<0/\(n:Int)<i):=by omega
   clear e1 h hi hS
   rcases hx with h1|⟨h1,h2⟩
   all_goals
    go_in;go_wp2_with fail;go_call (KC.o _) as e w1 ⟨rfl,bu⟩;have O1:=xh bu;clear bu;go_wp2_with fail;go_call (KL.o _) as e w2 ⟨v,rfl,S2,da,-⟩;have O2:=xh<|aE O1.o da;obtain⟨A2,c2,rfl⟩:=aI S2;clear S2 da;go_wp2;go_ret2;exact⟨rfl,O2.o⟩
 .have e1:xD s.data.toList i r.data.toList=([],bH s.data.toList):=by unfold xD;rw[U9 h]
  have hb:(bH s.data.toList==0)=false:=by simpa using h
  rw[e1];clear e1 h;generalize bH s.data.toList=q at *;go_in;go_wp2_with fail;go_call (KC.o _) as e w1 ⟨rfl,bu⟩;have O1:=xh bu;clear bu;go_wp2;go_ret2;exact⟨rfl,O1.o⟩
end Sl
namespace Sl
open Go.RowKit
def mk2(b:UV)(k j:Nat):Nat->Bool:=λi=>cover ((cw b).take k) i || (decide ((slot b k).1<=i) && decide (i<j))
attribute [local go_sem ↓] bP
def sJ{w:BY}{A:Option Addr}{n c:Nat}{l:List (UV)}(S:bm w 9 1 (U3 A n c) n (strs l))(k:Nat)(hk:k<l.length):∃g,A=some ⟨g,0,none⟩/\w.cell? ⟨g,k,none⟩=some (U7 ⟨l[k].toArray⟩):=by
 have hl:=S.1;rw[Aq]at hl;obtain⟨g,cap,rest,hv,B,_,_⟩:=S.form ls ls;simp only[Value.slice.injEq,true_and]at hv;obtain⟨rfl,rfl⟩:=hv;exact⟨g,rfl,B.ae (by rw[dr,bX (by rw[Aq];exact hk)];simp[strs,aQ hk])⟩
def size_of_list(l:UV):(⟨l.toArray⟩:Nm).size=l.length:=by
 show l.toArray.size=l.length;simp
section
variable{w:BY}{A:Option Addr}{n c i:Nat}{l:List (UV)}{A3:Option Addr}{cc:Nat}
end
section
variable{W:BY}{A:Option Addr}{n c i:Nat}{l:List (UV)}{A3:Option Addr}{cc:Nat}{r:Nm}
end
end Sl
namespace Sl
open Go.RowKit
attribute [local go_sem ↓] bP
variable{b:UV}
def Ty(T:Nm):(⟨T.data.toList.toArray⟩:Nm)=T:=lw
def Zl(b:UV):∃T:Nm,T.data.toList=b:=⟨⟨b.toArray⟩,lw⟩
def qX(h:Sound b):∀r∈dI b,r.length<=232:=by
 intro r hr;simp only[dI,dq]at hr;obtain⟨x,hx,rfl⟩:=hr;have:=(h.fit.rF x hx).2;rw[Ao (by rw[h.len];omega)];omega
def uo(h:Sound b):(dI b).length<=57:=by
 rw[ez];have:=h.head;have:=h.heap;omega
def Tz(h:Sound b)(i:Nat)(r:UV)(hr:(r.length:Int)<=kF (dI b)-4)(hi:i<=(dI b).length):
  xD b i r=(vM b i r,0)/\Sound (vM b i r)/\dI (vM b i r)=(dI b).take i++r::(dI b).drop i:=by
 rw[ez]at hi;rw[<-Tt h]at hr;refine⟨?_,h.insert i r hr hi⟩;unfold xD;rw[U8 ((gr b).2 h),U8 ⟨ls,ls⟩,U8 hr,iL]
open Go.RowKit Go.Deep Go.ChangeShapes Go.WideShapes
def QQ{b:UV}(h:Sound b)(i:Nat)(r:UV)(hr:kF (dI b)-4<(r.length:Int))(hi:i<=(dI b).length):xD b i r=([],11):=by
 rw[ez]at hi;rw[<-Tt h]at hr;unfold xD;rw[U8 ((gr b).2 h),U8 ⟨ls,ls⟩,ge]
end Sl
namespace Sl
open Go.RowKit Go.Deep Go.ChangeShapes Go.WideShapes
structure Ac where
 kind:Int
 i:Int
 r:Nm
instance:Inhabited Ac:=⟨⟨0,0,.empty⟩⟩
open Go.RowKit
attribute [local go_sem ↓] bP
def Ei(l:List (UV))(k:Nat)(h:k<l.length):kF (l.take (k+1))=kF (l.take k)-4-(l[k].length:Int):=by
 unfold kF;rw[ij h,eS,Br];simp;omega
def Ej(l:List (UV))(k:Nat):kF l<=kF (l.take k):=by
 unfold kF;have:((l.take k).map λr=>4+r.length).sum<=(l.map λr=>4+r.length).sum:=by
  rw[mZ];exact Au _ k
 omega
def Mv(l:List (UV)):Nat->UV
 |0=>mR
 |k+1=>vM (Mv l k) k (l.getD k [])
def ofL(l:List (UV)):UV:=Mv l l.length
def Zm(l:List (UV))(w:BY)(e:Ending)(w':BY):Prop:=
 ((0<=kF l/\∃b:Nm,e=fd (rg #[U7 b,U5 U6 0])/\Sound b.data.toList/\dI b.data.toList=l/\b.data.toList=ofL l)\/(kF l<0/\e=fd (rg #[U7 ⟨#[]⟩,U5 U6 11])))/\i7 w w'
def Zn{w:BY}{v:By}{l:List (UV)}(S:bm w 9 1 v l.length (strs l))(hl:l.length<=1000000)(hm:∀r∈l,r.length<=1000000):
  io prog 119 #[v] w (Zm l w):=by
 obtain⟨A,c,rfl⟩:=aI S;have SS:=xh S;obtain⟨s0,r0,-,-⟩:=sG;obtain⟨T0,h0⟩:=Zl mR;have KE:=xh<|nE w;rw[<-h0,Ty]at KE;rw[<-h0]at s0 r0;have HS:=g9 (Sound T0.data.toList/\dI T0.data.toList=l.take 0/\T0.data.toList=Mv l 0) ⟨s0,r0,h0⟩;have HM:=g9 (∀k (h:k<l.length),l[k].length<=1000000) (λk h=>hm _ (jR h));have HR:=xh (λk h=>Ei l k h);have HMO:=xh (λk=>Ej l k)
 have HAL:=g9 (l.take l.length=l) ig;have HZ:=g9 (0<=kF (l.take 0)) (by rw[jK];decide);clear S s0 r0 h0 hm;go_in;go_wp2_with fail;go_call KE.o as e w1 ⟨rfl,bu⟩;have S1:=xh<|SS.o.below bu;have O1:=xh bu;clear bu SS;go_wp2_with fail
 go_loopw [4,12] (λbv iv wr=> ∃(k:Nat) (b:Nm),k<=l.length/\bv=U7 b/\iv=U5 U6 k/\Hid (Sound b.data.toList/\dI b.data.toList=l.take k/\b.data.toList=Mv l k)/\Hid (0<=kF (l.take k))/\bm wr 9 1 (U3 A l.length c) l.length (strs l)/\i7 w wr) (λ_ iv _=>l.length-(intOf iv).toNat)
 case atStart=>exact⟨0,T0,bG _,rfl,rfl,HS,HZ,S1.o,O1.o⟩
 case round=>
  obtain⟨k,b,hk,rfl,rfl,HB,HP,S,O⟩:=hrel;have OO:=xh O;have SS:=xh S;clear S O
  by_cases h:k<l.length
  .obtain⟨g,rfl,ck⟩:=sJ SS.o k h;have hrk:=HM.o k h;have HRk:=xh<|HR.o k h;have HMk:=xh<|HMO.o (k+1);obtain⟨R,hR⟩:=Zl l[k];have QL:=g9 (l.take (k+1)=l.take k++[R.data.toList]) (by rw[ij h,hR]);rw[<-hR]at ck hrk HRk;rw[Ty]at ck;have hRl:R.data.toList.length=R.size:=by simp
   rw[hRl]at hrk HRk;have hs:=HB.o.1;have pC:b.size=232:=by have:=hs.len;simpa using this
   have KI:=xh (λw'=>QP b R k w' (by omega) (by omega));have hlen:(dI b.data.toList).length=k:=by rw[HB.o.2.1,bY];omega
   have hki:(k:Int)<(l.length:Int):=by omega
   by_cases hf:0<=kF (l.take (k+1))
   .obtain⟨i1,s1,r1⟩:=Tz hs k R.data.toList (by rw[HB.o.2.1,hRl];have:=HRk.o;omega) (by omega);obtain⟨T,hT⟩:=Zl (vM b.data.toList k R.data.toList);rw[<-hT]at i1 s1 r1;rw[i1,Ty]at KI;have QR:=xh (show Sound T.data.toList/\dI T.data.toList=l.take (k+1)/\T.data.toList=Mv l (k+1)from⟨s1,by
     rw[r1,QL.o,HB.o.2.1];rw[cR (by rw[bY];omega),lT (by rw[bY];omega)],by
     rw[hT,hR,HB.o.2.2];show vM _ k l[k]=vM _ k (l.getD k []);rw[jG,aQ h];rfl⟩)
    have HF:=xh hf;clear i1 s1 r1 hT hs pC hlen hf hR hRl;go_wp2_with fail;go_call (KI.o _) as e w2 ⟨rfl,da⟩;have S2:=xh<|SS.o.below da;have O2:=xh<|aE OO.o da;clear da;go_wp2;go_roundw
    case rel=>exact⟨k+1,T,by omega,rfl,by go_num,QR,HF,S2.o,O2.o⟩
    case measure=>simp[intOf];omega
   .have i1:=QQ hs k R.data.toList (by rw[HB.o.2.1,hRl];have:=HRk.o;omega) (by omega);rw[i1]at KI;have HF:=g9 (kF l<0) (by have:=HMk.o;omega);clear i1 hs pC hlen hf hR hRl;go_wp2_with fail;go_call (KI.o _) as e w2 ⟨rfl,da⟩;have O2:=xh<|aE OO.o da;clear da;go_wp2;go_ret2;exact⟨.inr ⟨HF.o,rfl⟩,O2.o⟩
  .have Gf:=g9 (k=l.length) (by omega);go_wp2;go_ret2;refine⟨.inl ⟨?_,b,rfl,HB.o.1,?_,by rw[HB.o.2.2,Gf.o];rfl⟩,OO.o⟩
   .have:=HP.o;rw[Gf.o,HAL.o]at this;exact this
   .rw[HB.o.2.1,Gf.o,HAL.o]
end Sl
namespace Nd
open Go.RowKit Sl
variable{s:Nm}
structure E where
 key:Nm
 val:Nm
 bh:Int
def E.agg(e:E):By:= .agg #[U7 e.key,U7 e.val,U5 U6 e.bh]
def E.cells(e:E):List By:=[U7 e.key,U7 e.val,U5 U6 e.bh]
def eh(e:E)(leaf:Bool):Prop:=e.key.size<=32/\e.val.size<=40/\(if leaf=true then -1 else 0)<=e.bh/\e.bh<512/\(e.bh<0\/e.val.size=0)
instance(e:E)(leaf:Bool):Decidable (eh e leaf):=by unfold eh;exact inferInstance
def Hl(h:s.size=0):s= .empty:=by
 apply mP;exact zal0q h
def y9(h:s.size≠0):s.toList.isEmpty=false:=by
 cases e:s.toList with
 |nil=>
  refine eq ?_ h;rw[cM]at e;show s.data.size=0;rw[<-Xs,e];rfl
 |cons a l=>rfl
def ua(w:BY)(e:E)(leaf:Bool):
  io prog 162 #[e.agg,WF leaf] w λr w'=>r=fd (WF (decide (eh e leaf)))/\i7 w w':=by
 have O0:=xh<|(i5 w).alloc (ai _) (Pi #[U7 e.key,U7 e.val,e.bh] 111);have B0:=aM.new w 111 #[U7 e.key,U7 e.val,e.bh];have c0:=B0.bi 0;have c1:=B0.bi 1;have c2:=B0.bi 2;clear B0;obtain⟨b,hb⟩:∃b,b=decide (eh e leaf):=⟨_,rfl⟩;rw[<-hb]
 replace hb:=xh hb
 unfold E.agg;obtain⟨key,val,bh⟩:=e;dsimp only at *
 by_cases hv:val.size=0
 .have rl:=xh hv;obtain rfl:=Hl hv
  cases leaf
  all_goals
   go_in;go_wp2_with fail
  all_goals
   go_ret;refine⟨?_,O0.o⟩;have h:=hb.o;have Kp:=rl.o
   first
    |(rw[ww (by unfold eh;dsimp only;simp only[oH,if_false,if_true];omega)]at h;subst h;rfl)
    |(rw[wn (by unfold eh;dsimp only;simp only[oH,if_false,if_true];omega)]at h;subst h;rfl)
 .have rl:=y9 hv;have Kp:=xh hv;clear hv
  by_cases hf:bh<0
  all_goals
   cases leaf
  all_goals
   go_in;go_wp2_with fail
  all_goals
   go_ret;refine⟨?_,O0.o⟩;have h:=hb.o;have hv4:=Kp.o
   first
    |(rw[ww (by unfold eh;dsimp only;simp only[oH,if_false,if_true];omega)]at h;subst h;rfl)
    |(rw[wn (by unfold eh;dsimp only;simp only[oH,if_false,if_true];omega)]at h;subst h;rfl)
variable{w w':BY}{A:Option Addr}{n:Nat}{l:List E}
def ag{W w1:BY}(h:i7 W w1)(o:Obj):i7 W (w1.alloc o):=h.alloc h.size o
structure Hm(w:BY)(ad:Addr)(e:E):Prop where
 c0:w.cell? ad=some (U7 e.key)
 c1:w.cell? ⟨ad.block,ad.off+1,none⟩=some (U7 e.val)
 c2:w.cell? ⟨ad.block,ad.off+2,none⟩=some (U5 U6 e.bh)
def rG(w:BY)(A:Option Addr)(n:Nat)(l:List E):Prop:=l.length=n/\∀k e,l[k]?=some e->∃ad,A=some ad/\Hm w (ad.add (k*3)) e
def Hm.below{ad:Addr}{e:E}(h:Hm w ad e)(hb:i7 w w'):Hm w' ad e:=by
 have dP:=dU h.c0;exact⟨(hb.cell dP).trans h.c0,(hb.cell (p:=⟨ad.block,ad.off+1,none⟩) dP).trans h.c1,(hb.cell (p:=⟨ad.block,ad.off+2,none⟩) dP).trans h.c2⟩
def rG.below(h:rG w A n l)(hb:i7 w w'):rG w' A n l:=by
 refine⟨h.1,λk e he=>?_⟩;obtain⟨ad,e1,h1⟩:=h.2 k e he;exact⟨ad,e1,h1.below hb⟩
def rG.at(h:rG w A n l)(k:Nat)(hk:k<n):∃ad e,A=some ad/\l[k]?=some e/\Hm w (ad.add (k*3)) e:=by
 have hl:=h.1;obtain⟨ad,e1,h1⟩:=h.2 k l[k] (aQ ls);exact⟨ad,l[k],e1,aQ ls,h1⟩
def leB(a b:Nm):Bool:=Op.bytesLess a.toList b.toList || a.toList==b.toList
def okAt(l:List E)(leaf:Bool)(i:Nat):Prop:= ∀e,l[i]?=some e->eh e leaf/\(0<i->∀p,l[i-1]?=some p->leB e.key p.key=false)
def dm(l:List E)(leaf:Bool):Prop:= ∀i,i<l.length->okAt l leaf i
def bQ(leaf:Bool)(A:Option Addr)(n c:Nat):By:= .agg #[WF leaf,U3 A n c]
def Cj(leaf:Bool)(A:Option Addr)(n c:Nat)(l:List E)(h:rG w A n l)(hn:n<=9223372036854775807):
  io prog 117 #[bQ leaf A n c] w λr w'=>(∃b,r=fd (WF b)/\(b=true↔dm l leaf))/\i7 w w':=by
 have O0:=(i5 w).alloc (ai _) (Pi #[WF leaf,U3 A n c] 118);have B0:=xh<|aM.new w 118 #[WF leaf,U3 A n c];have hl:=xh h.1;have H0:=xh<|h.below O0;have O0:=xh O0;clear h;have c1:=B0.ap 1;unfold bQ;go_in;go_wp2_with fail;generalize (w.alloc (Pi #[WF leaf,U3 A n c] 118))=W at *;clear c1
 go_loopw [8] (λiv wr=> ∃i:Nat,i<=n/\iv=U5 U6 i/\(∀j,j<i->okAt l leaf j)/\i7 W wr) (λiv _=>n-(intOf iv).toNat)
 case atStart=>exact⟨0,ls,rfl,λj hj=>eq hj (lA j),Below.refl _ _⟩
 case round=>
  obtain⟨i,hi,rfl,fN,hb⟩:=hrel
  by_cases h:i<n
  .obtain⟨ad,e,rfl,he,AT⟩:=(H0.o.below hb).at i h;have HB:=xh hb;have Kq:=xh fN;have b0:=(B0.o.below hb B0.o.lt).ae (i:=0) rfl;have b1:=(B0.o.below hb B0.o.lt).ae (i:=1) rfl;have a0:=AT.c0;have a1:=AT.c1;have a2:=AT.c2;clear hb fN;have ja:=i6 wr (Pi #[U7 e.key,U7 e.val,e.bh] 111);have BE:=xh<|aM.new wr 111 #[U7 e.key,U7 e.val,e.bh];have QR:=xh<|aE HB.o ja
   have HE:=xh<|(H0.o.below HB.o).below ja;have HN:=xh<|(B0.o.below HB.o B0.o.lt).below ja (B0.o.below HB.o B0.o.lt).lt;clear ja AT;have hnn:(i:Int)<(n:Int):=ls
   go_wp2_with fail;generalize hwA:(wr.alloc (Pi #[U7 e.key,U7 e.val,e.bh] 111))=wA at *;clear hwA a0 a1 a2 b0 b1;have x0:=BE.ap 0;have x1:=BE.ap 1;have x2:=BE.ap 2;have y0:=HN.ap 0;have y1:=HN.ap 1;have hyx:wr.heap.size<wA.heap.size:=BE.o.lt
   have HK:=g9 (∀W',i7 wA W'->(i7 wA W'/\W'.cell? (lc wr.heap.size)=some (U7 e.key)/\W'.cell? ⟨wr.heap.size,1,none⟩=some (U7 e.val)/\W'.cell? ⟨wr.heap.size,2,none⟩=some (e.bh:li)/\W'.cell? (lc w.heap.size)=some (WF leaf)/\W'.cell? ⟨w.heap.size,1,none⟩=some (U3 (some ad) n c))) (λW' hb=>⟨hb,(Below.cell hb BE.o.lt).trans x0,(Below.cell hb BE.o.lt).trans x1,(Below.cell hb BE.o.lt).trans x2,(Below.cell hb HN.o.lt).trans y0,(Below.cell hb HN.o.lt).trans y1⟩)
   have d0:i7 wA wA.drew:=(Below.refl _ _).drew;have HF:=xh<|And.intro Kq.o (And.intro he (And.intro hl.o O0.o));have KR:=xh (λw'=>ua w' e leaf)
   rcases Bool.eq_false_or_eq_true (decide (eh e leaf))with hr|hr
   .rw[hr]at KR
    by_cases Ko:i=0
    .subst Ko;refine kw (λw'=>i7 wA w'/\w'.cell? (lc wr.heap.size)=some (U7 e.key)/\w'.cell? ⟨wr.heap.size,1,none⟩=some (U7 e.val)/\w'.cell? ⟨wr.heap.size,2,none⟩=some (e.bh:li)/\w'.cell? (lc w.heap.size)=some (WF leaf)/\w'.cell? ⟨w.heap.size,1,none⟩=some (U3 (some ad) n c)) (HK.o _ d0) (λaC=>?_);refine dj [(0,13),(1,14),(2,15)] ?_
     iterate 3 refine bJ ?_
     refine dV 3 16 λK hK=>?_;go_simp
     go_at_call 162
     go_call (KR.o _) as r w1 ⟨rfl,bu⟩;have da:=aE (show i7 wA _ from aC.1) bu;go_simp;refine cq hK (HK.o _ da) (λaC=>?_);refine dj [(4,17),(5,18),(6,19),(7,20),(8,21)] ?_
     iterate 5 refine bJ ?_
     refine bK 9 22 ?_;refine bK 10 23 ?_;refine bK 11 24 ?_;refine bK 12 25 ?_;refine bK 13 26 ?_;refine bK 14 27 ?_;refine bK 15 28 ?_;refine bK 16 29 ?_;refine bK 17 30 ?_;refine bK 18 31 ?_;refine dj [(19,32),(20,33)] ?_
     iterate 2 refine bJ ?_
     refine jp ?_ _;go_wp2_with fail;obtain⟨f1,f2,f3,f4⟩:=HF.o;refine⟨⟨0+1,ls,rfl,?_,aE QR.o aC.1⟩,by simp[intOf];omega⟩;intro j hj e' Bi;obtain rfl:j=0:=ls
     rw[f2]at Bi;injection Bi with Bi
     subst Bi;exact⟨of_decide_eq_true hr,λh0=>eq h0 (Bu _)⟩
    .obtain⟨ad',p,e',hp,AP⟩:=HE.o.at (i-1) ls;injection e' with e'
     subst e';have q0:=AP.c0;have HK:=xh (show ∀W',i7 wA W'->(i7 wA W'/\W'.cell? (lc wr.heap.size)=some (U7 e.key)/\W'.cell? ⟨wr.heap.size,1,none⟩=some (U7 e.val)/\W'.cell? ⟨wr.heap.size,2,none⟩=some (e.bh:li)/\W'.cell? (lc w.heap.size)=some (WF leaf)/\W'.cell? ⟨w.heap.size,1,none⟩=some (U3 (some ad) n c)/\W'.cell? (ad.add ((i-1)*3))=some (U7 p.key))from λW' hb=>by
      obtain⟨h1,h2,h3,h4,h5,h6⟩:=HK.o W' hb;exact⟨h1,h2,h3,h4,h5,h6,(hb.cell (dU q0)).trans q0⟩)
     have e1:U6.wrap ((i:Int)-1)=(i:Int)-1:=d9;have e2:(0:Int)<=(i:Int)-1:=ls
     have e3:(i:Int)-1<(n:Int):=ls
     have e4:((i:Int)-1).toNat=i-1:=ls
     have e5:(0:Int)<(i:Int):=ls
     have e6:(1:Int)<=(i:Int):=ls
     refine kw (λw'=>i7 wA w'/\w'.cell? (lc wr.heap.size)=some (U7 e.key)/\w'.cell? ⟨wr.heap.size,1,none⟩=some (U7 e.val)/\w'.cell? ⟨wr.heap.size,2,none⟩=some (e.bh:li)/\w'.cell? (lc w.heap.size)=some (WF leaf)/\w'.cell? ⟨w.heap.size,1,none⟩=some (U3 (some ad) n c)/\w'.cell? (ad.add ((i-1)*3))=some (U7 p.key)) (HK.o _ d0) (λaC=>?_);refine dj [(0,13),(1,14),(2,15)] ?_
     iterate 3 refine bJ ?_
     refine dV 3 16 λK hK=>?_;go_simp
     go_at_call 162
     go_call (KR.o _) as r w1 ⟨rfl,bu⟩;have da:=aE (show i7 wA _ from aC.1) bu;go_simp;refine cq hK (HK.o _ da) (λaC=>?_);refine dj [(4,17),(5,18),(6,19)] ?_
     iterate 3 refine bJ ?_
     refine rA 7 20 (WF true) ?_ ?_
     ·(intro w rZ;(try dsimp only at rZ);go_simp;(try omega))
     refine dj [(8,21),(9,22),(10,23),(11,24),(12,25),(13,26),(14,27),(15,28),(16,29),(17,30),(18,31),(19,32),(20,33)] ?_
     iterate 13 refine bJ ?_
     refine jp ?_ _;go_wp2_with fail
     .rename_i hx;obtain⟨f1,f2,f3,f4⟩:=HF.o;go_ret;refine⟨⟨false,rfl,?_⟩,aE (aE f4 QR.o) aC.1⟩;simp only[oH,false_iff];intro hm;have h1:=(hm i ls e f2).2 ls p hp;unfold leB at h1
      rcases hx with hx|hx
      .rw[hx]at h1;simp at h1
      .rw[hx]at h1;simp at h1
     .rename_i hx;obtain⟨f1,f2,f3,f4⟩:=HF.o;refine⟨⟨i+1,ls,rfl,?_,aE QR.o aC.1⟩,by simp[intOf];omega⟩;intro j hj
      rcases oL.1 hj with h1|rfl
      .exact f1 j h1
      .intro e' Bi;rw[f2]at Bi;injection Bi with Bi
       subst Bi;refine⟨of_decide_eq_true hr,λ_ p' hp'=>?_⟩;rw[hp]at hp';injection hp' with hp'
       subst hp';unfold leB;rw[hx.1,hx.2];rfl
   .rw[hr]at KR;refine kw (λw'=>i7 wA w'/\w'.cell? (lc wr.heap.size)=some (U7 e.key)/\w'.cell? ⟨wr.heap.size,1,none⟩=some (U7 e.val)/\w'.cell? ⟨wr.heap.size,2,none⟩=some (e.bh:li)/\w'.cell? (lc w.heap.size)=some (WF leaf)/\w'.cell? ⟨w.heap.size,1,none⟩=some (U3 (some ad) n c)) (HK.o _ d0) (λaC=>?_);refine dj [(0,13),(1,14),(2,15)] ?_
    iterate 3 refine bJ ?_
    refine dV 3 16 λK hK=>?_;go_simp
    go_at_call 162
    go_call (KR.o _) as r w1 ⟨rfl,bu⟩;have da:=aE (show i7 wA _ from aC.1) bu;go_simp;refine cq hK (HK.o _ da) (λaC=>?_);refine dj [(4,17),(5,18)] ?_
    iterate 2 refine bJ ?_
    refine bK 6 19 ?_;refine bK 7 20 ?_;refine bK 8 21 ?_;refine bK 9 22 ?_;refine bK 10 23 ?_;refine bK 11 24 ?_;refine bK 12 25 ?_;refine bK 13 26 ?_;refine bK 14 27 ?_;refine bK 15 28 ?_;refine bK 16 29 ?_;refine bK 17 30 ?_;refine bK 18 31 ?_;refine bK 19 32 ?_;refine dj [(20,33)] ?_
    iterate 1 refine bJ ?_
    refine jp ?_ _;go_wp2_with fail;obtain⟨f1,f2,f3,f4⟩:=HF.o;go_ret;refine⟨⟨false,rfl,?_⟩,aE (aE f4 QR.o) aC.1⟩;simp only[oH,false_iff];intro hm;exact of_decide_eq_false hr (hm i ls e f2).1
  .go_wp2;go_ret;refine⟨⟨true,rfl,?_⟩,aE O0.o hb⟩;simp only[true_iff];intro k hk;have:=hl.o;exact fN k ls
def oh(s:Nm):Nat:=(s.data.toList.getD 0 0).toNat
def lK(s:Nm):Prop:=3+oh s<=s.size
def l7(s:Nm):E:=⟨s.extract 1 (1+oh s),s.extract (3+oh s) s.size,(bS s.data.toList (1+oh s):Int)-1⟩
def E.zero:E:=⟨.empty,.empty,0⟩
def pV{fn:Func}{p u:Tmp}{w:BY}{g:Nat}{a b:Nm}{c:Int}{tmps:Array By}(h:fn.results= #[.cell p 111,.tmp u])(hp:tmps.getD p undef=.pointer (some ⟨g,0,none⟩))(B:aM w g 111 #[U7 a,U7 b,c]):
  (results fn tmps).run prog w=.ok (rg #[.agg #[U7 a,U7 b,c],tmps.getD u undef]) w:=by
 have c0:=B.bi 0;have c1:=B.bi 1;have c2:=B.bi 2;rw[results_cell_tmp h,hp];clear h hp B;go_simp
def Zo(w:BY)(s:Nm)(h:¬lK s):
  io prog 170 #[U7 s] w λr w'=>r=fd (rg #[E.zero.agg,WF false])/\i7 w w':=by
 have O0:=xh<|(i5 w).alloc (ai _) (Pi #[U7 .empty,U7 .empty,U5 U6 0] 111);have B0:=xh<|aM.new w 111 #[U7 .empty,U7 .empty,U5 U6 0];unfold E.agg E.zero
 by_cases hs:s.size=0
 .obtain rfl:=Hl hs;go_in;go_wp2;exact bodyPost_ret (pV rfl rfl B0.o) rfl ⟨rfl,O0.o⟩
 .have hs2:=y9 hs;have h0:0<s.size:=ls
  have h1:(0:Int)<(s.size:Int):=ls
  have hk:oh s=s[0].toNat:=by unfold oh;rw[df _ _ h0]
  unfold lK at h;rw[hk]at h;have b0:=s[0].toNat_lt;have h2:(s.size:Int)<3+(s[0].toNat:Int):=ls
  have e4:U6.wrap (s[0].toNat:Int)=(s[0].toNat:Int):=d9;have e5:U6.wrap (3+(s[0].toNat:Int))=3+(s[0].toNat:Int):=d9;go_in;go_wp2;exact bodyPost_ret (pV rfl rfl B0.o) rfl ⟨rfl,O0.o⟩
def VD(w:BY)(s:Nm)(h:lK s)(hs:s.size<=1000000):
  io prog 170 #[U7 s] w λr w'=>r=fd (rg #[(l7 s).agg,WF true])/\i7 w w':=by
 have O0:=xh<|(i5 w).alloc (ai _) (Pi #[U7 .empty,U7 .empty,U5 U6 0] 111);have B0:=xh<|aM.new w 111 #[U7 .empty,U7 .empty,U5 U6 0];unfold lK at h;have hs2:=y9 (s:=s) ls;have h0:0<s.size:=ls
 have h1:(0:Int)<(s.size:Int):=ls
 have hk:oh s=s[0].toNat:=by unfold oh;rw[df _ _ h0]
 rw[hk]at h;have hE:=xh (show(l7 s).agg=.agg #[U7 (s.extract 1 (1+s[0].toNat)),U7 (s.extract (3+s[0].toNat) s.size),U5 U6 ((bS s.pu (1+s[0].toNat):Int)-1)]from by unfold E.agg l7;rw[hk]);have b0:=s[0].toNat_lt;have h2:¬(s.size:Int)<3+(s[0].toNat:Int):=ls
 have e4:U6.wrap (s[0].toNat:Int)=(s[0].toNat:Int):=d9;have e5:U6.wrap (3+(s[0].toNat:Int))=3+(s[0].toNat:Int):=d9;have e6:U6.wrap (1+(s[0].toNat:Int))=1+(s[0].toNat:Int):=d9;go_in;go_wp2_with fail;obtain⟨k,XL⟩:∃k,1+s[0].toNat=k:=⟨_,rfl⟩;have Oy:(1:Int)+((s[0].toNat:Nat):Int)=((k:Nat):Int):=ls
 rw[Oy];have hk1:k<s.size:=ls
 have Xe:k+1<s.size:=ls
 have b1:=s[k].toNat_lt;have b2:=s[k+1].toNat_lt;have HV:=xh (show bits .or U6 ((s[k].toNat:Int)*256) (s[k+1].toNat:Int)=((bS s.pu k:Nat):Int)from by
  rw[or8 _ _ ls ls];unfold bS;rw[df _ _ hk1,df _ _ Xe])
 have e1:U6.wrap ((k:Int)+1)=(k:Int)+1:=d9;have e2:(0:Int)<=(k:Int)+1:=ls
 have e3:((k:Int)+1).toNat=k+1:=ls
 have e7:(k:Int)+1<(s.size:Int):=ls
 have e8:(k:Int)<(s.size:Int):=ls
 have v1:U6.wrap (s[k].toNat:Int)=(s[k].toNat:Int):=d9;have v2:U6.wrap ((s[k].toNat:Int)*256)=(s[k].toNat:Int)*256:=d9;have v3:U6.wrap (s[k+1].toNat:Int)=(s[k+1].toNat:Int):=d9;have z1:U6.wrap ((k:Int)+2)=(k:Int)+2:=d9;have z2:(0:Int)<=(k:Int)+2:=ls
 have z3:((k:Int)+2).toNat=k+2:=ls
 have z4:(k:Int)+2<=(s.size:Int):=ls
 have z5:(k:Int)<=(s.size:Int):=ls
 have z6:(1:Int)<=(k:Int):=ls
 go_quiet (fail);rw[HV.o];have u0:=List.getD s.pu k 0|>.toNat_lt;have u1:=List.getD s.pu (k+1) 0|>.toNat_lt;have z7:U6.wrap ((bS s.pu k:Int)-1)=(bS s.pu k:Int)-1:=IntWalk.i64_in _ (by unfold bS;omega);go_wp2;refine kw (λ_=>True) trivial (λaC=>?_);refine dj [(0,33),(1,34),(2,35),(3,36),(4,37),(5,38),(6,39),(7,40),(8,41),(9,42)] ?_
 iterate 10 refine bJ ?_
 refine pF 10 λK hK=>?_;go_simp;refine hK.o _ _ trivial (λaC=>?_)
 try simp only[Act.put,pa,pb,pc]
 refine dj [(11,3)] ?_
 iterate 1 refine bJ ?_
 refine jp ?_ _;go_wp2_with fail;have BB:=((((B0.o.drewN (nq+1)).ct 0 (U7 (s.extract 1 k))).ct 1 (U7 (s.extract (k+2) s.size))).ct 2 (U5 U6 ((bS s.pu k:Int)-1)));refine bodyPost_ret (pV rfl rfl BB) rfl ⟨?_,?_⟩
 .have hE2:(l7 s).agg=.agg #[U7 (s.extract 1 k),U7 (s.extract (k+2) s.size),U5 U6 ((bS s.pu k:Int)-1)]:=by
   rw[hE.o,<-XL,show 3+s[0].toNat=1+s[0].toNat+2 by omega]
  rw[hE2];rfl
 .have hn:w.heap.size<w.heap.size->w.heap.size∈([]:List Nat):=λh=>eq h (Bu _);exact((((ah.aj (S:=[]) (dC O0.o (nq+1))).setCell (p:=⟨w.heap.size,0,none⟩) hn _).setCell (p:=⟨w.heap.size,1,none⟩) hn _).setCell (p:=⟨w.heap.size,2,none⟩) hn _).gq
end Nd
end Go.Proofs.YtmonobkginiajaaGreat
