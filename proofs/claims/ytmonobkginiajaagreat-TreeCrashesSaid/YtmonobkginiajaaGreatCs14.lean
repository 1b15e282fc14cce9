/- packed. -/
import Derived.Test.YtmonobkginiajaaGreatCs13
set_option linter.all false
set_option maxRecDepth 100000
set_option maxHeartbeats 8000000
namespace Go.Proofs.YtmonobkginiajaaGreat
open Go.Proofs.Tryz
open Value renaming string→U7,slice→U3,int→U5,bool→WF,pointer→st,tuple→rg
open Ending renaming returned→fd
open IntKind renaming i64→U6
open Obj renaming cells→Pi
open Go renaming World→BY,Value→By,Calls→io
open And renaming intro→rx
namespace Sh.Cn
open Go.RowKit Pk Dk Pg
open Nd (E aL bQ aJ aP dm bw aY cg aZ)
structure Wk(σ:Type) where
 q:QS
 seen:Nat
 s:σ
 more:Bool
 e:Int
section
variable{σ:Type}
def fP(rec:QS->Nat->σ->Int->Wk σ)(step:E->σ->σ×Bool)(fr til:Nm)(leaf:Bool)(first:Nat):Nat->List E->QS->Nat->σ->Wk σ
 |_,[],q,seen,s=>⟨q,seen,s,true,0⟩
 |i,x::l,q,seen,s=>
  if mO fr leaf first i x=true then fP rec step fr til leaf first (i+1) l q seen s
  else if lL til leaf i x=true then⟨q,seen,s,false,0⟩
  else if leaf=true then
   if(step x s).2=true then fP rec step fr til leaf first (i+1) l q seen (step x s).1
   else⟨q,seen,(step x s).1,false,0⟩
  else
   if(rec q seen s x.bh).more=true/\(rec q seen s x.bh).e=0 then fP rec step fr til leaf first (i+1) l (rec q seen s x.bh).q (rec q seen s x.bh).seen (rec q seen s x.bh).s
   else rec q seen s x.bh
def et(step:E->σ->σ×Bool)(fr til:Nm):Nat->QS->Nat->σ->Int->Wk σ
 |0,q,seen,s,_=>⟨q,seen+1,s,false,14⟩
 |d+1,q,seen,s,p=>
  if 512<seen+1 then⟨q,seen+1,s,false,14⟩
  else if(q.aT p).2.2.2≠0 then⟨(q.aT p).1,seen+1,s,false,(q.aT p).2.2.2⟩
  else fP (et step fr til d) step fr til (q.aT p).2.1 (if(q.aT p).2.1=true then 0 else bw (q.aT p).2.2.1 fr) 0 (q.aT p).2.2.1 (q.aT p).1 (seen+1) s
def QS.cD(q:QS)(step:E->σ->σ×Bool)(fr til:Nm)(s:σ):Wk σ:=et step fr til 16 q 0 s 0
end
section
variable{w w':BY}{v:Ev}{tb:Nat}{fr til:Nm}{fn:Nat}{fH:Array By}{seen:Nat}{S:List Nat}
end
def WP{σ:Type}(w w':BY)(v:Ev)(tb:Nat)(I:Ix)(F G:List Nat)(n K:Nat)(fr til:Nm)(fn:Nat)(fH:Array By)(jP:σ->Nat)(Inv:BY->σ->List Nat->Prop)(R:Wk σ):Prop:=
 ∃G',TQ w' tb I F R.q n (K+R.seen)/\uT w' v tb fr til fn fH R.seen/\Inv w' R.s G'/\ah (v.sB::(F++G)) w w'/\(∀g∈G',g∈G\/w.heap.size<=g)/\jP R.s<=57*R.seen/\R.seen<=513/\(R.e=0->R.seen<=512)
structure LW{σ:Type}(w wr:BY)(v:Ev)(tb:Nat)(I:Ix)(F G:List Nat)(n K:Nat)(fr til:Nm)(fn:Nat)(fH:Array By)(jP:σ->Nat)(Inv:BY->σ->List Nat->Prop)(q:QS)(sn bd:Nat)(s:σ)(Gi:List Nat)(leaf:Bool)(A:Option Addr)(c Gs:Nat)(l:List E):Prop where
 t:TQ wr tb I F q n (K+sn)
 e:uT wr v tb fr til fn fH sn
 i:Inv wr s Gi
 o:ah (v.sB::(F++G)) w wr
 g:∀g∈Gi,g∈G\/w.heap.size<=g
 m:jP s<=bd
 s:bm wr 111 3 (U3 A l.length c) l.length (aL l)
 b:aM wr Gs 118 #[WF leaf,U3 A l.length c]
 d:∀g∈tb::(v.JR++(F++Gs::ak (U3 A l.length c))),g∉Gi
 x:∀g∈Gs::ak (U3 A l.length c),g∉F/\g≠v.sB/\w.heap.size<=g
 y:∀g∈v.JR,g∉F/\g≠tb
section
variable{σ:Type}{w wr w':BY}{v:Ev}{tb:Nat}{I:Ix}{F G:List Nat}{n K:Nat}{fr til:Nm}{fn:Nat}{fH:Array By}{jP:σ->Nat}{Inv:BY->σ->List Nat->Prop}{q:QS}{sn bd:Nat}{s:σ}{Gi:List Nat}{leaf:Bool}{A:Option Addr}{c Gs:Nat}{l:List E}{step:E->σ->σ×Bool}
def LW.lt(h:LW w wr v tb I F G n K fr til fn fH jP Inv q sn bd s Gi leaf A c Gs l):∀g∈tb::(v.JR++(F++Gs::ak (U3 A l.length c))),g<wr.heap.size:=λg hg=>by
 simp only[ax,aK]at hg
 rcases hg with e|hg|hg|e|hg
 .exact h.t.lt g (by simp[e])
 .exact h.e.lt g hg
 .exact h.t.lt g (by simp[hg])
 .rw[e];exact h.b.lt
 .exact h.s.lt g hg
def LW.below(V:Vis fn fH step jP Inv)(h:LW w wr v tb I F G n K fr til fn fH jP Inv q sn bd s Gi leaf A c Gs l)(hb:i7 wr w'):LW w w' v tb I F G n K fr til fn fH jP Inv q sn bd s Gi leaf A c Gs l:=
 ⟨h.t.below hb,h.e.below hb,V.rC _ _ _ _ [] h.i (.aj hb) lw,h.o.trans (.aj hb),h.g,h.m,h.s.below hb,h.b.below hb h.b.lt,h.d,h.x,h.y⟩
def LW.vis{G':List Nat}{s':σ}{bd':Nat}(h:LW w wr v tb I F G n K fr til fn fH jP Inv q sn bd s Gi leaf A c Gs l)(hI:Inv w' s' G')(o:ah Gi wr w')(f:∀g∈G',g∈Gi\/wr.heap.size<=g)(hm:jP s'<=bd'):LW w w' v tb I F G n K fr til fn fH jP Inv q sn bd' s' G' leaf A c Gs l:=
 ⟨h.t.only o (λg hg=>h.d g (by simp only[ax,aK]at hg ⊢;rcases hg with e|e<;>simp[e])),h.e.only o (λg hg=>h.d g (by simp[hg])),hI,h.o.bj o (λg hg dP=>(h.g g hg).elim (λe=>by simp[e]) (λe=>by omega)),λg hg=>(f g hg).elim (h.g g) (λe=> .inr (by have:=h.o.size;omega)),hm,
  h.s.only o (λg hg=>h.d g (by simp[hg])),h.b.only o (h.d _ lw),λg hg hG=>(f g hG).elim (h.d g hg) (λe=>by have:=h.lt g hg;omega),h.x,h.y⟩
def LW.deep{R:Wk σ}(h:LW w wr v tb I F G n K fr til fn fH jP Inv q sn bd s Gi leaf A c Gs l)(hw:WP wr w' v tb I F Gi n K fr til fn fH jP Inv R):∃G',LW w w' v tb I F G n K fr til fn fH jP Inv R.q R.seen (57*R.seen) R.s G' leaf A c Gs l/\R.seen<=513/\(R.e=0->R.seen<=512):=by
 obtain⟨G',a1,a2,a3,a4,a5,a6,a7,a8⟩:=hw;have ne:∀g∈Gs::ak (U3 A l.length c),g∉v.sB::(F++Gi):=λg hg hm=>by
  rcases ax.1 hm with e|hm
  .exact(h.x g hg).2.1 e
  .rcases aK.1 hm with hm|hm
   .exact(h.x g hg).1 hm
   .exact h.d g (by simp only[ax,aK]at hg ⊢;rcases hg with e|e<;>simp[e]) hm
 refine⟨G',⟨a1,a2,a3,h.o.bj a4 (λg hg dP=>?_),λg hg=>(a5 g hg).elim (h.g g) (λe=> .inr (by have:=h.o.size;omega)),a6,h.s.only a4 (λg hg=>ne g (by simp[hg])),h.b.only a4 (ne _ lw),λg hg hG=>(a5 g hG).elim (h.d g hg) (λe=>by have:=h.lt g hg;omega),h.x,h.y⟩,a7,a8⟩
 rcases ax.1 hg with e|hg
 .simp[e]
 .rcases aK.1 hg with hg|hg
  .simp[hg]
  .exact(h.g g hg).elim (λe=>by simp[e]) (λe=>by omega)
def LW.wp(h:LW w wr v tb I F G n K fr til fn fH jP Inv q sn bd s Gi leaf A c Gs l)(hb:bd<=57*sn)(h1:sn<=513)(more:Bool)(er:Int)(h2:er=0->sn<=512):WP w wr v tb I F G n K fr til fn fH jP Inv ⟨q,sn,s,more,er⟩:=
 ⟨Gi,h.t,h.e,h.i,h.o,h.g,aD h.m hb,h1,h2⟩
end
variable{fn tb n Kz:Nat}{fH:Array By}{I:Ix}{F:List Nat}
def RY{σ:Type}(fn:Nat)(fH:Array By)(step:E->σ->σ×Bool)(jP:σ->Nat)(Inv:BY->σ->List Nat->Prop)(v:Ev)(tb:Nat)(I:Ix)(F:List Nat)(n Kz:Nat)(fr til:Nm)(d:Nat):Prop:=
 ∀(w:BY) (q:QS) (seen:Nat) (s:σ) (G:List Nat) (p:Int),seen<=512->TQ w tb I F q n (Kz+seen)->uT w v tb fr til fn fH seen->Inv w s G->(∀g∈tb::(v.JR++F),g∉G)->(∀g∈v.JR,g∉F/\g≠tb)->jP s<=57*seen->
  io prog 109 (#[U5 U6 p,U5 U6 (d:Nat)]++v.fH) w λe w'=>e=fd (rg #[WF (et step fr til d q seen s p).more,U5 U6 (et step fr til d q seen s p).e])/\WP w w' v tb I F G n Kz fr til fn fH jP Inv (et step fr til d q seen s p)
def NU{σ:Type}{step:E->σ->σ×Bool}{jP:σ->Nat}{Inv:BY->σ->List Nat->Prop}(V:Vis fn fH step jP Inv){v:Ev}(fr til:Nm)(hKz:Kz<=999999990000)(d:Nat)(hd:d<=16)(IH:∀d',d=d'+1->RY fn fH step jP Inv v tb I F n Kz fr til d'):RY fn fH step jP Inv v tb I F n Kz fr til d:=by
  intro w q seen s G p hseen h hv hI hD hvF hmes;have IH:=xh IH;have KR:=xh (λ(W:BY) (hW:TQ W tb I F q n (Kz+seen))=>qe hW (by omega) p);have hsB:v.sB∉F/\v.sB≠tb:=hvF _ (by simp[Ev.JR]);have Kw:U6.wrap ((seen:Int)+1)=(seen:Int)+1:=d9;have x0:=hv.s.bi 0;have xz:=hv.s.frozen 0 (by simp);obtain⟨w1,Gv⟩:∃w1,w.setCell ⟨v.sB,0,none⟩ (U5 U6 ((seen:Int)+1))=w1:=⟨_,rfl⟩
  have o1:ah [v.sB] w w1:=by rw[<-Gv];exact(ah.refl _ _).setCell (by simp) _
  have H1:=xh (show TQ w1 tb I F q n (Kz+seen)/\uT w1 v tb fr til fn fH (seen+1)/\Inv w1 s G/\ah (v.sB::(F++G)) w w1 from
   ⟨h.only o1 (λg hg hm=>by
    rw[aG.1 hm]at hg
    rcases ax.1 hg with e|e
    .exact hsB.2 e
    .exact hsB.1 e),by rw[<-Gv];exact hv.up,V.rC _ _ _ _ _ hI o1 (λg hg hm=>hD v.sB (by simp[Ev.JR]) (by rw[<-aG.1 hm];exact hg)),o1.mono (λg hg _=>by rw[aG.1 hg];exact ie ..)⟩)
  have x1:=H1.o.2.1.s.bi 0;have x2:=H1.o.2.1.t.bi 0;have x3:=H1.o.2.1.f.bi 0;obtain⟨R,hR⟩:∃R,et step fr til d q seen s p=R:=⟨_,rfl⟩;rw[hR];have HR:=xh hR;have HD:=xh hD;have HVF:=xh hvF;have HV:=xh V;clear h hv hI hD hvF hsB hR o1 V;unfold tp bQ at *;unfold Ev.fH
  rw[show(#[Value.int U6 p,U5 U6 (d:Nat)]++ #[Value.pointer (some ⟨v.sB,0,none⟩),st (some ⟨v.tB,0,none⟩),st (some ⟨v.fB,0,none⟩),st (some ⟨v.oB,0,none⟩),st (some ⟨v.dB,0,none⟩),st (some ⟨v.kB,0,none⟩)]:Array By)= #[Value.int U6 p,U5 U6 (d:Nat),Value.pointer (some ⟨v.sB,0,none⟩),st (some ⟨v.tB,0,none⟩),st (some ⟨v.fB,0,none⟩),st (some ⟨v.oB,0,none⟩),st (some ⟨v.dB,0,none⟩),st (some ⟨v.kB,0,none⟩)]from rfl]
  by_cases ZX:d=0
  .subst ZX;have cA:=HR.o;unfold et at cA;subst cA;go_enter func109,ntmps109;go_wp2_with fail;go_ret2;exact bz ⟨G,H1.o.1.le (by show Kz+seen<=Kz+(seen+1);omega),H1.o.2.1,H1.o.2.2.1,H1.o.2.2.2,λ_ h=> .inl h,by have:=hmes;show jP s<=57*(seen+1);omega,by show seen+1<=513;omega,λh=>eq h (by show ¬((14:Int)=0);decide)⟩
  .obtain⟨d',rfl⟩:∃d',d=d'+1:=⟨d-1,by omega⟩;have cA:=HR.o;unfold et at cA;have hdI:¬((d':Int)+1=0):=by omega
   by_cases hs5:512<seen+1
   .rw[U8 hs5]at cA;subst cA;have XR:(512:Int)<(seen:Int)+1:=by omega
    go_enter func109,ntmps109;go_wp2_with fail;go_ret2;exact bz ⟨G,H1.o.1.le (by show Kz+seen<=Kz+(seen+1);omega),H1.o.2.1,H1.o.2.2.1,H1.o.2.2.2,λ_ h=> .inl h,by have:=hmes;show jP s<=57*(seen+1);omega,by show seen+1<=513;omega,λh=>eq h (by show ¬((14:Int)=0);decide)⟩
   .rw[U9 hs5]at cA;have XR:¬((512:Int)<(seen:Int)+1):=by omega
    have sV:=zM (q:=q) (p:=p);have hlen:=nP q p;have gI:=xh cA;have K1:=xh<|KR.o w1 H1.o.1;clear cA;generalize q.aT p=r at *;obtain⟨q1,leaf,l,er⟩:=r;dsimp only at *;go_enter func109,ntmps109;go_wp2_with fail;refine K1.dl ?_;rintro e w2 ⟨A,c,rfl,S2,f2,P2,o2⟩;have ja:=i6 w2 (Pi #[WF leaf,U3 A l.length c] 118);obtain⟨Gs,hb12⟩:∃Gs,w2.heap.size=Gs:=⟨_,rfl⟩;have HB12:=xh hb12
    have BN:=aM.new w2 118 #[WF leaf,U3 A l.length c];rw[hb12]at BN;have H3:=xh (show LW w (w2.alloc (Pi #[WF leaf,U3 A l.length c] 118)) v tb I F G n Kz fr til fn fH jP Inv q1 (seen+1) (57*seen) s G leaf A c Gs l from
     ⟨(H1.o.1.next o2 P2).below ja,(H1.o.2.1.only o2 (λg hg=>(HVF.o g hg).1)).below ja,HV.o.rC _ _ _ _ [] (HV.o.rC _ _ _ _ F H1.o.2.2.1 o2 (λg hg hF=>HD.o g (by simp[hF]) hg)) (.aj ja) (by simp),(H1.o.2.2.2.bj o2 (λg hg _=>by simp[hg])).trans (.aj ja),λ_ h=> .inl h,hmes,S2.below ja,BN,
      λg hg hG=>by
       have dP:=HV.o.lt _ _ _ H1.o.2.2.1 g hG;have h12:=o2.size;simp only[ax,aK]at hg
       rcases hg with e|hg|hg|e|hg
       .exact HD.o g (by simp[e]) hG
       .exact HD.o g (by simp[hg]) hG
       .exact HD.o g (by simp[hg]) hG
       .omega
       .have:=f2 g hg;omega,λg hg=>by
       have h12:=o2.size;have Xk:=H1.o.2.2.2.size;have CH:w1.heap.size<=g:=by
        rcases ax.1 hg with e|hg
        .omega
        .exact f2 g hg
       refine⟨λhF=>?_,λe=>?_,by omega⟩
       .have:=H1.o.1.lt g (by simp[hF]);omega
       .have:=H1.o.2.1.s.lt;omega,HVF.o⟩)
    clear S2 f2 P2 o2 ja BN x0 x1 x2 x3 xz
    by_cases he:er=0
    .subst he;have HM:=xh<|sV rfl;have cA:=gI.o;rw[U9 (show ¬((0:Int)≠0) by simp)]at cA
     cases leaf
     .rw[U9 (show ¬(false=true) by simp)]at cA;have gI:=xh cA;have HL:=xh hlen;have KB:=xh<|Nd.Ey false A l.length c l fr (Nd.bm.aL H3.o.s).2 (by omega) HM.o;unfold bQ at KB;have y0:=H3.o.b.bi 0;have y1:=H3.o.b.bi 1;have y3:=H3.o.e.f.bi 0;have hfs:bw l fr<=l.length:=by
       rcases wI l.length with h0|h0
       .have:l=[]:=IZ.1 h0;subst this;exact Bt (by unfold bw aY;split<;>rfl)
       .exact Nat.le_of_lt (zp (λe=>by rw[e]at h0;simp at h0) fr)
      generalize bw l fr=fs at *;clear cA;go_wp2_with fail;refine KB.dl ?_;rintro e w4 ⟨rfl,iZ⟩;have H4:=xh<|H3.o.below HV.o iZ;clear y0 y1 y3 iZ;have y0:=H4.o.b.bi 0;have y1:=H4.o.b.bi 1;have hs4:U6.wrap (d':Int)=(d':Int):=d9;have hs6:U6.wrap ((d':Int)+1-1)=(d':Int):=by rw[show(d':Int)+1-1=(d':Int) by omega];exact hs4
      go_wp2_with fail
      go_loopw [45] (λiv wr=> ∃(i:Nat) (qi:QS) (sn:Nat) (si:σ) (Gi:List Nat),i<=l.length/\iv=U5 U6 (i:Nat)/\sn<=512/\Hid (fP (et step fr til d') step fr til false fs i (l.drop i) qi sn si=R)/\Hid (LW w wr v tb I F G n Kz fr til fn fH jP Inv qi sn (57*sn) si Gi false A c Gs l)) (λiv _=>l.length-(intOf iv).toNat)
      case atStart=>exact⟨0,q1,seen+1,s,G,bG _,rfl,by omega,gI,xh {H4.o with m:=by have:=H4.o.m;omega}⟩
      case round=>
       clear y0 y1;obtain⟨i,qi,sn,si,Gi,hi,rfl,Ch,HE,HW⟩:=hrel
       by_cases hil:i<l.length
       .skip
        have hilI:(i:Int)<(l.length:Int):=by omega
        obtain⟨x,hx⟩:∃x,l[i]?=some x:=⟨_,aQ hil⟩;have hE:=HE.o;rw[vi hil,show l[i]=x from by have:=aQ hil;rw[hx]at this;injection this with h;exact h.symm]at hE;unfold fP at hE;have Vm:x.key.size<=32:=(uA HM.o x (ay hx)).1;have SL:=HW.o.s;obtain⟨ad,zN,iy⟩:=(Nd.bm.aL SL).2.2 i x hx;obtain⟨ga,ca,AR,FY,_⟩:=SL.form (by omega) (by omega);injection FY with e1 ezz e3
        clear ezz;subst e1 e3;injection zN with zN
        subst zN;rw[Nd.jq,bV]at iy;have ja:=i6 wr (Pi #[U7 x.key,U7 x.val,U5 U6 x.bh] 111);have HA:=xh ja;have BX:=aM.new wr 111 #[U7 x.key,U7 x.val,U5 U6 x.bh];have u0:=iy.c0;have u1:=iy.c1;have u2:=iy.c2;dsimp only at u1 u2;have z0:=BX.bi 0;have z1:=BX.bi 1;have z2:=BX.bi 2;have Cs:=xh<|HW.o.below HV.o ja
        have n0:=Cs.o.b.bi 0;have m3:=Cs.o.e.f.bi 0;have m4:=(Cs.o.e.o).ae (i:=0) rfl;have m5:=Cs.o.e.d.bi 0;have m6:=Cs.o.e.k.bi 0;have Ko:¬((i:Int)<0):=by omega
        have HE:=xh hE;clear iy SL BX hE hx ja;unfold Ev.fH at m6
        by_cases uY:i<fs
        .have hE:=HE.o;rw[U8 (show mO fr false fs i x=true from by unfold mO;simp[uY])]at hE;have HE:=xh hE;have hbI:(i:Int)<(fs:Int):=by omega
         clear hE uY;go_wp2_with fail;go_roundw
         case rel=>exact⟨i+1,qi,sn,si,Gi,by omega,rfl,Ch,HE,Cs⟩
         case measure=>simp[intOf];omega
        .have hbI:¬((i:Int)<(fs:Int)):=by omega
         have hE:=HE.o;rw[U9 (show ¬mO fr false fs i x=true from by unfold mO;simp[uY])]at hE;have HE:=xh hE;clear uY hE
         by_cases ht:(til.toList==[])=true
         have hE:=HE.o;rw[U9 (show ¬lL til false i x=true from by unfold lL;rw[ht];simp),U9 (show ¬(false=true) by simp)]at hE;have ht1:til.toList=[]:=by simpa using ht
         rotate_left;have ht2:(til.toList==[])=false:=by simpa using ht
         have ht1:¬til.toList=[]:=by simpa using ht
         clear ht
         by_cases hbt:Op.bytesLess x.key.toList til.toList=true
         have hE:=HE.o;rw[U9 (show ¬lL til false i x=true from by unfold lL;rw[hbt];simp),U9 (show ¬(false=true) by simp)]at hE;rotate_left;have gK:Op.bytesLess x.key.toList til.toList=false:=by simpa using hbt
         by_cases hip:0<i
         .have hE:=HE.o;rw[U8 (show lL til false i x=true from by unfold lL;rw[gK,ht2];simp[hip])]at hE;subst hE;have hipI:(0:Int)<(i:Int):=by omega
          clear hbt;go_wp2_with fail;go_ret2;exact bz (Cs.o.wp (ai _) (by omega) _ _ (λ_=>Ch))
         have hE:=HE.o;rw[U9 (show ¬lL til false i x=true from by unfold lL;rw[gK,ht2];simp[hip]),U9 (show ¬(false=true) by simp)]at hE;have hipI:¬((0:Int)<(i:Int)):=by omega
         clear hbt
         all_goals
          have HE:=xh hE;clear hE;have hmm:=Cs.o.m;have KI:=IH.o d' rfl _ qi sn si Gi x.bh Ch Cs.o.t Cs.o.e Cs.o.i (λg hg=>Cs.o.d g (by simp only[ax,aK]at hg ⊢;rcases hg with e|e|e<;>simp[e])) Cs.o.y hmm;unfold Ev.fH at KI
          rw[show(#[Value.int U6 x.bh,U5 U6 (d':Nat)]++ #[Value.pointer (some ⟨v.sB,0,none⟩),st (some ⟨v.tB,0,none⟩),st (some ⟨v.fB,0,none⟩),st (some ⟨v.oB,0,none⟩),st (some ⟨v.dB,0,none⟩),st (some ⟨v.kB,0,none⟩)]:Array By)= #[Value.int U6 x.bh,U5 U6 (d':Nat),Value.pointer (some ⟨v.sB,0,none⟩),st (some ⟨v.tB,0,none⟩),st (some ⟨v.fB,0,none⟩),st (some ⟨v.oB,0,none⟩),st (some ⟨v.dB,0,none⟩),st (some ⟨v.kB,0,none⟩)]from rfl]at KI
          generalize et step fr til d' qi sn si x.bh=RW at *;obtain⟨qw,sw,ssw,mw,ew⟩:=RW;dsimp only at *;have KI:=xh KI;clear hmm;go_wp2_with fail;refine KI.dl ?_;rintro e w7 ⟨rfl,hWP⟩;obtain⟨G',L7,h513,h512⟩:=Cs.o.deep hWP;have H7:=xh L7;have H8:=xh<|rx h513 h512;clear L7 h513 h512 hWP u0 u1 u2 z0 z1 z2 n0 m3 m4 m5 m6;have hE:=HE.o
          cases mw
          .rw[i8]at hE;subst hE;go_wp2_with fail;go_ret2;exact bz (H7.o.wp (ai _) H8.o.1 _ _ H8.o.2)
          .by_cases hew:ew=0
           .subst hew;rw[U8 ⟨rfl,rfl⟩]at hE;have HE:=xh hE;clear hE;go_wp2_with fail;go_roundw
            case rel=>exact⟨i+1,qw,sw,ssw,G',by omega,rfl,H8.o.2 (by trivial),HE,H7⟩
            case measure=>simp[intOf];omega
           .rw[U9 (λh=>hew h.2)]at hE;subst hE;have hq:(ew != 0)=true:=lm hew
            have kP:(ew==0)=false:=i4 hew
            go_wp2_with fail;go_ret2;exact bz (H7.o.wp (ai _) H8.o.1 _ _ H8.o.2)
       .obtain rfl:i=l.length:=by omega
        have hE:=HE.o;rw[Pc]at hE;unfold fP at hE;subst hE;go_wp2_with fail;go_ret2;exact bz (HW.o.wp (ai _) (by omega) _ _ (λ_=>Ch))
     .rw[U8 rfl]at cA;have gI:=xh cA;have y0:=H3.o.b.bi 0;have y1:=H3.o.b.bi 1;have HL:=xh hlen;clear cA;go_wp2_with fail
      go_loopw [45] (λiv wr=> ∃(i:Nat) (si:σ) (Gi:List Nat),i<=l.length/\iv=U5 U6 (i:Nat)/\Hid (fP (et step fr til d') step fr til true 0 i (l.drop i) q1 (seen+1) si=R)/\Hid (LW w wr v tb I F G n Kz fr til fn fH jP Inv q1 (seen+1) (57*seen+i) si Gi true A c Gs l)) (λiv _=>l.length-(intOf iv).toNat)
      case atStart=>exact⟨0,s,G,bG _,rfl,gI,H3⟩
      case round=>
       clear y0 y1;obtain⟨i,si,Gi,hi,rfl,HE,HW⟩:=hrel
       by_cases hil:i<l.length
       .skip
        have hilI:(i:Int)<(l.length:Int):=by omega
        obtain⟨x,hx⟩:∃x,l[i]?=some x:=⟨_,aQ hil⟩;have hE:=HE.o;rw[vi hil,show l[i]=x from by have:=aQ hil;rw[hx]at this;injection this with h;exact h.symm]at hE;unfold fP at hE;have Vm:x.key.size<=32:=(uA HM.o x (ay hx)).1;have SL:=HW.o.s;obtain⟨ad,zN,iy⟩:=(Nd.bm.aL SL).2.2 i x hx;obtain⟨ga,ca,AR,FY,_⟩:=SL.form (by omega) (by omega);injection FY with e1 ezz e3
        clear ezz;subst e1 e3;injection zN with zN
        subst zN;rw[Nd.jq,bV]at iy;have ja:=i6 wr (Pi #[U7 x.key,U7 x.val,U5 U6 x.bh] 111);have HA:=xh ja;have BX:=aM.new wr 111 #[U7 x.key,U7 x.val,U5 U6 x.bh];have u0:=iy.c0;have u1:=iy.c1;have u2:=iy.c2;dsimp only at u1 u2;have z0:=BX.bi 0;have z1:=BX.bi 1;have z2:=BX.bi 2;have Cs:=xh<|HW.o.below HV.o ja
        have n0:=Cs.o.b.bi 0;have m3:=Cs.o.e.f.bi 0;have m4:=(Cs.o.e.o).ae (i:=0) rfl;have m5:=Cs.o.e.d.bi 0;have m6:=Cs.o.e.k.bi 0;have Ko:¬((i:Int)<0):=by omega
        have HE:=xh hE;clear iy SL BX hE hx ja
        by_cases uY:Op.bytesLess x.key.toList fr.toList=true
        .have hE:=HE.o;rw[U8 (show mO fr true 0 i x=true from by unfold mO;rw[uY];simp)]at hE;have HE:=xh hE;have HW:=xh<|HW.o.below HV.o HA.o;clear hE;go_wp2_with fail;go_roundw
         case rel=>exact⟨i+1,si,Gi,by omega,rfl,HE,xh {HW.o with m:=by have:=HW.o.m;omega}⟩
         case measure=>simp[intOf];omega
        .have da:Op.bytesLess x.key.toList fr.toList=false:=by simpa using uY
         have hE:=HE.o;rw[U9 (show ¬mO fr true 0 i x=true from by unfold mO;rw[da];simp)]at hE;have HE:=xh hE;clear uY hE
         by_cases ht:(til.toList==[])=true
         have hE:=HE.o;rw[U9 (show ¬lL til true i x=true from by unfold lL;rw[ht];simp)]at hE;have ht1:til.toList=[]:=by simpa using ht
         rotate_left;have ht2:(til.toList==[])=false:=by simpa using ht
         have ht1:¬til.toList=[]:=by simpa using ht
         clear ht
         by_cases hbt:Op.bytesLess x.key.toList til.toList=true
         have hE:=HE.o;rw[U9 (show ¬lL til true i x=true from by unfold lL;rw[hbt];simp)]at hE;rotate_left
         .have gK:Op.bytesLess x.key.toList til.toList=false:=by simpa using hbt
          have hE:=HE.o;rw[U8 (show lL til true i x=true from by unfold lL;rw[gK,ht2];simp)]at hE;subst hE;have HW:=xh<|HW.o.below HV.o HA.o;clear hbt;go_wp2_with fail;go_ret2;exact bz (HW.o.wp (by omega) (by omega) _ _ (λ_=>by omega))
         all_goals
          have HE:=xh hE;clear hE;have KC:=HV.o.call _ si Gi x Cs.o.i (by have:=Cs.o.m;omega) Vm;have h1s:=HV.o.one x si;have hE:=HE.o;rw[U8 (show(true=true)from rfl)]at hE;generalize step x si=RS at *;obtain⟨s2,b2⟩:=RS;dsimp only at *;have KC:=xh KC;have HS:=xh h1s;have HE:=xh hE;unfold E.agg at KC;clear hE h1s;go_wp2_with fail;rw[HV.o.ent,Oper.upon_enter];refine KC.dl ?_;rintro e w7 ⟨rfl,G',hI7,o7,f7⟩
          have H7:=xh<|Cs.o.vis hI7 o7 f7 (bd':=57*seen+(i+1)) (by have:=Cs.o.m;have:=HS.o;omega);clear hI7 o7 f7 u0 u1 u2 z0 z1 z2 n0 m3 m4 m5 m6;have hE:=HE.o
          cases b2
          .rw[U9 (show ¬(false=true) by simp)]at hE;subst hE;go_wp2_with fail;go_ret2;exact bz (H7.o.wp (by omega) (by omega) _ _ (λ_=>by omega))
          .rw[U8 (show(true=true)from rfl)]at hE;have HE:=xh hE;clear hE;go_wp2_with fail;go_roundw
           case rel=>exact⟨i+1,s2,G',by omega,rfl,HE,H7⟩
           case measure=>simp[intOf];omega
       .obtain rfl:i=l.length:=by omega
        have hE:=HE.o;rw[Pc]at hE;unfold fP at hE;subst hE;go_wp2_with fail;go_ret2;exact bz (HW.o.wp (by omega) (by omega) _ _ (λ_=>by omega))
    .have cA:=gI.o;rw[U8 he]at cA;subst cA;have hq:(er != 0)=true:=lm he
     have kP:(er==0)=false:=i4 he
     go_wp2_with fail;go_ret2;exact bz (H3.o.wp (by omega) (by omega) _ _ (λh=>eq h he))
def IC{σ:Type}{step:E->σ->σ×Bool}{jP:σ->Nat}{Inv:BY->σ->List Nat->Prop}(V:Vis fn fH step jP Inv){v:Ev}(fr til:Nm)(hKz:Kz<=999999990000):∀d,d<=16->RY fn fH step jP Inv v tb I F n Kz fr til d
 |0,h=>NU V fr til hKz 0 h (λd' e=>eq e ls)
 |d+1,h=>NU V fr til hKz (d+1) h (λd' e=>by
  obtain rfl:d'=d:=ls
  exact IC V fr til hKz d' ls)
def zO{σ:Type}{fn:Nat}{fH:Array By}{step:E->σ->σ×Bool}{jP:σ->Nat}{Inv:BY->σ->List Nat->Prop}(V:Vis fn fH step jP Inv){w:BY}{tb:Nat}{I:Ix}{F G:List Nat}{q:QS}{n K:Nat}{s:σ}(h:TQ w tb I F q n K)(hK:K<=999999990000)(fr til:Nm)(hI:Inv w s G)(hD:∀g∈tb::F,g∉G)(hm:jP s=0):
  io prog 60 #[tp tb,U7 fr,U7 til,.func (.func fn) #[] fH] w λe w'=>e=fd (U5 U6 (q.cD step fr til s).e)/\∃G',TQ w' tb I F (q.cD step fr til s).q n (K+513)/\Inv w' (q.cD step fr til s).s G'/\ah (F++G) w w'/\(∀g∈G',g∈G\/w.heap.size<=g)/\jP (q.cD step fr til s).s<=57*513/\(∀g∈tb::F,g∉G'):=by
 have hmf:∀(fn:Fn) (first cap:Array By) (w:BY),(Instr.makeFunc fn first cap).run prog w=.ok (.func fn first cap) w:=λ_ _ _ _=>rfl;unfold tp at *;obtain⟨z,hz⟩:∃z,w.heap.size=z:=⟨_,rfl⟩;have W0:=i5 w;obtain⟨w1,Gv⟩:∃w1,w.alloc (Pi #[lc tb] 35)=w1:=⟨_,rfl⟩;have s1:w1.heap.size=z+1:=by rw[<-Gv,ny,hz]
 have NV:aM w1 (z) 35 #[lc tb]:=by rw[<-Gv,<-hz];exact aM.new _ _ _
 have W1:=aE W0 (i6 w (Pi #[lc tb] 35));rw[Gv]at W1;obtain⟨w2,FU⟩:∃w2,w1.alloc (Pi #[U7 fr] 9)=w2:=⟨_,rfl⟩;have s2:w2.heap.size=z+1+1:=by rw[<-FU,ny,s1]
 have NW:aM w2 (z+1) 9 #[U7 fr]:=by rw[<-FU,<-s1];exact aM.new _ _ _
 have Fw:=NV.alloc (Pi #[U7 fr] 9);rw[FU]at Fw;have W2:=aE W1 (i6 w1 (Pi #[U7 fr] 9));rw[FU]at W2;obtain⟨w3,BU⟩:∃w3,w2.alloc (Pi #[U7 til] 9)=w3:=⟨_,rfl⟩;have s3:w3.heap.size=z+1+1+1:=by rw[<-BU,ny,s2]
 have RZ:aM w3 (z+1+1) 9 #[U7 til]:=by rw[<-BU,<-s2];exact aM.new _ _ _
 have Sc:=Fw.alloc (Pi #[U7 til] 9);rw[BU]at Sc;have zP:=NW.alloc (Pi #[U7 til] 9);rw[BU]at zP;have W3:=aE W2 (i6 w2 (Pi #[U7 til] 9));rw[BU]at W3;obtain⟨w4,NK⟩:∃w4,w3.alloc (Pi #[.func (.func fn) #[] fH] 112)=w4:=⟨_,rfl⟩;have s4:w4.heap.size=z+1+1+1+1:=by rw[<-NK,ny,s3]
 have c3_4:aM w4 (z+1+1+1) 112 #[.func (.func fn) #[] fH]:=by rw[<-NK,<-s3];exact aM.new _ _ _
 have c0_4:=Sc.alloc (Pi #[.func (.func fn) #[] fH] 112);rw[NK]at c0_4;have c1_4:=zP.alloc (Pi #[.func (.func fn) #[] fH] 112);rw[NK]at c1_4;have c2_4:=RZ.alloc (Pi #[.func (.func fn) #[] fH] 112);rw[NK]at c2_4;have W4:=aE W3 (i6 w3 (Pi #[.func (.func fn) #[] fH] 112));rw[NK]at W4;obtain⟨w5,Px⟩:∃w5,w4.alloc (Pi #[U5 U6 0] 3)=w5:=⟨_,rfl⟩;have s5:w5.heap.size=z+1+1+1+1+1:=by rw[<-Px,ny,s4]
 have c4_5:aM w5 (z+1+1+1+1) 3 #[(0:Nat)]:=by rw[<-Px,<-s4];exact aM.new _ _ _
 have c0_5:=c0_4.alloc (Pi #[U5 U6 0] 3);rw[Px]at c0_5;have c1_5:=c1_4.alloc (Pi #[U5 U6 0] 3);rw[Px]at c1_5;have c2_5:=c2_4.alloc (Pi #[U5 U6 0] 3);rw[Px]at c2_5;have c3_5:=c3_4.alloc (Pi #[U5 U6 0] 3);rw[Px]at c3_5;have W5:=aE W4 (i6 w4 (Pi #[U5 U6 0] 3));rw[Px]at W5;obtain⟨w6,OM⟩:∃w6,w5.alloc (Pi #[.nilFunc] 191)=w6:=⟨_,rfl⟩;have s6:w6.heap.size=z+1+1+1+1+1+1:=by rw[<-OM,ny,s5]
 have c5_6:aM w6 (z+1+1+1+1+1) 191 #[.nilFunc]:=by rw[<-OM,<-s5];exact aM.new _ _ _
 have c0_6:=c0_5.alloc (Pi #[.nilFunc] 191);rw[OM]at c0_6;have c1_6:=c1_5.alloc (Pi #[.nilFunc] 191);rw[OM]at c1_6;have c2_6:=c2_5.alloc (Pi #[.nilFunc] 191);rw[OM]at c2_6;have c3_6:=c3_5.alloc (Pi #[.nilFunc] 191);rw[OM]at c3_6;have c4_6:=c4_5.alloc (Pi #[.nilFunc] 191);rw[OM]at c4_6;have W6:=aE W5 (i6 w5 (Pi #[.nilFunc] 191));rw[OM]at W6;obtain⟨v,hv⟩:∃v:Ev,v=⟨z+1+1+1+1,z,z+1,z+1+1,z+1+1+1,z+1+1+1+1+1⟩:=⟨_,rfl⟩
 have x0:=c0_4.bi 0;have x5:w6.cell? ⟨z+1+1+1+1+1,0,none⟩=some .nilFunc:=c5_6.bi 0;have f5:=c5_6.frozen 0 lw;obtain⟨w7,hw7⟩:∃w7,w6.setCell ⟨z+1+1+1+1+1,0,none⟩ (.func (.func 109) #[] #[st (some ⟨z+1+1+1+1,0,none⟩),lc z,st (some ⟨z+1,0,none⟩),st (some ⟨z+1+1,0,none⟩),st (some ⟨z+1+1+1,0,none⟩),st (some ⟨z+1+1+1+1+1,0,none⟩)])=w7:=⟨_,rfl⟩
 have x7:w7.cell? ⟨z+1+1+1+1+1,0,none⟩=some (.func (.func 109) #[] #[st (some ⟨z+1+1+1+1,0,none⟩),lc z,st (some ⟨z+1,0,none⟩),st (some ⟨z+1+1,0,none⟩),st (some ⟨z+1+1+1,0,none⟩),st (some ⟨z+1+1+1+1+1,0,none⟩)]):=by rw[<-hw7];exact(c5_6.ct 0 _).ae (i:=0) rfl
 have o7:ah [z+1+1+1+1+1] w6 w7:=by rw[<-hw7];exact(ah.refl _ _).setCell lw _
 have E7:uT w7 v tb fr til fn fH 0:=by
  rw[hv]at *;exact⟨c4_6.only o7 (by simp<;>omega),c0_6.only o7 (by simp<;>omega),c1_6.only o7 (by simp<;>omega),c2_6.only o7 (by simp<;>omega),c3_6.only o7 (by simp<;>omega),by rw[<-hw7];exact c5_6.ct 0 _⟩
 have T7:TQ w7 tb I F q n (K+0):=(h.below W6).only o7 (λg hg hm=>by have:=h.lt g hg;rw[aG.1 hm]at this;omega);have I7:Inv w7 s G:=V.rC _ _ _ _ _ (V.rC _ _ _ _ [] hI (.aj W6) lw) o7 (λg hg hm=>by have:=V.lt _ _ _ hI g hg;rw[aG.1 hm]at this;omega);have hvl:∀g∈v.JR,z<=g:=λg hg=>by rw[hv]at hg;simp[Ev.JR]at hg;omega
 have KW:=IC V (v:=v) (tb:=tb) (I:=I) (F:=F) (n:=n) fr til hK 16 (ai _) w7 q 0 s G 0 ls T7 E7 I7 (λg hg hG=>by
  simp only[ax,aK]at hg
  rcases hg with e|hg|hg
  .exact hD g (by simp[e]) hG
  .have:=hvl g hg;have:=V.lt _ _ _ hI g hG;omega
  .exact hD g (by simp[hg]) hG) (λg hg=>⟨λhF=>by have:=hvl g hg;have:=h.lt g (by simp[hF]);omega,λe=>by have:=hvl g hg;have:=h.lt g (by simp[e]);omega⟩) ls
 have HW6:=xh W6;have KW:io prog 109 #[Value.int U6 0,U5 U6 16,st (some ⟨z+1+1+1+1,0,none⟩),lc z,st (some ⟨z+1,0,none⟩),st (some ⟨z+1+1,0,none⟩),st (some ⟨z+1+1+1,0,none⟩),st (some ⟨z+1+1+1+1+1,0,none⟩)] w7 (λe w'=>e=fd (rg #[WF (q.cD step fr til s).more,U5 U6 (q.cD step fr til s).e])/\WP w7 w' v tb I F G n K fr til fn fH jP Inv (q.cD step fr til s)):=by rw[hv]at KW ⊢;exact KW
 have KW:=xh KW;have HV:=xh hvl;have hv:=xh hv;have o7:=xh o7;have rD:=xh (λg hg=>h.lt g hg);have HZ:=xh hz;clear NV Fw Sc c0_5 c0_6 NW zP c1_4 c1_5 c1_6 RZ c2_4 c2_5 c2_6 c3_4 c3_5 c3_6 c4_5 c4_6 c5_6 W0 W1 W2 W3 W4 W5 W6 s1 s2 s3 s4 s5 s6 T7 I7 hvl;subst Gv FU BU NK Px;go_in;go_wp2_with fail;go_call KW.o as e w8 ⟨rfl,G',a1,a2,a3,a4,a5,a6,a7,a8⟩
 have H8:=xh<|rx a1 (rx a3 (rx a4 (rx a5 (rx a6 a7))));clear a1 a2 a3 a4 a5 a6 a7 a8;go_wp2;go_ret;have hD:=hD;obtain⟨b1,b3,b4,b5,b6,b7⟩:=H8.o;have o6:=ah.aj (S:=F++G) HW6.o;have o8:=o6.bj o7.o (λx hx dP=>by rw[aG.1 hx]at dP;have:=HZ.o;omega);have o9:=o8.bj b4 (λx hx dP=>by
  rcases ax.1 hx with rfl|hx
  .have:=HV.o v.sB (by simp[Ev.JR]);have:=HZ.o;omega
  .exact hx)
 exact⟨rfl,G',b1.le ls,b3,o9,λg hg=>(b5 g hg).imp id (λhl=>aD o8.size hl),ls,λg hg hG=>by
  rcases b5 g hG with h1|h1
  .exact hD g hg h1
  .have:=rD.o g hg;have:=o8.size;omega⟩
end Sh.Cn

namespace Sh.Cn
open Go.RowKit Pk Dk Pg
open Nd (E aL bQ aJ aP dm bw aY cg)
attribute [local go_sem ↓] bP
def gV:List E->QS->List PR->QS×List PR×Int
 |[],q,out=>(q,out,0)
 |x::l,q,out=>if(q.cC x).2.2≠0 then((q.cC x).1,[],(q.cC x).2.2)else gV l (q.cC x).1 (out++[(x.key,(q.cC x).2.1)])
def QS.dL(q:QS)(fr til:Nm)(n:Int):QS×List PR×Int:=
 if(q.cD (km n) fr til []).e≠0 then((q.cD (km n) fr til []).q,[],(q.cD (km n) fr til []).e)else gV (q.cD (km n) fr til []).s (q.cD (km n) fr til []).q []
def zQ{w:BY}{tb:Nat}{I:Ix}{F:List Nat}{q:QS}{n K:Nat}(h:TQ w tb I F q n K)(hK:K<=999999000000)(fr til:Nm)(m:Int):
  io prog 17 #[tp tb,U7 fr,U7 til,m] w λe w'=> ∃v,e=fd (rg #[v,U5 U6 (q.dL fr til m).2.2])/\bm w' 42 2 v (q.dL fr til m).2.1.length (kL (q.dL fr til m).2.1)/\PQ w' I F (q.dL fr til m).1 n (K+300000)/\ah F w w'/\(∀g∈ak v,w.heap.size<=g):=by
 have hmf:∀(fn:Fn) (first cap:Array By) (w:BY),(Instr.makeFunc fn first cap).run prog w=.ok (.func fn first cap) w:=λ_ _ _ _=>rfl;obtain⟨z,hz⟩:∃z,w.heap.size=z:=⟨_,rfl⟩;have W0:=i5 w;obtain⟨w1,Gv⟩:∃w1,w.alloc (Pi #[m] 3)=w1:=⟨_,rfl⟩;have s1:w1.heap.size=z+1:=by rw[<-Gv,ny,hz]
 have NV:aM w1 z 3 #[m]:=by rw[<-Gv,<-hz];exact aM.new _ _ _
 have W1:=aE W0 (i6 w (Pi #[m] 3));rw[Gv]at W1;obtain⟨w2,FU⟩:∃w2,w1.alloc (Pi #[U3 none 0 0] 108)=w2:=⟨_,rfl⟩;have s2:w2.heap.size=z+1+1:=by rw[<-FU,ny,s1]
 have NW:aM w2 (z+1) 108 #[U3 none 0 0]:=by rw[<-FU,<-s1];exact aM.new _ _ _
 have Fw:=NV.alloc (Pi #[U3 none 0 0] 108);rw[FU]at Fw;have W2:=aE W1 (i6 w1 (Pi #[U3 none 0 0] 108));rw[FU]at W2;have hI:sZ (z+1) z m w2 [] [z+1,z]:=⟨none,0,rfl,NW,Fw,bm.nil _ _ _,ls⟩;have dP:=h.lt;have KE:=zO (scan_vis (z+1) z m) (h.below W2) ls fr til hI (λg hg hm=>by have:=dP g hg;simp at hm;omega) rfl
 have KV:=xh (λ(W:BY) (qj:QS) (kj:Nat) (hW:TQ W tb I F qj n kj) (hk:kj<=999999999900) (x:E)=>wg hW hk x);unfold QS.dL;obtain⟨R,hR⟩:∃R,q.cD (km m) fr til []=R:=⟨_,rfl⟩;rw[hR]at KE ⊢;obtain⟨RR,cA⟩:∃RR,(if R.e≠0 then(R.q,([]:List PR),R.e)else gV R.s R.q [])=RR:=⟨_,rfl⟩;rw[cA];have gI:=xh cA;have KE:=xh KE;have AQ:=xh W2;have HZ:=xh hz;have rD:=xh dP;have HNE:=xh h.ne;clear NV NW Fw W0 W1 W2 s1 s2 hI dP h cA hR
 subst Gv FU;unfold tp lp at *;go_in;go_wp2_with fail;go_call KE.o as e w3 ⟨rfl,G,a1,a2,a3,a4,a5,a6⟩;obtain⟨A,c,hG,b1,b2,b3,b4⟩:=a2;obtain⟨l,hl⟩:∃l,R.s=l:=⟨_,rfl⟩;obtain⟨er,nh⟩:∃er,R.e=er:=⟨_,rfl⟩;obtain⟨k,hk⟩:∃k,l.length=k:=⟨_,rfl⟩;rw[hl]at b1 b3 hG a5 gI;rw[hk]at b1 b3 hG a5;rw[nh]at gI ⊢
 have o3:ah F w w3:=(ah.aj (S:=F) AQ.o).bj a3 (λg hg hl=>(aK.1 hg).elim id (λhg=>by have:=HZ.o;simp at hg;omega));have hG3:∀g∈G,w.heap.size<=g:=λg hg=>(a4 g hg).elim (λh=>by have:=HZ.o;simp at h;omega) (λh=>aD AQ.o.size h);have BU:=o3.size
 by_cases he:er=0
 .subst he;have rn:gV l R.q []=RR:=by have:=gI.o;rw[i8]at this;exact this
  have gI:=xh rn;have H3:=xh (show TQ w3 tb I F R.q n (K+513)/\bm w3 111 3 (U3 A k c) k (aL l)/\ah F w w3/\(∀g∈tb::F,g∉ak (U3 A k c))/\(∀g∈ak (U3 A k c),w.heap.size<=g)/\k<=57*513 from
   ⟨a1,b3,o3,λg hg hm=>a6 g hg (by rw[hG];simp[hm]),λg hg=>hG3 g (by rw[hG];simp[hg]),a5⟩)
  have x1:=b1.bi 0;have hlen:=H3.o.2.2.2.2.2;have Xh:=xh hk;clear hk a1 a3 a4 a5 a6 b1 b2 b3 b4 o3 hG3 rn hl nh;go_wp2_with fail
  go_loopw [12,27] (λov iv wr=> ∃(i:Nat) (qi:QS) (out:List PR),i<=k/\iv=U5 U6 (i:Nat)/\bm wr 42 2 ov i (kL out)/\Hid (gV (l.drop i) qi out=RR/\out.length=i)/\Hid (TQ wr tb I F qi n (K+513+5*i)/\bm wr 111 3 (U3 A k c) k (aL l)/\ah F w wr/\(∀g∈ak ov,w.heap.size<=g/\g∉ak (U3 A k c)))) (λ_ iv _=>k-(intOf iv).toNat)
  case atStart=>exact⟨0,R.q,[],ls,rfl,bm.nil _ _ _,xh ⟨gI.o,rfl⟩,xh ⟨H3.o.1,H3.o.2.1,H3.o.2.2.1,by simp[ak]⟩⟩
  case round=>
   obtain⟨i,qi,out,hi,rfl,S1,HV,HA⟩:=hrel;obtain⟨VA,vc,rfl⟩:=aI S1
   by_cases yb:i<k
   .have hikI:(i:Int)<(k:Int):=ls
    obtain⟨x,hx⟩:∃x,l[i]?=some x:=⟨_,aQ (by rw[Xh.o];exact yb)⟩;obtain⟨ga,ca,AR,FY,BA,hca1,hca2⟩:=HA.o.2.1.form ls ls;have SE:=(Nd.bm.aL HA.o.2.1).2;obtain⟨ad,zN,iy⟩:=SE.2 i x hx;injection FY with e1 e2 e3
    subst e1 e3;injection zN with zN
    subst zN;rw[Nd.jq,bV]at iy;have xc0:=iy.c0;have xc1:=iy.c1;have xc2:=iy.c2;dsimp only at xc0 xc1 xc2;have hgal:=BA.lt;obtain⟨zr,hzr⟩:∃zr,wr.heap.size=zr:=⟨_,rfl⟩;have B0:=aM.new wr 111 #[U7 .empty,U7 .empty,U5 U6 0];have D1:=aM.new wr 111 #[U7 x.key,U7 x.val,x.bh];have iZ:=i6 wr (Pi #[U7 x.key,U7 x.val,x.bh] 111);rw[hzr]at B0 D1;have y0:=B0.bi 0
    have y1:=B0.bi 1;have y2:=B0.bi 2;have f0:=B0.frozen 0 lw;have f1:=B0.frozen 1 lw;have f2:=B0.frozen 2 lw;have KX:=xh<|KV.o (wr.alloc (Pi #[U7 x.key,U7 x.val,x.bh] 111)) qi (K+513+5*i) (HA.o.1.below iZ) ls x;have v0:=D1.bi 0;have v1:=D1.bi 1;have v2:=D1.bi 2;have D1:=xh D1;have H4:=xh iZ;have HX:=xh hx;have HZR:=xh hzr
    clear iZ B0 BA SE iy hx hca2;obtain⟨RV,hRV⟩:∃RV,qi.cC x=RV:=⟨_,rfl⟩;rw[hRV]at KX;have NJ:l.drop i=x::l.drop (i+1):=by rw[<-List.getElem_cons_drop (h:=by rw[Xh.o];exact yb)];congr 1;have:=HX.o;rw[aQ (by rw[Xh.o];exact yb)]at this;injection this
    have uU:=HV.o.1;rw[NJ]at uU;unfold gV at uU;rw[hRV]at uU;have HVAL:=xh uU;have HRV:=xh hRV;clear uU NJ hRV;unfold E.agg at *;go_wp2_with fail;go_call KX.o as e w5 ⟨rfl,p1,p2⟩;have oE:∀g∈F,g<w.heap.size:=λg hg=>rD.o g (aH _ hg);have hwz:w.heap.size<=zr:=by rw[<-HZR.o];exact HA.o.2.2.1.size
    have o45:ah F w w5:=(HA.o.2.2.1.trans (ah.aj H4.o)).trans p2;have D5:=D1.o.only p2 (λhm=>by have:=oE _ hm;omega);have v0:=D5.bi 0;obtain⟨q5,b5,e5⟩:=RV;dsimp only at *
    by_cases Sd:e5=0
    .subst Sd;have h9:=HVAL.o;rw[i8]at h9;have hov:∀g∈ak (U3 VA i vc),w.heap.size<=g:=λg hg=>(HA.o.2.2.2 g hg).1;have S5:=(S1.below H4.o).only p2 (λg hg hm=>by have:=hov g hg;have:=oE g hm;omega);have E5:=(HA.o.2.1.below H4.o).only p2 (λg hg hm=>H3.o.2.2.2.1 g (aH _ hm) hg);obtain⟨v',w7,ea,S7,ow,fa⟩:=zH S5 x.key b5 ls
     have T7:TQ w7 tb I F q5 n (K+513+5*(i+1)):=(((HA.o.1.below H4.o).next p2 p1).only ow (λg hg hm=>by have:=hov g hm;have:=rD.o g hg;omega)).le ls;have E7:=E5.only ow (λg hg hm=>(HA.o.2.2.2 g hm).2 hg);have hwr5:wr.heap.size<=w5.heap.size:=aD H4.o.size p2.size;have hel:∀g∈ak (U3 (lc ga) k c),g<wr.heap.size:=HA.o.2.1.lt
     have H7:=xh (show TQ w7 tb I F q5 n (K+513+5*(i+1))/\bm w7 111 3 (U3 (lc ga) k c) k (aL l)/\ah F w w7/\(∀g∈ak v',w.heap.size<=g/\g∉ak (U3 (lc ga) k c))from
      ⟨T7,E7,o45.bj ow (λg hg dP=>by have:=hov g hg;omega),λg hg=>(fa g hg).elim (HA.o.2.2.2 g) (λh=>⟨by have:=o45.size;omega,λhm=>by have:=hel g hm;omega⟩)⟩)
     obtain⟨V7,c7,rfl⟩:=aI S7;have hpr:kL out++[Value.string x.key,Value.string b5]=kL (out++[(x.key,b5)]):=by rw[uC];rfl
     rw[hpr]at S7;have H9:=xh<|rx S7 (rx h9 (show(out++[(x.key,b5)]).length=i+1 by rw[bC,HV.o.2];rfl));have EA:=xh ea;clear ea S7 ow fa T7 E7 hwr5 hel h9 hpr S5 E5 hov p1 o45 p2 D5 oE hwz;go_wp2_with fail;rw[EA.o];go_wp2;go_roundw
     case rel=>exact⟨i+1,q5,out++[(x.key,b5)],ls,by first|rfl|simp,H9.o.1,xh H9.o.2,H7⟩
     case measure=>simp[intOf];omega
    .have h9:=HVAL.o;rw[U8 Sd]at h9;have hq:(e5 != 0)=true:=lm Sd
     have kP:(e5==0)=false:=i4 Sd
     have H9:=xh<|rx h9 (rx p1 o45);clear h9 p1 o45 p2 D5 oE hwz;go_wp2;go_ret2;obtain⟨h9,h10,Cm⟩:=H9.o;subst h9;exact⟨U3 none 0 0,by first|rfl|simp,bm.nil _ _ _,h10.le ls,Cm,by simp[ak]⟩
   .have hikI:¬(i:Int)<(k:Int):=ls
    have Lm:l.drop i=[]:=lT (by rw[Xh.o];omega);have h9:=HV.o.1;rw[Lm]at h9;have HV9:=xh h9;have HO:=xh HV.o.2;have S1:=xh S1;clear h9 Lm;go_wp2;go_ret2;have h9:=HV9.o;subst h9;exact⟨_,by first|rfl|simp[gV],by show bm _ _ 2 _ out.length _;rw[HO.o];exact S1.o,HA.o.1.2.le ls,HA.o.2.2.1,λg hg=>by have:=(HA.o.2.2.2 g hg).1;first|exact this|(have:=HZ.o;omega)⟩
 .have rn:(R.q,([]:List PR),er)=RR:=by have:=gI.o;rw[U8 he]at this;exact this
  have hq:(er != 0)=true:=lm he
  have kP:(er==0)=false:=i4 he
  have H3:=xh<|rx a1 o3;have gI:=xh rn;clear a1 a3 a4 a5 a6 b1 b2 b3 b4 o3 hG3 rn hl nh;go_wp2;go_ret2;have h9:=gI.o;subst h9;exact⟨U3 none 0 0,by first|rfl|simp,bm.nil _ _ _,H3.o.1.2.le ls,H3.o.2,by simp[ak]⟩
variable{w:BY}{tb n K:Nat}{I:Ix}{F:List Nat}
def QS.gj(q:QS)(fr til:Nm):QS×PR×Int:=
 if(q.cD gi fr til none).e≠0 then((q.cD gi fr til none).q,(⟨#[]⟩,⟨#[]⟩),(q.cD gi fr til none).e)
 else match (q.cD gi fr til none).s with
  |none=>((q.cD gi fr til none).q,(⟨#[]⟩,⟨#[]⟩),9)
  |some x=>if((q.cD gi fr til none).q.cC x).2.2≠0 then(((q.cD gi fr til none).q.cC x).1,(⟨#[]⟩,⟨#[]⟩),((q.cD gi fr til none).q.cC x).2.2)
   else(((q.cD gi fr til none).q.cC x).1,(x.key,((q.cD gi fr til none).q.cC x).2.1),0)
def WI{q:QS}(h:TQ w tb I F q n K)(hK:K<=999999000000)(fr til:Nm):
  io prog 21 #[tp tb,U7 fr,U7 til] w λe w'=>e=fd (rg #[prV (q.gj fr til).2.1,U5 U6 (q.gj fr til).2.2])/\PQ w' I F (q.gj fr til).1 n (K+600)/\ah F w w':=by
 have hmf:∀(fn:Fn) (first cap:Array By) (w:BY),(Instr.makeFunc fn first cap).run prog w=.ok (.func fn first cap) w:=λ_ _ _ _=>rfl;obtain⟨z,hz⟩:∃z,w.heap.size=z:=⟨_,rfl⟩;have W0:=i5 w;obtain⟨w1,Gv⟩:∃w1,w.alloc (Pi #[U7 ⟨#[]⟩,U7 ⟨#[]⟩] 42)=w1:=⟨_,rfl⟩;have s1:w1.heap.size=z+1:=by rw[<-Gv,ny,hz]
 have NV:aM w1 z 42 #[U7 ⟨#[]⟩,U7 ⟨#[]⟩]:=by rw[<-Gv,<-hz];exact aM.new _ _ _
 have W1:=aE W0 (i6 w (Pi #[U7 ⟨#[]⟩,U7 ⟨#[]⟩] 42));rw[Gv]at W1;obtain⟨w2,FU⟩:∃w2,w1.alloc (Pi #[U7 ⟨#[]⟩,U7 ⟨#[]⟩,U5 U6 0] 111)=w2:=⟨_,rfl⟩;have s2:w2.heap.size=z+1+1:=by rw[<-FU,ny,s1]
 have NW:aM w2 (z+1) 111 #[U7 ⟨#[]⟩,U7 ⟨#[]⟩,U5 U6 0]:=by rw[<-FU,<-s1];exact aM.new _ _ _
 have Fw:=NV.alloc (Pi #[U7 ⟨#[]⟩,U7 ⟨#[]⟩,U5 U6 0] 111);rw[FU]at Fw;have W2:=aE W1 (i6 w1 (Pi #[U7 ⟨#[]⟩,U7 ⟨#[]⟩,U5 U6 0] 111));rw[FU]at W2;obtain⟨w3,BU⟩:∃w3,w2.alloc (Pi #[WF false] 4)=w3:=⟨_,rfl⟩;have s3:w3.heap.size=z+1+1+1:=by rw[<-BU,ny,s2]
 have RZ:aM w3 (z+1+1) 4 #[WF false]:=by rw[<-BU,<-s2];exact aM.new _ _ _
 have Sc:=Fw.alloc (Pi #[WF false] 4);rw[BU]at Sc;have zP:=NW.alloc (Pi #[WF false] 4);rw[BU]at zP;have W3:=aE W2 (i6 w2 (Pi #[WF false] 4));rw[BU]at W3;have y0:=zP.bi 0;have y1:=zP.bi 1;have y2:=zP.bi 2;have y3:=RZ.bi 0;have f0:=zP.frozen 0 lw;have f1:=zP.frozen 1 lw;have f2:=zP.frozen 2 lw
 have f3:=RZ.frozen 0 lw;have hI:E3 (z+1) (z+1+1) w3 none [z+1,z+1+1]:=⟨rfl,zP,RZ,ls⟩;have dP:=h.lt;have KE:=zO (last_vis (z+1) (z+1+1)) (h.below W3) ls fr til hI (λg hg hm=>by have:=dP g hg;simp at hm;omega) rfl;have KV:=xh (λ(W:BY) (qj:QS) (kj:Nat) (hW:TQ W tb I F qj n kj) (hk:kj<=999999999900) (x:E)=>wg hW hk x);have C0:=xh Sc;obtain⟨RR,cA⟩:∃RR,q.gj fr til=RR:=⟨_,rfl⟩;rw[cA];unfold QS.gj at cA
 obtain⟨R,hR⟩:∃R,q.cD gi fr til none=R:=⟨_,rfl⟩;rw[hR]at KE cA;have gI:=xh cA;clear cA;have KE:=xh KE;have HW3:=xh W3;have HZ:=xh hz;have rD:=xh dP;have HNE:=xh h.ne;clear NV NW Fw Sc zP RZ W0 W1 W2 W3 s1 s2 s3 hI dP h hR;subst Gv FU BU;unfold lp at KE;unfold tp at *;go_in;go_wp2_with fail;go_call KE.o as e w4 ⟨rfl,G,a1,a2,a3,a4,a5,a6⟩;obtain⟨rfl,b1,b2,b3⟩:=a2;obtain⟨s,hs⟩:∃s,R.s=s:=⟨_,rfl⟩
 obtain⟨er,nh⟩:∃er,R.e=er:=⟨_,rfl⟩;obtain⟨qr,hqr⟩:∃qr,R.q=qr:=⟨_,rfl⟩;rw[hs]at b1 b2;rw[hqr]at a1;have rn:=gI.o;rw[nh,hs,hqr]at rn;rw[nh];have oE:∀g∈F,g<z:=λg hg=>by have:=rD.o g (aH _ hg);have:=HZ.o;omega
 have o4:ah F w w4:=(ah.aj (S:=F) HW3.o).bj a3 (λg hg hl=>(aK.1 hg).elim id (λhg=>by have:=HZ.o;simp at hg;omega));have C4:=C0.o.only a3 (λhm=>(aK.1 hm).elim (λhm=>by have:=oE z hm;omega) (λhm=>by simp at hm<;>omega));have HZF:=xh oE;clear hs hqr a3 a4 a5 a6 oE y0 y1 y2 y3 f0 f1 f2 f3
 by_cases he:er=0
 .subst he;rw[i8]at rn
  cases s with
  |none=>
   dsimp only at rn;have gI:=xh rn;clear rn;have x2:=b2.bi 0;obtain⟨B2,o2,k0,k1,z0,z1⟩:=lU (a':=⟨#[]⟩) (b':=⟨#[]⟩) C4;have H2:=xh<|rx B2 (rx o2 (rx a1 o4));clear B2 o2 a1 o4 b1 b2 b3 C4 nh;go_wp2_with fail;have h9:=gI.o;subst h9
   exact bodyPost_ret (xR rfl rfl H2.o.1) rfl ⟨rfl,(H2.o.2.2.1.2.bh H2.o.2.1 (λhm=>by have:=HZF.o z hm;omega)).le ls,H2.o.2.2.2.bj H2.o.2.1 (λg hg hl=>by have:=HZ.o;simp at hg;omega)⟩
  |some x=>
   dsimp only at rn;have x2:=b2.bi 0;have xa:=b1.bi 0;have xb:=b1.bi 1;have xc:=b1.bi 2;have KX:=KV.o w4 qr (K+513) a1 ls x;obtain⟨RV,hRV⟩:∃RV,qr.cC x=RV:=⟨_,rfl⟩;rw[hRV]at KX rn;have KX:=xh KX;have H4:=xh<|rx o4 (rx b1 (rx b2 C4));clear b1 b2 b3 C4 nh o4 hRV a1;unfold E.agg at *;unfold optE at *;go_wp2_with fail;go_call KX.o as e w5 ⟨rfl,p1,p2⟩
   have o5:=H4.o.1.trans p2;have hn1:z+1∉F:=λhm=>by have:=HZF.o _ hm;omega
   have hn0:z∉F:=λhm=>by have:=HZF.o _ hm;omega
   have D1:=H4.o.2.1.only p2 hn1;have C5:=H4.o.2.2.2.only p2 hn0;have xk:=D1.bi 0;obtain⟨q5,b5,e5⟩:=RV;dsimp only at *
   by_cases Sd:e5=0
   .subst Sd;rw[i8]at rn;have gI:=xh rn;clear rn;obtain⟨B2,o2,k0,k1,z0,z1⟩:=lU (a':=x.key) (b':=b5) C5;have H2:=xh<|rx B2 (rx o2 (rx p1 o5));clear B2 o2 p1 p2 o5 D1 C5;go_wp2_with fail;have h9:=gI.o;subst h9;exact bodyPost_ret (xR rfl rfl H2.o.1) rfl ⟨rfl,(H2.o.2.2.1.bh H2.o.2.1 hn0).le ls,H2.o.2.2.2.bj H2.o.2.1 (λg hg hl=>by have:=HZ.o;simp at hg;omega)⟩
   .rw[U8 Sd]at rn;have gI:=xh rn;clear rn;have hq:(e5 != 0)=true:=lm Sd
    have kP:(e5==0)=false:=i4 Sd
    obtain⟨B2,o2,k0,k1,z0,z1⟩:=lU (a':=⟨#[]⟩) (b':=⟨#[]⟩) C5;have H2:=xh<|rx B2 (rx o2 (rx p1 o5));clear B2 o2 p1 p2 o5 D1 C5;go_wp2_with fail;have h9:=gI.o;subst h9;exact bodyPost_ret (xR rfl rfl H2.o.1) rfl ⟨rfl,(H2.o.2.2.1.bh H2.o.2.1 hn0).le ls,H2.o.2.2.2.bj H2.o.2.1 (λg hg hl=>by have:=HZ.o;simp at hg;omega)⟩
 .rw[U8 he]at rn;have gI:=xh rn;clear rn;have hq:(er != 0)=true:=lm he
  have kP:(er==0)=false:=i4 he
  obtain⟨B2,o2,k0,k1,z0,z1⟩:=lU (a':=⟨#[]⟩) (b':=⟨#[]⟩) C4;have H2:=xh<|rx B2 (rx o2 (rx a1 o4));clear B2 o2 a1 o4 b1 b2 b3 C4 nh;go_wp2_with fail;have h9:=gI.o;subst h9;exact bodyPost_ret (xR rfl rfl H2.o.1) rfl ⟨rfl,(H2.o.2.2.1.2.bh H2.o.2.1 (λhm=>by have:=HZF.o z hm;omega)).le ls,H2.o.2.2.2.bj H2.o.2.1 (λg hg hl=>by have:=HZ.o;simp at hg;omega)⟩
def gv:List Nm->QS->QS×Int
 |[],q=>(q,0)
 |k::l,q=>if(q.fR k).2≠0 then((q.fR k).1,(q.fR k).2)else gv l (q.fR k).1
def QS.eR(q:QS)(fr til:Nm):QS×Int×Int:=
 if(q.cD dS fr til []).e≠0 then((q.cD dS fr til []).q,0,(q.cD dS fr til []).e)
 else if(gv (q.cD dS fr til []).s (q.cD dS fr til []).q).2≠0 then((gv (q.cD dS fr til []).s (q.cD dS fr til []).q).1,0,(gv (q.cD dS fr til []).s (q.cD dS fr til []).q).2)
 else((gv (q.cD dS fr til []).s (q.cD dS fr til []).q).1,((q.cD dS fr til []).s.length:Nat),0)
def Se{q:QS}(h:TQ w tb I F q n K)(hK:K<=999900000000)(fr til:Nm):
  io prog 22 #[tp tb,U7 fr,U7 til] w λe w'=>e=fd (rg #[U5 U6 (q.eR fr til).2.1,U5 U6 (q.eR fr til).2.2])/\PT w w' I F (q.eR fr til).1 n (K+30000000):=by
 have hmf:∀(fn:Fn) (first cap:Array By) (w:BY),(Instr.makeFunc fn first cap).run prog w=.ok (.func fn first cap) w:=λ_ _ _ _=>rfl;obtain⟨z,hz⟩:∃z,w.heap.size=z:=⟨_,rfl⟩;have bu:=i6 w (Pi #[U3 none 0 0] 123);have c0:=aM.new w 123 #[U3 none 0 0];rw[hz]at c0;have hI:ta z (w.alloc (Pi #[U3 none 0 0] 123)) [] [z]:=⟨none,0,rfl,c0,bm.nil _ _ _⟩;have dP:=h.lt
 have KE:=zO (Wl z) (h.below bu) ls fr til hI (λg hg hm=>by have:=dP g hg;simp at hm;omega) rfl;have KD:=xh (λ(W:BY) (Fj:List Nat) (qj:QS) (kj:Nat) (hW:TQ W tb I Fj qj n kj) (hk:kj<=999999970000) (key:Nm)=>Fv hW hk key);obtain⟨RR,cA⟩:∃RR,q.eR fr til=RR:=⟨_,rfl⟩;rw[cA];unfold QS.eR at cA;obtain⟨R,hR⟩:∃R,q.cD dS fr til []=R:=⟨_,rfl⟩;rw[hR]at KE cA;have gI:=xh cA;have KE:=xh KE;have Jr:=xh bu
 have HZ:=xh hz;have rD:=xh dP;have HNE:=xh h.ne;clear cA bu hI dP h hR c0;unfold lp at KE;unfold tp at *;go_in;go_wp2_with fail;go_call KE.o as e w3 ⟨rfl,G,a1,a2,a3,a4,a5,a6⟩;obtain⟨A,c,hG,b1,b3⟩:=a2;obtain⟨l,hl⟩:∃l,R.s=l:=⟨_,rfl⟩;obtain⟨er,nh⟩:∃er,R.e=er:=⟨_,rfl⟩;obtain⟨qr,hqr⟩:∃qr,R.q=qr:=⟨_,rfl⟩;obtain⟨k,hk⟩:∃k,l.length=k:=⟨_,rfl⟩;rw[hl]at b1 b3 hG a5;rw[hk]at b1 b3 hG a5;rw[hqr]at a1;have rn:=gI.o
 rw[hl,nh,hqr]at rn;rw[nh];have o3:ah F w w3:=(ah.aj (S:=F) Jr.o).bj a3 (λg hg hl=>(aK.1 hg).elim id (λhg=>by have:=HZ.o;simp at hg;omega));have hG3:∀g∈G,w.heap.size<=g:=λg hg=>(a4 g hg).elim (λh=>by have:=HZ.o;simp at h;omega) (λh=>aD Jr.o.size h)
 by_cases he:er=0
 .subst he;rw[i8]at rn;have gI:=xh rn;have H3:=xh (show TQ w3 tb I F qr n (K+513)/\bm w3 9 1 (U3 A k c) k (J5 l)/\ah F w w3/\(∀g∈tb::F,g∉z::ak (U3 A k c))/\aM w3 z 123 #[U3 A k c]/\k<=57*513 from
   ⟨a1,b3,o3,λg hg hm=>a6 g hg (by rw[hG];exact hm),b1,a5⟩)
  have x1:=b1.bi 0;have hlen:=H3.o.2.2.2.2.2;have Xh:=xh hk;have uY:w.heap.size<=w3.heap.size:=o3.size;have hob:OB w.heap.size w w3 F F:=⟨F,o3,λg hg=> .inl hg,λg hg=> .inl hg⟩;have HOB:=xh hob;obtain⟨DD,hDD⟩:∃DD,gv l qr=DD:=⟨_,rfl⟩;rw[hDD]at rn;have gI:=xh rn;have HDD:=xh hDD;clear rn hDD hk a1 a3 a4 a5 a6 b1 b3 o3 hG3 hl nh hqr hob;go_wp2_with fail
  go_loopw [26] (λiv wr=> ∃(i:Nat) (qi:QS) (Fi:List Nat),i<=k/\iv=U5 U6 (i:Nat)/\Hid (gv (l.drop i) qi=DD)/\Hid (TQ wr tb I Fi qi n (K+513+700*i)/\bm wr 9 1 (U3 A k c) k (J5 l)/\aM wr z 123 #[U3 A k c]/\(∀g∈tb::Fi,g∉z::ak (U3 A k c))/\OB w.heap.size w wr F Fi)) (λiv _=>k-(intOf iv).toNat)
  case atStart=>exact⟨0,qr,F,ls,rfl,HDD,xh ⟨H3.o.1,H3.o.2.1,H3.o.2.2.2.2.1,H3.o.2.2.2.1,HOB.o⟩⟩
  case round=>
   obtain⟨i,qi,Fi,hi,rfl,HV,HA⟩:=hrel
   by_cases yb:i<k
   .have hikI:(i:Int)<(k:Int):=ls
    obtain⟨x,hx⟩:∃x,l[i]?=some x:=⟨_,aQ (by rw[Xh.o];exact yb)⟩;obtain⟨ga,ca,AR,FY,BA,hca1,hca2⟩:=HA.o.2.1.form ls ls;injection FY with e1 e2 e3
    subst e1 e3;have xc:wr.cell? ⟨ga,i,none⟩=some (U7 x):=BA.ae (by
     rw[dr,bX (by simp[J5];rw[Xh.o];exact yb)];simp[J5,hx])
    have NJ:l.drop i=x::l.drop (i+1):=by rw[<-List.getElem_cons_drop (h:=by rw[Xh.o];exact yb)];congr 1;have:=hx;rw[aQ (by rw[Xh.o];exact yb)]at this;injection this
    have uU:=HV.o;rw[NJ]at uU;unfold gv at uU;have KX:=KD.o wr Fi qi (K+513+700*i) HA.o.1 ls x;obtain⟨RV,hRV⟩:∃RV,qi.fR x=RV:=⟨_,rfl⟩;rw[hRV]at KX uU;have KX:=xh KX;have HVAL:=xh uU;clear hx uU NJ hRV BA hca2;go_wp2_with fail;go_call KX.o as e w5 ⟨rfl,F5,p1,p2,p3⟩;have Px:=p2.size;have hFd:∀g∈Fi,g∉z::ak (U3 (lc ga) k c):=λg hg=>HA.o.2.2.2.1 g (aH _ hg)
    have S5:=HA.o.2.1.only p2 (λg hg hm=>hFd g hm (aH _ hg));have C5:=HA.o.2.2.1.only p2 (λhm=>hFd z hm lw);have hel:∀g∈z::ak (U3 (lc ga) k c),g<wr.heap.size:=λg hg=>by
     rcases ax.1 hg with rfl|hg
     .exact HA.o.2.2.1.lt
     .exact HA.o.2.1.lt g hg
    obtain⟨q5,e5⟩:=RV;dsimp only at *;have H5:=xh (show TQ w5 tb I F5 q5 n (K+513+700*(i+1))/\bm w5 9 1 (U3 (lc ga) k c) k (J5 l)/\aM w5 z 123 #[U3 (lc ga) k c]/\(∀g∈tb::F5,g∉z::ak (U3 (lc ga) k c))/\OB w.heap.size w w5 F F5 from
     ⟨⟨HA.o.1.1.only p2 HA.o.1.ne,p1.le ls⟩,S5,C5,λg hg hm=>by
      rcases ax.1 hg with rfl|hg
      .exact HA.o.2.2.2.1 _ lw hm
      .rcases p3 g hg with h1|h1
       .exact hFd g h1 hm
       .have:=hel g hm;omega,HA.o.2.2.2.2.step (ai _) p2 p3⟩)
    clear p1 p2 p3 Px hFd S5 C5 hel
    by_cases Sd:e5=0
    .subst Sd;have h9:=HVAL.o;rw[i8]at h9;have HV9:=xh h9;clear h9;go_wp2;go_roundw
     case rel=>exact⟨i+1,q5,F5,ls,by first|rfl|simp,HV9,H5⟩
     case measure=>simp[intOf];omega
    .have h9:=HVAL.o;rw[U8 Sd]at h9;have h8:=gI.o;rw[<-h9,U8 Sd]at h8;have hq:(e5 != 0)=true:=lm Sd
     have kP:(e5==0)=false:=i4 Sd
     have HV9:=xh h8;clear h9 h8;go_wp2;go_ret2;have h9:=HV9.o;subst h9;exact bz ((H5.o.2.2.2.2.pb (H5.o.1.2.le ls)).pt (by first|exact ai _|(have:=HZ.o;omega)))
   .have hikI:¬(i:Int)<(k:Int):=ls
    have Lm:l.drop i=[]:=lT (by rw[Xh.o];omega);have h9:=HV.o;rw[Lm]at h9;have h8:=gI.o;rw[<-h9]at h8;have h8:(qi,((l.length:Nat):Int),(0:Int))=RR:=by unfold gv at h8;rw[i8]at h8;exact h8
    have x1:=HA.o.2.2.1.bi 0;have HV9:=xh h8;clear h9 Lm h8;go_wp2;go_ret2;have h9:=HV9.o;subst h9;exact⟨by rw[Xh.o];first|rfl|simp,(HA.o.2.2.2.2.pb (HA.o.1.2.le ls)).pt (by first|exact ai _|(have:=HZ.o;omega))⟩
 .rw[U8 he]at rn;have hq:(er != 0)=true:=lm he
  have kP:(er==0)=false:=i4 he
  have H3:=xh<|rx a1 o3;have gI:=xh rn;clear rn hk a1 a3 a4 a5 a6 b1 b3 o3 hG3 hl nh hqr;go_wp2;go_ret2;have h9:=gI.o;subst h9;exact bz ⟨F,H3.o.1.2.le ls,H3.o.2,λg hg=> .inl hg⟩
end Sh.Cn
namespace Sh.Cn
open Go.RowKit Pk Dk Pg
variable{w:BY}{I:Ix}{F:List Nat}{q:QS}{n K:Nat}
structure TW(w:BY)(wb tb mb:Nat)(I:Ix)(F:List Nat)(vl vo:By)(q:QS)(n K:Nat)(l o:List PR):Prop where
 b:aM w wb 38 #[lc I.L.b,lc I.pb,lc tb,lc mb,vo]
 m:Mp w mb vl l
 s:bm w 42 2 vo o.length (kL o)
 t:TQ w tb I F q n K
 no:o.length<=1000000
def PQ.Fx(h:PQ w I F q n K){v:By}{m:Nat}{L:List By}(S:bm w 42 2 v m L):∀g∈ak v,g∉F:=by
 rcases S.2 with⟨rfl,_⟩|⟨g,cap,rest,rfl,B,_⟩
 .intro g hg;simp[ak]at hg
 .intro g' hg;simp only[ak,aG]at hg;subst hg;exact h.jL B
section
variable{w w':BY}{wb tb mb:Nat}{I:Ix}{F S:List Nat}{vl vo:By}{q q':QS}{n K K':Nat}{l o:List PR}
def TW.wF(h:TW w wb tb mb I F vl vo q n K l o):wb∉F:=h.t.2.jL h.b
def TW.mF(h:TW w wb tb mb I F vl vo q n K l o):mb∉F:=h.t.2.jL h.m.b
def TW.wm(h:TW w wb tb mb I F vl vo q n K l o):wb≠mb:=h.b.mx h.m.b ms
def TW.wt(h:TW w wb tb mb I F vl vo q n K l o):wb≠tb:=h.b.mx h.t.1 ms
def TW.mt(h:TW w wb tb mb I F vl vo q n K l o):mb≠tb:=h.m.b.mx h.t.1 ms
def TW.below(h:TW w wb tb mb I F vl vo q n K l o)(hb:i7 w w'):TW w' wb tb mb I F vl vo q n K l o:=⟨h.b.below hb h.b.lt,h.m.below hb,h.s.below hb,h.t.below hb,h.no⟩
def TW.drew(h:TW w wb tb mb I F vl vo q n K l o):TW w.drew wb tb mb I F vl vo q n K l o:=h.below (Below.refl _ _).drew
def TW.le(h:TW w wb tb mb I F vl vo q n K l o)(hk:K<=K'):TW w wb tb mb I F vl vo q n K' l o:=⟨h.b,h.m,h.s,h.t.le hk,h.no⟩
def TW.lt(h:TW w wb tb mb I F vl vo q n K l o):∀g∈wb::mb::tb::F,g<w.heap.size:=λg hg=>by
 simp only[ax]at hg
 rcases hg with rfl|rfl|hg
 .exact h.b.lt
 .exact h.m.b.lt
 .exact h.t.lt g (ax.2 hg)
def TW.tree(h:TW w wb tb mb I F vl vo q n K l o)(p:PT w w' I F q' n K'):∃F',TW w' wb tb mb I F' vl vo q' n K' l o/\ah F w w'/\∀g∈F',g∈F\/w.heap.size<=g:=by
 obtain⟨F',P,o,f⟩:=p;exact⟨F',⟨h.b.only o h.wF,⟨h.m.b.only o h.mF,h.m.s.only o (h.t.2.Fx h.m.s),h.m.n⟩,h.s.only o (h.t.2.Fx h.s),⟨h.t.1.only o h.t.ne,P⟩,h.no⟩,o,f⟩
def TW.map{WJ:By}{l':List PR}(h:TW w wb tb mb I F vl vo q n K l o)(ho:ah [mb] w w')(M:Mp w' mb WJ l'):TW w' wb tb mb I F WJ vo q n K l' o:=
 ⟨h.b.only ho (by simpa using h.wm),M,h.s.only ho (λg hg hm=>qa h.s h.m.b ms g hg (aG.1 hm)),h.t.only ho (λg hg hm=>by
  have e:=aG.1 hm;subst e;exact(ax.1 hg).elim h.mt h.mF),h.no⟩
def TW.cells(h:TW w wb tb mb I F vl vo q n K l o):w.cell? ⟨wb,1,none⟩=some (lc I.pb:li)/\w.cell? ⟨wb,2,none⟩=some (lc tb:li)/\w.cell? ⟨wb,3,none⟩=some (lc mb:li)/\w.cell? ⟨wb,4,none⟩=some vo:=
 ⟨h.b.bi 1,h.b.bi 2,h.b.bi 3,h.b.bi 4⟩
end
def WK{wb tb mb:Nat}{vl vo:By}{l o:List PR}(h:TW w wb tb mb I F vl vo q n K l o)(hK:K<=999999990000)(h0:q.bt.dJ.2=0):
  io prog 57 #[lc wb] w λe w'=>e=fd (WF true)/\∃tr AN F',TW w' wb tr AN I F' vo vo q.bt.dJ.1 n (K+2) o o/\ah (wb::F) w w'/\∀g∈AN::tr::F',g∈F\/w.heap.size<=g:=by
 have KA:=Fs h.t.2;obtain⟨x1,x2,x3,x4⟩:=h.cells;obtain⟨A,c,rfl⟩:=aI h.s;unfold pp at KA;have KA:=xh KA;have KO:=xh (λ(W:BY) (F:List Nat) (hW:PQ W I F q.bt n K)=>uL hW ls);have HT:=xh h;have H0:=xh h0;clear h h0;go_in;go_wp2_with fail;go_call KA.o as e w1 ⟨rfl,hp⟩;obtain⟨F1,T1,o1,f1⟩:=HT.o.tree hp;have T1:=xh T1;have O1:=xh<|rx o1 f1;clear hp o1 f1 x1 x2 x3 x4
 obtain⟨x1,x2,x3,x4⟩:=T1.o.cells;have KO1:=KO.o w1 F1 T1.o.t.2;rw[H0.o]at KO1;unfold pp at KO1;have KO1:=xh KO1;go_wp2_with fail;go_call KO1.o as e w2 ⟨v2,rfl,F2,o2,f2,P2,y2,y3⟩;obtain⟨tr,rfl,htb,T2⟩:=y3 rfl;clear y2 y3;have B2:=xh<|T1.o.b.only o2 T1.o.wF;have S2:=T1.o.s.only o2 (T1.o.t.2.Fx T1.o.s);have hwt:wb∉tr::F2:=λhm=>(ax.1 hm).elim (λe=>by have:=T1.o.b.lt;omega) (T2.2.jL B2.o)
 have hws:∀g∈ak (U3 A o.length c),g≠wb:=qa S2 B2.o ms;obtain⟨z,hz⟩:∃z,w2.heap.size=z:=⟨_,rfl⟩;have hbz:=B2.o.lt;have pC:=S2.lt;have W5:=((((ah.refl [wb] w2).setCell (p:=⟨wb,2,none⟩) (λ_=>by simp) (tp tr)).setCell (p:=⟨wb,3,none⟩) (λ_=>by simp) (lc z))).alloc (Pi #[U3 A o.length c] 45);have M5:=aM.new ((w2.setCell ⟨wb,2,none⟩ (tp tr)).setCell ⟨wb,3,none⟩ (lc z)) 45 #[U3 A o.length c]
 have hzz:((w2.setCell ⟨wb,2,none⟩ (tp tr)).setCell ⟨wb,3,none⟩ (lc z)).heap.size=z:=by rw[<-hz];simp[World.setCell]
 rw[hzz]at M5;have B5:=(((B2.o.ct 2 (tp tr)).ct 3 (lc z)).alloc (Pi #[U3 A o.length c] 45));have H5:=xh (show TW _ wb tr z I F2 (U3 A o.length c) (U3 A o.length c) q.bt.dJ.1 n (K+2) o o from
  ⟨B5,⟨M5,S2.only W5 (λg hg hm=>hws g hg (aG.1 hm)),HT.o.no⟩,S2.only W5 (λg hg hm=>hws g hg (aG.1 hm)),T2.only W5 (λg hg hm=>hwt (aG.1 hm▸hg)),HT.o.no⟩)
 have O5:=g9 (ah (wb::F) w _) (((O1.o.1.mono (S':=wb::F) (λx hx _=>aH _ hx)).bj o2 (λx hx dP=>aH _ ((O1.o.2 x hx).elim id (λh=>by omega)))).trans (W5.mono (λx hx _=>by simp at hx;simp[hx])));have F5:=xh (show ∀g∈z::tr::F2,g∈F\/w.heap.size<=g from λg hg=>by
  have h1:=O1.o.1.size;have h2:=o2.size;simp only[ax]at hg
  rcases hg with rfl|rfl|hg
  .right;omega
  .right;omega
  .exact(f2 g hg).elim (O1.o.2 g) (λh=>by right;omega))
 have y4:=B2.ap 4;have y2:=B2.ap 2;have y3:=B2.ap 3;have z2:=B2.o.frozen 2 lw;have z3:=B2.o.frozen 3 lw;clear o2 f2 P2 T2 hwt hws pC W5 M5 B5 hzz S2 htb x1 x2 x3 x4;subst hz;have Ks:¬wb=w2.heap.size:=ls
 unfold tp at *;go_wp2;go_ret;exact bz ⟨tr,_,F2,H5.o,O5.o,F5.o⟩
section
variable{w w':BY}{wb tb mb:Nat}{I:Ix}{F S:List Nat}{vl vo:By}{q q':QS}{n K K':Nat}{l o:List PR}
def TW.next(h:TW w wb tb mb I F vl vo q n K l o)(ho:ah F w w')(p:PQ w' I F q' n K'):TW w' wb tb mb I F vl vo q' n K' l o:=
 ⟨h.b.only ho h.wF,⟨h.m.b.only ho h.mF,h.m.s.only ho (h.t.2.Fx h.m.s),h.m.n⟩,h.s.only ho (h.t.2.Fx h.s),h.t.next ho p,h.no⟩
def TW.only(h:TW w wb tb mb I F vl vo q n K l o)(ho:ah S w w')(hd:∀g∈wb::mb::tb::F,g∉S)(h1:∀g∈ak vl,g∉S)(h2:∀g∈ak vo,g∉S):TW w' wb tb mb I F vl vo q n K l o:=
 ⟨h.b.only ho (hd _ lw),⟨h.m.b.only ho (hd _ lw),h.m.s.only ho h1,h.m.n⟩,h.s.only ho h2,h.t.only ho (λg hg=>hd g (aH _ (aH _ hg))),h.no⟩
def TW.actF(h:TW w wb tb mb I F vl vo q n K l o){z:Nat}{cs:Array By}(B:aM w z 28 cs):z∉wb::mb::F:=λhm=>by
 simp only[ax]at hm
 rcases hm with hm|hm|hm
 .exact(B.mx h.b ms) hm
 .exact(B.mx h.m.b ms) hm
 .exact h.t.2.jL B ms ms ms ms ms ms ms ms ms hm
end
section
variable{w:BY}{wb tb mb:Nat}{I:Ix}{F:List Nat}{vl vo:By}{q:QS}{n Kz mm k:Nat}{l o:List PR}
def TW.act(h:TW w wb tb mb I F vl vo q n Kz l o)(kd nn:Int)(key til val:Nm):TW (w.alloc (Pi (uG kd nn key til val) 28)) wb tb mb I F vl vo q n Kz l o/\aM (w.alloc (Pi (uG kd nn key til val) 28)) w.heap.size 28 (uG kd nn key til val)/\w.heap.size∉wb::mb::F/\ah (wb::mb::F) w (w.alloc (Pi (uG kd nn key til val) 28)):=by
 have hb:=i6 w (Pi (uG kd nn key til val) 28);have T0:=h.below hb;have C:=aM.new w 28 (uG kd nn key til val);exact⟨T0,C,T0.actF C,.aj hb⟩
end
def Sf{w:BY}{wb tb mb:Nat}{I:Ix}{F:List Nat}{vl vo:By}{q:QS}{n K:Nat}{l o:List PR}(h:TW w wb tb mb I F vl vo q n K l o)(hK:K<=999999990000)(h0:q.bt.dJ.2≠0):
  io prog 57 #[lc wb] w λe w'=>e=fd (WF false)/\∃F' mv,PQ w' I F' q.bt.dJ.1 n (K+2)/\aM w' wb 38 #[dp I.L.b,pp I.pb,st none,mv,vo]/\bm w' 42 2 vo o.length (kL o)/\ah (wb::F) w w'/\∀g∈F',g∈F\/w.heap.size<=g:=by
 have KA:=Fs h.t.2;obtain⟨x1,x2,x3,x4⟩:=h.cells;obtain⟨A,c,rfl⟩:=aI h.s;unfold pp at KA;have KA:=xh KA;have KO:=xh (λ(W:BY) (F:List Nat) (hW:PQ W I F q.bt n K)=>uL hW ls);have HT:=xh h;have H0:=xh h0;clear h h0;go_in;go_wp2_with fail;go_call KA.o as e w1 ⟨rfl,hp⟩;obtain⟨F1,T1,o1,f1⟩:=HT.o.tree hp;have T1:=xh T1;have O1:=xh<|rx o1 f1;clear hp o1 f1 x1 x2 x3 x4
 obtain⟨x1,x2,x3,x4⟩:=T1.o.cells;have KO1:=KO.o w1 F1 T1.o.t.2;obtain⟨eo,heo⟩:∃eo,q.bt.dJ.2=eo:=⟨_,rfl⟩;have h0:=H0.o;rw[heo]at KO1 h0;clear heo;unfold pp at KO1;have KO1:=xh KO1;go_wp2_with fail;go_call KO1.o as e w2 ⟨v2,rfl,F2,o2,f2,P2,y2,y3⟩;obtain rfl:=y2 h0;clear y2 y3;have lC:(eo==0)=false:=i4 h0
 have B2:=xh<|T1.o.b.only o2 T1.o.wF;have S2:=T1.o.s.only o2 (T1.o.t.2.Fx T1.o.s);have hws:∀g∈ak (U3 A o.length c),g≠wb:=qa S2 B2.o ms;obtain⟨z,hz⟩:∃z,w2.heap.size=z:=⟨_,rfl⟩;have hbz:=B2.o.lt;have pC:=S2.lt;have W5:=((((ah.refl [wb] w2).setCell (p:=⟨wb,2,none⟩) (λ_=>by simp) (st none)).setCell (p:=⟨wb,3,none⟩) (λ_=>by simp) (lc z))).alloc (Pi #[U3 A o.length c] 45)
 have M5:=aM.new ((w2.setCell ⟨wb,2,none⟩ (st none)).setCell ⟨wb,3,none⟩ (lc z)) 45 #[U3 A o.length c];have hzz:((w2.setCell ⟨wb,2,none⟩ (st none)).setCell ⟨wb,3,none⟩ (lc z)).heap.size=z:=by rw[<-hz];simp[World.setCell]
 rw[hzz]at M5;have B5:=(((B2.o.ct 2 (st none)).ct 3 (lc z)).alloc (Pi #[U3 A o.length c] 45));have hwF2:wb∉F2:=P2.jL B2.o;have H5:=xh<|rx (P2.only W5 (λg hg hm=>hwF2 (aG.1 hm▸hg))) (rx B5 (S2.only W5 (λg hg hm=>hws g hg (aG.1 hm))))
 have O5:=g9 (ah (wb::F) w _) (((O1.o.1.mono (S':=wb::F) (λx hx _=>aH _ hx)).bj o2 (λx hx dP=>aH _ ((O1.o.2 x hx).elim id (λh=>by omega)))).trans (W5.mono (λx hx _=>by simp at hx;simp[hx])));have F5:=xh (show ∀g∈F2,g∈F\/w.heap.size<=g from λg hg=>by
  have h1:=O1.o.1.size;exact(f2 g hg).elim (O1.o.2 g) (λh=>by right;omega))
 have y4:=B2.ap 4;have y2:=B2.ap 2;have y3:=B2.ap 3;have z2:=B2.o.frozen 2 lw;have z3:=B2.o.frozen 3 lw;clear o2 f2 P2 hwF2 hws pC W5 M5 B5 hzz S2 x1 x2 x3 x4;subst hz;have Ks:¬wb=w2.heap.size:=ls
 unfold tp at *;go_wp2;go_ret;exact bz ⟨F2,_,H5.o.1,H5.o.2.1,H5.o.2.2,O5.o,F5.o⟩
variable{w:BY}{wb tb mb n K:Nat}{I:Ix}{F:List Nat}{vl vo:By}{q:QS}{l o:List PR}
def nA(e:Int):Prop:=e=11\/e=12
def ib{e:Int}(h:nA e)(w:BY):io prog 18 #[e] w λr w'=>r=fd (WF true)/\w=w':=by
 have:=th e w;rw[show(decide (e=11) || decide (e=12))=true by rcases h with rfl|rfl<;>decide]at this;exact this
def ll(w w':BY)(wb mb tb:Nat)(I:Ix)(F:List Nat)(n K:Nat)(q:QS)(vo:By)(l o:List PR):Prop:= ∃F' WJ,TW w' wb tb mb I F' WJ vo q n K l o/\ah (wb::mb::F) w w'/\FrA (mb::tb::F) w.heap.size (mb::tb::F')
def qg(w w':BY)(wb mb tb:Nat)(I:Ix)(F:List Nat)(n K:Nat)(q:QS)(vo:By)(o:List PR):Prop:=
 (q.bt.dJ.2=0/\∃tr AN F',TW w' wb tr AN I F' vo vo q.bt.dJ.1 n K o o/\ah (wb::mb::F) w w'/\FrA (mb::tb::F) w.heap.size (AN::tr::F'))\/
 (q.bt.dJ.2≠0/\∃F' mv,PQ w' I F' q.bt.dJ.1 n K/\aM w' wb 38 #[dp I.L.b,pp I.pb,st none,mv,vo]/\bm w' 42 2 vo o.length (kL o)/\ah (wb::mb::F) w w'/\FrA (mb::tb::F) w.heap.size F')
def BackR(w w':BY)(wb:Nat)(I:Ix)(F:List Nat)(n K:Nat)(q:QS)(vo:By)(o:List PR):Prop:=
 (q.bt.dJ.2=0/\∃tr AN F',TW w' wb tr AN I F' vo vo q.bt.dJ.1 n K o o/\ah (wb::F) w w'/\∀g∈AN::tr::F',g∈F\/w.heap.size<=g)\/
 (q.bt.dJ.2≠0/\∃F' mv,PQ w' I F' q.bt.dJ.1 n K/\aM w' wb 38 #[dp I.L.b,pp I.pb,st none,mv,vo]/\bm w' 42 2 vo o.length (kL o)/\ah (wb::F) w w'/\∀g∈F',g∈F\/w.heap.size<=g)
def nQ(h:TW w wb tb mb I F vl vo q n K l o)(hK:K<=999999990000):
  io prog 57 #[lc wb] w λe w'=> ∃β,e=fd (WF β)/\BackR w w' wb I F n (K+2) q vo o:=by
 by_cases h0:q.bt.dJ.2=0
 .exact(WK h hK h0).mono λe w' ⟨r,tr,AN,F',T,ho,f⟩=>⟨true,r,.inl ⟨h0,tr,AN,F',T,ho,f⟩⟩
 .exact(Sf h hK h0).mono λe w' ⟨r,F',mv,P,B,S,ho,f⟩=>⟨false,r,.inr ⟨h0,F',mv,P,B,S,ho,f⟩⟩
def BackR.back{w1 w':BY}{F1:List Nat}{K':Nat}(h:BackR w1 w' wb I F1 n K q vo o)(ho:ah (wb::mb::F) w w1)(f1:∀g∈F1,g∈F\/w.heap.size<=g)(hK:K<=K'):qg w w' wb mb tb I F n K' q vo o:=by
 have key:∀o9:ah (wb::F1) w1 w',ah (wb::mb::F) w w':=λo9=>ho.bj o9 (λx hx hl=>(ax.1 hx).elim (λe=>by simp[e]) (λh=>(f1 x h).elim (λh=>by simp[h]) (λh=>by omega)))
 rcases h with⟨h0,tr,AN,F',T,o9,f9⟩|⟨h0,F',mv,P,B,S,o9,f9⟩
 .exact .inl ⟨h0,tr,AN,F',T.le hK,key o9,fr_back f1 ho.size f9⟩
 .exact .inr ⟨h0,F',mv,P.le hK,B,S,key o9,λg hg=>(f9 g hg).elim (λh=>(f1 g h).elim (λh=> .inl (aH _ (aH _ h))) .inr) (λh=> .inr (aD ho.size h))⟩
def tdo_set{Kz:Nat}(h:TW w wb tb mb I F vl vo q n Kz l o)(hl:l.length<=1000)(hK:Kz<=999900000000)(kd nn:Int)(key til val:Nm)(xM:key.size<=100000)(Gb:val.size<=100000)(wu:kd=0\/kd=1\/kd=2\/kd=3\/kd=4):
  io prog 15 #[lc wb,.agg (uG kd nn key til val)] w λe w'=> ∃β,e=fd (WF β)/\((nA (q.fC key val).2/\qg w w' wb mb tb I F n (Kz+40000000) (q.fC key val).1 vo o)\/(¬nA (q.fC key val).2/\ll w w' wb mb tb I F n (Kz+40000000) (q.fC key val).1 vo (Iu l key val) o)):=by
 obtain⟨q1,e1,FV⟩:∃q1 e1,q.fC key val=(q1,e1):=⟨_,_,rfl⟩;have KS:=xh (λ(W:BY) (hW:TW W wb tb mb I F vl vo q n Kz l o)=>Fu hW.t ls key val xM Gb);rw[FV]at KS ⊢;dsimp only at KS ⊢;obtain⟨f1,qR⟩:∃f1:Int,(if 32<key.size\/1024<val.size then 4 else 0)=f1:=⟨_,rfl⟩;have KM:=xh (λ(W:BY) (v:By) (hW:Mp W mb v l)=>mset_any hW key val ls ls ls);rw[qR]at KM;have HF:=g9 (f1≠11/\f1≠12) (by rw[<-qR];split<;>decide)
 unfold tp at KS;clear qR FV;obtain⟨T0,CZ,oE,O0⟩:=h.act kd nn key til val;obtain⟨z,hz⟩:∃z,w.heap.size=z:=⟨_,rfl⟩;rw[hz]at CZ oE;have T0:=xh T0;have CZ:=xh CZ;have oE:=xh oE;have O0:=xh O0;have HZ:=xh hz;have Ox:=xh<|rx hl hK;clear h hl hK hz;have y0:=CZ.ap 0;have y2:=CZ.ap 2;have y4:=CZ.ap 4;obtain⟨x1,x2,x3,x4⟩:=T0.o.cells;have zR:=HZ.o;unfold uG at *
 by_cases G:nA e1
 .have J:=xh G;clear G KM
  rcases wu with rfl|rfl|rfl|rfl|rfl
  all_goals
   go_in;go_wp2;refine kw (λW=>W.cell? ⟨wb,2,none⟩=some (lc tb:li)/\W.cell? ⟨z,2,none⟩=some (U7 key)/\W.cell? ⟨z,4,none⟩=some (U7 val)) (⟨x2,y2,y4⟩) (λaC=>?_);refine dj [(0,20),(1,21),(2,22),(3,23),(4,24),(5,25),(6,26),(7,27)] ?_
   iterate 8 refine bJ ?_
   refine dV 8 28 λK hK=>?_;go_simp
   go_at_call 25
   go_call (KS.o _ T0.o.drew) as e w1 ⟨rfl,hp⟩;obtain⟨F1,T1,o1,f1⟩:=T0.o.drew.tree hp;have T1:=xh T1;have C1:=xh<|CZ.o.drew.only o1 (λhm=>oE.o (aH _ (aH _ hm)));have O1:=xh<|O0.o.drew.trans (o1.mono (λx hx _=>aH _ (aH _ hx)));have f1:=g9 (∀g∈F1,g∈F\/w.heap.size<=g) (λg hg=>(f1 g hg).imp id (λh=>aD O0.o.size h));clear hp o1;go_simp
   refine cq hK (⟨T1.o.cells.2.1,C1.ap 2,C1.ap 4⟩) (λaC=>?_);refine dj [(9,5)] ?_
   iterate 1 refine bJ ?_
   refine jp ?_ _;clear y0 y2 y4;clear x1 x2 x3 x4;obtain⟨x1,x2,x3,x4⟩:=T1.o.cells;go_wp2_with fail;go_call (ib J.o _) as e _ ⟨rfl,rfl⟩;go_wp2_with fail;go_call (ib J.o _) as e _ ⟨rfl,rfl⟩;have KB:=xh<|nQ T1.o (by have:=Ox.o;omega);clear x1 x2 x3 x4;go_wp2_with fail;go_call KB.o as e w9 ⟨β,rfl,R9⟩;have R9:=xh<|R9.back (tb:=tb) O1.o f1.o (show _<=Kz+40000000 by omega);go_wp2_with fail
   go_ret;exact⟨β,by first|rfl|simp,.inl ⟨J.o,R9.o⟩⟩
 .have J:=xh G;have OJ:=g9 (e1≠11) (λh=>G (.inl h));have vh:=g9 (e1≠12) (λh=>G (.inr h));clear G
  rcases wu with rfl|rfl|rfl|rfl|rfl
  all_goals
   go_in;go_wp2;refine kw (λW=>W.cell? ⟨wb,2,none⟩=some (lc tb:li)/\W.cell? ⟨z,2,none⟩=some (U7 key)/\W.cell? ⟨z,4,none⟩=some (U7 val)) (⟨x2,y2,y4⟩) (λaC=>?_);refine dj [(0,20),(1,21),(2,22),(3,23),(4,24),(5,25),(6,26),(7,27)] ?_
   iterate 8 refine bJ ?_
   refine dV 8 28 λK hK=>?_;go_simp
   go_at_call 25
   go_call (KS.o _ T0.o.drew) as e w1 ⟨rfl,hp⟩;obtain⟨F1,T1,o1,f1⟩:=T0.o.drew.tree hp;have T1:=xh T1;have C1:=xh<|CZ.o.drew.only o1 (λhm=>oE.o (aH _ (aH _ hm)));have O1:=xh<|O0.o.drew.trans (o1.mono (λx hx _=>aH _ (aH _ hx)));have f1:=g9 (∀g∈F1,g∈F\/w.heap.size<=g) (λg hg=>(f1 g hg).imp id (λh=>aD O0.o.size h));clear hp o1;go_simp
   refine cq hK (⟨T1.o.cells.2.1,C1.ap 2,C1.ap 4⟩) (λaC=>?_);refine dj [(9,5)] ?_
   iterate 1 refine bJ ?_
   refine jp ?_ _;clear y0 y2 y4;clear x1 x2 x3 x4;have y2:=C1.ap 2;have y4:=C1.ap 4;obtain⟨x1,x2,x3,x4⟩:=T1.o.cells;go_wp2_with fail;go_call (fZ _ OJ.o vh.o _) as e _ ⟨rfl,rfl⟩;go_wp2_with fail
   refine kw (λW=>W.cell? ⟨wb,3,none⟩=some (lc mb:li)/\W.cell? ⟨z,2,none⟩=some (U7 key)/\W.cell? ⟨z,4,none⟩=some (U7 val)) (⟨x3,y2,y4⟩) (λaC=>?_);refine dj [(0,32),(1,33),(2,34),(3,35),(4,36),(5,37),(6,38),(7,39)] ?_
   iterate 8 refine bJ ?_
   refine dV 8 40 λK hK=>?_;go_simp
   go_at_call 54
   go_call (KM.o _ _ T1.o.drew.m) as e w2 ⟨rfl,v2,M2,o2⟩;have T2:=xh<|T1.o.drew.map o2 M2;have C2:=xh<|C1.o.drew.only o2 (λhm=>oE.o (by simp at hm;simp[hm]));have O2:=xh<|O1.o.drew.trans (o2.mono (λx hx _=>by simp at hx;simp[hx]));clear M2 o2;go_simp;refine cq hK (⟨T2.o.cells.2.2.1,C2.ap 2,C2.ap 4⟩) (λaC=>?_);refine dj [(9,6)] ?_
   iterate 1 refine bJ ?_
   refine jp ?_ _;clear x1 x2 x3 x4;go_wp2_with fail;go_call (fZ _ OJ.o vh.o _) as e _ ⟨rfl,rfl⟩;have R9:=g9 (ll w _ wb mb tb I F n (Kz+40000000) q1 vo (Iu l key val) o) ⟨F1,_,T2.o.le ls,O2.o,oY f1.o⟩;go_wp2;go_ret;exact⟨_,by first|rfl|simp,.inr ⟨J.o,R9.o⟩⟩
variable{w w1 w':BY}{n wb mb tb K K' Kz:Nat}{l o:List PR}{I:Ix}{F:List Nat}{q:QS}{vo vl:By}
def askQ(q:QS)(key til:Nm)(nn:Int):QS:=(((q.gD key).1.dL key til nn).1.gj key til).1
def RBt(e:Ending):Prop:= ∃β:Bool,e=fd (WF β)
def Sg{α:Type}[BEq α]{a b:α}(h:(a==b)=false):(a != b)=true:=by show(!(a==b))=true;rw[h];rfl
def AskR(w w':BY)(wb mb tb:Nat)(I:Ix)(F:List Nat)(n K:Nat)(q:QS)(e1 e2 e3:Int)(vo:By)(l o:List PR):Prop:=((nA e1\/nA e2\/nA e3)/\qg w w' wb mb tb I F n K q vo o)\/(¬(nA e1\/nA e2\/nA e3)/\ll w w' wb mb tb I F n K q vo l o)
def AskB(q:QS)(key til:Nm)(nn:Int):Prop:=nA (q.gD key).2.2\/nA ((q.gD key).1.dL key til nn).2.2\/nA (((q.gD key).1.dL key til nn).1.gj key til).2.2
def slc_big{A:Option Addr}{c:Nat}(S:bm w 42 2 (U3 A n c) n (kL l)):n<=9223372036854775807:=by
 rcases wI n with h|h
 .omega
 .obtain⟨_,_,_,_,h1,h2,_⟩:=bm.pr S (i:=0) h;unfold maxLen at h2;omega
def qg.pre(h:qg w1 w' wb mb tb I F n K q vo o)(ho:ah (wb::mb::F) w w1)(hK:K<=K'):qg w w' wb mb tb I F n K' q vo o:=by
 have f:∀{B:List Nat},FrA (mb::tb::F) w1.heap.size B->FrA (mb::tb::F) w.heap.size B:=λf g hg=>(f g hg).imp id (λh=>aD ho.size h)
 rcases h with⟨h0,tr,AN,F',T,o9,f9⟩|⟨h0,F',mv,P,B,S,o9,f9⟩
 .exact .inl ⟨h0,tr,AN,F',T.le hK,ho.trans o9,f f9⟩
 .exact .inr ⟨h0,F',mv,P.le hK,B,S,ho.trans o9,f f9⟩
def ll.pre(h:ll w1 w' wb mb tb I F n K q vo l o)(ho:ah (wb::mb::F) w w1)(hK:K<=K'):ll w w' wb mb tb I F n K' q vo l o:=by
 obtain⟨F',WJ,T,o9,f9⟩:=h;exact⟨F',WJ,T.le hK,ho.trans o9,λg hg=>(f9 g hg).imp id (λh=>aD ho.size h)⟩
def WL(h:TW w wb tb mb I F vl vo q n Kz l o)(hl:l.length<=1000)(hK:Kz<=999998000000)(kd nn:Int)(key til val:Nm):
  io prog 59 #[lc wb,.agg (uG kd nn key til val)] w λe w'=>RBt e/\AskR w w' wb mb tb I F n (Kz+400000) (askQ q key til nn) (q.gD key).2.2 ((q.gD key).1.dL key til nn).2.2 (((q.gD key).1.dL key til nn).1.gj key til).2.2 vo l o:=by
 unfold askQ;obtain⟨q1,FV⟩:∃q1,(q.gD key).1=q1:=⟨_,rfl⟩;obtain⟨b1,e1,Vv⟩:∃b1 e1,(q.gD key).2=(b1,e1):=⟨_,_,rfl⟩;rw[FV];obtain⟨q2,kP⟩:∃q2,(q1.dL key til nn).1=q2:=⟨_,rfl⟩;obtain⟨l2,e2,ZD⟩:∃l2 e2,(q1.dL key til nn).2=(l2,e2):=⟨_,_,rfl⟩;rw[kP];obtain⟨q3,hq3⟩:∃q3,(q2.gj key til).1=q3:=⟨_,rfl⟩;obtain⟨x3,e3,YZ⟩:∃x3 e3,(q2.gj key til).2=(x3,e3):=⟨_,_,rfl⟩;rw[hq3,Vv,ZD,YZ];dsimp only
 have K1:=xh (λ(W:BY) (hW:TW W wb tb mb I F vl vo q n Kz l o)=>IB hW.t ls key);have K2:=xh (λ(W:BY) (hW:TW W wb tb mb I F vl vo q1 n (Kz+21) l o)=>zQ hW.t ls key til nn);have K3:=xh (λ(W:BY) (hW:TW W wb tb mb I F vl vo q2 n (Kz+21+300000) l o)=>WI hW.t ls key til);rw[FV,Vv]at K1;rw[kP,ZD]at K2;rw[hq3,YZ]at K3;dsimp only at K1 K2 K3;obtain⟨mk1,mk2,hmg⟩:∃mk1 mk2,vf l key=(mk1,mk2):=⟨_,_,rfl⟩
 have KM:=xh (λ(W:BY) (hW:TW W wb tb mb I F vl vo q1 n (Kz+21) l o)=>mget_any hW.m key);rw[hmg]at KM;dsimp only at KM;have KSA:=xh (λ(W:BY) (hW:TW W wb tb mb I F vl vo q3 n (Kz+21+300000+600) l o)=>It hW.m key til 1099511627776);have KSN:=xh (λ(W:BY) (hW:TW W wb tb mb I F vl vo q3 n (Kz+21+300000+600) l o)=>It hW.m key til nn)
 have hal1:(kn key til 1099511627776 l).length<=1000000:=by have:=uE key til 1099511627776 l l.length;rw[ig]at this;omega
 have hsn1:(kn key til nn l).length<=1000000:=by have:=uE key til nn l l.length;rw[ig]at this;omega
 obtain⟨al,ja⟩:∃al,kn key til 1099511627776 l=al:=⟨_,rfl⟩;obtain⟨sn,Ch⟩:∃sn,kn key til nn l=sn:=⟨_,rfl⟩;rw[ja]at KSA hal1;rw[Ch]at KSN hsn1;have pD:=xh<|rx hal1 hsn1;clear ja Ch hal1 hsn1;have KT:=xh th;have hb:=i6 w (Pi (uG kd nn key til val) 28);have T0:=xh<|h.below hb;have CZ:=aM.new w 28 (uG kd nn key til val);obtain⟨z,hz⟩:∃z,w.heap.size=z:=⟨_,rfl⟩;rw[hz]at CZ;have oE:=xh<|T0.o.actF CZ
 have CZ:=xh CZ;have HZ:=xh hz;have O0:=xh<|ah.aj (S:=wb::F) hb;have Ox:=xh<|rx hl hK;unfold tp at K1 K2 K3;unfold prV at K3;clear h hl hK FV Vv kP ZD hq3 YZ hmg hb hz;have y1:=CZ.ap 1;have y2:=CZ.ap 2;have y3:=CZ.ap 3;obtain⟨x1,x2,Uh,x4⟩:=T0.o.cells;have zR:=HZ.o;unfold uG at *;go_in;go_wp2_with fail
 refine kw (λW=>W.cell? ⟨wb,2,none⟩=some (lc tb:li)/\W.cell? ⟨z,2,none⟩=some (U7 key)) (⟨x2,y2⟩) (λaC=>?_);refine dj [(0,15),(1,16),(2,17),(3,18),(4,19),(5,20)] ?_
 iterate 6 refine bJ ?_
 refine dV 6 21 λK hK=>?_;go_simp
 go_at_call 20
 go_call (K1.o _ T0.o.drew) as e w1 ⟨rfl,p1,o1⟩;have T1:=xh<|T0.o.drew.next o1 p1;have C1:=xh<|CZ.o.drew.only o1 (λhm=>oE.o (aH _ (aH _ hm)));have O1:=xh<|O0.o.drew.trans (o1.mono (λx hx _=>aH _ hx));clear p1 o1;go_simp;refine cq hK (⟨T1.o.cells.2.1,C1.ap 2⟩) (λaC=>?_);refine dj [(7,14),(8,22),(9,23),(10,5),(11,6)] ?_
 iterate 5 refine bJ ?_
 refine jp ?_ _;clear x1 x2 Uh x4 y1 y2 y3;have y1:=C1.ap 1;have y2:=C1.ap 2;have y3:=C1.ap 3;obtain⟨x1,x2,Uh,x4⟩:=T1.o.cells;go_wp2;refine kw (λW=>W.cell? ⟨wb,3,none⟩=some (lc mb:li)/\W.cell? ⟨z,2,none⟩=some (U7 key)) (⟨Uh,y2⟩) (λaC=>?_);refine dj [(0,25),(1,26),(2,27),(3,28),(4,29),(5,30)] ?_
 iterate 6 refine bJ ?_
 refine dV 6 31 λK hK=>?_;go_simp
 go_at_call 107
 go_call (KM.o _ T1.o.drew) as e w2 ⟨rfl,da⟩;have T2:=xh<|T1.o.drew.below da;have C2:=xh<|C1.o.drew.below da C1.o.drew.lt;have O2:=xh<|O1.o.drew.trans (.aj da);clear da;go_simp;refine cq hK (⟨T2.o.cells.2.2.1,C2.ap 2⟩) (λaC=>?_);refine dj [(7,24),(8,32),(9,33),(10,7),(11,8)] ?_
 iterate 5 refine bJ ?_
 refine jp ?_ _;clear x1 x2 Uh x4 y1 y2 y3;have y1:=C2.ap 1;have y2:=C2.ap 2;have y3:=C2.ap 3;obtain⟨x1,x2,Uh,x4⟩:=T2.o.cells;go_wp2;refine kw (λW=>W.cell? ⟨wb,2,none⟩=some (lc tb:li)/\W.cell? ⟨z,2,none⟩=some (U7 key)/\W.cell? ⟨z,3,none⟩=some (U7 til)/\W.cell? ⟨z,1,none⟩=some (nn:li)) (⟨x2,y2,y3,y1⟩) (λaC=>?_)
 refine dj [(0,35),(1,36),(2,37),(3,38),(4,39),(5,40),(6,41),(7,42),(8,43),(9,44)] ?_
 iterate 10 refine bJ ?_
 refine dV 10 45 λK hK=>?_;go_simp
 go_at_call 17
 go_call (K2.o _ T2.o.drew) as e w3 ⟨vs,rfl,S3,p3,o3,f3⟩;have T3:=xh<|T2.o.drew.next o3 p3;have C3:=xh<|C2.o.drew.only o3 (λhm=>oE.o (aH _ (aH _ hm)));have O3:=xh<|O2.o.drew.trans (o3.mono (λx hx _=>aH _ hx));obtain⟨As,cs,rfl⟩:=aI S3;have S3:=xh S3;have hl3:0<=l2.length:=bG _;clear p3 o3 f3;go_simp
 refine cq hK (⟨T3.o.cells.2.1,C3.ap 2,C3.ap 3,C3.ap 1⟩) (λaC=>?_);refine dj [(11,34),(12,46),(13,47),(14,9),(15,10)] ?_
 iterate 5 refine bJ ?_
 refine jp ?_ _;clear x1 x2 Uh x4 y1 y2 y3;have y1:=C3.ap 1;have y2:=C3.ap 2;have y3:=C3.ap 3;obtain⟨x1,x2,Uh,x4⟩:=T3.o.cells
 go_upto_region 4 with fail
 go_cut [11,12]from 48 to 59 (λv11 v12 wx=> ∃p,v11=st (some ⟨p,0,none⟩)/\v12=U5 U6 e3/\Hid (TW wx wb tb mb I F vl vo q3 n (Kz+21+300000+600) l o/\aM wx z 28 (uG kd nn key til val)/\ah (wb::F) w wx/\bm wx 42 2 (U3 As l2.length cs) l2.length (kL l2)/\aM wx p 42 #[U7 x3.1,U7 x3.2]/\w.heap.size<=p))
 case first=>
  refine kw (λW=>W.cell? ⟨wb,2,none⟩=some (lc tb:li)/\W.cell? ⟨z,2,none⟩=some (U7 key)/\W.cell? ⟨z,3,none⟩=some (U7 til)) (⟨x2,y2,y3⟩) (λaC=>?_);refine dj [(0,49),(1,50),(2,51),(3,52),(4,53),(5,54),(6,55),(7,56)] ?_
  iterate 8 refine bJ ?_
  refine wpAnyH_ready (rs:=[8,12]) pm lw ?_;refine AllReadyH.cons (o:=⟨some 57,_,_,_,_,_⟩) rfl (λK hK=>?_) (AllReadyH.cons (o:=⟨some 11,_,_,_,_,_⟩) rfl (λK hK=>?_) AllReadyH.nil)
  .skip
   go_simp
   go_at_call 21
   go_call (K3.o _ T3.o.drew) as e w4 ⟨rfl,p4,o4⟩;have T4:=xh<|T3.o.drew.next o4 p4;have C4:=xh<|C3.o.drew.only o4 (λhm=>oE.o (aH _ (aH _ hm)));have S4:=xh<|S3.o.drew.only o4 (T3.o.drew.t.2.Fx S3.o.drew);have O4:=xh<|O3.o.drew.trans (o4.mono (λx hx _=>aH _ hx));clear p4 o4;go_simp
   refine cq hK (⟨T4.o.cells.2.1,C4.ap 2,C4.ap 3⟩) (λaC=>?_);refine dj [(9,48),(10,58),(11,59)] ?_
   iterate 3 refine bJ ?_
   refine dV 12 11 λK hK=>?_;go_simp;have ha:=i6 w4 (Pi #[U7 x3.1,U7 x3.2] 42);have y2:=C4.o.alloc (Pi #[U7 ⟨#[]⟩,U7 ⟨#[]⟩] 42);have T5:=T4.o.below (i6 w4 (Pi #[U7 ⟨#[]⟩,U7 ⟨#[]⟩] 42));have T6:=xh<|T4.o.below ha;have C6:=xh<|C4.o.below ha C4.o.lt;have S6:=xh<|S4.o.below ha;have O6:=xh<|O4.o.trans (.aj ha)
   have B6:=xh<|aM.new w4 42 #[U7 x3.1,U7 x3.2];clear ha;refine cq hK (⟨T5.cells.2.1,y2.bi 2,y2.bi 3⟩) (λaC=>?_);refine pF 13 λK hK=>?_;go_simp;refine cq hK (⟨T6.o.cells.2.1,C6.ap 2,C6.ap 3⟩) (λaC=>?_);refine dj [(14,12)] ?_
   iterate 1 refine bJ ?_
   refine jp ?_ _;go_wp2;go_meet;exact⟨w4.heap.size,rfl,rfl,xh ⟨T6.o,C6.o,O6.o,S6.o,B6.o,by have:=O4.o.size;omega⟩⟩
  .skip
   go_simp;have ha:=i6 w3 (Pi #[U7 ⟨#[]⟩,U7 ⟨#[]⟩] 42);have T4:=xh (T3.o.below ha).drew;have C4:=xh (C3.o.below ha C3.o.lt).drew;have S4:=xh (S3.o.below ha).drew;have O4:=xh (O3.o.trans (.aj ha)).drew;have B4:=xh (aM.new w3 42 #[U7 ⟨#[]⟩,U7 ⟨#[]⟩]).drew;clear ha;refine cq hK (⟨T4.o.cells.2.1,C4.ap 2,C4.ap 3⟩) (λaC=>?_);refine dV 8 57 λK hK=>?_
   go_simp
   go_at_call 21
   go_call (K3.o _ T4.o) as e w5 ⟨rfl,p4,o4⟩;have T5:=xh<|T4.o.next o4 p4;have C5:=xh<|C4.o.only o4 (λhm=>oE.o (aH _ (aH _ hm)));have S5:=xh<|S4.o.only o4 (T4.o.t.2.Fx S4.o);have hpF:=T4.o.t.2.jL B4.o;have B5:=xh<|B4.o.only o4 hpF;have O5:=xh<|O4.o.trans (o4.mono (λx hx _=>aH _ hx));clear p4 o4;have u0:=B5.ap 0;have u1:=B5.ap 1
   have v0:=B5.o.frozen 0 lw;have v1:=B5.o.frozen 1 lw;have P6:=(((ah.refl [w3.heap.size] w5).setCell (p:=⟨w3.heap.size,0,none⟩) (λ_=>by simp) (U7 x3.1)).setCell (p:=⟨w3.heap.size,1,none⟩) (λ_=>by simp) (U7 x3.2));have Px:=T5.o.lt;have hs5:=S5.o.lt;have dP:=T3.o.lt;have Xo:=T3.o.m.s.lt;have PU:=T3.o.s.lt;have hl3:=S3.o.lt
   have T6:=xh<|T5.o.only P6 (λg hg hm=>by have e:=aG.1 hm;subst e;simp only[ax]at hg;rcases hg with e|e|e|hg;(have:=dP wb lw;omega);(have:=dP mb lw;omega);(have:=dP tb lw;omega);(exact hpF hg)) (λg hg hm=>by have:=Xo g hg;have:=aG.1 hm;omega) (λg hg hm=>by have:=PU g hg;have:=aG.1 hm;omega)
   have C6:=xh<|C5.o.only P6 (λhm=>(C5.o.mx B5.o ms) (aG.1 hm));have S6:=xh<|S5.o.only P6 (λg hg hm=>by have:=hl3 g hg;have:=aG.1 hm;omega);have O6:=xh<|ah.only_new P6 O5.o O3.o.size;have B6:=xh<|(B5.o.ct 0 (U7 x3.1)).ct 1 (U7 x3.2);clear dP Xo PU hl3 P6;go_simp;refine cq hK (⟨T5.o.cells.2.1,C5.ap 2,C5.ap 3⟩) (λaC=>?_)
   refine dj [(9,48),(10,58),(11,59)] ?_
   iterate 3 refine bJ ?_
   refine pF 13 λK hK=>?_;go_simp;refine cq hK (⟨T6.o.cells.2.1,C6.ap 2,C6.ap 3⟩) (λaC=>?_);refine dj [(14,12)] ?_
   iterate 1 refine bJ ?_
   refine jp ?_ _;go_wp2;go_meet;exact⟨w3.heap.size,rfl,rfl,xh ⟨T6.o,C6.o,O6.o,S6.o,B6.o,by have:=O3.o.size;omega⟩⟩
 case rest=>
  obtain⟨p,rfl,rfl,HC⟩:=hcut;have T5:=xh HC.o.1;have C5:=xh HC.o.2.1;have O5:=xh HC.o.2.2.1;have S5:=xh HC.o.2.2.2.1;have B5:=xh HC.o.2.2.2.2.1;clear HC x1 x2 Uh x4 y1 y2 y3 S3;have KB:=xh<|nQ T5.o (by have:=Ox.o;omega);have O5m:=xh<|O5.o.mono (S':=wb::mb::F) (λx hx _=>by simp only[ax]at hx ⊢;exact hx.elim .inl (λh=> .inr (.inr h)))
  by_cases h1:nA e1
  .have k1:=xh<|ib h1 wc;have J:=xh h1;clear h1;go_wp2_with fail;go_call k1.o as e _ ⟨rfl,rfl⟩;go_wp2_with fail;go_call KB.o as e w9 ⟨β,rfl,R9⟩;have R9:=xh<|R9.back (tb:=tb) (mb:=mb) O5m.o (λg hg=> .inl hg) (show _<=Kz+400000 by omega);clear O5m;go_wp2;go_ret;exact⟨⟨β,by first|rfl|simp⟩,.inl ⟨.inl J.o,R9.o⟩⟩
  have k1:=xh<|fZ e1 (λh=>h1 (.inl h)) (λh=>h1 (.inr h)) wc;have J1:=xh h1;clear h1
  by_cases h2:nA e2
  .have k2:=xh<|ib h2 wc;have J:=xh h2;clear h2;go_wp2_with fail;go_call k1.o as e _ ⟨rfl,rfl⟩;go_wp2_with fail;go_call k2.o as e _ ⟨rfl,rfl⟩;go_wp2_with fail;go_call KB.o as e w9 ⟨β,rfl,R9⟩;have R9:=xh<|R9.back (tb:=tb) (mb:=mb) O5m.o (λg hg=> .inl hg) (show _<=Kz+400000 by omega);clear O5m;go_wp2;go_ret;exact⟨⟨β,by first|rfl|simp⟩,.inl ⟨.inr (.inl J.o),R9.o⟩⟩
  have k2:=xh<|fZ e2 (λh=>h2 (.inl h)) (λh=>h2 (.inr h)) wc;have J2:=xh h2;clear h2
  by_cases h3:nA e3
  .have k3:=xh<|ib h3 wc;have J:=xh h3;clear h3;go_wp2_with fail;go_call k1.o as e _ ⟨rfl,rfl⟩;go_wp2_with fail;go_call k2.o as e _ ⟨rfl,rfl⟩;go_wp2_with fail;go_call k3.o as e _ ⟨rfl,rfl⟩;go_wp2_with fail;go_call KB.o as e w9 ⟨β,rfl,R9⟩;have R9:=xh<|R9.back (tb:=tb) (mb:=mb) O5m.o (λg hg=> .inl hg) (show _<=Kz+400000 by omega);clear O5m;go_wp2;go_ret
   exact⟨⟨β,by first|rfl|simp⟩,.inl ⟨.inr (.inr J.o),R9.o⟩⟩
  have k3:=xh<|fZ e3 (λh=>h3 (.inl h)) (λh=>h3 (.inr h)) wc;have J:=g9 (¬(nA e1\/nA e2\/nA e3)) (λh=>h.elim J1.o (λh=>h.elim J2.o h3));have HL2:=xh<|slc_big S5.o
  have ST:=xh (λ(W:BY) (T:TW W wb tb mb I F vl vo q3 n (Kz+21+300000+600) l o) (O:ah (wb::F) w W)=>(show ll w W wb mb tb I F n (Kz+400000) q3 vo l o from⟨F,vl,T.le ls,O.mono (S':=wb::mb::F) (λx hx _=>by simp only[ax]at hx ⊢;exact hx.elim .inl (λh=> .inr (.inr h))),λg hg=> .inl hg⟩));clear h3 J1 J2 O5m KB;go_wp2_with fail;go_call k1.o as e _ ⟨rfl,rfl⟩;go_wp2_with fail;go_call k2.o as e _ ⟨rfl,rfl⟩;go_wp2_with fail
  go_call k3.o as e _ ⟨rfl,rfl⟩;have y1:=C5.ap 1;have y2:=C5.ap 2;have y3:=C5.ap 3;obtain⟨x1,x2,Uh,x4⟩:=T5.o.cells;go_wp2;refine kw (λW=>W.cell? ⟨wb,3,none⟩=some (lc mb:li)/\W.cell? ⟨z,2,none⟩=some (U7 key)/\W.cell? ⟨z,3,none⟩=some (U7 til)) (⟨Uh,y2,y3⟩) (λaC=>?_);refine dj [(0,72),(1,73),(2,74),(3,75),(4,76),(5,77),(6,78),(7,79)] ?_
  iterate 8 refine bJ ?_
  refine dV 8 80 λK hK=>?_;go_simp
  go_at_call 108
  go_call (KSA.o _ T5.o.drew) as e w6 ⟨va,rfl,Sa,vA,f6⟩;have T6:=xh<|T5.o.drew.below vA;have C6:=xh<|C5.o.drew.below vA C5.o.lt;have O6:=xh<|O5.o.drew.trans (.aj vA);have S6:=xh<|S5.o.drew.below vA;have B6:=xh<|B5.o.drew.below vA B5.o.lt;obtain⟨Aa,ca,rfl⟩:=aI Sa;have Sa:=xh Sa;clear vA f6;go_simp;refine cq hK (⟨T6.o.cells.2.2.1,C6.ap 2,C6.ap 3⟩) (λaC=>?_)
  refine dj [(9,13)] ?_
  iterate 1 refine bJ ?_
  refine jp ?_ _;clear x1 x2 Uh x4 y1 y2 y3;have y1:=C6.ap 1;have y2:=C6.ap 2;have y3:=C6.ap 3;obtain⟨x1,x2,Uh,x4⟩:=T6.o.cells
  by_cases bu:b1=mk1
  rotate_left
  .have da:=Uc bu;have gK:=Uc (λe=>bu e.symm);have iZ:=Sg da;go_wp2;refine kw (λ_=>True) (trivial) (λaC=>?_);refine dj [(0,81),(1,82),(2,83),(3,84)] ?_
   iterate 4 refine bJ ?_
   refine bK 4 85 ?_;refine bK 5 86 ?_;refine bK 6 87 ?_;refine dj [(7,88),(8,89)] ?_
   iterate 2 refine bJ ?_
   refine bK 9 90 ?_;refine bK 10 91 ?_;refine dj [(11,92),(12,93)] ?_
   iterate 2 refine bJ ?_
   refine bK 13 94 ?_;refine bK 14 95 ?_;refine bK 15 96 ?_;refine bK 16 97 ?_;refine bK 17 98 ?_;refine bK 18 99 ?_;refine bK 19 100 ?_;refine bK 20 101 ?_;refine bK 21 102 ?_;refine bK 22 103 ?_;refine bK 23 104 ?_;refine bK 24 105 ?_;refine bK 25 106 ?_;refine bK 26 107 ?_;refine dj [(27,108)] ?_
   iterate 1 refine bJ ?_
   refine jp ?_ _;go_wp2;go_ret;exact⟨⟨_,by first|rfl|simp⟩,.inr ⟨J.o,ST.o _ T6.o.drew O6.o.drew⟩⟩
  subst bu
  by_cases bu:e1=mk2
  rotate_left
  .have da:(e1==mk2)=false:=beq_eq_false_iff_ne.2 bu;have iZ:=Sg da;go_wp2;refine kw (λ_=>True) (trivial) (λaC=>?_);refine dj [(0,81),(1,82),(2,83),(3,84),(4,85),(5,86),(6,87),(7,88),(8,89)] ?_
   iterate 9 refine bJ ?_
   refine bK 9 90 ?_;refine bK 10 91 ?_;refine dj [(11,92),(12,93)] ?_
   iterate 2 refine bJ ?_
   refine bK 13 94 ?_;refine bK 14 95 ?_;refine bK 15 96 ?_;refine bK 16 97 ?_;refine bK 17 98 ?_;refine bK 18 99 ?_;refine bK 19 100 ?_;refine bK 20 101 ?_;refine bK 21 102 ?_;refine bK 22 103 ?_;refine bK 23 104 ?_;refine bK 24 105 ?_;refine bK 25 106 ?_;refine bK 26 107 ?_;refine dj [(27,108)] ?_
   iterate 1 refine bJ ?_
   refine jp ?_ _;go_wp2;go_ret;exact⟨⟨_,by first|rfl|simp⟩,.inr ⟨J.o,ST.o _ T6.o.drew O6.o.drew⟩⟩
  subst bu
  by_cases bu:e2=0
  rotate_left
  .have da:(e2==0)=false:=beq_eq_false_iff_ne.2 bu;have iZ:=Sg da;go_wp2;refine kw (λ_=>True) (trivial) (λaC=>?_);refine dj [(0,81),(1,82),(2,83),(3,84),(4,85),(5,86),(6,87),(7,88),(8,89),(9,90),(10,91),(11,92),(12,93)] ?_
   iterate 13 refine bJ ?_
   refine bK 13 94 ?_;refine bK 14 95 ?_;refine bK 15 96 ?_;refine bK 16 97 ?_;refine bK 17 98 ?_;refine bK 18 99 ?_;refine bK 19 100 ?_;refine bK 20 101 ?_;refine bK 21 102 ?_;refine bK 22 103 ?_;refine bK 23 104 ?_;refine bK 24 105 ?_;refine bK 25 106 ?_;refine bK 26 107 ?_;refine dj [(27,108)] ?_
   iterate 1 refine bJ ?_
   refine jp ?_ _;go_wp2;go_ret;exact⟨⟨_,by first|rfl|simp⟩,.inr ⟨J.o,ST.o _ T6.o.drew O6.o.drew⟩⟩
  subst bu;go_wp2;refine kw (λW=>W.cell? ⟨wb,3,none⟩=some (lc mb:li)/\W.cell? ⟨z,2,none⟩=some (U7 key)/\W.cell? ⟨z,3,none⟩=some (U7 til)/\W.cell? ⟨z,1,none⟩=some (nn:li)) (⟨Uh,y2,y3,y1⟩) (λaC=>?_);refine dj [(0,81),(1,82),(2,83),(3,84),(4,85),(5,86),(6,87),(7,88),(8,89),(9,90),(10,91),(11,92),(12,93),(13,94),(14,95),(15,96),(16,97),(17,98),(18,99),(19,100),(20,101),(21,102),(22,103),(23,104)] ?_
  iterate 24 refine bJ ?_
  refine dV 24 105 λK hK=>?_;go_simp
  go_at_call 108
  go_call (KSN.o _ T6.o.drew) as e w7 ⟨vn,rfl,Sn,oC,f7⟩;have T7:=xh<|T6.o.drew.below oC;have C7:=xh<|C6.o.drew.below oC C6.o.lt;have O7:=xh<|O6.o.drew.trans (.aj oC);have S7:=xh<|S6.o.drew.below oC;have B7:=xh<|B6.o.drew.below oC B6.o.lt;have Sa7:=xh<|Sa.o.drew.below oC;obtain⟨An,cn,rfl⟩:=aI Sn;have Sn:=xh Sn;obtain⟨bs,hbs⟩:∃bs:Bool,bs=true↔l2=sn:=⟨decide (l2=sn),lw⟩
  have KE:=xh<|Nr S7.o Sn.o HL2.o (by have:=pD.o;omega) bs hbs;clear oC f7 hbs;go_simp;refine cq hK (⟨T7.o.cells.2.2.1,C7.ap 2,C7.ap 3,C7.ap 1⟩) (λaC=>?_);refine dV 25 106 λK hK=>?_;go_simp
  go_at_call 19
  go_call KE.o as e w8 ⟨rfl,AW⟩;have T8:=xh<|T7.o.below AW;have C8:=xh<|C7.o.below AW C7.o.lt;have O8:=xh<|O7.o.trans (.aj AW);have B8:=xh<|B7.o.below AW B7.o.lt;have Sa8:=xh<|Sa7.o.below AW;clear AW;go_simp;refine cq hK (⟨T8.o.cells.2.2.1,C8.ap 2,C8.ap 3,C8.ap 1⟩) (λaC=>?_);refine dj [(26,107),(27,108)] ?_
  iterate 2 refine bJ ?_
  refine jp ?_ _
  cases bs
  .go_wp2;go_ret;exact⟨⟨_,by first|rfl|simp⟩,.inr ⟨J.o,ST.o _ T8.o O8.o⟩⟩
  clear x1 x2 Uh x4 y1 y2 y3
  rcases vk al with ja|⟨L9,b9,ja⟩
  .subst ja;have p0:=B8.ap 0;have p1:=B8.ap 1;obtain⟨xk,xv⟩:=x3;dsimp only at p0 p1
   by_cases bu:e3=9
   .subst bu;go_wp2_with fail
    all_goals
     go_ret;exact⟨⟨_,by first|rfl|simp⟩,.inr ⟨J.o,ST.o _ T8.o O8.o⟩⟩
   .have da:(e3==9)=false:=beq_eq_false_iff_ne.2 bu;go_wp2;go_ret;exact⟨⟨_,by first|rfl|simp⟩,.inr ⟨J.o,ST.o _ T8.o O8.o⟩⟩
  .rw[List.concat_eq_append]at ja;subst ja;obtain⟨ln,oF⟩:∃ln,(L9++[b9]).length=ln:=⟨_,rfl⟩;have hln2:ln=L9.length+1:=by rw[<-oF];simp
   have S9:=Sa8.o;rw[oF]at S9;obtain⟨ga,xa,rfl,hxa,hca,rS,c0,c1⟩:=bm.pr S9 (i:=L9.length) ls;rw[List.getElem?_concat_length]at hxa;injection hxa with hxa
   subst hxa;obtain⟨zk,zv⟩:=b9;have p0:=B8.ap 0;have p1:=B8.ap 1;obtain⟨xk,xv⟩:=x3;dsimp only at p0 p1 c0 c1;have hll9:=pD.o.1;rw[oF]at hll9;have hn0:¬(ln:Int)=0:=ls
   have hn1:¬ln=0:=ls
   have s1:U6.wrap ((ln:Int)-1)=(L9.length:Int):=by rw[hln2,show(((L9.length+1:Nat):Int)-1)=(L9.length:Int) by omega];exact d9
   have s2:L9.length<ln:=ls
   have s3:(L9.length:Int)<(ln:Int):=ls
   have s4:(0:Int)<=(L9.length:Int):=ls
   rw[oF]
   replace oF:=xh oF
   replace hln2:=xh hln2
   clear S9
   by_cases bu:e3=0
   rotate_left
   .have da:(e3==0)=false:=beq_eq_false_iff_ne.2 bu;go_wp2;refine kw (λ_=>True) (trivial) (λaC=>?_);refine dj [(0,119),(1,120),(2,121)] ?_
    iterate 3 refine bJ ?_
    refine bK 3 122 ?_;refine bK 4 123 ?_;refine bK 5 124 ?_;refine bK 6 125 ?_;refine bK 7 126 ?_;refine bK 8 127 ?_;refine bK 9 128 ?_;refine bK 10 129 ?_;refine dj [(11,130),(12,4)] ?_
    iterate 2 refine bJ ?_
    refine jp ?_ _;go_wp2;go_ret;exact⟨⟨_,by first|rfl|simp⟩,.inr ⟨J.o,ST.o _ T8.o.drew O8.o.drew⟩⟩
   subst bu;go_wp2;refine kw (λW=>W.cell? (lc p)=some (U7 xk)/\W.cell? ⟨p,1,none⟩=some (U7 xv)/\W.cell? ⟨ga,L9.length*2,none⟩=some (U7 zk)/\W.cell? ⟨ga,L9.length*2+1,none⟩=some (U7 zv)) (⟨p0,p1,c0,c1⟩) (λaC=>?_);refine dj [(0,119),(1,120),(2,121),(3,122),(4,123),(5,124),(6,125),(7,126),(8,127),(9,128)] ?_
   iterate 10 refine bJ ?_
   refine rA 10 129 (WF (decide (xk.toList=zk.toList/\xv.toList=zv.toList))) ?_ ?_
   ·(intro w rZ;(try dsimp only at rZ);go_simp;by_cases c1:xk.toList=zk.toList<;>by_cases c2:xv.toList=zv.toList<;>simp[c1,c2])
   refine dj [(11,130),(12,4)] ?_
   iterate 2 refine bJ ?_
   refine jp ?_ _;go_wp2;go_ret;exact⟨⟨_,by first|rfl|simp⟩,.inr ⟨J.o,ST.o _ T8.o.drew O8.o.drew⟩⟩
def tdo_ask(h:TW w wb tb mb I F vl vo q n Kz l o)(hl:l.length<=1000)(hK:Kz<=999900000000)(kd nn:Int)(key til val:Nm)(wu:¬kd=0/\¬kd=1/\¬kd=2/\¬kd=3/\¬kd=4/\¬kd=5/\¬kd=6/\¬kd=10/\¬kd=11/\¬kd=12/\¬kd=13):
  io prog 15 #[lc wb,.agg (uG kd nn key til val)] w λe w'=> ∃β,e=fd (WF β)/\((AskB q key til nn/\qg w w' wb mb tb I F n (Kz+40000000) (askQ q key til nn) vo o)\/(¬AskB q key til nn/\ll w w' wb mb tb I F n (Kz+40000000) (askQ q key til nn) vo l o)):=by
 obtain⟨n0,n1,n2,n3,n4,n5,n6,n10,n11,n12,n13⟩:=wu;obtain⟨T0,CZ,oE,O0⟩:=h.act kd nn key til val;obtain⟨z,hz⟩:∃z,w.heap.size=z:=⟨_,rfl⟩;rw[hz]at CZ oE;have T0:=xh T0;have CZ:=xh CZ;have oE:=xh oE;have O0:=xh O0;have HZ:=xh hz;have Ox:=xh<|rx hl hK;clear h hl hK hz;have y0:=CZ.ap 0;have y1:=CZ.ap 1;have y2:=CZ.ap 2;have y3:=CZ.ap 3;have y4:=CZ.ap 4
 obtain⟨x1,x2,x3,x4⟩:=T0.o.cells;have zR:=HZ.o;unfold uG at *;have KA:=xh<|WL T0.o Ox.o.1 (by have:=Ox.o;omega) kd nn key til val;unfold uG at KA;go_in;go_wp2_with fail;go_call KA.o as e w9 ⟨⟨β,rfl⟩,R9⟩;have R9:=xh<|R9.imp (λh=>rx h.1 (h.2.pre O0.o (show _<=Kz+40000000 by omega))) (λh=>rx h.1 (h.2.pre O0.o (show _<=Kz+40000000 by omega)));go_wp2;go_ret
 exact⟨β,by first|rfl|simp,R9.o⟩
def tdo_del{w:BY}{wb tb mb:Nat}{I:Ix}{F:List Nat}{vl vo:By}{q:QS}{n Kz:Nat}{l o:List PR}(h:TW w wb tb mb I F vl vo q n Kz l o)(hl:l.length<=1000)(hK:Kz<=999900000000)(kd nn:Int)(key til val:Nm)(xM:key.size<=100000)(Gb:val.size<=100000)(wu:kd=5\/kd=6):
  io prog 15 #[lc wb,.agg (uG kd nn key til val)] w λe w'=> ∃β,e=fd (WF β)/\((nA (q.fR key).2/\qg w w' wb mb tb I F n (Kz+40000000) (q.fR key).1 vo o)\/(¬nA (q.fR key).2/\ll w w' wb mb tb I F n (Kz+40000000) (q.fR key).1 vo (Iv l key) o)):=by
 obtain⟨q1,e1,FV⟩:∃q1 e1,q.fR key=(q1,e1):=⟨_,_,rfl⟩;have KS:=xh (λ(W:BY) (hW:TW W wb tb mb I F vl vo q n Kz l o)=>Fv hW.t ls key);rw[FV]at KS ⊢;dsimp only at KS ⊢;obtain⟨f1,qR⟩:∃f1:Int,(if wB l key=true then 0 else 9)=f1:=⟨_,rfl⟩;have KM:=xh (λ(W:BY) (v:By) (hW:Mp W mb v l)=>mdel_any hW key);rw[qR]at KM;have HF:=g9 (f1≠11/\f1≠12) (by rw[<-qR];split<;>decide);unfold tp at KS;clear qR FV
 obtain⟨T0,CZ,oE,O0⟩:=h.act kd nn key til val;obtain⟨z,hz⟩:∃z,w.heap.size=z:=⟨_,rfl⟩;rw[hz]at CZ oE;have T0:=xh T0;have CZ:=xh CZ;have oE:=xh oE;have O0:=xh O0;have HZ:=xh hz;have Ox:=xh<|rx hl hK;clear h hl hK hz;have y0:=CZ.ap 0;have y2:=CZ.ap 2;obtain⟨x1,x2,x3,x4⟩:=T0.o.cells;have zR:=HZ.o;unfold uG at *
 by_cases G:nA e1
 .have J:=xh G;clear G KM
  rcases wu with rfl|rfl
  all_goals
   go_in;go_wp2;refine kw (λW=>W.cell? ⟨wb,2,none⟩=some (lc tb:li)/\W.cell? ⟨z,2,none⟩=some (U7 key)) (⟨x2,y2⟩) (λaC=>?_);refine dj [(0,44),(1,45),(2,46),(3,47),(4,48),(5,49)] ?_
   iterate 6 refine bJ ?_
   refine dV 6 50 λK hK=>?_;go_simp
   go_at_call 26
   go_call (KS.o _ T0.o.drew) as e w1 ⟨rfl,hp⟩;obtain⟨F1,T1,o1,f1⟩:=T0.o.drew.tree hp;have T1:=xh T1;have C1:=xh<|CZ.o.drew.only o1 (λhm=>oE.o (aH _ (aH _ hm)));have O1:=xh<|O0.o.drew.trans (o1.mono (λx hx _=>aH _ (aH _ hx)));have f1:=g9 (∀g∈F1,g∈F\/w.heap.size<=g) (λg hg=>(f1 g hg).imp id (λh=>aD O0.o.size h));clear hp o1;go_simp
   refine cq hK (⟨T1.o.cells.2.1,C1.ap 2⟩) (λaC=>?_);refine dj [(7,5)] ?_
   iterate 1 refine bJ ?_
   refine jp ?_ _;clear y0 y2;clear x1 x2 x3 x4;obtain⟨x1,x2,x3,x4⟩:=T1.o.cells;go_wp2_with fail;go_call (ib J.o _) as e _ ⟨rfl,rfl⟩;go_wp2_with fail;go_call (ib J.o _) as e _ ⟨rfl,rfl⟩;have KB:=xh<|nQ T1.o (by have:=Ox.o;omega);clear x1 x2 x3 x4;go_wp2_with fail;go_call KB.o as e w9 ⟨β,rfl,R9⟩;have R9:=xh<|R9.back (tb:=tb) O1.o f1.o (show _<=Kz+40000000 by omega);go_wp2_with fail
   go_ret;exact⟨β,by first|rfl|simp,.inl ⟨J.o,R9.o⟩⟩
 .have J:=xh G;have OJ:=g9 (e1≠11) (λh=>G (.inl h));have vh:=g9 (e1≠12) (λh=>G (.inr h));clear G
  rcases wu with rfl|rfl
  all_goals
   go_in;go_wp2;refine kw (λW=>W.cell? ⟨wb,2,none⟩=some (lc tb:li)/\W.cell? ⟨z,2,none⟩=some (U7 key)) (⟨x2,y2⟩) (λaC=>?_);refine dj [(0,44),(1,45),(2,46),(3,47),(4,48),(5,49)] ?_
   iterate 6 refine bJ ?_
   refine dV 6 50 λK hK=>?_;go_simp
   go_at_call 26
   go_call (KS.o _ T0.o.drew) as e w1 ⟨rfl,hp⟩;obtain⟨F1,T1,o1,f1⟩:=T0.o.drew.tree hp;have T1:=xh T1;have C1:=xh<|CZ.o.drew.only o1 (λhm=>oE.o (aH _ (aH _ hm)));have O1:=xh<|O0.o.drew.trans (o1.mono (λx hx _=>aH _ (aH _ hx)));have f1:=g9 (∀g∈F1,g∈F\/w.heap.size<=g) (λg hg=>(f1 g hg).imp id (λh=>aD O0.o.size h));clear hp o1;go_simp
   refine cq hK (⟨T1.o.cells.2.1,C1.ap 2⟩) (λaC=>?_);refine dj [(7,5)] ?_
   iterate 1 refine bJ ?_
   refine jp ?_ _;clear y0 y2;clear x1 x2 x3 x4;have y2:=C1.ap 2;obtain⟨x1,x2,x3,x4⟩:=T1.o.cells;go_wp2_with fail;go_call (fZ _ OJ.o vh.o _) as e _ ⟨rfl,rfl⟩;go_wp2;refine kw (λW=>W.cell? ⟨wb,3,none⟩=some (lc mb:li)/\W.cell? ⟨z,2,none⟩=some (U7 key)) (⟨x3,y2⟩) (λaC=>?_);refine dj [(0,54),(1,55),(2,56),(3,57),(4,58),(5,59)] ?_
   iterate 6 refine bJ ?_
   refine dV 6 60 λK hK=>?_;go_simp
   go_at_call 55
   go_call (KM.o _ _ T1.o.drew.m) as e w2 ⟨rfl,v2,M2,o2⟩;have T2:=xh<|T1.o.drew.map o2 M2;have C2:=xh<|C1.o.drew.only o2 (λhm=>oE.o (by simp at hm;simp[hm]));have O2:=xh<|O1.o.drew.trans (o2.mono (λx hx _=>by simp at hx;simp[hx]));clear M2 o2;go_simp;refine cq hK (⟨T2.o.cells.2.2.1,C2.ap 2⟩) (λaC=>?_);refine dj [(7,6)] ?_
   iterate 1 refine bJ ?_
   refine jp ?_ _;clear x1 x2 x3 x4;go_wp2_with fail;go_call (fZ _ OJ.o vh.o _) as e _ ⟨rfl,rfl⟩;have R9:=g9 (ll w _ wb mb tb I F n (Kz+40000000) q1 vo (Iv l key) o) ⟨F1,_,T2.o.le ls,O2.o,oY f1.o⟩;go_wp2;go_ret;exact⟨_,by first|rfl|simp,.inr ⟨J.o,R9.o⟩⟩
def Si{w:BY}{wb tb mb:Nat}{I:Ix}{F:List Nat}{vl vo:By}{q:QS}{n Kz:Nat}{l o:List PR}(h:TW w wb tb mb I F vl vo q n Kz l o)(cc:(q.aN q.l.length).2=0->Ny (q.aN q.l.length).1.a.c)(hl:l.length<=1000)(hK:Kz<=999900000000)(kd nn:Int)(key til val:Nm)(xM:key.size<=100000)(Gb:val.size<=100000)(wu:kd=11):
  io prog 15 #[lc wb,.agg (uG kd nn key til val)] w λe w'=> ∃β,e=fd (WF β)/\((q.an.2=0/\∃F',TW w' wb tb mb I F' vl vl q.an.1 n (Kz+40000000) l l/\ah (wb::mb::F) w w'/\FrA (mb::tb::F) w.heap.size (mb::tb::F'))\/(nA q.an.2/\qg w w' wb mb tb I F n (Kz+40000000) q.an.1 vo o)\/(q.an.2≠0/\¬nA q.an.2/\ll w w' wb mb tb I F n (Kz+40000000) q.an.1 vo l o)):=by
 obtain⟨q1,e1,FV⟩:∃q1 e1,q.an=(q1,e1):=⟨_,_,rfl⟩;have KS:=xh (λ(W:BY) (hW:TW W wb tb mb I F vl vo q n Kz l o)=>AO hW.t.2 ls cc);rw[FV]at KS ⊢;dsimp only at KS ⊢;unfold pp at KS;obtain⟨A,c,rfl⟩:=aI h.m.s;clear FV cc;obtain⟨T0,CZ,oE,O0⟩:=h.act kd nn key til val;obtain⟨z,hz⟩:∃z,w.heap.size=z:=⟨_,rfl⟩;rw[hz]at CZ oE;have T0:=xh T0;have CZ:=xh CZ;have oE:=xh oE;have O0:=xh O0;have HZ:=xh hz
 have Ox:=xh<|rx hl hK;clear h hl hK hz;have y0:=CZ.ap 0;obtain⟨x1,x2,x3,x4⟩:=T0.o.cells;have zR:=HZ.o;unfold uG at *;have m0:=T0.o.m.b.bi 0;subst wu
 by_cases h0:e1=0
 .subst h0;go_in;go_wp2_with fail;go_call (KS.o _ T0.o) as e w1 ⟨rfl,hp⟩;obtain⟨F1,T1,o1,f1⟩:=T0.o.tree hp;have T1:=xh T1;have O1:=xh<|O0.o.trans (o1.mono (λx hx _=>aH _ (aH _ hx)));have f1:=g9 (∀g∈F1,g∈F\/w.heap.size<=g) (λg hg=>(f1 g hg).imp id (λh=>aD O0.o.size h));clear hp o1 x1 x2 x3 x4 m0;obtain⟨x1,x2,x3,x4⟩:=T1.o.cells;have m0:=T1.o.m.b.bi 0
  have z4:=T1.o.b.frozen 4 lw;have P4:=(ah.refl [wb] w1).setCell (p:=⟨wb,4,none⟩) (λ_=>by simp) (U3 A l.length c);have B4:=T1.o.b.ct 4 (U3 A l.length c);have h4:∀g∈ak (U3 A l.length c),g≠wb:=qa T1.o.m.s T1.o.b ms;have hn:=T1.o.m.n
  have T4:=xh (show TW _ wb tb mb I F1 (U3 A l.length c) (U3 A l.length c) q1 n (Kz+40) l l from⟨B4,⟨T1.o.m.b.only P4 (by simpa using T1.o.wm.symm),T1.o.m.s.only P4 (λg hg hm=>h4 g hg (aG.1 hm)),hn⟩,T1.o.m.s.only P4 (λg hg hm=>h4 g hg (aG.1 hm)),T1.o.t.only P4 (λg hg hm=>by
   have e:=aG.1 hm;subst e;exact(ax.1 hg).elim T1.o.wt T1.o.wF),hn⟩)
  have R9:=xh<|rx (T4.o.le (show _<=Kz+40000000 by omega)) (rx (show ah (wb::mb::F) w _ from O1.o.trans (P4.mono (λx hx _=>by simp at hx;simp[hx]))) (oY (mb:=mb) (tb:=tb) f1.o));clear P4 B4 h4 hn;go_wp2_with fail;go_call (fZ 0 ls ls _) as e _ ⟨rfl,rfl⟩;go_wp2;go_ret;exact⟨true,by first|rfl|simp,.inl ⟨by trivial,F1,R9.o⟩⟩
 by_cases G:nA e1
 .have J:=xh G;have lC:(e1==0)=false:=i4 h0
  clear G;go_in;go_wp2_with fail;go_call (KS.o _ T0.o) as e w1 ⟨rfl,hp⟩;obtain⟨F1,T1,o1,f1⟩:=T0.o.tree hp;have T1:=xh T1;have O1:=xh<|O0.o.trans (o1.mono (λx hx _=>aH _ (aH _ hx)));have f1:=g9 (∀g∈F1,g∈F\/w.heap.size<=g) (λg hg=>(f1 g hg).imp id (λh=>aD O0.o.size h));clear hp o1 x1 x2 x3 x4 m0;obtain⟨x1,x2,x3,x4⟩:=T1.o.cells;go_wp2_with fail
  go_call (ib J.o _) as e _ ⟨rfl,rfl⟩;have KB:=xh<|nQ T1.o (by have:=Ox.o;omega);clear x1 x2 x3 x4;go_wp2_with fail;go_call KB.o as e w9 ⟨β,rfl,R9⟩;have R9:=xh<|R9.back (tb:=tb) O1.o f1.o (show _<=Kz+40000000 by omega);go_wp2;go_ret;exact⟨β,by first|rfl|simp,.inr (.inl ⟨J.o,R9.o⟩)⟩
 .have J:=xh G;have J0:=xh h0;have lC:(e1==0)=false:=i4 h0
  clear G;go_in;go_wp2_with fail;go_call (KS.o _ T0.o) as e w1 ⟨rfl,hp⟩;obtain⟨F1,T1,o1,f1⟩:=T0.o.tree hp;have T1:=xh T1;have O1:=xh<|O0.o.trans (o1.mono (λx hx _=>aH _ (aH _ hx)));have f1:=g9 (∀g∈F1,g∈F\/w.heap.size<=g) (λg hg=>(f1 g hg).imp id (λh=>aD O0.o.size h));clear hp o1 x1 x2 x3 x4 m0;obtain⟨x1,x2,x3,x4⟩:=T1.o.cells;go_wp2_with fail
  go_call (fZ _ (λh=>J.o (.inl h)) (λh=>J.o (.inr h)) _) as e _ ⟨rfl,rfl⟩;have R9:=g9 (ll w _ wb mb tb I F n (Kz+40000000) q1 vo l o) ⟨F1,_,T1.o.le ls,O1.o,oY f1.o⟩;go_wp2;go_ret;exact⟨_,by first|rfl|simp,.inr (.inr ⟨J0.o,J.o,R9.o⟩)⟩
end Sh.Cn
end Go.Proofs.YtmonobkginiajaaGreat
