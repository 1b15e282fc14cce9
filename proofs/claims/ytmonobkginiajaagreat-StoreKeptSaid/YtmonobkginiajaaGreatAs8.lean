/- packed. -/
import Derived.IntWalk
import Derived.Test.YtmonobkginiajaaGreatAs7
set_option linter.all false
set_option maxRecDepth 100000
set_option maxHeartbeats 8000000
namespace Go.Proofs.YtmonobkginiajaaGreat
open Go.Proofs.Tryz
open Value renaming string→U2,slice→U3,int→U5,bool→U6,tuple→U8
open Ending renaming returned→BY
open IntKind renaming i64→By
open Obj renaming cells→WF
open Go renaming World→YB,Value→YO,Calls→eq,maxLen→it
open List renaming replicate→fd
open UInt8 renaming ofNat→gn
namespace Sh
open Go.RowKit Pk Dk Pg
attribute [local go_sem ↓] bA
variable{w:YB}{y:Y}{n:Nat}{s:PS}
def Fs(l:List Fr):List Int:=(l.map Fr.ao).filter λx=>decide (0<=x)
theorem XU(l:List Fr)(i:Nat)(f:Fr)(hf:l[i]?=some f):Fs (l.take (i+1))=if 0<=f.ao then Fs (l.take i)++[f.ao]else Fs (l.take i):=by
 obtain⟨hi,rfl⟩:=aR.1 hf;unfold Fs;rw[ik hi,cX,ri]
 by_cases h:0<=l[i].ao
 .rw[if_pos h];simp[h]
 .rw[if_neg h];simp[h]
theorem pgL_len(l:List Fr):(Fs l).length<=l.length:=by
 unfold Fs;exact aq (oC _ _) (by simp)
theorem Pf(h:iR w y n s):
  eq prog 146 #[pp y.pb] w λe w'=> ∃v,e=BY v/\aM w' 3 1 v (Fs s.l).length (dH (Ck (Fs s.l)))/\i7 w w':=by
 have H0:=xh h;have p1:w.cell? ⟨y.pb,1,none⟩=some (U3 (lc y.fg) s.l.length y.cp):=h.p1;have HL:=xh (show ∀i,(Fs (s.l.take i)).length<=32 from λi=>by
  have:=pgL_len (s.l.take i);have:=h.l2;rw[bC]at *;omega)
 obtain⟨N,hN⟩:∃N,s.l.length=N:=⟨_,rfl⟩;have HN:=xh hN;have HT:=g9 (Fs (s.l.take N)=Fs s.l) (by rw[<-hN,fX]);have JI:N<=32:=by rw[<-hN];exact h.l2
 rw[hN]at p1;have HF:=xh h.Ef;clear h hN H0;unfold pp;go_in;go_wp2_with fail
 go_loopw [3,5,14] (λpv _ iv wq=> ∃i:Nat,i<=N/\iv=U5 By i/\aM wq 3 1 pv (Fs (s.l.take i)).length (dH (Fs (s.l.take i)))/\Hid (i7 w wq)/\Hid (∀g∈ah pv,w.heap.size<=g)) (λ_ _ iv _=>N-(intOf iv).toNat)
 case atStart=>exact⟨0,aW _,rfl,aM.nil _ _ _,xh (Below.refl _ _),xh (by simp[ah])⟩
 case round=>
  obtain⟨i,hi,rfl,S,O,F⟩:=hrel;obtain⟨VA,vc,rfl⟩:=ax S
  by_cases h':i<N
  .have hI:(i:Int)<(N:Int):=by omega
   obtain⟨f,HG⟩:∃f,Hid (s.l[i]?=some f):=⟨_,xh (aH (by rw[HN.o];exact h'))⟩;obtain⟨c0,c1,c2,c3,c4⟩:=(HF.o.below O.o) i f HG.o;have hm:=HL.o i;have OJ:=XU s.l i f HG.o;have S5:=S.alloc (WF #[f.ao,U2 f.gI,f.held,U6 f.cF,U6 f.used] 167);have O5:=xh<|ae O.o (WF #[f.ao,U2 f.gI,f.held,U6 f.cF,U6 f.used] 167)
   have d0:=(aF.new wr 167 #[f.ao,U2 f.gI,f.held,U6 f.cF,U6 f.used]).ab (i:=0) rfl
   by_cases hp:0<=f.ao
   .rw[if_pos hp]at OJ;obtain⟨v',w2,ea,S2,ow,fr⟩:=dG (P:=prog) S5 60 60 (U5 By 0) 8 underlying60 lQ rfl f.ao rfl (by unfold it;omega) (by omega);obtain⟨V2,jh,rfl⟩:=ax S2;rw[show(wr.alloc (WF #[f.ao,U2 f.gI,f.held,U6 f.cF,U6 f.used] 167)).heap.size=wr.heap.size+1 from by simp]at ea;have EA:=xh ea
    have SX:=xh (show aM w2 3 1 (U3 V2 ((Fs (s.l.take i)).length+1) jh) (Fs (s.l.take (i+1))).length (dH (Fs (s.l.take (i+1))))from by
     rw[OJ,gX,aT];exact S2)
    have OX:=xh<|O5.o.trans (ow.aK O5.o.size F.o);have FX:=g9 (∀g'∈ah (U3 V2 ((Fs (s.l.take i)).length+1) jh),w.heap.size<=g') (λg' hg=>(fr g' hg).elim (F.o g') (λh=>aq O5.o.size h));clear ea S2 ow fr S S5 OJ;generalize (Fs (s.l.take i)).length=pl at *;go_wp2_with fail;rw[EA.o];go_wp2_with fail;go_roundw
    case rel=>exact⟨i+1,by omega,by go_num,SX.o,OX,FX⟩
    case measure=>simp[intOf];omega
   .rw[if_neg hp]at OJ;have SX:=xh S5;have HX:=xh OJ;clear S S5 OJ;go_wp2_with fail;go_roundw
    case rel=>exact⟨i+1,by omega,by go_num,by rw[HX.o];exact SX.o,O5,F⟩
    case measure=>simp[intOf];omega
  .obtain rfl:N=i:=by omega
   have zL:=HL.o N;have KS:=xh<|XT S (by omega);clear S;go_wp2_with fail;go_call KS.o as e w5 ⟨rfl,S5,o5⟩;have SX:=xh S5;have OX:=xh<|O.o.trans (o5.aK O.o.size F.o);clear S5 o5;go_wp2;go_ret;exact⟨_,by first|rfl|simp,by have h:=SX.o;rw[HT.o]at h ⊢;exact h,OX.o⟩
theorem Ph(h:iR w y n s):
  eq prog 98 #[pp y.pb] w λe w'=>e=BY (U8 #[(s.l.length:Nat),((Fs s.l).length:Nat),U5 By ((s.l.countP λf=>decide (0<f.held)):Nat)])/\i7 w w':=by
 have p1:w.cell? ⟨y.pb,1,none⟩=some (U3 (lc y.fg) s.l.length y.cp):=h.p1;obtain⟨N,hN⟩:∃N,s.l.length=N:=⟨_,rfl⟩;have HN:=xh hN;have HT:=xh (show((s.l.take N).countP λf=>decide (0<f.held))=(s.l.countP λf=>decide (0<f.held))from by rw[<-hN,fX]);have HL:=xh (show ∀i,((s.l.take i).countP λf=>decide (0<f.held))<=32 from λi=>by
  have h1:((s.l.take i).countP λf=>decide (0<f.held))<=(s.l.take i).length:=xj;have h2:=h.l2;rw[bC]at h1;omega)
 have HU:=xh (show ∀i f,s.l[i]?=some f->((s.l.take (i+1)).countP λf=>decide (0<f.held))=((s.l.take i).countP λf=>decide (0<f.held))+(if 0<f.held then 1 else 0)from λi f hf=>by
  obtain⟨hi,rfl⟩:=aR.1 hf;rw[ik hi,ur];simp[List.countP_cons])
 have JI:N<=32:=by rw[<-hN];exact h.l2
 rw[hN]at p1 ⊢;have HF:=xh h.Ef;have KP:=xh (λW (hb:i7 w W)=>Pf (h.below hb));have HP1:=xh (λW (hb:i7 w W)=>(show W.cell? ⟨y.pb,1,none⟩=some (U3 (lc y.fg) N y.cp)from by rw[<-hN];exact(h.below hb).p1));clear h hN;unfold pp at *;go_in;go_wp2_with fail
 go_loopw [5,7,15] (λkv _ iv wq=> ∃i:Nat,i<=N/\iv=U5 By i/\kv=U5 By (((s.l.take i).countP λf=>decide (0<f.held)):Nat)/\Hid (i7 w wq)) (λ_ _ iv _=>N-(intOf iv).toNat)
 case atStart=>exact⟨0,aW _,rfl,rfl,xh (Below.refl _ _)⟩
 case round=>
  obtain⟨i,hi,rfl,rfl,O⟩:=hrel
  by_cases h':i<N
  .have hI:(i:Int)<(N:Int):=by omega
   obtain⟨f,HG⟩:∃f,Hid (s.l[i]?=some f):=⟨_,xh (aH (by rw[HN.o];exact h'))⟩;obtain⟨c0,c1,c2,c3,c4⟩:=(HF.o.below O.o) i f HG.o;have hm:=HL.o i;have OJ:=HU.o i f HG.o;have O5:=xh<|ae O.o (WF #[f.ao,U2 f.gI,f.held,U6 f.cF,U6 f.used] 167);have d2:=(aF.new wr 167 #[f.ao,U2 f.gI,f.held,U6 f.cF,U6 f.used]).ab (i:=2) rfl;have HX:=xh OJ;clear OJ
   generalize hcn:((s.l.take i).countP λf=>decide (0<f.held))=cn at *;have ec:IntKind.i64.wrap ((cn:Int)+1)=((cn+1:Nat):Int):=dl
   by_cases hp:0<f.held
   .go_wp2_with fail;go_roundw
    case rel=>exact⟨i+1,by omega,by go_num,by rw[HX.o,if_pos hp];try rfl,O5⟩
    case measure=>simp[intOf];omega
   .go_wp2_with fail;go_roundw
    case rel=>exact⟨i+1,by omega,by go_num,by rw[HX.o,if_neg hp];try rfl,O5⟩
    case measure=>simp[intOf];omega
  .obtain rfl:N=i:=by omega
   rw[HT.o];have OD:=xh O.o.drew;have q1:=HP1.o _ OD.o;have Q1:=xh q1;have hcn:=HL.o N;rw[HT.o]at hcn;generalize hcq:(s.l.countP λf=>decide (0<f.held))=cn at *;have HCQ:=xh hcq;clear hcq;go_wp2_with fail;refine kw (λW'=>W'.cell? ⟨y.pb,1,none⟩=some (U3 (lc y.fg) N y.cp)) (Q1.o) (λau=>?_);refine dP [(0,25),(1,26),(2,27),(3,28),(4,29),(5,30),(8,33)] ?_
   iterate 7 refine bJ ?_
   refine dI 6 31 λK hK=>?_;go_simp
   go_at_call 146
   go_call (KP.o _ OD.o) as e w5 ⟨v5,rfl,S5,mK⟩;obtain⟨V5,vc5,rfl⟩:=ax S5;have O5:=xh<|aC OD.o mK;have d1:=HP1.o _ O5.o;clear S5 mK;go_simp;refine bn hK (d1) (λau=>?_);refine dP [(7,32),(9,2),(10,3),(11,4)] ?_
   iterate 4 refine bJ ?_
   refine jp ?_ _;go_wp2_with fail;refine bodyPost_ret (v:=U8 #[(N:Nat),((Fs s.l).length:Nat),(cn:Nat)]) ?_ rfl ⟨by rw[HCQ.o],O5.o⟩;simp[results,Tryz.results98,go_sem]
end Sh
namespace Sh
open Go.RowKit Pk Dk Pg
variable{w:YB}{y:Y}{n K i:Nat}{q:QS}
def ZTo(w w':YB)(y:Y)(n:Nat)(q:QS)(K:Nat):Prop:= ∃y',y'.pb=y.pb/\y'.x.b=y.x.b/\y'.x.L=y.x.L/\ZP w' y' n q K/\ag y.fp w w'/\∀g∈y'.fp,g∈y.fp\/w.heap.size<=g
theorem ZTo.self{w':YB}(h:ZP w' y n q K)(o:ag y.fp w w'):ZTo w w' y n q K:=⟨y,rfl,rfl,rfl,h,o,λ_ hg=> .inl hg⟩
def mA(l:List Fr)(i:Nat):List Fr:=fd i Fr.nil++l.drop i
theorem TV(l:List Fr)(h:i<=l.length):(mA l i).length=l.length:=by unfold mA;simp;omega
theorem TX(l:List Fr)(h:i<l.length):(mA l i).set i Fr.nil=mA l (i+1):=by
 unfold mA;rw[qc _ _ (by simp),eR,fM,rh h,List.set_cons_zero,zV,cK];rfl
theorem Kk(h:ZP w y n q K):
  eq prog 51 #[pp y.pb] w λe w'=>e=BY (U6 true)/\ZTo w w' y n q.cq K:=by
 obtain⟨c,A,z⟩:=h;have p1:w.cell? ⟨y.pb,1,none⟩=some (U3 (lc y.fg) q.l.length y.cp):=A.p1;have l2:q.l.length<=32:=A.l2;obtain⟨N,hN⟩:∃N,q.l.length=N:=⟨_,rfl⟩;have HN:=xh hN;rw[hN]at p1 l2;have KE:=xh pw;unfold Fr.nil Fr.agg at KE;have HST:=g9 (∀i,i<N->(mA q.l i).set i Fr.nil=mA q.l (i+1)) (λi hi=>TX q.l (by omega));have HLE:=g9 (∀i,i<=N->(mA q.l i).length=N) (λi hi=>by rw[TV q.l (by omega)];exact hN)
 have HEND:=g9 (mA q.l N=fd q.l.length Fr.nil) (by unfold mA;rw[hN,GK (by omega),jR]);have H0:=g9 (iR w y n (({q with l:=mA q.l 0}:QS).ps c)) A;have KA:=xh (λ(W:YB) (B:iR W y n (({q with l:=mA q.l N}:QS).ps c))=>ON B.hs z)
 have HZ:=xh (show ∀(w1 w2:YB) (c':C) (B:iR w1 y n (({q with l:=mA q.l N}:QS).ps c)) (o:ag y.fp w w1) (p:zK w1 w2 y.x n c') (z':Zc c' n {q.a with now:=jr q.a.bj} K),ZTo w w2 y n q.cq K from λw1 w2 c' B o p z'=>by
  obtain⟨y',e1,_,_,e2,e3,B',o',f'⟩:=B.store p;refine⟨y',e1,e2,e3,⟨c',?_,z'⟩,o.trans o',λg hg=>(f' g hg).imp id (λh=>aq o.size h)⟩;have hE:(q.cq).ps c'={(({q with l:=mA q.l N}:QS).ps c)with c:=c'}:=by
   unfold QS.cq QS.ps;dsimp only;rw[HEND.o]
  rw[hE];exact B')
 clear A z hN;unfold pp sp at *;go_in;go_wp2_with fail
 go_loopw [3,11] (λ_ iv wr=> ∃i:Nat,i<=N/\iv=U5 By i/\Hid (iR wr y n (({q with l:=mA q.l i}:QS).ps c))/\Hid (ag y.fp w wr)) (λ_ iv _=>N-(intOf iv).toNat)
 case atStart=>exact⟨0,aW _,rfl,H0,xh (ag.refl _ _)⟩
 case round=>
  obtain⟨i,hi,rfl,AI,OI⟩:=hrel
  by_cases h':i<N
  .have hI:(i:Int)<(N:Int):=by omega
   have Ep:=xh<|HLE.o i hi;obtain⟨g,HG⟩:∃g,Hid ((mA q.l i)[i]?=some g):=⟨_,xh (aH (by rw[Ep.o];exact h'))⟩;have AD:=xh AI.o.drew;have OD:=xh OI.o.drew;have P1D:=g9 (wr.drew.cell? ⟨y.pb,1,none⟩=some (U3 (lc y.fg) N y.cp)) (by rw[<-Ep.o];exact AD.o.p1);have HS1:=xh<|HST.o i h';go_wp2_with fail
   refine kw (λW'=>W'.cell? ⟨y.pb,1,none⟩=some (U3 (lc y.fg) N y.cp)) (P1D.o) (λau=>?_);refine dP [(0,14),(1,15),(2,16),(3,17),(4,18)] ?_
   iterate 5 refine bJ ?_
   refine dI 5 19 λK hK=>?_;go_simp
   go_at_call 86
   go_call (KE.o _) as e w6 ⟨rfl,zI⟩;have A6:=xh<|AD.o.below zI;have O6:=xh<|OD.o.trans (ag.aj (S:=y.fp) zI);have p1y:w6.cell? ⟨y.pb,1,none⟩=some (U3 (lc y.fg) N y.cp):=by rw[<-Ep.o];exact A6.o.p1
   clear zI;go_simp;refine bn hK (p1y) (λau=>?_);refine dP [(6,20)] ?_
   iterate 1 refine bJ ?_
   refine rm 7 λK hK=>?_;go_simp;have p1x:w6.cell? ⟨y.pb,1,none⟩=some (U3 (lc y.fg) N y.cp):=by rw[<-Ep.o];exact A6.o.p1
   obtain⟨c0,c1,c2,c3,c4⟩:=A6.o.Ef i g HG.o;obtain⟨z0,z1,z2,z3,z4,B4,q4⟩:=A6.o.W8 i HG.o;have AZ:=xh B4;have OZ:=xh<|O6.o.trans q4;clear B4 q4;go_simp;refine hK.o _ _ (by have h:=AZ.o.p1;rw[<-Ep.o];simpa [QS.ps,Ep.o]using h) (λau=>?_)
   try simp only[Act.put,pa,pb,pc]
   refine jp ?_ _;have A9:=g9 (iR _ y n (({q with l:=mA q.l (i+1)}:QS).ps c)) (by rw[<-HS1.o];exact AZ.o);go_wp2_with fail;go_roundw
   case rel=>exact⟨i+1,by omega,by go_num,A9,OZ⟩
   case measure=>simp[intOf];omega
  .obtain rfl:N=i:=by omega
   have q0:=AI.o.p0;go_wp2_with fail;go_call (KA.o _ AI.o) as e w5 ⟨rfl,c5,p5,z5⟩;have HF:=xh<|HZ.o _ _ _ AI.o OI.o p5 z5;clear p5 z5;go_wp2;go_ret;exact aI HF.o
theorem Iu(h:Fb q.l K):∀i,i<=q.l.length->Fb (q.bl i).1.l K/\(q.bl i).1.l.length=q.l.length
 |0,_=>⟨h,rfl⟩
 |i+1,hi=>by
  obtain⟨h1,h2⟩:=Iu h i (by omega);unfold QS.bl
  split
  .exact⟨h1,h2⟩
  .obtain⟨h3,h4⟩:=Ce (k:=i) h1 (by omega);exact⟨h3,by rw[h4,h2]⟩
theorem Pj(q:QS)(i:Nat):q.bl (i+1)=if(q.bl i).2≠0 then q.bl i else(q.bl i).1.cA i:=rfl
theorem Cl(q:QS)(h:(q.bl i).2≠0):∀k,q.bl (i+k)=q.bl i
 |0=>rfl
 |k+1=>by
  show q.bl ((i+k)+1)=_;rw[Pj,Cl q h k,if_pos h]
theorem Iv(h:ZP w y n q K)(hb:Fb q.l K)(hK:K<=999999999000):
  eq prog 50 #[pp y.pb] w λe w'=>e=BY q.aQ.2/\ZTo w w' y n q.aQ.1 (K+40):=by
 obtain⟨c,A,z⟩:=h;have l2:q.l.length<=32:=A.l2;have KC:=xh<|Ph A;rw[show(q.ps c).l=q.l from rfl]at KC;obtain⟨N,hN⟩:∃N,q.l.length=N:=⟨_,rfl⟩;have HN:=xh hN;have HP1:=g9 (∀W,i7 w W->W.cell? ⟨y.pb,1,none⟩=some (U3 (lc y.fg) N y.cp)) (λW hW=>by rw[<-hN];exact(A.below hW).p1);have H0:=xh (λW (hW:i7 w W)=>(show ZP W y n (q.bl 0).1 (K+0)from⟨c,A.below hW,z⟩))
 have KB:=xh (λ(i:Nat) (hi:i<N) (W:YB) (hW:ZP W y n (q.bl i).1 (K+i))=>Ka hW (by omega) i (by rw[(Iu hb i (by omega)).2];omega) (λf hf=>((Iu hb i (by omega)).1 f hf).2.2));have HSU:=xh (show ∀i,(q.bl i).2=0->q.bl (i+1)=(q.bl i).1.cA i from λi h0=>by
  show(if(q.bl i).2≠0 then q.bl i else(q.bl i).1.cA i)=_;rw[if_neg (by simpa using h0)])
 have HBAD:=xh (show ∀i,i<=N->(q.bl i).2≠0->q.wg=0->q.aQ=q.bl i from λi hi fF h0=>by
  have h1:=Cl q fF (N-i);rw[show i+(N-i)=N by omega]at h1;unfold QS.aQ;rw[h0,gc,hN,h1,if_pos fF])
 have HEND:=xh (show(q.bl N).2=0->q.wg=0->q.aQ=({(q.bl N).1 with a:=(q.bl N).1.a.aQ.1},(q.bl N).1.a.aQ.2)from λh1 h0=>by
  unfold QS.aQ;rw[h0,gc,hN,if_neg (by rw[h1];simp)])
 have HHE:=xh (show 0<q.wg->q.aQ=(q,16)from λh0=>by
  unfold QS.aQ;rw[if_pos h0])
 have HZQ:=g9 (∀W,i7 w W->ZTo w W y n q (K+40)) (λW hW=> .self ((show ZP W y n q K from⟨c,A.below hW,z⟩).more (by omega)) (.aj hW));have KS:=xh (λ(W:YB) (c1:C) (a:St) (K1:Nat) (x:X) (B:At W x n c1) (z1:Zc c1 n a K1) (hK1:K1<=1000000000000)=>J9 B z1 hK1);rw[hN]at l2 KC;have XV:(q.l.countP λf=>decide (0<f.held))=q.wg:=rfl;rw[XV]at KC;clear XV A z hN;unfold pp sp at *;go_in;go_wp2_with fail
 go_call KC.o as e w1 ⟨rfl,aO⟩;have O1:=xh aO;clear aO;obtain⟨hn,hhn⟩:∃hn,q.wg=hn:=⟨_,rfl⟩;have HHN:=xh hhn;rw[hhn];clear hhn
 by_cases h0:0<hn
 .have h0I:(0:Int)<(hn:Int):=by omega
  have HR:=xh<|HHE.o (by rw[HHN.o];exact h0);go_wp2;go_ret;exact⟨by rw[HR.o];rfl,by rw[HR.o];exact HZQ.o _ O1.o⟩
 .have h0I:¬(0:Int)<(hn:Int):=by omega
  have HH0:=g9 (q.wg=0) (by rw[HHN.o];omega);have p1:=HP1.o _ O1.o;go_wp2_with fail
  go_loopw [6,7,23] (λ_ _ iv wr=> ∃i:Nat,i<=N/\iv=U5 By i/\Hid (ZP wr y n (q.bl i).1 (K+i))/\Hid ((q.bl i).2=0)/\Hid (ag y.fp w wr)) (λ_ _ iv _=>N-(intOf iv).toNat)
  case atStart=>exact⟨0,aW _,rfl,xh (H0.o _ O1.o),xh rfl,xh (ag.aj O1.o)⟩
  case round=>
   obtain⟨i,hi,rfl,ZI,E0,OI⟩:=hrel
   by_cases h':i<N
   .have hI:(i:Int)<(N:Int):=by omega
    have KB1:=xh<|KB.o i h' wr ZI.o;have HS1:=xh<|HSU.o i E0.o;have JL:=xh<|HBAD.o (i+1) (by omega);rw[<-HS1.o]at KB1;obtain⟨R,HR⟩:∃R,Hid (q.bl (i+1)=R):=⟨_,xh rfl⟩;rw[HR.o]at KB1 JL
    by_cases hr:R.2=0
    .rw[hr]at KB1;go_wp2_with fail;go_call KB1.o as e w5 ⟨rfl,z5,o5⟩;have Z5:=g9 (ZP w5 y n (q.bl (i+1)).1 (K+(i+1))) (by rw[HR.o];exact z5);have E5:=xh (show(q.bl (i+1)).2=0 from by rw[HR.o];exact hr);have O5:=xh<|OI.o.trans o5;clear z5 o5;go_wp2_with fail;go_roundw
     case rel=>exact⟨i+1,by omega,by go_num,Z5,E5,O5⟩
     case measure=>simp[intOf];omega
    .have hq:(R.2==0)=false:=i4 hr
     have my:(R.2 != 0)=true:=ls hr
     have HC:=xh<|JL.o hr HH0.o;go_wp2_with fail;go_call KB1.o as e w5 ⟨rfl,z5,o5⟩;have Z5:=xh z5;have O5:=xh<|OI.o.trans o5;clear z5 o5;go_wp2;go_ret;exact⟨by rw[HC.o];rfl,by rw[HC.o];exact .self (Z5.o.more (by omega)) O5.o⟩
   .obtain rfl:N=i:=by omega
    obtain⟨c5,A5,Z5⟩:=ZI.o;have q0:=A5.p0;have KS5:=xh<|KS.o _ _ _ _ _ A5.hs Z5 (by omega);have HE:=xh<|HEND.o E0.o HH0.o;have A5:=xh A5;clear Z5;unfold sp at *;go_wp2_with fail;go_call KS5.o as e w6 ⟨rfl,c6,p6,z6⟩;have HF:=xh (show ZTo w w6 y n ({(q.bl N).1 with a:=(q.bl N).1.a.aQ.1}) (K+40)from by
     obtain⟨y',e1,_,_,e2,e3,B',o',f'⟩:=A5.o.store p6;exact⟨y',e1,e2,e3,⟨c6,B',z6.more (by omega)⟩,OI.o.trans o',λg hg=>(f' g hg).imp id (λh=>aq OI.o.size h)⟩)
    clear p6 z6;go_wp2;go_ret;exact⟨by rw[HE.o];rfl,by rw[HE.o];exact HF.o⟩
theorem TY(h:ZP w y n q K)(hK:K<=1000000000000)(v:rd)(hs:v.size<=9223372036854775807):
  eq prog 69 #[pp y.pb,U2 v] w λe w'=>e=BY (U8 #[U5 By (q.bZ v.data.toList).2.1,U5 By (q.bZ v.data.toList).2.2])/\ZTo w w' y n (q.bZ v.data.toList).1 (K+1):=by
 obtain⟨c,A,z⟩:=h;have zn:=z.new v.data.toList;have hp:=Tp A v hs (z.ep0 hK) (by have:=(z.calls hK).1;show c.d.calls<=_;omega) (z.calls hK).2;rw[show(q.ps c).c=c from rfl,zn.2]at hp;refine hp.mono λe w' ⟨r,y',e1,_,_,e2,e3,B',o',f'⟩=>⟨r,y',e1,e2,e3,⟨_,B',zn.1⟩,o',f'⟩
theorem Pm(h:ZP w y n q K)(hb:Fb q.l K)(p:Int):
  eq prog 132 #[pp y.pb,p] w λe w'=>e=BY (U5 By (q.aV p).2)/\ZP w' y n (q.aV p).1 K/\ag y.fp w w':=by
 obtain⟨c,A,z⟩:=h;have zd:=z.drop p;unfold QS.aV
 rcases ix q.l p with e|⟨k,f,e,hf,_,_⟩
 .rw[e,gc];have hd:=Ts A p e;rw[show(q.ps c).c=c from rfl,zd.2]at hd
  by_cases h0:(q.a.aV p).2=0
  .rw[if_neg (by simpa using h0),gc];refine hd.mono λe w' ⟨r,A',o⟩=>⟨by rw[r,h0],⟨_,A',zd.1⟩,o⟩
  .rw[if_pos h0];refine hd.mono λe w' ⟨r,A',o⟩=>⟨r,⟨_,A',zd.1⟩,o⟩
 .rw[e,show((k:Nat):Int).toNat=k by omega,oU hf];have hm:=hb f (aA hf)
  by_cases hh:0<f.held
  .rw[if_pos ⟨by omega,hh⟩];exact(Oc A p k e hf hh).mono λe w' ⟨r,b⟩=>⟨r,⟨c,A.below b,z⟩,.aj b⟩
  .rw[if_neg (λh=>hh h.2)];have hd:=Xa A p k e hf (by omega);rw[show(q.ps c).c=c from rfl,zd.2]at hd
   by_cases h0:(q.a.aV p).2=0
   .rw[if_neg (by simpa using h0),g8];rw[if_pos h0]at hd;refine hd.mono λe w' ⟨r,A',o⟩=>⟨by rw[r,h0],⟨_,A',zd.1⟩,o⟩
   .rw[if_pos h0];rw[if_neg h0]at hd;refine hd.mono λe w' ⟨r,A',o⟩=>⟨r,⟨_,A',zd.1⟩,o⟩
end Sh
namespace Sh
open Go.RowKit Pk Dk Pg
variable{w:YB}{n g K K':Nat}{t:TypeId}{cs:Array YO}{y:Y}{q:QS}
theorem At.alien2{x:X}{c:C}(h:At w x n c)(B:aF w g t cs)(h1:t≠146)(h2:t≠218)(h3:t≠3)(h4:t≠149)(h5:t≠152)(h6:t≠4)(h7:t≠231):g∉x.fp:=by
 intro hg;simp only[X.fp,ar,ay]at hg;have hs:∀{v:YO} {k:Nat} {l:List YO},Sl w 3 v k l->g∉cE v:=λS hg=>by
  obtain⟨cs',B'⟩:=xJ S _ hg;exact B.jJ B' h3 rfl
 rcases hg with rfl|rfl|rfl|((hg|hg)|hg)|hg
 .exact B.jJ h.hb h1 rfl
 .exact B.jJ h.hm.hb h2 rfl
 .exact B.jJ h.hm.hg h3 rfl
 .simp only[Loc.fp,ar,ij,or_false]at hg
  rcases hg with rfl|rfl|rfl|rfl
  .exact B.jJ h.hd.hb h4 rfl
  .exact B.jJ h.hd.hN h5 rfl
  .exact B.jJ h.hd.hO h5 rfl
  .exact B.jJ h.hd.hL h6 rfl
 .exact hs h.ht hg
 .exact hs h.ho hg
 .exact h.hp.aY B h3 h7 hg
theorem iR.fI{s:PS}(h:iR w y n s)(B:aF w g t cs)(ha:t≠143)(hb:t≠167)(h1:t≠146)(h2:t≠218)(h3:t≠3)(h4:t≠149)(h5:t≠152)(h6:t≠4)(h7:t≠231):g∉y.fp:=by
 intro hg;simp only[Y.fp,ar]at hg
 rcases hg with rfl|rfl|hg
 .exact B.jJ h.hp ha rfl
 .exact dL h.hf B (by exact hb) (by simp[ah])
 .exact h.hs.alien2 B h1 h2 h3 h4 h5 h6 h7 hg
theorem XW(h:ZP w y n q K)(H:Hq q n K)(hK:K<=999999999999)(p:Int):
  eq prog 121 #[pp y.pb,p] w λe w'=>e=BY (U8 #[U2 (q.dN p).2.1,U5 By (q.dN p).2.2])/\ZP w' y n (q.dN p).1 (K+1)/\ag y.fp w w':=by
 unfold QS.dN
 by_cases h0:(q.bh p).2.2=0
 .rw[if_neg (by simpa using h0)];exact TO h H.f hK H.full p h0
 .rw[if_pos h0];exact XH h H.f hK p h0
theorem XX(h:ZP w y n q K)(H:Hq q n K)(hK:K<=999999999999)(p:Int)(b:rd):
  eq prog 176 #[pp y.pb,p,U2 b] w λe w'=>e=BY (U5 By (q.eg p b).2)/\ZP w' y n (q.eg p b).1 (K+1)/\ag y.fp w w':=by
 unfold QS.eg
 by_cases hb:232<b.size
 .rw[if_pos hb];exact(XJ p b hb).mono λe w' ⟨r,o⟩=>⟨r,(h.below o).more (by omega),.aj o⟩
 rw[if_neg hb]
 by_cases h0:(q.bh p).2.2=0
 .rw[if_neg (by simpa using h0)];have hp:=TP h H.f hK H.full p b (by omega) h0;rw[XP H p b (by omega) h0]at hp;exact hp
 .rw[if_pos h0];exact XI h H.f hK H.full p b (by omega) h0
structure Ix where
 pb:Nat
 sb:Nat
 L:Dk.Loc
def PQ(w:YB)(I:Ix)(F:List Nat)(q:QS)(n K:Nat):Prop:= ∃y,y.pb=I.pb/\y.x.b=I.sb/\y.x.L=I.L/\y.fp=F/\ZP w y n q K/\Wp q n K
def PT(w w':YB)(I:Ix)(F:List Nat)(q:QS)(n K:Nat):Prop:= ∃F',PQ w' I F' q n K/\ag F w w'/\∀g∈F',g∈F\/w.heap.size<=g
section
variable{w w':YB}{I:Ix}{F S:List Nat}{q:QS}{n K:Nat}
theorem PQ.wp(h:PQ w I F q n K):Wp q n K:=by
 obtain⟨y,_,_,_,_,_,W⟩:=h;exact W
theorem PQ.only(h:PQ w I F q n K)(o:ag S w w')(hd:∀g∈F,g∉S):PQ w' I F q n K:=by
 obtain⟨y,e1,e2,e3,rfl,⟨c,A,z⟩,W⟩:=h;exact⟨y,e1,e2,e3,rfl,⟨c,A.only o hd,z⟩,W⟩
theorem PQ.below(h:PQ w I F q n K)(hb:i7 w w'):PQ w' I F q n K:=h.only (S:=[]) (.aj hb) (by simp)
theorem PQ.drew(h:PQ w I F q n K):PQ w.drew I F q n K:=h.below (Below.refl _ _).drew
theorem PQ.lt(h:PQ w I F q n K):∀g∈F,g<w.heap.size:=by
 obtain⟨y,_,_,_,rfl,⟨c,A,z⟩,_⟩:=h;exact A.lt
theorem PQ.le(h:PQ w I F q n K)(hk:K<=K'):PQ w I F q n K':=by
 obtain⟨y,e1,e2,e3,e4,⟨c,A,z⟩,W⟩:=h;exact⟨y,e1,e2,e3,e4,⟨c,A,z.more hk⟩,W.more hk⟩
theorem PQ.aY{b:Nat}(h:PQ w I F q n K)(o:ag [b] w w')(hb:b∉F):PQ w' I F q n K:=h.only o (λg hg hm=>hb (by rw[<-az.1 hm];exact hg))
theorem PQ.fI(h:PQ w I F q n K)(B:aF w g t cs)(ha:t≠143:=by decide)(hb:t≠167:=by decide)(h1:t≠146:=by decide)(h2:t≠218:=by decide)(h3:t≠3:=by decide)(h4:t≠149:=by decide)(h5:t≠152:=by decide)(h6:t≠4:=by decide)(h7:t≠231:=by decide):g∉F:=by
 obtain⟨y,_,_,_,rfl,⟨c,A,z⟩,_⟩:=h;exact A.fI B ha hb h1 h2 h3 h4 h5 h6 h7
theorem PT.self(h:PQ w' I F q n K)(o:ag F w w'):PT w w' I F q n K:=⟨F,h,o,λ_ hg=> .inl hg⟩
theorem PT.le(h:PT w w' I F q n K)(hk:K<=K'):PT w w' I F q n K':=by
 obtain⟨F',a,b⟩:=h;exact⟨F',a.le hk,b⟩
theorem ZTo.pt{q':QS}(h:ZTo w w' y n q' K')(W:Wp q' n K'):PT w w' ⟨y.pb,y.x.b,y.x.L⟩ y.fp q' n K':=by
 obtain⟨y',e1,e2,e3,z,o,f⟩:=h;exact⟨y'.fp,⟨y',e1,e2,e3,rfl,z,W⟩,o,f⟩
theorem wo(h:PQ w I F q n K)(hK:K<=999999999999)(p:Int):
  eq prog 121 #[pp I.pb,p] w λe w'=>e=BY (U8 #[U2 (q.dN p).2.1,U5 By (q.dN p).2.2])/\PQ w' I F (q.dN p).1 n (K+1)/\ag F w w':=by
 obtain⟨y,e1,e2,e3,rfl,z,W⟩:=h;have hw:=(W.get p).1.w;rw[<-e1];exact(XW z W.H hK p).mono λe w' ⟨r,z',o⟩=>⟨r,⟨y,e1,e2,e3,rfl,z',hw⟩,o⟩
theorem XZ(h:PQ w I F q n K)(hK:K<=999999999999)(p:Int)(b:rd)(hb:b.size<=232):
  eq prog 176 #[pp I.pb,p,U2 b] w λe w'=>e=BY (U5 By (q.eg p b).2)/\PQ w' I F (q.eg p b).1 n (K+1)/\ag F w w':=by
 obtain⟨y,e1,e2,e3,rfl,z,W⟩:=h;have hw:=(W.put p b hb).1.w;rw[<-e1];exact(XX z W.H hK p b).mono λe w' ⟨r,z',o⟩=>⟨r,⟨y,e1,e2,e3,rfl,z',hw⟩,o⟩
theorem Cm(h:PQ w I F q n K)(hK:K<=1000000000000)(v:rd)(hv:v.size<=232):
  eq prog 69 #[pp I.pb,U2 v] w λe w'=>e=BY (U8 #[U5 By (q.bZ v.data.toList).2.1,U5 By (q.bZ v.data.toList).2.2])/\PT w w' I F (q.bZ v.data.toList).1 n (K+1):=by
 obtain⟨y,e1,e2,e3,rfl,z,W⟩:=h;have hw:=(W.new v hv).1.w;obtain⟨_,_,_⟩:=I;subst e1 e2 e3;exact(TY z hK v (by omega)).mono λe w' ⟨r,t⟩=>⟨r,t.pt hw⟩
theorem th(h:PQ w I F q n K)(p:Int):
  eq prog 132 #[pp I.pb,p] w λe w'=>e=BY (U5 By (q.aV p).2)/\PQ w' I F (q.aV p).1 n K/\ag F w w':=by
 obtain⟨y,e1,e2,e3,rfl,z,W⟩:=h;have hw:=(W.drop p).1.w;rw[<-e1];exact(Pm z W.H.f p).mono λe w' ⟨r,z',o⟩=>⟨r,⟨y,e1,e2,e3,rfl,z',hw⟩,o⟩
theorem Kl(h:PQ w I F q n K)(hK:K<=999999999000):
  eq prog 50 #[pp I.pb] w λe w'=>e=BY q.aQ.2/\PT w w' I F q.aQ.1 n (K+40):=by
 obtain⟨y,e1,e2,e3,rfl,z,W⟩:=h;have hw:=(W.kx hK).1;obtain⟨_,_,_⟩:=I;subst e1 e2 e3;exact(Iv z W.H.f hK).mono λe w' ⟨r,t⟩=>⟨r,t.pt hw⟩
theorem Pn(h:PQ w I F q n K):
  eq prog 51 #[pp I.pb] w λe w'=>e=BY (U6 true)/\PT w w' I F q.cq n K:=by
 obtain⟨y,e1,e2,e3,rfl,z,W⟩:=h;have hw:=W.abort.1;obtain⟨_,_,_⟩:=I;subst e1 e2 e3;exact(Kk z).mono λe w' ⟨r,t⟩=>⟨r,t.pt hw⟩
theorem Co(h:PQ w I F q n K):eq prog 28 #[pp I.pb] w λe w'=>e=BY (sp I.sb)/\w=w':=by
 obtain⟨y,e1,e2,e3,rfl,⟨c,A,z⟩,W⟩:=h;rw[<-e1,<-e2];exact N7 A
theorem Cp(h:PQ w I F q n K):
  eq prog 29 #[sp I.sb] w λe w'=> ∃A cc,e=BY (U3 A q.a.je.length cc)/\aM w' 3 1 (U3 A q.a.je.length cc) q.a.je.length (dH q.a.je)/\i7 w w':=by
 obtain⟨y,e1,e2,e3,rfl,⟨c,A,z⟩,W⟩:=h;rw[<-e2];obtain⟨k,e⟩:=z.e;have hp:zM c.table c.table.length=q.a.je:=by
  rw[Q7 (n:=n) _ (ai _),e];have:=pad_pgs (c.bY n).now k;unfold St.je St.pad C.bY at *;simp only[aT,eR,bM]at *;exact this.symm
 have:=NY A.hs;rw[show(q.ps c).c=c from rfl,hp]at this;exact this
end
variable{w w':YB}{b n K g:Nat}{F:List Nat}{c:Int}{a:rd}{I:Ix}
def jb(n:Int):Int:=max ((max n 0+227) / 228) 1
def rL(n:Nat):pu:=[gn (n / 256),gn n]
def eG(v:pu)(i:Nat):pu:=(v.drop (228*i)).take 228
theorem Ft(n:Int)(h:n<=1000000)(w:YB):
  eq prog 172 #[n] w λe w'=>e=BY (U5 By (jb n))/\w=w':=by
 unfold jb;obtain⟨m,hm⟩:=dZ (show 0<=max n 0 by omega);rw[hm];have Bp:m<=1000000:=by omega
 have e1:IntKind.i64.wrap ((m:Int)+228)=(m:Int)+228:=dl;have e2:IntKind.i64.wrap ((m:Int)+228-1)=(m:Int)+227:=by rw[show(m:Int)+228-1=(m:Int)+227 by omega];exact dl
 have e3:IntKind.i64.wrap (((m:Int)+227).tdiv 228)=((m:Int)+227) / 228:=by rw[MZ (by omega)];exact dl
 have e4:IntKind.i64.wrap ((m:Int)+227)=(m:Int)+227:=dl;go_in;go_wp2_with fail
 all_goals
  go_ret;refine⟨?_,rfl⟩
  first|(simp;done)|(simp;omega)
theorem fO(n:Nat)(h:n<=60000)(w:YB):
  eq prog 173 #[(n:Nat)] w λe w'=>e=BY (U2 ⟨(rL n).toArray⟩)/\i7 w w':=by
 have O0:=xh<|i6 w (WF #[U5 .u8 ((n:Int) / 256),U5 .u8 ((n:Int) % 256)] 5);have B0:=aF.new w 5 #[U5 .u8 ((n:Int) / 256),U5 .u8 ((n:Int) % 256)];have e1:IntKind.u8.wrap ((n:Int) / 256)=(n:Int) / 256:=IntWalk.u8_in _ (by omega);have hb:dR (rL n)=[U5 .u8 ((n:Int) / 256),U5 .u8 ((n:Int) % 256)]:=by
  unfold rL dR bv;simp only[fA,oE,il];rw[show((n / 256 % 2 ^ 8:Nat):Int)=(n:Int) / 256 by omega,show((n % 2 ^ 8:Nat):Int)=(n:Int) % 256 by omega]
 have HR:=xh<|cu (P:=prog) _ 150 9 5 underlying150 underlying5 underlying9 ⟨w.heap.size,0,none⟩ 2 2 (rL n) rfl (bm (l:=dR (rL n)) (by rw[hb];exact B0) 0 _ (by simp));clear B0 hb;go_in;go_wp2_with fail;rw[HR.o];go_wp2;go_ret;exact aI O0.o
theorem TZ{q:Nat}(v:rd)(hv:v.size<=1024)(hq:w.cell? (lc q)=some (U2 v))(i:Nat)(hi:228*i<=v.size):
  eq prog 171 #[(i:Nat),lc q] w λe w'=>e=BY (U2 ⟨(eG v.data.toList i).toArray⟩)/\w=w':=by
 have e1:IntKind.i64.wrap ((i:Int)*228)=((228*i:Nat):Int):=by rw[show(i:Int)*228=((228*i:Nat):Int) by omega];exact dl
 have e2:IntKind.i64.wrap ((i:Int)+1)=(i:Int)+1:=dl;have e3:IntKind.i64.wrap (((i:Int)+1)*228)=((228*i+228:Nat):Int):=by rw[show((i:Int)+1)*228=((228*i+228:Nat):Int) by omega];exact dl
 have HP:=xh (show ∀b:Nat,(228*i+228<=v.size->b=228*i+228)->(v.size<228*i+228->b=v.size)->v.extract (228*i) b=⟨(eG v.data.toList i).toArray⟩from λb h1 h2=>by
  apply jQ;apply qP.1;show(v.extract (228*i) b).data.toList=eG v.data.toList i;rw[exl'];unfold eG
  rcases fC v.size (228*i+228)with h|h
  .rw[h2 h,cm (by simp),cm (by simp;omega)]
  .rw[h1 h,show 228*i+228-228*i=228 by omega])
 go_in;go_wp2_with fail
 all_goals
  go_ret;exact⟨by rw[HP.o _ (by omega) (by omega)];rfl,rfl⟩
def cd(l:pu)(k:Nat):Nat:=(l.getD k 0).toNat*256+(l.getD (k+1) 0).toNat
theorem or8(a b:Nat)(ha:a<256)(hb:b<256):bits .or By ((a:Int)*256) (b:Int)=((a*256+b:Nat):Int):=by
 rw[bits_join By 32 (by decide) (λn h0 h1=>IntWalk.i64_in n (by omega)) 8 _ _ (by omega) (by omega) (by omega) (by omega) (by omega) (by omega)];omega
theorem eo(s:rd)(k:Nat)(h:k<s.size):s.data.toList.getD k 0=s[k]:=by
 have h2:k<s.data.toList.length:=by simpa using h
 simp only[List.getD,aH h2,jB,Array.getElem_toList];rfl
theorem nA(o:ag (b::F) w w')(hb:w.heap.size<=b):ag F w w':=o.mono (λx hx ef=>(ar.1 hx).elim (λe=>by omega) id)
theorem nC(o:ag F w w'):ag (b::F) w w':=o.mono (λ_ hx _=>bK _ hx)
theorem nD(o:ag [b] w w'):ag (b::F) w w':=o.mono (λ_ hx _=>by rw[az.1 hx];exact gS ..)
def QS.eX(q:QS)(l:Int):QS×Int×pu×Int:=
 if(q.dN l).2.2≠0 then((q.dN l).1,0,[],(q.dN l).2.2)else if 228<cd (q.dN l).2.1.data.toList 2 then((q.dN l).1,0,[],14)else((q.dN l).1,(cd (q.dN l).2.1.data.toList 0:Int)-1,((q.dN l).2.1.data.toList.drop 4).take (cd (q.dN l).2.1.data.toList 2),0)
theorem rM{q:QS}(h:Wp q n K){p:Int}(h0:(q.dN p).2.2=0):(q.dN p).2.1.size=232:=by
 rcases(h.get p).2 with⟨h1,h2⟩|⟨h1,h2⟩|⟨h1,h2⟩
 .rw[h2];show(q.vw p).1.toArray.size=232;simpa using h.len h1
 .rw[h2]at h0;exact absurd h0 (by decide)
 .rw[h2]at h0;exact absurd h0 (by decide)
def Cq(n:Int)(s:rd):YO:= .agg #[U5 By n,U2 s]
theorem Cs{fn:Func}{p u:Tmp}{tmps:Array YO}(h:fn.results= #[.cell p 262,.tmp u])(hp:tmps.getD p undef=.pointer (some ⟨g,0,none⟩))(B:aF w g 262 #[c,U2 a]):
  (results fn tmps).run prog w=.ok (U8 #[Cq c a,tmps.getD u undef]) w:=by
 have c0:=B.bi 0;have c1:=B.bi 1;rw[results_cell_tmp h,hp];clear h hp B;unfold Cq;go_simp
theorem Po{c':Int}{a':rd}(B:aF w g 262 #[c,U2 a]):
  aF ((w.setCell ⟨g,0,none⟩ c').setCell ⟨g,1,none⟩ (U2 a')) g 262 #[c',U2 a']/\ag [g] w ((w.setCell ⟨g,0,none⟩ c').setCell ⟨g,1,none⟩ (U2 a'))/\
   w.cell? (lc g)=some (c:li)/\w.cell? ⟨g,1,none⟩=some (U2 a)/\w.frozen? ⟨g,0,none⟩=false/\w.frozen? ⟨g,1,none⟩=false:=
 ⟨(B.cw 0 _).cw 1 _,((ag.refl _ _).setCell (by simp) _).setCell (by simp) _,B.ab rfl,B.ab rfl,B.frozen 0 (by simp),B.frozen 1 (by simp)⟩
theorem T8{q:QS}(h:PQ w I F q n K)(hK:K<=999999999999)(p:Int)(he:(q.dN p).2.2≠0):
  eq prog 204 #[pp I.pb,p] w λe w'=>e=BY (U8 #[Cq 0 ⟨#[]⟩,U5 By (q.dN p).2.2])/\PQ w' I F (q.dN p).1 n (K+1)/\ag F w w':=by
 have O0:=xh<|i6 w (WF #[U5 By 0,U2 ⟨#[]⟩] 262);have B0:=xh<|aF.new w 262 #[U5 By 0,U2 ⟨#[]⟩];have NQ:=g9 (w.heap.size∉F) (λhm=>by have:=h.lt _ hm;omega);have KG:=xh<|wo (h.below O0.o) hK p;have hq:((q.dN p).2.2 != 0)=true:=ls he
 have my:((q.dN p).2.2==0)=false:=i4 he
 generalize q.dN p=R at *;obtain⟨q1,R1,R2⟩:=R;dsimp only at *;clear h he;unfold pp at *;go_in;go_wp2_with fail;go_call KG.o as e w1 ⟨rfl,A1,o1⟩;have A1:=xh A1;have o1:=xh o1;obtain⟨B2,o2,c0,c1,z0,z1⟩:=Po (c':=0) (a':=⟨#[]⟩) (B0.o.only o1.o NQ.o);have B2:=xh B2;have o2:=xh o2;go_wp2_with fail
 exact bodyPost_ret (Cs rfl rfl B2.o) rfl ⟨rfl,(A1.o).aY o2.o NQ.o,nA (((ag.aj (S:=w.heap.size::F) O0.o).trans (nC o1.o)).trans (nD o2.o)) (ai _)⟩
theorem Pp{q:QS}(h:PQ w I F q n K)(hK:K<=999999999999)(p:Int)(he:(q.dN p).2.2=0)(H2:228<cd (q.dN p).2.1.data.toList 2):
  eq prog 204 #[pp I.pb,p] w λe w'=>e=BY (U8 #[Cq 0 ⟨#[]⟩,U5 By 14])/\PQ w' I F (q.dN p).1 n (K+1)/\ag F w w':=by
 have O0:=xh<|i6 w (WF #[U5 By 0,U2 ⟨#[]⟩] 262);have B0:=xh<|aF.new w 262 #[U5 By 0,U2 ⟨#[]⟩];have NQ:=g9 (w.heap.size∉F) (λhm=>by have:=h.lt _ hm;omega);have KG:=xh<|wo (h.below O0.o) hK p;have oq:=rM h.wp he;rw[he]at KG;generalize q.dN p=R at *;obtain⟨q1,s,R2⟩:=R;dsimp only at *;have b0:=s[0].toNat_lt;have b1:=s[1].toNat_lt;have b2:=s[2].toNat_lt;have b3:=s[3].toNat_lt
 have V0:=xh (show bits .or By ((s[0].toNat:Int)*256) (s[1].toNat:Int)=((cd s.data.toList 0:Nat):Int)from by
  rw[or8 _ _ (by omega) (by omega)];unfold cd;rw[eo _ _ (by omega),eo _ _ (by omega)])
 have V2:=xh (show bits .or By ((s[2].toNat:Int)*256) (s[3].toNat:Int)=((cd s.data.toList 2:Nat):Int)from by
  rw[or8 _ _ (by omega) (by omega)];unfold cd;rw[eo _ _ (by omega),eo _ _ (by omega)])
 have m0:cd s.data.toList 0<=65535:=by unfold cd;rw[eo _ _ (by omega),eo _ _ (by omega)];simp only[bq];omega
 have u0:IntKind.i64.wrap (s[0].toNat:Int)=(s[0].toNat:Int):=dl;have u1:IntKind.i64.wrap (s[1].toNat:Int)=(s[1].toNat:Int):=dl;have u2:IntKind.i64.wrap (s[2].toNat:Int)=(s[2].toNat:Int):=dl;have u3:IntKind.i64.wrap (s[3].toNat:Int)=(s[3].toNat:Int):=dl;have u4:IntKind.i64.wrap ((s[0].toNat:Int)*256)=(s[0].toNat:Int)*256:=dl
 have u5:IntKind.i64.wrap ((s[2].toNat:Int)*256)=(s[2].toNat:Int)*256:=dl;generalize cd s.data.toList 2=m2 at *;generalize cd s.data.toList 0=m1 at *;clear h he;unfold pp at *;go_in;go_wp2_with fail;go_call KG.o as e w1 ⟨rfl,A1,o1⟩;have A1:=xh A1;have o1:=xh o1;go_wp2_with fail;go_quiet (fail);rw[V0.o,V2.o];obtain⟨B2,o2,c0,c1,z0,z1⟩:=Po (c':=0) (a':=⟨#[]⟩) ((B0.o.only o1.o NQ.o).drewN nq)
 have B2:=xh B2;have o2:=xh<|((ag.refl [w.heap.size] w1).drewN nq).trans o2;go_wp2_with fail;exact bodyPost_ret (Cs rfl rfl B2.o) rfl ⟨rfl,(A1.o).aY o2.o NQ.o,nA (((ag.aj (S:=w.heap.size::F) O0.o).trans (nC o1.o)).trans (nD o2.o)) (ai _)⟩
theorem X1{q:QS}(h:PQ w I F q n K)(hK:K<=999999999999)(p:Int)(he:(q.dN p).2.2=0)(H2:cd (q.dN p).2.1.data.toList 2<=228):
  eq prog 204 #[pp I.pb,p] w λe w'=>e=BY (U8 #[Cq ((cd (q.dN p).2.1.data.toList 0:Int)-1) ⟨(((q.dN p).2.1.data.toList.drop 4).take (cd (q.dN p).2.1.data.toList 2)).toArray⟩,U5 By 0])/\PQ w' I F (q.dN p).1 n (K+1)/\ag F w w':=by
 have O0:=xh<|i6 w (WF #[U5 By 0,U2 ⟨#[]⟩] 262);have B0:=xh<|aF.new w 262 #[U5 By 0,U2 ⟨#[]⟩];have NQ:=g9 (w.heap.size∉F) (λhm=>by have:=h.lt _ hm;omega);have KG:=xh<|wo (h.below O0.o) hK p;have oq:=rM h.wp he;rw[he]at KG;generalize q.dN p=R at *;obtain⟨q1,s,R2⟩:=R;dsimp only at *;have b0:=s[0].toNat_lt;have b1:=s[1].toNat_lt;have b2:=s[2].toNat_lt;have b3:=s[3].toNat_lt
 have V0:=xh (show bits .or By ((s[0].toNat:Int)*256) (s[1].toNat:Int)=((cd s.data.toList 0:Nat):Int)from by
  rw[or8 _ _ (by omega) (by omega)];unfold cd;rw[eo _ _ (by omega),eo _ _ (by omega)])
 have V2:=xh (show bits .or By ((s[2].toNat:Int)*256) (s[3].toNat:Int)=((cd s.data.toList 2:Nat):Int)from by
  rw[or8 _ _ (by omega) (by omega)];unfold cd;rw[eo _ _ (by omega),eo _ _ (by omega)])
 have m0:cd s.data.toList 0<=65535:=by unfold cd;rw[eo _ _ (by omega),eo _ _ (by omega)];simp only[bq];omega
 have u0:IntKind.i64.wrap (s[0].toNat:Int)=(s[0].toNat:Int):=dl;have u1:IntKind.i64.wrap (s[1].toNat:Int)=(s[1].toNat:Int):=dl;have u2:IntKind.i64.wrap (s[2].toNat:Int)=(s[2].toNat:Int):=dl;have u3:IntKind.i64.wrap (s[3].toNat:Int)=(s[3].toNat:Int):=dl;have u4:IntKind.i64.wrap ((s[0].toNat:Int)*256)=(s[0].toNat:Int)*256:=dl
 have u5:IntKind.i64.wrap ((s[2].toNat:Int)*256)=(s[2].toNat:Int)*256:=dl;have HX:=xh (show s.extract 4 (4+cd s.data.toList 2)=⟨((s.data.toList.drop 4).take (cd s.data.toList 2)).toArray⟩from by
  apply jQ;apply qP.1;show(s.extract 4 (4+cd s.data.toList 2)).data.toList=(s.data.toList.drop 4).take (cd s.data.toList 2);rw[exl',show 4+cd s.data.toList 2-4=cd s.data.toList 2 by omega])
 generalize (⟨((s.data.toList.drop 4).take (cd s.data.toList 2)).toArray⟩:rd)=P at *;generalize cd s.data.toList 2=m2 at *;generalize cd s.data.toList 0=m1 at *;have u6:IntKind.i64.wrap ((m1:Int)-1)=(m1:Int)-1:=dl;have u7:IntKind.i64.wrap (4+(m2:Int))=4+(m2:Int):=dl;have u8:(4+(m2:Int)).toNat=4+m2:=by omega
 clear h he;unfold pp at *;go_in;go_wp2_with fail;go_call KG.o as e w1 ⟨rfl,A1,o1⟩;have A1:=xh A1;have o1:=xh o1;go_wp2_with fail;go_quiet (fail);rw[V0.o,V2.o];obtain⟨B2,o2,c0,c1,z0,z1⟩:=Po (c':=(m1:Int)-1) (a':=s.extract 4 (4+m2)) ((B0.o.only o1.o NQ.o).drewN nq);have B2:=xh B2;have o2:=xh<|((ag.refl [w.heap.size] w1).drewN nq).trans o2;go_wp2_with fail
 exact bodyPost_ret (Cs rfl rfl B2.o) rfl ⟨by rw[HX.o];rfl,(A1.o).aY o2.o NQ.o,nA (((ag.aj (S:=w.heap.size::F) O0.o).trans (nC o1.o)).trans (nD o2.o)) (ai _)⟩
theorem T9{q:QS}(h:PQ w I F q n K)(hK:K<=999999999999)(p:Int):
  eq prog 204 #[pp I.pb,p] w λe w'=>e=BY (U8 #[Cq (q.eX p).2.1 ⟨(q.eX p).2.2.1.toArray⟩,U5 By (q.eX p).2.2.2])/\PQ w' I F (q.eX p).1 n (K+1)/\ag F w w':=by
 unfold QS.eX
 by_cases h0:(q.dN p).2.2=0
 .rw[if_neg (by simpa using h0)]
  by_cases h1:228<cd (q.dN p).2.1.data.toList 2
  .rw[if_pos h1];exact Pp h hK p h0 h1
  .rw[if_neg h1];exact X1 h hK p h0 (by omega)
 .rw[if_pos h0];exact T8 h hK p h0
attribute [local go_sem ↓] bA xA
variable{w:YB}{e:TypeId}{z n:Nat}{v:YO}{l:List YO}
def QS.kZ:Nat->QS->Int->List Int->pu->QS×List Int×pu×Int
 |0,q,_,_,_=>(q,[],[],14)
 |m+1,q,at_,l,b=>
  if(q.eX at_).2.2.2=3/\0<l.length then((q.eX at_).1,[],[],14)
  else if(q.eX at_).2.2.2≠0 then((q.eX at_).1,[],[],(q.eX at_).2.2.2)
  else if 1024<(b++(q.eX at_).2.2.1).length then((q.eX at_).1,[],[],14)
  else if(q.eX at_).2.1<0 then((q.eX at_).1,l++[at_],b++(q.eX at_).2.2.1,0)
  else QS.kZ m (q.eX at_).1 (q.eX at_).2.1 (l++[at_]) (b++(q.eX at_).2.2.1)
def QS.eS(q:QS)(first:Int):QS×List Int×pu×Int:=q.kZ 5 first [] []
theorem X3(q:QS)(l:Int):(q.eX l).2.1<=65534/\ -1<=(q.eX l).2.1/\(q.eX l).2.2.1.length<=228:=by
 unfold QS.eX
 split
 .exact⟨by show(0:Int)<=_;omega,by show(-1:Int)<=0;omega,by show 0<=228;omega⟩
 .split
  .exact⟨by show(0:Int)<=_;omega,by show(-1:Int)<=0;omega,by show 0<=228;omega⟩
  .refine⟨?_,?_,?_⟩
   .show(cd _ 0:Int)-1<=_;unfold cd;have:=(List.getD (q.dN l).2.1.data.toList 0 0).toNat_lt;have:=(List.getD (q.dN l).2.1.data.toList (0+1) 0).toNat_lt;omega
   .show -1<=(cd _ 0:Int)-1;omega
   .rw[bC];omega
theorem tr(h:aM w e z v n l):∀g∈ah v,∃cs,aF w g e cs:=by
 rcases h.2 with⟨rfl,_⟩|⟨g,cap,rest,rfl,B,_⟩
 .simp[ah]
 .intro x hx;simp only[ah,az]at hx;exact⟨_,by rw[hx];exact B⟩
theorem nE{t:TypeId}{y m:Nat}{u:YO}{k:List YO}(h:aM w e z v n l)(h':aM w t y u m k)(fF:e≠t):∀g∈ah v,g∉ah u:=λg hg hu=>by
 obtain⟨cs,B⟩:=tr h g hg;exact dL h' B fF hu
theorem Fu{I:Ix}{F:List Nat}{q:QS}{K:Nat}(h:PQ w I F q n K)(hK:K<=999999999900)(p:Int):
  eq prog 160 #[pp I.pb,p] w λe w'=> ∃A m c,e=BY (U8 #[U3 A m c,U2 ⟨(q.eS p).2.2.1.toArray⟩,U5 By (q.eS p).2.2.2])/\aM w' 3 1 (U3 A m c) (q.eS p).2.1.length (dH (q.eS p).2.1)/\PQ w' I F (q.eS p).1 n (K+5)/\ag F w w'/\∀g∈ah (U3 A m c),w.heap.size<=g:=by
 have KN:=xh<|Ft 1024 (by omega);rw[show jb 1024=5 from rfl]at KN;have KR:=xh (λ(W:YB) (qj:QS) (kj:Nat) (hW:PQ W I F qj n kj) (hk:kj<=999999999999) (y:Int)=>T9 hW hk y);have rC:=xh h.lt;obtain⟨R,hR⟩:∃R,q.eS p=R:=⟨_,rfl⟩;rw[hR];have HQ:=xh h;unfold QS.eS at hR;have HR:=xh hR;clear h hR;unfold Cq at KR;unfold pp at *;go_in;go_wp2_with fail;go_call (KN.o _) as e w1 ⟨rfl,rfl⟩;go_wp2_with fail
 go_loopw [7,8,9,16] (λlv bv av iv wr=> ∃(i:Nat) (l:List Int) (b:pu) (at_:Int) (qi:QS),i<=5/\l.length=i/\iv=U5 By i/\av=U5 By at_/\b.length<=1024/\aM wr 3 1 lv i (dH l)/\aM wr 5 1 bv b.length (dR b)/\Hid (qi.kZ (5-i) at_ l b=R)/\Hid (PQ wr I F qi n (K+i)/\ag F w wr/\(∀g∈ah lv,w.heap.size<=g)/\(∀g∈ah bv,w.heap.size<=g))) (λ_ _ _ iv _=>5-(intOf iv).toNat)
 case atStart=>exact⟨0,[],[],p,q,by omega,rfl,rfl,rfl,by simp,aM.nil _ _ _,aM.nil _ _ _,HR,xh ⟨HQ.o,ag.refl _ _,by simp[ah],by simp[ah]⟩⟩
 case round=>
  obtain⟨i,l,b,at_,qi,hi,hl,rfl,rfl,hb,S1,S2,HW,HA⟩:=hrel;obtain⟨VA,vc,rfl⟩:=ax S1;obtain⟨VB,vb,rfl⟩:=ax S2
  by_cases h5:i<5
  .have K1:=xh<|KR.o wr qi (K+i) HA.o.1 (by omega) at_;obtain⟨bd1,bd2,bd3⟩:=X3 qi at_;have HW:=HW.o;rw[show 5-i=(5-(i+1))+1 by omega]at HW;unfold QS.kZ at HW;rw[hl]at HW;generalize qi.eX at_=r at *;obtain⟨qn,nx,pc,er⟩:=r;dsimp only at *
   by_cases he:er=0
   .subst he;rw[gc,i8]at HW;have W2:=xh (show ∀w2,PQ w2 I F qn n (K+(i+1))->ag F wr w2->PQ (w2.alloc (WF #[nx,U2 ⟨pc.toArray⟩] 262)) I F qn n (K+(i+1))/\ag F w (w2.alloc (WF #[nx,U2 ⟨pc.toArray⟩] 262))/\
      aM (w2.alloc (WF #[nx,U2 ⟨pc.toArray⟩] 262)) 3 1 (U3 VA i vc) i (dH l)/\aM (w2.alloc (WF #[nx,U2 ⟨pc.toArray⟩] 262)) 5 1 (U3 VB b.length vb) b.length (dR b)/\aF (w2.alloc (WF #[nx,U2 ⟨pc.toArray⟩] 262)) w2.heap.size 262 #[nx,U2 ⟨pc.toArray⟩]/\w2.heap.size∉ah (U3 VA i vc)/\w2.heap.size∉ah (U3 VB b.length vb)from λw2 A2 o2=>by
     obtain⟨a1,a2,a3,a4⟩:=HA.o;have U:=i6 w2 (WF #[nx,U2 ⟨pc.toArray⟩] 262);have s1:=S1.only o2 (λg hg hF=>by have:=rC.o g hF;have:=a3 g hg;omega);have s2:=S2.only o2 (λg hg hF=>by have:=rC.o g hF;have:=a4 g hg;omega);exact⟨A2.below U,(a2.trans o2).trans (.aj U),s1.below U,s2.below U,aF.new _ _ _,λhg=>by have:=s1.lt _ hg;omega,λhg=>by have:=s2.lt _ hg;omega⟩)
    have HW:=xh HW;go_wp2_with fail;go_call K1.o as e w2 ⟨rfl,A2,o2⟩;obtain⟨A3,o3,s1,s2,LK,n1,n2⟩:=W2.o w2 A2 o2;obtain⟨v',w4,ea,S4,ow,fr⟩:=dG (P:=prog) s1 60 60 (U5 By 0) 8 underlying60 lQ rfl at_ rfl (by unfold it;omega) (by omega);have s4:=s2.only ow (nE s2 s1 (by decide));have L4:=LK.only ow n1;have A4:=A3.only ow (λg hF hg=>by have:=rC.o g hF;have:=HA.o.2.2.1 g hg;omega)
    obtain⟨u',w5,eb,S5,ov,fv⟩:=lL (P:=prog) s4 150 9 150 underlying150 underlying9 ke.eV ⟨pc.toArray⟩ (by show _+pc.toArray.size<=_;simp;omega);have S6:=S4.only ov (λg hg=>nE S4 s4 (by decide) g hg);have L6:=L4.only ov n2;have A6:=xh<|A4.only ov (λg hF hg=>by have:=rC.o g hF;have:=HA.o.2.2.2 g hg;omega);have k1:=L4.bi 1;have k0:=L6.bi 0
    have O6:=g9 (ag F w w5) ((o3.aU ow (λg hg ef=>by have:=HA.o.2.2.1 g hg;omega)).aU ov (λg hg ef=>by have:=HA.o.2.2.2 g hg;omega));have F4:=g9 (∀g∈ah v',w.heap.size<=g) (λg hg=>(fr g hg).elim (HA.o.2.2.1 g) (λh=>by have:=o3.size;omega));have F5:=g9 (∀g∈ah u',w.heap.size<=g) (λg hg=>(fv g hg).elim (HA.o.2.2.2 g) (λh=>by have:=o3.size;have:=ow.size;omega));obtain⟨V4,c4,rfl⟩:=ax S4
    rw[show(⟨pc.toArray⟩:rd).size=pc.length from by show pc.toArray.size=_;simp,show(⟨pc.toArray⟩:rd).data.toList=pc from rfl,<-dD]at S5;obtain⟨V5,c5,rfl⟩:=ax S5;have SV:=g9 (aM w5 5 1 (U3 V5 (b.length+pc.length) c5) (b++pc).length (dR (b++pc))) (by rw[aT];exact S5);have CV:=xh<|Hd (P:=prog) S5.drew 150 9 underlying150 underlying5 underlying9;rw[World.size_alloc]at ea;have EA:=xh ea
    have EB:=xh eb;clear ea eb ow ov fr fv S4 s4 L4 A4 L6 LK A3 A2 o2 o3 s1 s2 n1 n2;go_wp2_with fail;rw[EA.o];go_wp2_with fail;rw[EB.o];have HW:=HW.o
    by_cases hL:1024<(b++pc).length
    .rw[if_pos hL]at HW;subst HW;rw[aT]at hL;go_wp2_with fail
     go_ret3
     exact⟨none,0,0,by first|rfl|simp,aM.nil _ _ _,A6.o.le (by omega),O6.o,by simp[ah]⟩
    .rw[if_neg hL]at HW;have hL2:b.length+pc.length<=1024:=by rw[aT]at hL;omega
     by_cases hn:nx<0
     .rw[if_pos hn]at HW;subst HW;go_wp2_with fail;have CV:=CV.o
      go_region
      go_wp2_with fail
      go_ret3
      exact⟨V4,i+1,c4,by first|rfl|simp,by rw[gX];first|exact S6.drew|(rw[aT,hl];exact S6.drew),(A6.o.below ((Below.refl _ _).drew)).le (by omega),O6.o.drew,F4.o⟩
     .rw[if_neg hn]at HW;have HW:=xh HW;go_wp2_with fail;go_roundw
      case rel=>exact⟨i+1,l++[at_],b++pc,nx,qn,by omega,by simp[hl],by go_num,rfl,by rw[aT];exact hL2,by rw[gX];exact S6,SV.o,HW,xh ⟨A6.o,O6.o,F4.o,F5.o⟩⟩
      case measure=>simp[intOf];omega
   .have hq:(er != 0)=true:=ls he
    have my:(er==0)=false:=i4 he
    have W2:=xh (show ∀w2,PQ w2 I F qn n (K+(i+1))->ag F wr w2->PQ (w2.alloc (WF #[nx,U2 ⟨pc.toArray⟩] 262)) I F qn n (K+(i+1))/\ag F w (w2.alloc (WF #[nx,U2 ⟨pc.toArray⟩] 262))from λw2 A2 o2=>by
     obtain⟨a1,a2,a3,a4⟩:=HA.o;have U:=i6 w2 (WF #[nx,U2 ⟨pc.toArray⟩] 262);exact⟨A2.below U,(a2.trans o2).trans (.aj U)⟩)
    by_cases h3:er=3/\0<i
    .rw[if_pos h3]at HW;subst HW;obtain⟨rfl,h3⟩:=h3;go_wp2_with fail;go_call K1.o as e w2 ⟨rfl,A2,o2⟩;obtain⟨A3,o3⟩:=W2.o w2 A2 o2;have A3:=xh A3;have o3:=xh o3;clear A2 o2;go_wp2_with fail
     go_ret3
     exact⟨none,0,0,by first|rfl|simp,aM.nil _ _ _,A3.o.le (by omega),o3.o,by simp[ah]⟩
    .rw[if_neg h3,if_pos he]at HW;subst HW;have h33:er=3->¬0<i:=λe h=>h3 ⟨e,h⟩;have hq3:i=0\/((er==3)=false/\er≠3):=by
      by_cases e:er=3
      .exact .inl (by have:=h33 e;omega)
      .exact .inr ⟨by rw[beq_eq_false_iff_ne];exact e,e⟩
     rcases hq3 with Jj|⟨hq3,hq4⟩
     all_goals
      clear h33 h3;go_wp2_with fail;go_call K1.o as e w2 ⟨rfl,A2,o2⟩;obtain⟨A3,o3⟩:=W2.o w2 A2 o2;have A3:=xh A3;have o3:=xh o3;clear A2 o2;go_wp2_with fail
      all_goals
       go_ret3
       exact⟨none,0,0,by first|rfl|simp,aM.nil _ _ _,A3.o.le (by omega),o3.o,by simp[ah]⟩
  .have HW:=HW.o;rw[show 5-i=0 by omega]at HW;unfold QS.kZ at HW;subst HW;go_wp2_with fail
   go_ret3
   exact⟨none,0,0,by first|rfl|simp,aM.nil _ _ _,HA.o.1.le (by omega),HA.o.2.1,by simp[ah]⟩
end Sh
namespace Sh
open Go.RowKit Pk Dk Pg
variable{w:YB}{I:Ix}{F:List Nat}{n K:Nat}
theorem X4{q:QS}(h:PQ w I F q n K)(hK:K<=999999999900)(p:Int):
  eq prog 111 #[pp I.pb,p] w λe w'=>e=BY (U8 #[U2 ⟨(q.eS p).2.2.1.toArray⟩,U5 By (q.eS p).2.2.2])/\PQ w' I F (q.eS p).1 n (K+5)/\ag F w w':=by
 have KW:=xh<|Fu h hK p;generalize q.eS p=R at *;clear h;unfold pp at *;go_in;go_wp2_with fail;go_call KW.o as e w1 ⟨A,m,c,rfl,S1,A1,o1,f1⟩;have S1:=xh S1;have A1:=xh A1;have o1:=xh o1;go_wp2;go_ret2;exact aI ⟨A1.o,o1.o⟩
def QS.rN(q:QS):List Int->QS×Int
 |[]=>(q,0)
 |p::l=>if(q.aV p).2≠0 then((q.aV p).1,(q.aV p).2)else(q.aV p).1.rN l
def QS.oV(q:QS)(p:Int):QS×Int:=if(q.eS p).2.2.2≠0 then((q.eS p).1,(q.eS p).2.2.2)else(q.eS p).1.rN (q.eS p).2.1
theorem Fv:∀(m:Nat) (q:QS) (p:Int) (l:List Int) (b:pu),(q.kZ m p l b).2.1.length<=l.length+m
 |0,_,_,_,_=>by simp[QS.kZ]
 |m+1,q,p,l,b=>by
  unfold QS.kZ
  split
  .simp
  .split
   .simp
   .split
    .simp
    .split
     .simp<;>omega
     .have:=Fv m (q.eX p).1 (q.eX p).2.1 (l++[p]) (b++(q.eX p).2.2.1);simp only[aT,fT,vv]at this;omega
theorem Ua{q:QS}(h:PQ w I F q n K)(hK:K<=999999999900)(p:Int):
  eq prog 123 #[pp I.pb,p] w λe w'=>e=BY (U5 By (q.oV p).2)/\PQ w' I F (q.oV p).1 n (K+5)/\ag F w w':=by
 have KW:=xh<|Fu h hK p;have KD:=xh (λ(W:YB) (b:QS) (hW:PQ W I F b n (K+5)) (y:Int)=>th hW y);have rC:=xh h.lt;obtain⟨R,hR⟩:∃R,q.oV p=R:=⟨_,rfl⟩;rw[hR];unfold QS.oV at hR;have hlen:(q.eS p).2.1.length<=5:=Fv 5 q p [] [];generalize q.eS p=Q at *;obtain⟨q1,L,B,E⟩:=Q;dsimp only at *;clear h;unfold pp at *
 by_cases h0:E=0
 .subst h0;rw[i8]at hR;have HR:=xh hR;clear hR;go_in;go_wp2_with fail;go_call KW.o as e w1 ⟨A,m,c,rfl,S1,A1,o1,f1⟩;obtain⟨A',c',e⟩:=ax S1;injection e with e1 e2 e3
  subst e1 e2 e3;have HL:=xh S1;have H1:=xh<|And.intro A1 (And.intro o1 f1);clear S1 A1 o1 f1;go_wp2_with fail
  go_loopw [23] (λiv wr=> ∃(i:Nat) (b:QS),i<=L.length/\iv=U5 By i/\Hid (b.rN (L.drop i)=R)/\Hid (PQ wr I F b n (K+5)/\ag F w wr/\aM wr 3 1 (U3 A L.length c) L.length (dH L))) (λiv _=>L.length-(intOf iv).toNat)
  case atStart=>exact⟨0,q1,aW _,rfl,HR,xh ⟨H1.o.1,H1.o.2.1,HL.o⟩⟩
  case round=>
   obtain⟨i,b,hi,rfl,HW,HA⟩:=hrel
   by_cases h:i<L.length
   .obtain⟨x,hx⟩:∃x,L[i]?=some x:=⟨L[i],aH h⟩;have Km:L.drop i=x::L.drop (i+1):=by
     rw[rh h]
     congr 1
     rw[aH h]at hx;injection hx
    obtain⟨g,cp,rest,hv,BB,_⟩:∃g cp rest,(Value.slice A L.length c)=U3 (lc g) L.length cp/\aF wr g 3 (dH L++rest).toArray/\True:=by
     rcases HA.o.2.2.2 with⟨h1,h2⟩|⟨g,cap,rest,h1,h2,_⟩
     .omega
     .exact⟨g,cap,rest,h1,h2,trivial⟩
    injection hv with e1 e2 e3
    subst e1 e3;have cx:wr.cell? ⟨g,i,none⟩=some (x:li):=BB.ab (by
     rw[cN,bE (by simpa using h)];simp[dH,hx])
    have yW:=HW.o;rw[Km]at yW;unfold QS.rN at yW;have K2:=xh<|KD.o wr b HA.o.1 x;have hiI:(i:Int)<(L.length:Int):=by omega
    have hl5:(L.length:Int)<=5:=by have:=hlen;omega
    have HFR:=g9 (∀g'∈ah (U3 (lc g) L.length c),g'∉F) (λg' hg hF=>by have:=H1.o.2.2 g' hg;have:=rC.o g' hF;omega);generalize b.aV x=D at *;obtain⟨D1,D2⟩:=D;dsimp only at *
    by_cases hd:D2=0
    .subst hd;rw[i8]at yW;have yW:=xh yW;clear BB hx Km;go_wp2_with fail;go_call K2.o as e w2 ⟨rfl,A2,o2⟩;have H2:=g9 (PQ w2 I F D1 n (K+5)/\ag F w w2/\aM w2 3 1 (U3 (lc g) L.length c) L.length (dH L)) ⟨A2,HA.o.2.1.trans o2,HA.o.2.2.only o2 HFR.o⟩;clear A2 o2 cx;go_wp2_with fail;go_roundw
     case rel=>exact⟨i+1,D1,by omega,by go_num,yW,H2⟩
     case measure=>simp[intOf];omega
    .rw[if_pos hd]at yW;subst yW;have hq:(D2 != 0)=true:=ls hd
     have my:(D2==0)=false:=i4 hd
     clear BB hx Km;go_wp2_with fail;go_call K2.o as e w2 ⟨rfl,A2,o2⟩;have H2:=g9 (PQ w2 I F D1 n (K+5)/\ag F w w2) ⟨A2,HA.o.2.1.trans o2⟩;clear A2 o2 cx;go_wp2;go_ret;exact aI ⟨H2.o.1,H2.o.2⟩
   .have yW:=HW.o;rw[lJ (by omega)]at yW;unfold QS.rN at yW;subst yW;obtain rfl:i=L.length:=by omega
    go_wp2;go_ret;exact aI ⟨HA.o.1,HA.o.2.1⟩
 .rw[if_pos h0]at hR;subst hR;have hq:(E != 0)=true:=ls h0
  have my:(E==0)=false:=i4 h0
  go_in;go_wp2_with fail;go_call KW.o as e w1 ⟨A,m,c,rfl,S1,A1,o1,f1⟩;have H1:=xh<|And.intro A1 o1;clear S1 A1 o1 f1;go_wp2;go_ret;exact aI ⟨H1.o.1,H1.o.2⟩
attribute [local go_sem ↓] bA
def k7(v:pu)(i:Nat)(next:Int):pu:=rL (next+1).toNat++rL (eG v i).length++eG v i
def QS.ni(q:QS):List Int->QS
 |[]=>q
 |p::l=>(q.aV p).1.ni l
theorem QS.qB(q:QS)(p:Int)(l:List Int):q.ni (p::l)=(q.aV p).1.ni l:=rfl
def QS.rO(v:pu):Nat->QS->Int->List Int->QS×Int×Int
 |0,q,next,_=>(q,next,0)
 |i+1,q,next,made=>
  if(q.bZ (k7 v i next)).2.2≠0 then((q.bZ (k7 v i next)).1.ni made,0,(q.bZ (k7 v i next)).2.2)
  else QS.rO v i (q.bZ (k7 v i next)).1 (q.bZ (k7 v i next)).2.1 (made++[(q.bZ (k7 v i next)).2.1])
def QS.pB(q:QS)(v:pu):QS×Int×Int:=if 1024<v.length then(q,0,4)else QS.rO v (jb v.length).toNat q (-1) []
theorem newF_bd(a:St)(p:pu):0<=(a.bZ p).2.1/\(a.bZ p).2.1<=511:=by
 unfold St.bZ
 split
 .exact⟨by show(0:Int)<=0;omega,by show(0:Int)<=511;omega⟩
 .split
  .exact⟨by show(0:Int)<=0;omega,by show(0:Int)<=511;omega⟩
  .exact⟨by show(0:Int)<=(a.slot:Nat);omega,by show((a.slot:Nat):Int)<=511;omega⟩
theorem X5(q:QS)(p:pu):0<=(q.bZ p).2.1/\(q.bZ p).2.1<=511:=newF_bd q.a p
theorem X6{q:QS}(h:PQ w I F q n K)(v:rd)(hv:v.size<=1024)(hK:K<=999999999900):
  eq prog 124 #[pp I.pb,U2 v] w λe w'=>e=BY (U8 #[U5 By (q.pB v.data.toList).2.1,U5 By (q.pB v.data.toList).2.2])/\PT w w' I F (q.pB v.data.toList).1 n (K+5):=by
 have hvl:v.data.toList.length=v.size:=by simp
 obtain⟨R,hR⟩:∃R,q.pB v.data.toList=R:=⟨_,rfl⟩;rw[hR];unfold QS.pB at hR;rw[gc,hvl]at hR;have hn1:1<=jb v.size/\jb v.size<=5:=by unfold jb;omega
 have Wd:228*(jb v.size-1)<=v.size:=by unfold jb;omega
 have KN:=xh<|Ft (v.size:Nat) (by omega);obtain⟨m,hm⟩:=dZ (show 0<=jb v.size by omega);rw[hm]at hn1 Wd KN hR;rw[show((m:Nat):Int).toNat=m by omega]at hR;have HR:=xh hR;have O0:=xh<|i6 w (WF #[U2 v] 9);have B0:=xh<|aF.new w 9 #[U2 v];have q0:=B0.ap 0;have HQ:=xh<|h.below O0.o;have rC:=xh h.lt
 have KNEW:=xh (λ(W:YB) (F':List Nat) (b:QS) (j:Nat) (hW:PQ W I F' b n j) (s:rd) (hs:s.size<=232) (hj:j<=1000000000000)=>Cm hW hj s hs);have KD:=xh (λ(W:YB) (F':List Nat) (b:QS) (j:Nat) (hW:PQ W I F' b n j) (y:Int)=>th hW y);have KP:=xh (λ(W:YB) (hq:W.cell? (lc w.heap.size)=some (U2 v)) (i:Nat) (hi:228*i<=v.size)=>TZ v hv hq i hi);have KT:=xh fO;have BH:IntKind.i64.wrap ((m:Int)-1)=(m:Int)-1:=dl
 clear h hR;unfold pp at *;go_in;go_wp2_with fail;go_call (KN.o _) as e w1 ⟨rfl,rfl⟩;go_wp2_with fail
 go_loopw [7,8,9] (λmv nv iv wr=> ∃(j:Nat) (b:QS) (nx:Nat) (made:List Int) (F':List Nat),j<=m/\iv=U5 By ((j:Int)-1)/\nv=U5 By ((nx:Int)-1)/\nx<=512/\made.length=m-j/\aM wr 3 1 mv made.length (dH made)/\Hid (QS.rO v.data.toList j b ((nx:Int)-1) made=R)/\
   Hid (PQ wr I F' b n (K+(m-j))/\ag F w wr/\(∀g∈F',g∈F\/w.heap.size<=g)/\(∀g∈ah mv,w.heap.size<=g/\g∉F')/\aF wr w.heap.size 9 #[U2 v]/\w.heap.size∉F')) (λ_ _ iv _=>(intOf iv+1).toNat)
 case atStart=>exact⟨m,q,0,[],F,ai _,rfl,rfl,by omega,by simp,aM.nil _ _ _,HR,xh ⟨by rw[show K+(m-m)=K by omega];exact HQ.o,.aj O0.o,λg hg=> .inl hg,by simp[ah],B0.o,λhF=>by have:=rC.o _ hF;omega⟩⟩
 case round=>
  obtain⟨j,b,nx,made,F',hj,rfl,rfl,OJ,pX,S,HW,HA⟩:=hrel;obtain⟨VM,vm,rfl⟩:=ax S
  by_cases h0:0<j
  .obtain⟨i,rfl⟩:∃i,j=i+1:=⟨j-1,by omega⟩;have hz:((i+1:Nat):Int)-1=(i:Nat):=by omega
   rw[hz];have q1:=HA.o.2.2.2.2.1.bi 0;have VG:228*i<=v.size:=by omega
   have K1:=xh<|KP.o wr q1 i VG;have vL:(eG v.data.toList i).length<=228:=by unfold eG;rw[bC];omega
   have yW:=HW.o;unfold QS.rO at yW;have hlk:k7 v.data.toList i ((nx:Int)-1)=(((⟨(rL nx).toArray⟩:rd)++⟨(rL (eG v.data.toList i).length).toArray⟩)++⟨(eG v.data.toList i).toArray⟩:rd).data.toList:=by
    unfold k7;rw[show((nx:Int)-1+1).toNat=nx by omega];simp
   rw[hlk]at yW;have hps:(⟨(eG v.data.toList i).toArray⟩:rd).size=(eG v.data.toList i).length:=by show(eG v.data.toList i).toArray.size=_;simp
   have hts:∀x,(⟨(rL x).toArray⟩:rd).size=2:=λx=>rfl;have hss:(((⟨(rL nx).toArray⟩:rd)++⟨(rL (eG v.data.toList i).length).toArray⟩)++⟨(eG v.data.toList i).toArray⟩:rd).size<=232:=by
    rw[AJ,AJ,hts,hts,hps];omega
   have K2:=xh<|KT.o nx (by omega);have K3:=xh<|KT.o (eG v.data.toList i).length (by omega);have K4:=xh (λ(W:YB) (hW:PQ W I F' b n (K+(m-(i+1))))=>KNEW.o W F' b _ hW _ hss (by omega));have u1:IntKind.i64.wrap (nx:Int)=(nx:Int):=dl;have hbd:=X5 b ((((⟨(rL nx).toArray⟩:rd)++⟨(rL (eG v.data.toList i).length).toArray⟩)++⟨(eG v.data.toList i).toArray⟩:rd).data.toList);have t1:=hts nx
   have t2:=hts (eG v.data.toList i).length;generalize (⟨(rL nx).toArray⟩:rd)=T1 at *;generalize (⟨(rL (eG v.data.toList i).length).toArray⟩:rd)=T2 at *;generalize (⟨(eG v.data.toList i).toArray⟩:rd)=PC at *;have z1:¬9223372036854775807<T1.size+T2.size:=by omega
   have z2:¬9223372036854775807<(T1++T2).size+PC.size:=by rw[AJ];omega
   clear hlk hts hss;generalize b.bZ (T1++T2++PC).data.toList=D at *;obtain⟨D1,D2,D3⟩:=D;dsimp only at *;have HS:=xh (show ∀w4 w5 F5,i7 wr w4->PQ w5 I F5 D1 n (K+(m-(i+1))+1)->ag F' w4 w5->(∀g∈F5,g∈F'\/w4.heap.size<=g)->
     PQ w5 I F5 D1 n (K+(m-(i+1))+1)/\ag F w w5/\(∀g∈F5,g∈F\/w.heap.size<=g)/\aM w5 3 1 (U3 VM made.length vm) made.length (dH made)/\(∀g∈ah (U3 VM made.length vm),w.heap.size<=g/\g∉F5)/\aF w5 w.heap.size 9 #[U2 v]/\w.heap.size∉F5 from λw4 w5 F5 hb A5 o5 f5=>by
    obtain⟨a1,a2,a3,a4,a5,a6⟩:=HA.o;have s4:=S.below hb;have b4:=a5.below hb a5.lt;have hw4:w.heap.size<=w4.heap.size:=aq a2.size hb.size
    refine⟨A5,(a2.trans (.aj hb)).aU o5 (λg hg ef=>(a3 g hg).elim id (λh=>by omega)),λg hg=>(f5 g hg).elim (a3 g) (λh=> .inr (by omega)),s4.only o5 (λg hg=>(a4 g hg).2),λg hg=>⟨(a4 g hg).1,λhF=>(f5 g hF).elim (a4 g hg).2 (λh=>by have:=s4.lt g hg;omega)⟩,b4.only o5 a6,λhF=>(f5 _ hF).elim a6 (λh=>by have:=b4.lt;omega)⟩)
   by_cases hd:D3=0
   .subst hd;rw[i8]at yW;obtain⟨d2,rfl⟩:=dZ hbd.1;have HW3:=xh yW;clear yW;go_wp2_with fail;go_call K1.o as e w2 ⟨rfl,rfl⟩;go_wp2_with fail;go_call (K2.o _) as e w3 ⟨rfl,dk⟩;have H3:=xh dk;go_wp2_with fail;go_call (K3.o _) as e w4 ⟨rfl,fo⟩;have H4:=xh<|aC H3.o fo;clear dk fo;go_wp2_with fail;go_call (K4.o _ (HA.o.1.below H4.o)) as e w5 ⟨rfl,F5,A5,o5,f5⟩
    have H5:=xh<|HS.o w4 w5 F5 H4.o A5 o5 f5;clear A5 o5 f5;obtain⟨v',w6,ea,S6,ow,fr⟩:=dG (P:=prog) H5.o.2.2.2.1 60 60 (U5 By 0) 8 underlying60 lQ rfl (d2:Nat) rfl (by unfold it;omega) (by omega);obtain⟨V6,c6,rfl⟩:=ax S6
    have H6:=xh (show aM w6 3 1 (U3 V6 (made.length+1) c6) (made++[(d2:Int)]).length (dH (made++[(d2:Int)]))/\PQ w6 I F5 D1 n (K+(m-i))/\ag F w w6/\(∀g∈F5,g∈F\/w.heap.size<=g)/\(∀g∈ah (U3 V6 (made.length+1) c6),w.heap.size<=g/\g∉F5)/\aF w6 w.heap.size 9 #[U2 v]/\w.heap.size∉F5 from by
     obtain⟨a1,a2,a3,a4,a5,a6,a7⟩:=H5.o;refine⟨by rw[aT,gX];exact S6,(a1.only ow (λg hF hg=>(a5 g hg).2 hF)).le (by omega),a2.aU ow (λg hg ef=>by have:=(a5 g hg).1;omega),a3,λg hg=>?_,a6.only ow (λhg=>dL a4 a6 (by decide) hg),a7⟩
     rcases fr g hg with h|h
     .exact a5 g h
     .exact⟨by have:=a2.size;omega,λhF=>by have:=a1.lt g hF;omega⟩)
    rw[pX]at ea;have EA:=xh ea;clear ea S6 ow fr;go_wp2_with fail;rw[EA.o];go_wp2_with fail;go_roundw
    case rel=>exact⟨i,D1,d2+1,made++[(d2:Int)],F5,by omega,by go_num,by simp,by omega,by rw[aT,pX,vx];omega,by have:=H6.o.1;rw[pX]at this;exact this,by rw[show((d2+1:Nat):Int)-1=(d2:Nat) by omega];exact HW3,xh ⟨H6.o.2.1,H6.o.2.2.1,H6.o.2.2.2.1,by have:=H6.o.2.2.2.2.1;rw[pX]at this;exact this,H6.o.2.2.2.2.2.1,H6.o.2.2.2.2.2.2⟩⟩
    case measure=>simp[intOf]<;>omega
   .rw[if_pos hd]at yW;subst yW;have hq:(D3 != 0)=true:=ls hd
    have my:(D3==0)=false:=i4 hd
    go_wp2_with fail;go_call K1.o as e w2 ⟨rfl,rfl⟩;go_wp2_with fail;go_call (K2.o _) as e w3 ⟨rfl,dk⟩;have H3:=xh dk;go_wp2_with fail;go_call (K3.o _) as e w4 ⟨rfl,fo⟩;have H4:=xh<|aC H3.o fo;clear dk fo;go_wp2_with fail;go_call (K4.o _ (HA.o.1.below H4.o)) as e w5 ⟨rfl,F5,A5,o5,f5⟩;have H5:=xh<|HS.o w4 w5 F5 H4.o A5 o5 f5;clear A5 o5 f5;have hml2:(made.length:Int)<=5:=by omega
    have HM:=xh pX;rw[<-pX];clear pX;go_wp2_with fail
    go_loopw [52] (λtv wq=> ∃(t:Nat) (b':QS),t<=made.length/\tv=U5 By t/\Hid (b'.ni (made.drop t)=D1.ni made)/\Hid (PQ wq I F5 b' n (K+(m-(i+1))+1)/\ag F w wq/\aM wq 3 1 (U3 VM made.length vm) made.length (dH made))) (λtv _=>made.length-(intOf tv).toNat)
    case atStart=>exact⟨0,D1,aW _,rfl,xh rfl,xh ⟨H5.o.1,H5.o.2.1,H5.o.2.2.2.1⟩⟩
    case round=>
     obtain⟨t,b',ht,rfl,HT,HB⟩:=hrel
     by_cases ef:t<made.length
     .obtain⟨x,hx⟩:∃x,made[t]?=some x:=⟨made[t],aH ef⟩;have Km:made.drop t=x::made.drop (t+1):=by
       rw[rh ef]
       congr 1
       rw[aH ef]at hx;injection hx
      obtain⟨g,cp,rest,VC,BB,_⟩:∃g cp rest,(Value.slice VM made.length vm)=U3 (lc g) made.length cp/\aF wr g 3 (dH made++rest).toArray/\True:=by
       rcases HB.o.2.2.2 with⟨h1,h2⟩|⟨g,cap,rest,h1,h2,_⟩
       .omega
       .exact⟨g,cap,rest,h1,h2,trivial⟩
      injection VC with e1 e2 e3
      subst e1 e3;have cx:wr.cell? ⟨g,t,none⟩=some (x:li):=BB.ab (by
       rw[cN,bE (by simpa using ef)];simp[dH,hx])
      have HT2:=HT.o;rw[Km,QS.qB]at HT2;have HT3:=xh HT2;have K6:=xh<|KD.o wr F5 b' _ HB.o.1 x;have htI:(t:Int)<(made.length:Int):=by omega
      clear BB hx Km HT2;go_wp2_with fail;go_call K6.o as e w7 ⟨rfl,A7,o7⟩;have H7:=g9 (PQ w7 I F5 (b'.aV x).1 n (K+(m-(i+1))+1)/\ag F w w7/\aM w7 3 1 (U3 (lc g) made.length vm) made.length (dH made)) ⟨A7,HB.o.2.1.aU o7 (λg hg ef=>(H5.o.2.2.1 g hg).elim id (λh=>by omega)),HB.o.2.2.only o7 (λg' hg=>(H5.o.2.2.2.2.1 g' hg).2)⟩;clear A7 o7 cx;go_wp2_with fail;go_roundw
      case rel=>exact⟨t+1,(b'.aV x).1,by omega,by go_num,HT3,H7⟩
      case measure=>simp[intOf];omega
     .have HT2:=HT.o;rw[lJ (by omega)]at HT2;have HT2:b'=D1.ni made:=HT2;subst HT2;obtain rfl:t=made.length:=by omega
      go_wp2;go_ret2;exact aI ⟨F5,HB.o.1.le (by omega),HB.o.2.1,H5.o.2.2.1⟩
  .obtain rfl:j=0:=by omega
   have yW:=HW.o;unfold QS.rO at yW;subst yW;go_wp2;go_ret2;exact aI ⟨F',HA.o.1.le (by omega),HA.o.2.1,HA.o.2.2.1⟩
end Sh
namespace Sl
open Go.RowKit
def fD(n:Nat):pu:=[gn (n / 256),gn n]
def cd(b:pu)(k:Nat):Nat:=(b.getD k 0).toNat*256+(b.getD (k+1) 0).toNat
abbrev Slot:=Nat×Nat
def slot(b:pu)(i:Nat):Slot:=(cd b (4+4*i),cd b (6+4*i))
def bU(b:pu):List Slot:=(List.range (cd b 0)).map (slot b)
def apart(x y:Slot):Bool:=decide (x.2=0) || (decide (y.2=0) || (decide (x.1+x.2<=y.1) || decide (y.1+y.2<=x.1)))
structure Fit(heap:Nat)(l:List Slot):Prop where
 qW:∀x∈l,heap<=x.1/\x.1+x.2<=232
 apart:l.Pairwise λx y=>Sl.apart x y=true
structure Sound(b:pu):Prop where
 len:b.length=232
 heap:cd b 2<=232
 head:4+4*cd b 0<=cd b 2
 fit:Fit (cd b 2) (bU b)
def xX(l:List Slot):Nat:=(l.map Prod.snd).sum
def mN(b:pu)(x:Slot):pu:=(b.drop x.1).take x.2
def dn(b:pu):List (pu):=(bU b).map (mN b)
theorem Ct(b:pu)(k:Nat):cd b k<65536:=by
 have h1:=(b.getD k 0).toNat_lt;have h2:=(b.getD (k+1) 0).toNat_lt;unfold cd;omega
theorem dj(b:pu):(bU b).length=cd b 0:=by simp[bU]
theorem Fw(b:pu)(i:Nat)(h:i<cd b 0):(bU b)[i]?=some (slot b i):=by simp[bU,h]
theorem qC(x y:Slot):apart x y=apart y x:=by
 unfold apart
 cases h1:decide (x.2=0)<;>cases h2:decide (y.2=0)<;>cases h3:decide (x.1+x.2<=y.1)<;>cases h4:decide (y.1+y.2<=x.1)<;>rfl
theorem tt(x y:Slot):apart x y=true↔x.2=0\/y.2=0\/x.1+x.2<=y.1\/y.1+y.2<=x.1:=by simp[apart]
theorem X7(x y:Slot):apart x y=false↔ ∃k,(x.1<=k/\k<x.1+x.2)/\(y.1<=k/\k<y.1+y.2):=by
 constructor
 .intro h;have:¬(x.2=0\/y.2=0\/x.1+x.2<=y.1\/y.1+y.2<=x.1):=by rw[<-tt];simp[h]
  refine⟨max x.1 y.1,⟨by omega,by omega⟩,⟨by omega,by omega⟩⟩
 .rintro⟨k,h1,h2⟩
  cases h:apart x y
  .rfl
  .rw[tt]at h;omega
def Cu(l:List Slot)(x:Slot):Bool:=l.all λy=>apart x y
def X8(heap:Nat):List Slot->List Slot->Bool
 |_,[]=>true
 |p,x::l=>decide (heap<=x.1) && (decide (x.1+x.2<=232) && (Cu p x && X8 heap (p++[x]) l))
def Pq(b:pu):Bool:=decide (b.length=232) && (decide (cd b 2<=232) && (decide (4+4*cd b 0<=cd b 2) && X8 (cd b 2) [] (bU b)))
theorem Fit.snoc{heap:Nat}{p:List Slot}{x:Slot}:Fit heap (p++[x])↔Fit heap p/\(heap<=x.1/\x.1+x.2<=232)/\∀y∈p,Sl.apart x y=true:=by
 constructor
 .rintro⟨h1,h2⟩;rw[eB]at h2;exact⟨⟨λy hy=>h1 y (by simp[hy]),h2.1⟩,h1 x (by simp),λy hy=>by rw[qC];exact h2.2.2 y hy x (by simp)⟩
 .rintro⟨⟨h1,h2⟩,h3,h4⟩;refine⟨λy hy=>?_,?_⟩
  .rcases ay.1 hy with h|h
   .exact h1 y h
   .simp at h;subst h;exact h3
  .rw[eB];exact⟨h2,by simp,λy hy z hz=>by simp at hz;subst hz;rw[qC];exact h4 y hy⟩
theorem Fit.nil(heap:Nat):Fit heap []:=⟨λx h=>by simp at h,by simp⟩
theorem X9(heap:Nat)(l:List Slot):∀p:List Slot,Fit heap p->(X8 heap p l=true↔Fit heap (p++l)):=by
 induction l with
 |nil=>intro p h;simp[X8,h]
 |cons x l ih=>
  intro p h;have key:(heap<=x.1/\x.1+x.2<=232/\Cu p x=true)↔Fit heap (p++[x]):=by
   rw[Fit.snoc];simp only[Cu,oN];exact⟨λ⟨h1,h2,h3⟩=>⟨h,⟨h1,h2⟩,h3⟩,λ⟨_,⟨h1,h2⟩,h3⟩=>⟨h1,h2,h3⟩⟩
  simp only[X8,iG,decide_eq_true_eq]
  constructor
  .rintro⟨h1,h2,h3,h4⟩;have hf:=key.1 ⟨h1,h2,h3⟩;have:=(ih _ hf).1 h4;simpa using this
  .intro hf;have hp:Fit heap (p++[x]):=by
    refine⟨λy hy=>hf.qW y (by simp at hy ⊢;rcases hy with h|h<;>simp[h]),?_⟩;have:=hf.apart;rw[show p++x::l=(p++[x])++l by simp,eB]at this;exact this.1
   obtain⟨h1,h2,h3⟩:=key.2 hp;exact⟨h1,h2,h3,(ih _ hp).2 (by simpa using hf)⟩
theorem uQ(b:pu):Pq b=true↔Sound b:=by
 have h:=X9 (cd b 2) (bU b) [] (Fit.nil _);rw[cQ]at h;simp only[Pq,iG,decide_eq_true_eq,h];exact⟨λ⟨h1,h2,h3,h4⟩=>⟨h1,h2,h3,h4⟩,λh=>⟨h.len,h.heap,h.head,h.fit⟩⟩
def cC(b:pu):Int:=if b.length=232 then(if Pq b then 0 else 14)else 6
theorem fP(b:pu):cC b=0↔Sound b:=by
 rw[<-uQ];unfold cC
 constructor
 .intro h
  split at h
  .split at h
   .assumption
   .cases h
  .cases h
 .intro h;have:=((uQ b).1 h).len;rw[if_pos this,if_pos h]
def jf(b:pu):Int:=228-((((bU b).map λx=>4+x.2).sum:Nat):Int)
def cover(l:List Slot)(k:Nat):Bool:=l.any λx=>decide (x.1<=k) && decide (k<x.1+x.2)
theorem count_range(a n m:Nat)(h:a+n<=m):((List.range m).countP λk=>decide (a<=k) && decide (k<a+n))=n:=by
 induction m generalizing n with
 |zero=>
  have:n=0:=by omega
  subst this;simp
 |succ m ih=>
  rw[GZ,ur]
  rcases fC (a+n) (m+1)with h1|h1
  .rw[ih n (by omega)];simp;omega
  .obtain rfl|hn:n=0\/0<n:=zY n
   .have:(List.range m).countP (λk=>decide (a<=k) && decide (k<a+0))=0:=by
     rw[M8];intro k _;simp<;>omega
    rw[this];simp<;>omega
   .have e:(List.range m).countP (λk=>decide (a<=k) && decide (k<a+n))=(List.range m).countP (λk=>decide (a<=k) && decide (k<a+(n-1))):=by
     apply uu;intro k hk;have:=l7.1 hk;simp;omega
    rw[e,ih (n-1) (by omega)];simp;have:a<=m/\m<a+n:=by omega
    simp[this];omega
theorem Kn(l:List Slot)(heap:Nat)(h:Fit heap l):(List.range 232).countP (cover l)=xX l:=by
 induction l with
 |nil=>simp[cover,xX]
 |cons x l ih=>
  have hx:=h.qW x (by simp);have hp:=eC.1 h.apart;have ht:Fit heap l:=⟨λy hy=>h.qW y (by simp[hy]),hp.2⟩;have e:(List.range 232).countP (cover (x::l))=(List.range 232).countP (λk=>decide (x.1<=k) && decide (k<x.1+x.2))+(List.range 232).countP (cover l):=by
   generalize List.range 232=r
   induction r with
   |nil=>rfl
   |cons k r ihr=>
    simp only[List.countP_cons,ihr];have hdis:¬((x.1<=k/\k<x.1+x.2)/\cover l k=true):=by
     rintro⟨h1,h2⟩;simp only[cover,List.any_eq_true,iG,decide_eq_true_eq]at h2;obtain⟨y,hy,h3⟩:=h2;have hn:=(X7 x y).2 ⟨k,h1,h3⟩;rw[hp.1 y hy]at hn;cases hn
    have ec:cover (x::l) k=((decide (x.1<=k) && decide (k<x.1+x.2)) || cover l k):=rfl;rw[ec]
    cases h1:(decide (x.1<=k) && decide (k<x.1+x.2))<;>cases h2:cover l k
    .simp
    .simp;omega
    .simp;omega
    .exfalso;apply hdis;simp at h1;exact⟨h1,h2⟩
  rw[e,count_range _ _ _ hx.2,ih ht];simp[xX]
theorem Fx(l:List Slot)(heap:Nat)(h:Fit heap l)(hh:heap<=232):xX l<=232-heap:=by
 rw[<-Kn l heap h];have e:(List.range 232).countP (cover l)<=(List.range 232).countP (λk=>decide (heap<=k) && decide (k<heap+(232-heap))):=by
  apply List.countP_mono_left;intro k hk hc;simp only[cover,List.any_eq_true,iG,decide_eq_true_eq]at hc;obtain⟨y,hy,h3⟩:=hc;have:=h.qW y hy;have:=l7.1 hk;simp;omega
 have:=count_range heap (232-heap) 232 (by omega);omega
variable{F c b:pu}{o:Nat}
def lay(F:pu)(o:Nat)(c:pu):pu:=F.take o++c++F.drop (o+c.length)
theorem jl(h:o+c.length<=F.length):(lay F o c).length=F.length:=by
 simp[lay];omega
theorem vM(F:pu)(o:Nat)(c:pu):putAt (dR F) o (dR c)=dR (lay F o c):=by
 simp[putAt,lay,dR]
theorem qv(h:o+c.length<=F.length)(j:Nat):(lay F o c)[j]?=if o<=j/\j<o+c.length then c[j-o]? else F[j]?:=by
 unfold lay
 by_cases h1:j<o
 .rw[gc,cK,bE (by simp;omega),rl h1]
 .have e:(F.take o).length=o:=by simp;omega
  by_cases h2:j<o+c.length
  .rw[if_pos ⟨by omega,h2⟩,cK,dQ (by omega),e,bE (by omega)]
  .rw[gc,dQ (by simp;omega),iK]
   congr 1
   simp;omega
def nW(b:pu)(k n:Nat):pu:=(b.set k (gn (n / 256))).set (k+1) (gn n)
theorem fq(b:pu)(k n:Nat):(nW b k n).length=b.length:=by simp[nW]
theorem pC(b:pu)(k n j:Nat)(h:j<k\/k+1<j):(nW b k n)[j]?=b[j]?:=by
 unfold nW;rw[iu (by omega),iu (by omega)]
theorem at2_eq{k:Nat}(h0:b[k]?=c[k]?)(h1:b[k+1]?=c[k+1]?):cd b k=cd c k:=by
 simp only[cd,List.getD,h0,h1]
theorem fK(b:pu)(k n j:Nat)(h:j+1<k\/k+1<j):cd (nW b k n) j=cd b j:=
 at2_eq (pC b k n j (by omega)) (pC b k n (j+1) (by omega))
theorem wu(b:pu)(k n:Nat)(h:k+1<b.length)(hn:n<65536):cd (nW b k n) k=n:=by
 have e0:(nW b k n)[k]?=some (gn (n / 256)):=by
  unfold nW;rw[iu (by omega),eu (by omega)]
 have e1:(nW b k n)[k+1]?=some (gn n):=by
  unfold nW;rw[eu (by simpa using h)]
 simp only[cd,List.getD,e0,e1,jB,il];omega
def iM(b:pu)(l:List Slot)(heap:Nat):Nat->pu
 |0=>nW (nW b 0 l.length) 2 heap
 |i+1=>nW (nW (iM b l heap i) (4+4*i) (l.getD i (0,0)).1) (6+4*i) (l.getD i (0,0)).2
def lH(b:pu)(l:List Slot)(heap:Nat):pu:=iM b l heap l.length
theorem mi(b:pu)(l:List Slot)(heap:Nat):∀i,(iM b l heap i).length=b.length
 |0=>by simp[iM,fq]
 |i+1=>by rw[iM,fq,fq];exact mi b l heap i
theorem Cv(b:pu)(l:List Slot)(heap:Nat)(j:Nat):∀i,4+4*i<=j->(iM b l heap i)[j]?=b[j]?
 |0,h=>by rw[iM,pC _ _ _ _ (by omega),pC _ _ _ _ (by omega)]
 |i+1,h=>by rw[iM,pC _ _ _ _ (by omega),pC _ _ _ _ (by omega)];exact Cv b l heap j i (by omega)
theorem tu(b:pu)(l:List Slot)(heap:Nat)(hb:b.length=232)(hh:heap<65536)(hl:l.length<65536)(hx:∀x∈l,x.1<65536/\x.2<65536):
  ∀i,i<=l.length->4+4*i<=232->cd (iM b l heap i) 0=l.length/\cd (iM b l heap i) 2=heap/\∀k,k<i->slot (iM b l heap i) k=l.getD k (0,0)
 |0,_,_=>by
  rw[iM];refine⟨?_,?_,λk hk=>absurd hk (by omega)⟩
  .rw[fK _ _ _ _ (by omega),wu _ _ _ (by omega) hl]
  .rw[wu _ _ _ (by rw[fq];omega) hh]
 |i+1,hi,h4=>by
  obtain⟨h0,h2,hs⟩:=tu b l heap hb hh hl hx i (by omega) (by omega);have hlen:=mi b l heap i;rw[iM];refine⟨?_,?_,λk hk=>?_⟩
  .rw[fK _ _ _ _ (by omega),fK _ _ _ _ (by omega)];exact h0
  .rw[fK _ _ _ _ (by omega),fK _ _ _ _ (by omega)];exact h2
  .unfold slot
   by_cases e:k=i
   .subst e;have hm:l.getD k (0,0)∈l:=by
     rw[List.getD,aH (by omega)];exact jS _
    have:=hx _ hm;rw[fK _ _ _ _ (by omega),wu _ _ _ (by omega) this.1,wu _ _ _ (by rw[fq];omega) this.2]
   .rw[fK _ _ _ _ (by omega),fK _ _ _ _ (by omega),fK _ _ _ _ (by omega),fK _ _ _ _ (by omega)];exact hs k (by omega)
section
variable{b:pu}{l:List Slot}{heap:Nat}
structure Laid(b:pu)(l:List Slot)(heap:Nat):Prop where
 len:b.length=232
 hh:heap<=232
 head:4+4*l.length<=heap
 fit:Fit heap l
theorem Laid.small(h:Laid b l heap):∀x∈l,x.1<65536/\x.2<65536:=λx hx=>by
 have:=(h.fit.qW x hx).2;omega
theorem Laid.n0(h:Laid b l heap):cd (lH b l heap) 0=l.length:=(tu b l heap h.len (by have:=h.hh;omega) (by have:=h.head;have:=h.hh;omega) h.small l.length (ai _) (by have:=h.head;have:=h.hh;omega)).1
theorem Laid.n2(h:Laid b l heap):cd (lH b l heap) 2=heap:=(tu b l heap h.len (by have:=h.hh;omega) (by have:=h.head;have:=h.hh;omega) h.small l.length (ai _) (by have:=h.head;have:=h.hh;omega)).2.1
theorem Laid.sl(h:Laid b l heap):bU (lH b l heap)=l:=by
 have hs:=(tu b l heap h.len (by have:=h.hh;omega) (by have:=h.head;have:=h.hh;omega) h.small l.length (ai _) (by have:=h.head;have:=h.hh;omega)).2.2;apply xq
 .rw[dj,h.n0]
 .intro i h1 h2;have:(bU (lH b l heap))[i]=slot (lH b l heap) i:=by simp[bU]
  rw[this,show slot (lH b l heap) i=l.getD i (0,0)from hs i h2];simp[List.getD,aH h2]
theorem Laid.length(h:Laid b l heap):(lH b l heap).length=232:=(mi b l heap l.length).trans h.len
theorem Laid.sound(h:Laid b l heap):Sound (lH b l heap):=
 ⟨h.length,by rw[h.n2];exact h.hh,by rw[h.n2,h.n0];exact h.head,by rw[h.n2,h.sl];exact h.fit⟩
theorem Laid.rc(h:Laid b l heap):∀x∈l,mN (lH b l heap) x=mN b x:=by
 intro x hx;have h1:=(h.fit.qW x hx).1;unfold mN
 congr 1
 apply nM;intro j;rw[iK,iK];exact Cv b l heap _ _ (by have:=h.head;omega)
theorem Laid.rcs(h:Laid b l heap):dn (lH b l heap)=l.map (mN b):=by
 unfold dn;rw[h.sl];exact fW h.rc
theorem Ko(h:o+c.length<=F.length)(x:Slot)(hx:x.1+x.2<=o\/o+c.length<=x.1):mN (lay F o c) x=mN F x:=by
 unfold mN;apply nM;intro j
 by_cases hj:j<x.2
 .rw[rl hj,rl hj,iK,iK,qv h,gc]
 .rw[gH (by simp;omega),gH (by simp;omega)]
theorem Fy(h:o+c.length<=F.length):mN (lay F o c) (o,c.length)=c:=by
 unfold mN;apply nM;intro j
 by_cases hj:j<c.length
 .rw[rl hj,iK,qv h,if_pos ⟨by omega,by omega⟩]
  congr 1;omega
 .rw[gH (by simp;omega),gH (by omega)]
end
structure ub where
 o:pu
 ts:List Slot
 heap:Nat
def Fz:ub:=⟨fd 232 0,[],232⟩
def ub.add(c:ub)(r:pu):ub:=⟨lay c.o (c.heap-r.length) r,c.ts++[(c.heap-r.length,r.length)],c.heap-r.length⟩
def ug(l:List (pu)):ub:=l.foldl ub.add Fz
structure ub.Ok(c:ub)(l:List (pu)):Prop where
 len:c.o.length=232
 heap:c.heap+(l.map List.length).sum=232
 fit:Fit c.heap c.ts
 dn:c.ts.map (mN c.o)=l
theorem Ya:Fz.Ok []:=⟨eR,rfl,Fit.nil _,rfl⟩
theorem Fit.mono{heap heap':Nat}{l:List Slot}(h:Fit heap l)(hh:heap'<=heap):Fit heap' l:=⟨λx hx=>⟨aq hh (h.qW x hx).1,(h.qW x hx).2⟩,h.apart⟩
theorem ub.Ok.add{c:ub}{l:List (pu)}(h:c.Ok l)(r:pu)(hr:r.length<=c.heap):(c.add r).Ok (l++[r]):=by
 have h1:=h.heap;have h2:=h.len;refine⟨by show(lay _ _ _).length=232;rw[jl (by omega)];exact h.len,by show c.heap-r.length+_=232;simp;omega,?_,?_⟩
 .show Fit (c.heap-r.length) (c.ts++[(c.heap-r.length,r.length)]);rw[Fit.snoc];refine⟨h.fit.mono (Nat.sub_le _ _),⟨ai _,by show c.heap-r.length+r.length<=232;omega⟩,λy hy=>?_⟩;have:=(h.fit.qW y hy).1;rw[tt];exact .inr (.inr (.inl (by show c.heap-r.length+r.length<=y.1;omega)))
 .show(c.ts++[(c.heap-r.length,r.length)]).map (mN (lay c.o (c.heap-r.length) r))=l++[r];rw[cX,<-h.dn]
  congr 1
  .apply fW;intro y hy;have:=(h.fit.qW y hy).1;exact Ko (by omega) y (.inr (by omega))
  .simp only[fA,oE];rw[Fy (by omega)]
theorem Cw(l:List (pu))(h:(l.map List.length).sum<=232):(ug l).Ok l:=by
 have key:∀(l m:List (pu)) (c:ub),c.Ok m->((m++l).map List.length).sum<=232->(l.foldl ub.add c).Ok (m++l):=by
  intro l
  induction l with
  |nil=>intro m c h _;simpa using h
  |cons r l ih=>
   intro m c h hs;have h1:=h.heap;have:=ih (m++[r]) (c.add r) (h.add r (by simp at hs h1;omega)) (by simpa using hs);simpa using this
 have:=key l [] Fz Ya (by simpa using h);rw[cQ]at this;exact this
def iB(b:pu):pu:=lH (ug (dn b)).o (ug (dn b)).ts (ug (dn b)).heap
theorem yX{x:Slot}(h:x.1+x.2<=b.length):(mN b x).length=x.2:=by
 simp[mN];omega
theorem Sound.lens(h:Sound b):((dn b).map List.length)=(bU b).map Prod.snd:=by
 unfold dn;rw[gR];apply fW;intro x hx;exact yX (by rw[h.len];exact(h.fit.qW x hx).2)
theorem Sound.sum(h:Sound b):((dn b).map List.length).sum<=232-cd b 2:=by
 rw[h.lens];exact Fx _ _ h.fit h.heap
theorem ub.Ok.Yb{c:ub}{l:List (pu)}(h:c.Ok l):c.ts.length=l.length:=by rw[<-h.dn,bM]
theorem dV(b:pu):(dn b).length=cd b 0:=by simp[dn,dj]
theorem Sound.comp(h:Sound b):Laid (ug (dn b)).o (ug (dn b)).ts (ug (dn b)).heap:=by
 have hs:=h.sum;have hh:=h.heap;have h4:=h.head;have hc:=Cw (dn b) (by omega);have h1:=hc.heap;have h2:=hc.Yb;rw[dV]at h2;exact⟨hc.len,by omega,by omega,hc.fit⟩
theorem Sound.compact(h:Sound b):Sound (iB b)/\dn (iB b)=dn b/\cd (iB b) 2+((dn b).map List.length).sum=232/\bU (iB b)=(ug (dn b)).ts:=by
 have hs:=h.sum;have hh:=h.heap;have hc:=Cw (dn b) (by omega);have L:=h.comp;exact⟨L.sound,L.rcs.trans hc.dn,by unfold iB;rw[L.n2];exact hc.heap,L.sl⟩
theorem Cx(h:Sound b):jf b=228-4*(cd b 0:Int)-(((dn b).map List.length).sum:Nat):=by
 rw[h.lens];have e:∀l:List Slot,(l.map λx=>4+x.2).sum=4*l.length+(l.map Prod.snd).sum:=by
  intro l
  induction l with
  |nil=>rfl
  |cons x l ih=>simp only[fA,l8,ih,fT];omega
 unfold jf;rw[e,dj];omega
def jZ(l:List (pu)):Int:=228-((l.map λr=>4+r.length).sum:Nat)
theorem Ri(h:Sound b):jf b=jZ (dn b):=by
 rw[Cx h];have e:∀l:List (pu),(l.map λr=>4+r.length).sum=4*l.length+(l.map List.length).sum:=by
  intro l
  induction l with
  |nil=>rfl
  |cons x l ih=>simp only[fA,l8,ih,fT];omega
 unfold jZ;rw[e,dV];omega
def kH(b r:pu):pu:=if 4+4*(cd b 0+1)+r.length>cd b 2 then iB b else b
def uR(b:pu)(i:Nat)(r:pu):pu:=
 lH (lay (kH b r) (cd (kH b r) 2-r.length) r) ((bU (kH b r)).take i++(cd (kH b r) 2-r.length,r.length)::(bU (kH b r)).drop i) (cd (kH b r) 2-r.length)
theorem Sound.base(h:Sound b)(r:pu)(hr:(r.length:Int)<=jf b-4):Sound (kH b r)/\dn (kH b r)=dn b/\cd (kH b r) 0=cd b 0/\4+4*(cd b 0+1)+r.length<=cd (kH b r) 2:=by
 unfold kH
 split
 .obtain⟨h1,h2,h3,_⟩:=h.compact;have e0:cd (iB b) 0=cd b 0:=by rw[<-dV,<-dV,h2]
  rw[Cx h]at hr;exact⟨h1,h2,e0,by omega⟩
 .exact⟨h,rfl,rfl,by omega⟩
theorem Laid.insert(h:Sound b)(i:Nat)(r:pu)(hr:4+4*(cd b 0+1)+r.length<=cd b 2)(hi:i<=cd b 0):
  Laid (lay b (cd b 2-r.length) r) ((bU b).take i++(cd b 2-r.length,r.length)::(bU b).drop i) (cd b 2-r.length):=by
 have h1:=h.heap;have h2:=h.len;have hl:=dj b;refine⟨by rw[jl (by omega)];exact h2,by omega,by simp[hl];omega,?_,?_⟩
 .intro x hx;have hx:x∈(bU b).take i\/x=(cd b 2-r.length,r.length)\/x∈(bU b).drop i:=by simpa using hx
  rcases hx with hx|rfl|hx
  .have:=h.fit.qW x (gv hx);omega
  .exact⟨ai _,by show cd b 2-r.length+r.length<=232;omega⟩
  .have:=h.fit.qW x (qa hx);omega
 .have hp:=h.fit.apart;rw[<-m7 i (bU b),eB]at hp;rw[eB,eC];have hz:∀y∈bU b,apart (cd b 2-r.length,r.length) y=true:=by
   intro y hy;have:=(h.fit.qW y hy).1;rw[tt];exact .inr (.inr (.inl (by show cd b 2-r.length+r.length<=y.1;omega)))
  refine⟨hp.1,⟨λy hy=>hz y (qa hy),hp.2.1⟩,λx hx y hy=>?_⟩
  rcases ar.1 hy with rfl|hy
  .rw[qC];exact hz x (gv hx)
  .exact hp.2.2 x hx y hy
theorem Sound.insert(h:Sound b)(i:Nat)(r:pu)(hr:(r.length:Int)<=jf b-4)(hi:i<=cd b 0):
  Sound (uR b i r)/\dn (uR b i r)=(dn b).take i++r::(dn b).drop i:=by
 obtain⟨hs,he,h0,hh⟩:=h.base r hr;rw[<-h0]at hi hh;have L:=Laid.insert hs i r hh hi;refine⟨L.sound,?_⟩;have h2:=hs.len;have h3:=hs.heap;have key:∀x∈bU (kH b r),mN (lay (kH b r) (cd (kH b r) 2-r.length) r) x=mN (kH b r) x:=by
  intro x hx;have:=(hs.fit.qW x hx).1;exact Ko (by omega) x (.inr (by omega))
 unfold uR;rw[L.rcs,cX,fA,Fy (by omega),<-he];unfold dn;rw[fW (λx hx=>key x (gv hx)),fW (λx hx=>key x (qa hx)),l6,List.map_drop]
def mO:pu:=nW (fd 232 0) 2 232
theorem rP:Sound mO/\dn mO=[]/\cd mO 0=0/\cd mO 2=232:=by
 have e0:cd mO 0=0:=by decide
 have e2:cd mO 2=232:=by decide
 have es:bU mO=[]:=by unfold bU;rw[e0];rfl
 exact⟨⟨by unfold mO;rw[fq,eR],by omega,by omega,by rw[es];exact Fit.nil _⟩,by unfold dn;rw[es];rfl,e0,e2⟩
theorem or8(a b:Nat)(ha:a<256)(hb:b<256):bits .or By ((a:Int)*256) (b:Int)=((a*256+b:Nat):Int):=by
 rw[bits_join By 32 (by decide) (λn h0 h1=>IntWalk.i64_in n (by omega)) 8 _ _ (by omega) (by omega) (by omega) (by omega) (by omega) (by omega)];omega
theorem eo(s:rd)(k:Nat)(h:k<s.size):s.data.toList.getD k 0=s[k]:=by
 have:k<s.data.toList.length:=by simpa using h
 simp[List.getD,aH this];rfl
theorem fO(s:rd)(i:Int)(w:YB)(h0:0<=i)(h:i+1<s.size)(hs:s.size<=1000000):
  eq prog 210 #[U2 s,i] w λe w'=>e=BY (cd s.data.toList i.toNat:Nat)/\i7 w w':=by
 obtain⟨k,rfl⟩:=dZ h0;rw[iJ];have hk:k<s.size:=by omega
 have h:k+1<s.size:=by omega
 have b0:=s[k].toNat_lt;have b1:=s[k+1].toNat_lt;have HV:=xh (show bits .or By ((s[k].toNat:Int)*256) (s[k+1].toNat:Int)=((cd s.data.toList k:Nat):Int)from by
  rw[or8 _ _ (by omega) (by omega)];unfold cd;rw[eo _ _ hk,eo _ _ h])
 have e1:IntKind.i64.wrap ((k:Int)+1)=(k:Int)+1:=dl;have e2:(0:Int)<=(k:Int)+1:=by omega
 have e3:((k:Int)+1).toNat=k+1:=by omega
 have e7:(k:Int)+1<(s.size:Int):=by omega
 have e8:(k:Int)<(s.size:Int):=by omega
 have e4:IntKind.i64.wrap (s[k].toNat:Int)=(s[k].toNat:Int):=dl;have e5:IntKind.i64.wrap ((s[k].toNat:Int)*256)=(s[k].toNat:Int)*256:=dl;have e6:IntKind.i64.wrap (s[k+1].toNat:Int)=(s[k+1].toNat:Int):=dl;go_in
 go_wp2
 go_quiet (fail);rw[HV.o]
 go_wp2
 go_ret;exact⟨rfl,de (Below.refl _ _) _⟩
def sc(l:List Slot):List YO:=l.flatMap λx=>[U5 By (x.1:Int),U5 By (x.2:Int)]
theorem kI(l:List Slot):(sc l).length=2*l.length:=by
 induction l with
 |nil=>rfl
 |cons x l ih=>simp only[sc,im]at ih ⊢;simp[ih];omega
theorem pD(l m:List Slot):sc (l++m)=sc l++sc m:=by simp[sc]
theorem Yc(l:List Slot)(i:Nat)(hi:i<l.length):(sc l)[i*2]?=some ((l[i].1:Int):li)/\(sc l)[i*2+1]?=some ((l[i].2:Int):li):=by
 induction l generalizing i with
 |nil=>simp at hi
 |cons x l ih=>
  have e:sc (x::l)=U5 By (x.1:Int)::U5 By (x.2:Int)::sc l:=rfl;rw[e]
  cases i with
  |zero=>exact⟨rfl,rfl⟩
  |succ i=>
   have:=ih i (by simpa using hi);rw[show(i+1)*2=i*2+1+1 by omega,show i*2+1+1+1=(i*2+1)+1+1 by omega];simpa using this
theorem Yd(l:List Slot):∀v∈sc l,v.oneCell'=true:=by
 intro v hv;simp only[sc,mZ]at hv;obtain⟨x,_,h⟩:=hv;simp at h
 rcases h with rfl|rfl<;>rfl
theorem xY:(prog.info? 271).map (λi=>(i.zero,i.size,i.bytes))=some (some (.agg #[U5 By 0,U5 By 0]),2,16):=by kernel_rfl
theorem uS(b:pu)(k:Nat)(h:k<cd b 0):(bU b).take (k+1)=(bU b).take k++[slot b k]:=by
 rw[ik (by rw[dj];exact h)];simp[bU]
attribute [local go_sem ↓] bA
theorem kW(s:rd)(w:YB)(h4:4+4*cd s.data.toList 0<=s.size)(hs:s.size<=1000000):
  eq prog 208 #[U2 s] w λe w'=> ∃v,e=BY v/\aM w' 271 2 v (cd s.data.toList 0) (sc (bU s.data.toList))/\i7 w w'/\(∀g∈ah v,w.heap.size<=g):=by
 have hn:=Ct s.data.toList 0;have HL:=xh<|dj s.data.toList;go_in;go_wp2_with fail;go_call (fO s 0 _ (by omega) (by omega) hs) as e w1 ⟨rfl,aO⟩;rw[show(0:Int).toNat=0 from rfl];have HS:=g9 (∀k,k<cd s.data.toList 0->(bU s.data.toList).take (k+1)=(bU s.data.toList).take k++[slot s.data.toList k]) (λk hk=>uS _ k hk)
 have HE:=xh (show(bU s.data.toList).take (cd s.data.toList 0)=bU s.data.toList from cm (by rw[dj];exact ai _));have HSl:=g9 (∀k,slot s.data.toList k=(cd s.data.toList (4+4*k),cd s.data.toList (6+4*k))) (λk=>rfl);generalize hgn:cd s.data.toList 0=n at *;have HN:=xh hgn;clear hgn;go_wp2_with fail
 go_loopw [3,4,5,8] (λv _ _ i wr=> ∃k:Nat,k<=n/\i=U5 By k/\aM wr 271 2 v k (sc ((bU s.data.toList).take k))/\i7 w wr/\Hid (∀g∈ah v,w.heap.size<=g)) (λ_ _ _ i _=>n-(intOf i).toNat)
 case atStart=>exact⟨0,aW _,rfl,by rw[jA];exact aM.nil _ _ _,aO,xh (by simp[ah])⟩
 case round=>
  obtain⟨k,hk,rfl,S,O,F⟩:=hrel;obtain⟨A,c,rfl⟩:=ax S
  by_cases h:k<n
  .have tV:=xh<|HS.o k h;go_wp2_with fail;go_call (fO s _ _ (by omega) (by omega) hs) as e w2 ⟨rfl,cf⟩;have S2:=xh<|S.below cf;have O2:=xh<|aC O cf;clear cf S O;go_wp2_with fail;go_call (fO s _ _ (by omega) (by omega) hs) as e w3 ⟨rfl,dk⟩;have S3:=S2.o.below dk;have O3:=xh<|aC O2.o dk;clear dk S2 O2;rw[show(4+4*(k:Int)).toNat=4+4*k by omega,show(4+4*(k:Int)+2).toNat=6+4*k by omega]
   obtain⟨i0,hi,lz,jK,kl⟩:=info_parts xY;obtain⟨v',w',ea,S',O',F'⟩:=dE (P:=prog) (S3.alloc (WF #[U5 By (cd s.data.toList (4+4*k):Nat),U5 By (cd s.data.toList (6+4*k):Nat)] 271)) 266 266 i0 (.agg #[U5 By 0,U5 By 0]) 16 underlying266 hi lz jK kl rfl (by omega)
    ⟨w3.heap.size,0,none⟩ 1 1 [U5 By (cd s.data.toList (4+4*k):Nat),U5 By (cd s.data.toList (6+4*k):Nat)] rfl (bm (l:=[_,_]) (aF.new _ _ _) 0 _ (by simp)) (by intro u hu;simp at hu;rcases hu with rfl|rfl<;>rfl) (by unfold it;omega) (by omega)
   have e1:sc ((bU s.data.toList).take k)++[U5 By (cd s.data.toList (4+4*k):Nat),U5 By (cd s.data.toList (6+4*k):Nat)]=sc ((bU s.data.toList).take (k+1)):=by
    rw[tV.o,pD,HSl.o];rfl
   rw[e1]at S';have EA:=ea;have F2:=g9 (∀g∈ah v',w.heap.size<=g) (λg hg=>(F' g hg).elim (F.o g) (λh=>aq O3.o.size (by simp at h;omega)));have O2:=xh<|O3.o.trans ((((ag.refl (ah (U3 A k c)) w3).alloc (WF #[U5 By (cd s.data.toList (4+4*k):Nat),U5 By (cd s.data.toList (6+4*k):Nat)] 271)).trans O').aK O3.o.size F.o);have S2:=xh S';clear S3 F' O' S' e1 tV hi lz jK kl ea
   change dF _ _ _ _ _ _=_ at EA
   obtain⟨A2,c2,rfl⟩:=ax S2.o;go_wp2_with fail;go_roundw
   case rel=>exact⟨k+1,by omega,by go_num,S2.o,O2.o,F2⟩
   case measure=>simp[intOf];omega
  .have En:k=n:=by omega
   have H2:=xh En;have SS:=xh S;clear En S;go_wp2;go_ret;refine⟨_,rfl,?_,O,F.o⟩;have:=SS.o
   cases H2.o
   rw[HE.o]at this;rw[HN.o];exact this
variable{w w':YB}{e:TypeId}{g n cap:Nat}{l:List YO}{v:YO}{F:pu}
theorem aM.set1(S:aM w e 1 (U3 (lc g) n cap) n l)(k:Nat)(hk:k<n)(x:YO):aM (w.setCell ⟨g,k,none⟩ x) e 1 (U3 (lc g) n cap) n (l.set k x):=by
 have hl:l.length=n:=by have:=S.1;omega
 rcases S.2 with⟨h0,_⟩|⟨g',Hb,rest,hv,B,hc,hm⟩
 .cases h0
 .simp only[Value.slice.injEq,Option.some.injEq,Addr.mk.injEq,and_true,true_and]at hv;obtain⟨rfl,rfl⟩:=hv;refine⟨by simp[hl],.inr ⟨g,cap,rest,rfl,?_,by simpa using hc,hm⟩⟩;have:=B.cw k x;rw[sJ,vC _ _ (by omega)]at this;exact this
theorem aM.cell(S:aM w e 1 (U3 (lc g) n cap) n l)(k:Nat)(hk:k<n)(x:YO)(hx:l[k]?=some x):w.cell? ⟨g,k,none⟩=some x/\w.frozen? ⟨g,k,none⟩=false:=by
 have hl:l.length=n:=by have:=S.1;omega
 rcases S.2 with⟨h0,_⟩|⟨g',Hb,rest,hv,B,hc,hm⟩
 .cases h0
 .simp only[Value.slice.injEq,Option.some.injEq,Addr.mk.injEq,and_true,true_and]at hv;obtain⟨rfl,rfl⟩:=hv;exact⟨B.ab (by rw[cN,bE (by omega)];exact hx),B.frozen k (by simp;omega)⟩
def oH(w:YB)(v:YO)(F:pu):Prop:=aM w 5 1 v F.length (dR F)
theorem oH.form(S:oH w v F)(h:0<F.length):∃g cap,v=U3 (lc g) F.length cap/\F.length<=cap:=by
 obtain⟨g,cap,rest,rfl,B,hc,_⟩:=aM.form S h (by omega);exact⟨g,cap,rfl,hc⟩
theorem eV:(prog.info? 5).map (λi=>(i.zero,i.size,i.bytes))=some (some (U5 .u8 0),1,1):=by kernel_rfl
theorem jD(S:oH w v F)(i m:Int)(Jj:0<=i)(hi:i+1<F.length)(hF:F.length<=1000000)(hm0:0<=m)(hm:m<65536):
  eq prog 206 #[v,i,m] w λe w'=>e=BY (U8 #[])/\oH w' v (nW F i.toNat m.toNat)/\ag (ah v) w w':=by
 obtain⟨k,rfl⟩:=dZ Jj;obtain⟨n,rfl⟩:=dZ hm0;obtain⟨g,cap,rfl,Cy⟩:=S.form (by omega);have c0:=(aM.cell S k (by omega) (bv F[k]) (by rw[Ag,aH (by omega)];rfl));have c1:=(aM.cell S (k+1) (by omega) (bv F[k+1]) (by rw[Ag,aH (by omega)];rfl));obtain⟨c0,z0⟩:=c0;obtain⟨c1,z1⟩:=c1
 have HS:=xh<|aM.set1 (aM.set1 S k (by omega) (bv (gn (n / 256)))) (k+1) (by omega) (bv (gn n));have HO:=g9 (ag [g] w ((w.setCell ⟨g,k,none⟩ (bv (gn (n / 256)))).setCell ⟨g,k+1,none⟩ (bv (gn n)))) (((ag.refl _ _).setCell (by simp) _).setCell (by simp) _);clear S;generalize F[k]=x0 at *;generalize F[k+1]=x1 at *;unfold bv at c0 c1;go_in
 go_wp2
 have e0:bv (gn (n / 256))=U5 .u8 ((n:Int) / 256):=by
  unfold bv
  congr 1
  rw[il];omega
 have e1:bv (gn n)=U5 .u8 ((n:Int) % 256):=by
  unfold bv;rfl
 have el:((dR F).set k (bv (gn (n / 256)))).set (k+1) (bv (gn n))=dR (nW F k n):=by
  simp[dR,nW]
 have h1:=HS.o;have h2:=HO.o;rw[el]at h1;rw[e0,e1]at h1 h2;clear el e0 e1
 go_end0
 refine⟨rfl,?_,by simpa [ah]using h2⟩;rw[iJ,iJ];unfold oH;rw[fq];exact h1
theorem qm(n:Nat)(h1:n<=140737488355328)(w:YB):
  (Instr.makeSlice 150 n n).run prog w=.ok (U3 (lc w.heap.size) n n) (w.alloc (WF (dR (fd n 0)).toArray 5)):=by
 obtain⟨i0,hi,lz,jK,kl⟩:=info_parts eV;have h:=run_make (P:=prog) w 150 5 i0 (U5 .u8 0) underlying150 hi lz By By n n (by omega) (ki _) (by rw[kl];omega) (by omega);rw[h,jK];have e:madeCells (Value.int .u8 0).cells (((n:Int).toNat)*1)=(dR (fd n 0)).toArray:=by
  show madeCells #[Value.int .u8 0] (n*1)=_;rw[Nat.mul_one,iW];simp[dR,bv]
 rw[e];rfl
theorem oH.string(S:oH w v F)(h:0<F.length):(convert 150 9 v).run prog w=.ok (U2 ⟨F.toArray⟩) w:=by
 obtain⟨g,cap,rest,rfl,B,_,_⟩:=aM.form S h (by omega);exact cu (P:=prog) w 150 9 5 underlying150 underlying5 underlying9 ⟨g,0,none⟩ F.length cap F rfl (bm B 0 (dR F) (by
  intro j u hu;rw[bq,bE]
  .exact hu
  .exact(aR.1 hu).1))
theorem oH.only{S:List Nat}(B:oH w v F)(ho:ag S w w')(hd:∀g∈ah v,g∉S):oH w' v F:=aM.only B ho hd
theorem oH.below(B:oH w v F)(ho:i7 w w'):oH w' v F:=aM.below B ho
theorem oH.new(w:YB)(F:pu)(h:F.length<=it):oH (w.alloc (WF (dR F).toArray 5)) (U3 (lc w.heap.size) F.length F.length) F:=
 ⟨by simp,.inr ⟨w.heap.size,F.length,[],rfl,by rw[jR];exact aF.new _ _ _,by simp,h⟩⟩
theorem pw(w:YB):
  eq prog 163 #[] w λe w'=>e=BY (U2 ⟨mO.toArray⟩)/\i7 w w':=by
 have hmk:Hid (∀w':YB,(Instr.makeSlice 150 (U5 By 232) (U5 By 232)).run prog w'= .ok (U3 (lc w'.heap.size) 232 232) (w'.alloc (WF (dR (fd 232 0)).toArray 5))):=xh (λw':YB=>qm 232 (by omega) w');have B0:=xh<|oH.new w (fd 232 0) (by unfold it;rw[eR];omega);have O0:=xh<|(i5 w).alloc (ai _) (WF (dR (fd 232 0)).toArray 5)
 have hl:(fd 232 (0:UInt8)).length=232:=eR;have e1:mO=nW (fd 232 0) 2 232:=rfl;rw[e1];clear e1;generalize fd 232 (0:UInt8)=Z at *;rw[hl]at B0;have HL:=xh hl;clear hl;have hm:=hmk.o;clear hmk;go_in;go_wp2_with fail;generalize w.alloc (WF (dR Z).toArray 5)=W at *;clear hm;refine(jD B0.o 2 232 (by omega) (by rw[HL.o];omega) (by rw[HL.o];omega) (by omega) (by omega)).mono ?_
 rintro e w1 ⟨rfl,B1,o1⟩;have KS:=xh<|B1.string (by rw[fq,HL.o];omega);have O1:=xh<|O0.o.trans (o1.aK O0.o.size (by simp[ah]));clear B1 o1;go_wp2_with fail;rw[KS.o];go_wp2;go_ret;exact⟨rfl,O1.o⟩
variable{b:pu}{k:Nat}
theorem Ye{a b:Bool}(h:a=b):Ending.returned (U6 a)=BY (U6 b):=by rw[h]
theorem Ub(x y:Slot)(w:YB)(hx:x.1+x.2<=1000000)(hy:y.1+y.2<=1000000):
  eq prog 227 #[.agg #[x.1,x.2],.agg #[y.1,y.2]] w λe w'=>e=BY (U6 (apart x y))/\i7 w w':=by
 obtain⟨a,b⟩:=x;obtain⟨c,d⟩:=y;have O:=xh<|((i5 w).alloc (ai _) (WF #[a,b] 271)).alloc (by simp) (WF #[c,d] 271);simp only at hx hy;have HA:=g9 (apart (a,b) (c,d)=(decide (b=0) || (decide (d=0) || (decide (a+b<=c) || decide (c+d<=a))))) rfl;go_in
 go_wp2
 all_goals go_ret
 all_goals
  refine⟨Ye ?_,((Below.refl _ _).alloc (ai _) _).alloc (by simp) _⟩;rw[HA.o,AH];simp
  try omega
theorem xZ(hl:b.length=232)(h:¬Sound b):cC b=14:=by
 unfold cC;rw[if_pos hl,if_neg];rw[uQ];exact h
theorem Pr(hl:b.length=232)(hk:k<cd b 0)(h:¬(cd b 2<=(slot b k).1/\(slot b k).1+(slot b k).2<=232)):cC b=14:=
 xZ hl λS=>h (S.fit.qW _ (aA (Fw b k hk)))
theorem Kp(hl:b.length=232){j:Nat}(hk:k<cd b 0)(hj:j<k)(h:apart (slot b k) (slot b j)=false):cC b=14:=
 xZ hl λS=>by
  have hp:=S.fit.apart;rw[vA]at hp;have h1:=hp j k (by rw[dj];omega) (by rw[dj];omega) hj;simp only[bU,uB,AN]at h1;rw[qC,h]at h1
  cases h1
theorem Ps(hl:b.length=232)(hh:cd b 2<=232)(h4:4+4*cd b 0<=cd b 2)(hf:Fit (cd b 2) (bU b)):cC b=0:=(fP b).2 ⟨hl,hh,h4,hf⟩
theorem Yf{heap:Nat}(hk:k<cd b 0)(hf:Fit heap ((bU b).take k))(hx:heap<=(slot b k).1/\(slot b k).1+(slot b k).2<=232)(ha:∀j,j<k->apart (slot b k) (slot b j)=true):Fit heap ((bU b).take (k+1)):=by
 rw[uS b k hk,Fit.snoc];refine⟨hf,hx,λy hy=>?_⟩;obtain⟨j,hj,rfl⟩:=p9 hy;have hj2:j<k:=by simp at hj;omega
 simp only[bU,Nk,uB,AN];exact ha j hj2
theorem qD{w:YB}{g n cap:Nat}{l:List Slot}(S:aM w 271 2 (U3 (lc g) n cap) n (sc l))(k:Nat)(hk:k<l.length):w.cell? ⟨g,k*2,none⟩=some (U5 By l[k].1)/\w.cell? ⟨g,k*2+1,none⟩=some (U5 By l[k].2):=by
 obtain⟨rest,B,_⟩:=S.uD;obtain⟨h0,h1⟩:=Yc l k hk;have hlen:=kI l;exact⟨B.ab (by rw[cN,bE (by omega)];exact h0),B.ab (by rw[cN,bE (by omega)];exact h1)⟩
theorem mj(b:pu)(k:Nat)(h:k<(bU b).length):(bU b)[k]=slot b k:=by simp[bU]
theorem Pu(s:rd)(w:YB)(hl:s.size=232)(hh:cd s.data.toList 2<=232)(h4:4+4*cd s.data.toList 0<=cd s.data.toList 2):
  eq prog 207 #[U2 s] w λe w'=>e=BY (U5 By (cC s.data.toList))/\i7 w w':=by
 have hL:s.data.toList.length=232:=by simpa using hl
 have HLI:=xh (λ(k:Nat) (hk:k<cd s.data.toList 0) (h:¬(cd s.data.toList 2<=(slot s.data.toList k).1/\(slot s.data.toList k).1+(slot s.data.toList k).2<=232))=>Pr hL hk h);have HAP:=xh (λ(k j:Nat) (hk:k<cd s.data.toList 0) (hj:j<k) (h:apart (slot s.data.toList k) (slot s.data.toList j)=false)=>Kp hL hk hj h);have Em:=xh (λ(hf:Fit (cd s.data.toList 2) (bU s.data.toList))=>Ps hL hh h4 hf)
 have HST:=xh (λ(k:Nat) (hk:k<cd s.data.toList 0) (hf:Fit (cd s.data.toList 2) ((bU s.data.toList).take k)) (hx:cd s.data.toList 2<=(slot s.data.toList k).1/\(slot s.data.toList k).1+(slot s.data.toList k).2<=232) (ha:∀j,j<k->apart (slot s.data.toList k) (slot s.data.toList j)=true)=>Yf hk hf hx ha);have HAL:=xh (show(bU s.data.toList).take (cd s.data.toList 0)=bU s.data.toList from cm (by rw[dj];exact ai _))
 have HN:=xh<|dj s.data.toList;have qX:=λk=>Ct s.data.toList k;have zL:∀k,(slot s.data.toList k).1<65536/\(slot s.data.toList k).2<65536:=λk=>⟨qX _,qX _⟩;have VJ:=xh zL;have KL:=xh (λw'=>kW s w' (by omega) (by omega));clear qX zL hL;have Ap:s.size<=232:=by omega
 have hs2:232<=s.size:=by omega
 have hsb:((s.size:Int)==232)=true:=by simp;omega
 have HHL:=xh hl;clear hl;have K0:=xh (λw'=>fO s 0 w' (by omega) (by omega) (by omega));have K2:=xh (λw'=>fO s 2 w' (by omega) (by omega) (by omega));simp only[show(0:Int).toNat=0 from rfl,show(2:Int).toNat=2 from rfl]at K0 K2;generalize hq:cC s.data.toList=q at *;have HQ:=xh hq;clear hq;generalize cd s.data.toList 0=n at *;generalize cd s.data.toList 2=heap at *;go_in;go_wp2_with fail;refine(K0.o _).mono ?_
 rintro e w1 ⟨rfl,aO⟩;go_wp2_with fail;go_call (K2.o _) as e w2 ⟨rfl,cf⟩;go_wp2_with fail;go_call (KL.o _) as e w3 ⟨v,rfl,S,dk,fr⟩;obtain⟨A,c,rfl⟩:=ax S;have S:=xh S;have O3:=xh<|aC (aC aO cf) dk;clear aO cf dk fr K0 K2 KL;go_wp2_with fail
 go_loopw [31] (λiv wr=> ∃k:Nat,k<=n/\iv=U5 By k/\aM wr 271 2 (U3 A n c) n (sc (bU s.data.toList))/\i7 w wr/\Hid (Fit heap ((bU s.data.toList).take k))) (λiv _=>n-(intOf iv).toNat)
 case atStart=>exact⟨0,aW _,rfl,S.o,O3.o,xh (by rw[jA];exact Fit.nil _)⟩
 case round=>
  obtain⟨k,hk,rfl,S,O,F⟩:=hrel
  by_cases h:k<n
  .obtain⟨g,cap,rest,hv,-,Cy,-⟩:=S.form (by omega) (by omega);simp only[Value.slice.injEq,true_and]at hv;obtain⟨rfl,rfl⟩:=hv;have iU:=qD S k (by rw[HN.o];exact h);rw[mj]at iU;obtain⟨c0,c1⟩:=iU;have b0:=VJ.o k;have LI:=xh<|HLI.o k h;have AP:=xh (λj=>HAP.o k j h);have ST:=xh<|HST.o k h F.o;have SS:=xh S;have OO:=xh O;clear S O;generalize slot s.data.toList k=x at *;obtain⟨x0,x1⟩:=x;simp only at b0 c0 c1
   have B8:=xh<|aF.new wr 271 #[x0,x1];have S8:=xh<|SS.o.alloc (WF #[x0,x1] 271);have O8:=xh<|OO.o.alloc OO.o.size (WF #[x0,x1] 271);have hx:heap<=x0/\x0+x1<=232\/(heap<=x0/\232<x0+x1)\/x0<heap:=by omega
   rcases hx with⟨g1,g2⟩|⟨g1,g2⟩|g1
   .go_wp2_with fail;generalize wr.alloc (WF #[x0,x1] 271)=W at *;generalize wr.heap.size=z at *
    go_loopw [52] (λjv w4=> ∃j:Nat,j<=k/\jv=U5 By j/\aM w4 271 2 (U3 (lc g) n c) n (sc (bU s.data.toList))/\aF w4 z 271 #[x0,x1]/\i7 w w4/\Hid (∀i,i<j->apart (x0,x1) (slot s.data.toList i)=true)) (λjv _=>k-(intOf jv).toNat)
    case atStart=>exact⟨0,aW _,rfl,S8.o,B8.o,O8.o,xh λi hi=>absurd hi (mc i)⟩
    case round=>
     obtain⟨j,hj,rfl,S9,B9,O9,HJ⟩:=hrel
     by_cases hjk:j<k
     .have iU:=qD S9 j (by rw[HN.o];omega);rw[mj]at iU;obtain⟨d0,d1⟩:=iU;have b2:=VJ.o j;have hn1:=AP.o j hjk;have HJS:=xh (show apart (x0,x1) (slot s.data.toList j)=true->∀i,i<j+1->apart (x0,x1) (slot s.data.toList i)=true from λe i hi=>by
       rcases fC i j with h|h
       .exact HJ.o i h
       .obtain rfl:i=j:=by omega
        exact e)
      have HN1:=xh hn1;have z0:=B9.bi 0;have z1:=B9.bi 1;have zl:=B9.lt;have SS9:=xh S9;have BB9:=xh B9;have OO9:=xh O9;clear S9 B9 O9 hn1 HJ;generalize slot s.data.toList j=y at *;obtain⟨y0,y1⟩:=y;simp only at b2 d0 d1;have KA:=xh (λw'=>Ub (x0,x1) (y0,y1) w' (by show x0+x1<=1000000;omega) (by show y0+y1<=1000000;omega));simp only at KA;go_wp2_with fail;go_call (KA.o _) as e w5 ⟨rfl,mK⟩
      have mK:=xh<|((i5 wr).alloc (ai _) (WF #[y0,y1] 271)).trans (mK.mono (by simp))
      cases ha:apart (x0,x1) (y0,y1)
      .have hq:=HN1.o ha;go_wp2;go_ret;exact⟨by first|rfl|(rw[hq];rfl),aC OO9.o mK.o⟩
      .have HA:=xh ha;clear ha;go_wp2_with fail;go_roundw
       case rel=>exact⟨j+1,by omega,by go_num,SS9.o.below mK.o,BB9.o.below mK.o BB9.o.lt,aC OO9.o mK.o,xh (HJS.o HA.o)⟩
       case measure=>simp[intOf];omega
     .have SS9:=xh S9;have OO9:=xh O9;have hjk2:=g9 (j=k) (by omega);clear S9 B9 O9;go_wp2_with fail;go_roundw
      case rel=>exact⟨k+1,by omega,by go_num,SS9.o,OO9.o,xh (ST.o ⟨g1,g2⟩ (hjk2.o▸HJ.o))⟩
      case measure=>simp[intOf];omega
   .have hq:=LI.o (by omega);go_wp2;go_ret;exact⟨by first|rfl|(rw[hq];rfl),O8.o⟩
   .have hq:=LI.o (by omega);go_wp2;go_ret;exact⟨by first|rfl|(rw[hq];rfl),O8.o⟩
  .have En:k=n:=by omega
   have H2:=xh En;have OO:=xh O;have SS:=xh S;clear En S O;go_wp2;go_ret;refine⟨?_,OO.o⟩;have hf:=F.o;rw[H2.o,HAL.o]at hf;rw[Em.o hf];rfl
theorem tw(s:rd)(w:YB)(hs:s.size<=1000000):
  eq prog 207 #[U2 s] w λe w'=>e=BY (U5 By (cC s.data.toList))/\i7 w w':=by
 by_cases hl:s.size=232
 .by_cases hg:cd s.data.toList 2<=232/\4+4*cd s.data.toList 0<=cd s.data.toList 2
  .exact Pu s w hl hg.1 hg.2
  .have hL:s.data.toList.length=232:=by simpa using hl
   have e1:cC s.data.toList=14:=xZ hL λS=>hg ⟨S.heap,S.head⟩;rw[e1];have K0:=xh (λw'=>fO s 0 w' (by omega) (by omega) (by omega));have K2:=xh (λw'=>fO s 2 w' (by omega) (by omega) (by omega));simp only[show(0:Int).toNat=0 from rfl,show(2:Int).toNat=2 from rfl]at K0 K2;have b0:=Ct s.data.toList 0;generalize cd s.data.toList 0=n at *;generalize cd s.data.toList 2=heap at *;have hsb:((s.size:Int)==232)=true:=by simp;omega
   have hx:232<heap\/(heap<=232/\heap<4+4*n):=by omega
   clear hl hg e1 hL
   rcases hx with h1|⟨h1,h2⟩
   all_goals
    go_in;go_wp2_with fail;go_call (K0.o _) as e w1 ⟨rfl,aO⟩;go_wp2_with fail;go_call (K2.o _) as e w2 ⟨rfl,cf⟩;have O:=xh<|aC aO cf;clear aO cf;go_wp2;go_ret;exact⟨rfl,O.o⟩
 .have e1:cC s.data.toList=6:=by unfold cC;rw[if_neg (by simpa using hl)]
  rw[e1];have hsb:((s.size:Int)==232)=false:=by simp;omega
  clear e1 hl;go_in;go_wp2;go_ret;exact⟨rfl,Below.refl _ _⟩
def nX(l:List Slot)(k:Nat):Int:=228-((((l.take k).map λx=>4+x.2).sum:Nat):Int)
theorem Kq(l:List Slot)(k:Nat)(h:k<l.length):nX l (k+1)=nX l k-(4+(l[k].2:Int)):=by
 unfold nX;rw[ik h,cX,zW];simp;omega
theorem Pv(b:pu):nX (bU b) (bU b).length=jf b:=by unfold nX jf;rw[fX]
def wv(b:pu):Int:=if cC b=0 then jf b else 0
theorem Kr(s:rd)(w:YB)(hs:s.size<=1000000):
  eq prog 209 #[U2 s] w λe w'=>e=BY (U5 By (wv s.data.toList))/\i7 w w':=by
 have KC:=xh<|tw s w hs
 by_cases h:cC s.data.toList=0
 .have e1:wv s.data.toList=jf s.data.toList:=by unfold wv;rw[if_pos h]
  have hS:=(fP _).1 h;have JI:s.size=232:=by have:=hS.len;simpa using this
  have h4:=hS.head;have h5:=hS.heap;rw[e1];rw[h]at KC;have KL:=xh (λw'=>kW s w' (by omega) hs);have HN:=xh<|dj s.data.toList;have HA:=xh<|Pv s.data.toList;have HX:=g9 (∀k,(nX (bU s.data.toList) k<=228/\∀h:k<(bU s.data.toList).length,(bU s.data.toList)[k].2<65536)) (λk=>⟨by unfold nX;omega,λh=>by rw[mj];exact Ct _ _⟩)
  have HLO:=xh (show ∀k,k<=cd s.data.toList 0-> -1000000<=nX (bU s.data.toList) k from λk hk=>by
   have hsum:=Fx _ _ hS.fit hS.heap;have:((((bU s.data.toList).take k).map λx=>4+x.2).sum)<=4*(bU s.data.toList).length+xX (bU s.data.toList):=by
    generalize bU s.data.toList=l;unfold xX
    induction l generalizing k with
    |nil=>simp
    |cons x l ih=>
     cases k with
     |zero=>simp
     |succ k=>
      have:=ih k;simp only[qe,fA,l8,fT];omega
   rw[dj]at this;unfold nX;omega)
  clear e1 h hS;generalize jf s.data.toList=q at *;generalize cd s.data.toList 0=n at *;go_in;go_wp2_with fail;go_call KC.o as e w1 ⟨rfl,aO⟩;have aO:=xh aO;go_wp2_with fail;go_call (KL.o _) as e w3 ⟨v,rfl,S,dk,fr⟩;obtain⟨A,c,rfl⟩:=ax S;have S:=xh S;have O3:=xh<|aC aO.o dk;clear dk fr KL aO;go_wp2_with fail
  go_loopw [3,12] (λrv iv wr=> ∃k:Nat,k<=n/\iv=U5 By k/\rv=U5 By (nX (bU s.data.toList) k)/\aM wr 271 2 (U3 A n c) n (sc (bU s.data.toList))/\i7 w wr) (λ_ iv _=>n-(intOf iv).toNat)
  case atStart=>exact⟨0,aW _,rfl,rfl,S.o,O3.o⟩
  case round=>
   obtain⟨k,hk,rfl,rfl,S,O⟩:=hrel;have hr1:=(HX.o k).1;have Pd:=HLO.o k hk
   by_cases h:k<n
   .obtain⟨g,cap,rest,hv,-,Cy,-⟩:=S.form (by omega) (by omega);simp only[Value.slice.injEq,true_and]at hv;obtain⟨rfl,rfl⟩:=hv;have lO:k<(bU s.data.toList).length:=by rw[HN.o];exact h
    obtain⟨c0,c1⟩:=qD S k lO;have hb:=(HX.o k).2 lO;have HST:=xh<|Kq _ k lO;generalize (bU s.data.toList)[k]=x at *;obtain⟨x0,x1⟩:=x;simp only at hb c0 c1 HST;have S8:=xh<|S.alloc (WF #[x0,x1] 271);have O8:=xh<|O.alloc O.size (WF #[x0,x1] 271);clear S O lO;generalize nX (bU s.data.toList) k=r at *;go_wp2_with fail;go_roundw
    case rel=>exact⟨k+1,by omega,by go_num,by rw[HST.o],S8.o,O8.o⟩
    case measure=>simp[intOf];omega
   .have En:=g9 (k=n) (by omega);have OO:=xh O;clear S O;go_wp2;go_ret;refine⟨?_,OO.o⟩;rw[<-HA.o,HN.o,<-En.o];rfl
 .have e1:wv s.data.toList=0:=by unfold wv;rw[if_neg h]
  have hb:(cC s.data.toList==0)=false:=by simpa using h
  rw[e1];clear e1 h;generalize cC s.data.toList=q at *;go_in;go_wp2_with fail;go_call KC.o as e w1 ⟨rfl,aO⟩;have aO:=xh aO;go_wp2;go_ret;exact⟨rfl,aO.o⟩
theorem qE(s:rd)(a b:Nat):s.extract a (a+b)=⟨((s.data.toList.drop a).take b).toArray⟩:=by
 apply jQ;apply qP.1;rw[MY,VX,Nf];simp
theorem Pw(s:rd)(x:Slot)(w:YB)(hx:x.1+x.2<=s.size)(hs:s.size<=1000000):
  eq prog 215 #[U2 s,.agg #[x.1,x.2]] w λe w'=>e=BY (U2 ⟨(mN s.data.toList x).toArray⟩)/\i7 w w':=by
 obtain⟨a,b⟩:=x;simp only at hx;have HE:=xh<|qE s a b;go_in
 go_wp2
 go_ret;refine⟨?_,(Below.refl _ _).alloc (ai _) _⟩;show Ending.returned (U2 (s.extract a (a+b)))=_;rw[HE.o];rfl
def dN(b:pu)(i:Int):pu×Int:=if cC b=0 then(if 0<=i/\i<(cd b 0:Int)then(mN b (slot b i.toNat),0)else([],3))else([],cC b)
end Sl
end Go.Proofs.YtmonobkginiajaaGreat
