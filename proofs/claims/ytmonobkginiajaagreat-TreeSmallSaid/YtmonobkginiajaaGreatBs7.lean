/- packed. -/
import Derived.IntWalk
import Derived.Test.YtmonobkginiajaaGreatBs6
set_option linter.all false
set_option maxRecDepth 100000
set_option maxHeartbeats 8000000
namespace Go.Proofs.YtmonobkginiajaaGreat
open Go.Proofs.Tryz
namespace Sh
open Go.RowKit Pk Dk Pg
attribute [local go_sem ↓] Go.wp_at_zero Go.wp_at_succ bw
variable{w:World}{y:Y}{n:Nat}{s:PS}
def Dc(l:List Fr):List Int:=(l.map Fr.an).filter λx=>decide (0<=x)
theorem UK(l:List Fr)(i:Nat)(f:Fr)(hf:l[i]?=some f):Dc (l.take (i+1))=if 0<=f.an then Dc (l.take i)++[f.an]else Dc (l.take i):=by
 obtain⟨hi,rfl⟩:=aM.1 hf;unfold Dc;rw[gy hi,ez,uZ]
 by_cases h:0<=l[i].an
 .rw[if_pos h];simp[h]
 .rw[if_neg h];simp[h]
theorem pgL_len(l:List Fr):(Dc l).length<=l.length:=by
 unfold Dc;exact aq (El _ _) (by simp)
theorem LP(h:gW w y n s):
  Calls prog 146 #[pp y.pb] w λe w'=> ∃v,e=.returned v/\aS w' 3 1 v (Dc s.l).length (cZ (zX (Dc s.l)))/\Below w.heap.size w w':=by
 have H0:=xh h;have p1:w.cell? ⟨y.pb,1,none⟩=some (.slice (some ⟨y.fg,0,none⟩) s.l.length y.cp):=h.p1;have HL:=xh (show ∀i,(Dc (s.l.take i)).length<=32 from λi=>by
  have:=pgL_len (s.l.take i);have:=h.l2;rw[bK]at *;omega)
 obtain⟨N,hN⟩:∃N,s.l.length=N:=⟨_,rfl⟩;have HN:=xh hN;have HT:=xh (show Dc (s.l.take N)=Dc s.l from by rw[<-hN,fL]);have Gr:N<=32:=by rw[<-hN];exact h.l2
 rw[hN]at p1;have HF:=xh h.yD;clear h hN H0;unfold pp;go_enter func146,ntmps146;go_wp2_with fail
 go_loopw [3,5,14] (λpv _ iv wq=> ∃i:Nat,i<=N/\iv=.int .i64 i/\aS wq 3 1 pv (Dc (s.l.take i)).length (cZ (Dc (s.l.take i)))/\Hid (Below w.heap.size w wq)/\Hid (∀g∈ah pv,w.heap.size<=g)) (λ_ _ iv _=>N-(intOf iv).toNat)
 case atStart=>exact⟨0,bf _,rfl,aS.nil _ _ _,xh (Below.refl _ _),xh (by simp[ah])⟩
 case round=>
  obtain⟨i,hi,rfl,S,O,F⟩:=hrel;obtain⟨VA,vc,rfl⟩:=ax S
  by_cases h':i<N
  .have hI:(i:Int)<(N:Int):=by omega
   obtain⟨f,HG⟩:∃f,Hid (s.l[i]?=some f):=⟨_,xh (aG (by rw[HN.o];exact h'))⟩;obtain⟨c0,c1,c2,c3,c4⟩:=(HF.o.below O.o) i f HG.o;have hm:=HL.o i;have N8:=UK s.l i f HG.o;have S5:=S.alloc (.cells #[.int .i64 f.an,.string f.fO,.int .i64 f.held,.bool f.bX,.bool f.used] 167);have O5:=xh (ae O.o (.cells #[.int .i64 f.an,.string f.fO,.int .i64 f.held,.bool f.bX,.bool f.used] 167))
   have d0:=(aF.new wr 167 #[.int .i64 f.an,.string f.fO,.int .i64 f.held,.bool f.bX,.bool f.used]).ab (i:=0) rfl
   by_cases hp:0<=f.an
   .rw[if_pos hp]at N8;obtain⟨v',w2,ea,S2,ow,fr⟩:=dj (P:=prog) S5 60 60 (.int .i64 0) 8 underlying60 kG rfl (.int .i64 f.an) rfl (by unfold maxLen;omega) (by omega);obtain⟨V2,iP,rfl⟩:=ax S2;rw[show(wr.alloc (.cells #[.int .i64 f.an,.string f.fO,.int .i64 f.held,.bool f.bX,.bool f.used] 167)).heap.size=wr.heap.size+1 from by simp]at ea;have EA:=xh ea
    have SX:=xh (show aS w2 3 1 (.slice V2 ((Dc (s.l.take i)).length+1) iP) (Dc (s.l.take (i+1))).length (cZ (Dc (s.l.take (i+1))))from by
     rw[N8,fW,aO];exact S2)
    have OX:=xh (O5.o.trans (ow.aJ O5.o.size F.o));have FX:=xh (show ∀g'∈ah (.slice V2 ((Dc (s.l.take i)).length+1) iP),w.heap.size<=g' from λg' hg=>(fr g' hg).elim (F.o g') (λh=>aq O5.o.size h));clear ea S2 ow fr S S5 N8;generalize (Dc (s.l.take i)).length=pl at *;go_wp2_with fail;rw[EA.o];go_wp2_with fail;go_roundw
    case rel=>exact⟨i+1,by omega,by go_num,SX.o,OX,FX⟩
    case measure=>simp[intOf];omega
   .rw[if_neg hp]at N8;have SX:=xh S5;have HX:=xh N8;clear S S5 N8;go_wp2_with fail;go_roundw
    case rel=>exact⟨i+1,by omega,by go_num,by rw[HX.o];exact SX.o,O5,F⟩
    case measure=>simp[intOf];omega
  .obtain rfl:N=i:=by omega
   have BH:=HL.o N;have KS:=xh (UJ S (by omega));clear S;go_wp2_with fail;refine KS.o.mono ?_;rintro e w5 ⟨rfl,S5,o5⟩;have SX:=xh S5;have OX:=xh (O.o.trans (o5.aJ O.o.size F.o));clear S5 o5;go_wp2_with fail;go_ret;exact⟨_,by first|rfl|simp,by have h:=SX.o;rw[HT.o]at h ⊢;exact h,OX.o⟩
theorem LQ(h:gW w y n s):
  Calls prog 98 #[pp y.pb] w λe w'=>e=.returned (.tuple #[.int .i64 (s.l.length:Nat),.int .i64 ((Dc s.l).length:Nat),.int .i64 ((s.l.countP λf=>decide (0<f.held)):Nat)])/\Below w.heap.size w w':=by
 have p1:w.cell? ⟨y.pb,1,none⟩=some (.slice (some ⟨y.fg,0,none⟩) s.l.length y.cp):=h.p1;obtain⟨N,hN⟩:∃N,s.l.length=N:=⟨_,rfl⟩;have HN:=xh hN;have HT:=xh (show((s.l.take N).countP λf=>decide (0<f.held))=(s.l.countP λf=>decide (0<f.held))from by rw[<-hN,fL]);have HL:=xh (show ∀i,((s.l.take i).countP λf=>decide (0<f.held))<=32 from λi=>by
  have h1:((s.l.take i).countP λf=>decide (0<f.held))<=(s.l.take i).length:=uX;have h2:=h.l2;rw[bK]at h1;omega)
 have HU:=xh (show ∀i f,s.l[i]?=some f->((s.l.take (i+1)).countP λf=>decide (0<f.held))=((s.l.take i).countP λf=>decide (0<f.held))+(if 0<f.held then 1 else 0)from λi f hf=>by
  obtain⟨hi,rfl⟩:=aM.1 hf;rw[gy hi,nY];simp[m9])
 have Gr:N<=32:=by rw[<-hN];exact h.l2
 rw[hN]at p1 ⊢;have HF:=xh h.yD;have KP:=xh (λW (hb:Below w.heap.size w W)=>LP (h.below hb));have HP1:=xh (λW (hb:Below w.heap.size w W)=>(show W.cell? ⟨y.pb,1,none⟩=some (.slice (some ⟨y.fg,0,none⟩) N y.cp)from by rw[<-hN];exact(h.below hb).p1));clear h hN;unfold pp at *;go_enter func98,ntmps98;go_wp2_with fail
 go_loopw [5,7,15] (λkv _ iv wq=> ∃i:Nat,i<=N/\iv=.int .i64 i/\kv=.int .i64 (((s.l.take i).countP λf=>decide (0<f.held)):Nat)/\Hid (Below w.heap.size w wq)) (λ_ _ iv _=>N-(intOf iv).toNat)
 case atStart=>exact⟨0,bf _,rfl,rfl,xh (Below.refl _ _)⟩
 case round=>
  obtain⟨i,hi,rfl,rfl,O⟩:=hrel
  by_cases h':i<N
  .have hI:(i:Int)<(N:Int):=by omega
   obtain⟨f,HG⟩:∃f,Hid (s.l[i]?=some f):=⟨_,xh (aG (by rw[HN.o];exact h'))⟩;obtain⟨c0,c1,c2,c3,c4⟩:=(HF.o.below O.o) i f HG.o;have hm:=HL.o i;have N8:=HU.o i f HG.o;have O5:=xh (ae O.o (.cells #[.int .i64 f.an,.string f.fO,.int .i64 f.held,.bool f.bX,.bool f.used] 167));have d2:=(aF.new wr 167 #[.int .i64 f.an,.string f.fO,.int .i64 f.held,.bool f.bX,.bool f.used]).ab (i:=2) rfl;have HX:=xh N8;clear N8
   generalize Sc:((s.l.take i).countP λf=>decide (0<f.held))=cn at *;have ec:IntKind.i64.wrap ((cn:Int)+1)=((cn+1:Nat):Int):=IntWalk.i64_in _ (by omega)
   by_cases hp:0<f.held
   .go_wp2_with fail;go_roundw
    case rel=>exact⟨i+1,by omega,by go_num,by rw[HX.o,if_pos hp];try rfl,O5⟩
    case measure=>simp[intOf];omega
   .go_wp2_with fail;go_roundw
    case rel=>exact⟨i+1,by omega,by go_num,by rw[HX.o,if_neg hp];try rfl,O5⟩
    case measure=>simp[intOf];omega
  .obtain rfl:N=i:=by omega
   rw[HT.o];have OD:=xh O.o.drew;have q1:=HP1.o _ OD.o;have Q1:=xh q1;have Sc:=HL.o N;rw[HT.o]at Sc;generalize hcq:(s.l.countP λf=>decide (0<f.held))=cn at *;have HCQ:=xh hcq;clear hcq;go_wp2_with fail;refine wp_region_held_drew (S:=λW'=>W'.cell? ⟨y.pb,1,none⟩=some (.slice (some ⟨y.fg,0,none⟩) N y.cp)) (by kernel_rfl) (Q1.o) (λau=>?_);refine cP [(0,25),(1,26),(2,27),(3,28),(4,29),(5,30),(8,33)] ?_
   iterate 7 refine bj ?_
   refine cQ 6 31 λK hK=>?_;go_simp
   go_at_call 146
   refine(KP.o _ OD.o).mono ?_;rintro e w5 ⟨v5,rfl,S5,oF⟩;obtain⟨V5,vc5,rfl⟩:=ax S5;have O5:=xh (aC OD.o oF);have d1:=HP1.o _ O5.o;clear S5 oF;go_simp;refine bz hK (d1) (λau=>?_);refine cP [(7,32),(9,2),(10,3),(11,4)] ?_
   iterate 4 refine bj ?_
   refine wpAnyH_done (by kernel_rfl) ?_ _;go_wp2_with fail;refine bodyPost_ret (v:= .tuple #[.int .i64 (N:Nat),.int .i64 ((Dc s.l).length:Nat),.int .i64 (cn:Nat)]) ?_ rfl ⟨by rw[HCQ.o],O5.o⟩;simp[results,Tryz.results98,go_sem]
end Sh
namespace Sh
open Go.RowKit Pk Dk Pg
attribute [local go_sem ↓] Go.wp_at_zero Go.wp_at_succ
variable{w:World}{y:Y}{n K i:Nat}{q:QS}
def ZTo(w w':World)(y:Y)(n:Nat)(q:QS)(K:Nat):Prop:= ∃y',y'.pb=y.pb/\y'.x.b=y.x.b/\y'.x.L=y.x.L/\ZP w' y' n q K/\ag y.fp w w'/\∀g∈y'.fp,g∈y.fp\/w.heap.size<=g
theorem ZTo.self{w':World}(h:ZP w' y n q K)(o:ag y.fp w w'):ZTo w w' y n q K:=⟨y,rfl,rfl,rfl,h,o,λ_ hg=> .inl hg⟩
theorem QC(h:ZP w y n q K)(hb:Fb q.l K)(hK:K<=999999999999)(k:Nat)(hk:k<q.l.length):
  Calls prog 58 #[pp y.pb,.int .i64 (k:Nat)] w λe w'=>e=.returned (.int .i64 (q.eE (k:Nat)).2)/\ZP w' y n (q.eE (k:Nat)).1 (K+1)/\ag y.fp w w':=by
 have KB:=xh (λ(W:World) (hW:Below w.heap.size w W)=>zR (h.below hW) (by omega) k hk (λf hf=>(hb f hf).2.2));have rY:=(vQ hb hk).2;obtain⟨c,A,z⟩:=h;have p1:w.cell? ⟨y.pb,1,none⟩=some (.slice (some ⟨y.fg,0,none⟩) q.l.length y.cp):=A.p1;have l2:q.l.length<=32:=A.l2;obtain⟨f,hf⟩:∃f,im q.l k=f:=⟨_,rfl⟩;have GZ:=jt hk;rw[hf]at GZ;obtain⟨c0,c1,c2,c3,c4⟩:=A.yD k f GZ;have Kp:(k:Int)<(q.l.length:Int):=by omega
 have P0:¬(k:Int)<0:=by omega
 have KE:=xh l7;unfold Fr.nil Fr.agg at KE;have HS:=xh (show ZP w y n q (K+1)from⟨c,A,z.more (by omega)⟩);have hE:q.eE (k:Nat)=if f.an<0 then(q,0)else if 0<f.held then(q,16)else if(q.bI k).2≠0 then q.bI k else({(q.bI k).1 with l:=(q.bI k).1.l.set k Fr.nil},0):=by
  unfold QS.eE;rw[show((k:Nat):Int).toNat=k by omega,hf,if_neg (by omega)]
 rw[hE];generalize q.bI k=BB at *;obtain⟨B,be⟩:=BB;dsimp only at KB rY ⊢;have OB:=xh (Below.refl w.heap.size w);clear hE A z hf GZ hb
 by_cases h1:f.an<0
 .rw[if_pos h1];clear rY;unfold pp at *;go_enter func58,ntmps58;go_wp2_with fail;go_ret;exact aP ⟨HS.o,ag.ai OB.o⟩
 rw[if_neg h1]
 by_cases h2:0<f.held
 .rw[if_pos h2];clear rY;unfold pp at *;go_enter func58,ntmps58;go_wp2_with fail;go_ret;exact aP ⟨HS.o,ag.ai OB.o⟩
 rw[if_neg h2]
 by_cases h3:be=0
 .subst h3;rw[if_neg (by simp)];have HBL:=xh rY;clear rY;unfold pp at *;go_enter func58,ntmps58;go_wp2_with fail;refine(KB.o _ OB.o).mono ?_;rintro e w5 ⟨rfl,⟨c5,A5,Z5⟩,o5⟩;obtain⟨N,hN⟩:∃N,B.l.length=N:=⟨_,rfl⟩;have yf:=xh hN;have hkN:k<N:=by rw[<-hN,HBL.o];exact hk
  have hNI:(k:Int)<(N:Int):=by omega
  have l3:N<=32:=by rw[<-hN];exact A5.l2
  obtain⟨g,HG⟩:∃g,Hid (B.l[k]?=some g):=⟨_,xh (aG (by omega))⟩;have AD:=xh A5.drew;have OD:=xh o5.drew;have Z5:=xh Z5;have P1D:=xh (show w5.drew.cell? ⟨y.pb,1,none⟩=some (.slice (some ⟨y.fg,0,none⟩) N y.cp)from by rw[<-hN];exact AD.o.p1);clear A5 o5 hN;go_wp2_with fail;refine wp_region_held_drew (S:=λW'=>W'.cell? ⟨y.pb,1,none⟩=some (.slice (some ⟨y.fg,0,none⟩) N y.cp)) (by kernel_rfl) (P1D.o) (λau=>?_)
  refine cP [(0,47),(1,48),(2,49),(3,50),(4,51)] ?_
  iterate 5 refine bj ?_
  refine cQ 5 52 λK hK=>?_;go_simp
  go_at_call 86
  refine(KE.o _).mono ?_;rintro e w6 ⟨rfl,sE⟩;have A6:=xh (AD.o.below sE);have O6:=xh (OD.o.trans (ag.ai (S:=y.fp) sE));have p1y:w6.cell? ⟨y.pb,1,none⟩=some (.slice (some ⟨y.fg,0,none⟩) N y.cp):=by rw[<-yf.o];exact A6.o.p1
  clear sE;go_simp;refine bz hK (p1y) (λau=>?_);refine cP [(6,53)] ?_
  iterate 1 refine bj ?_
  refine nB 7 λK hK=>?_;go_simp;have p1x:w6.cell? ⟨y.pb,1,none⟩=some (.slice (some ⟨y.fg,0,none⟩) N y.cp):=by rw[<-yf.o];exact A6.o.p1
  obtain⟨c0,c1,c2,c3,c4⟩:=A6.o.yD k g HG.o;obtain⟨z0,z1,z2,z3,z4,B4,q4⟩:=A6.o.KQ k HG.o;have AZ:=xh B4;have OZ:=xh (O6.o.trans q4);clear B4 q4;go_simp;refine hK.o _ _ (by have h:=AZ.o.p1;rw[<-yf.o];simpa [QS.ps]using h) (λau=>?_)
  try simp only[Act.put,pa,pb,pc]
  refine wpAnyH_done (by kernel_rfl) ?_ _;go_wp2_with fail;go_ret;exact aP ⟨⟨c5,AZ.o,Z5.o⟩,OZ.o⟩
 .rw[if_pos h3];have hq:(be==0)=false:=by rw[beq_eq_false_iff_ne];exact h3
  have kh:(be != 0)=true:=by rw[bne_iff_ne];exact h3
  clear rY;unfold pp at *;go_enter func58,ntmps58;go_wp2_with fail;refine(KB.o _ OB.o).mono ?_;rintro e w5 ⟨rfl,z5,o5⟩;have Z5:=xh z5;have O5:=xh o5;clear z5 o5;go_wp2_with fail;go_ret;exact aP ⟨Z5.o,O5.o⟩
theorem LR(h:ZP w y n q K)(i:Int)(hi:i<0\/(q.l.length:Int)<=i):
  Calls prog 58 #[pp y.pb,.int .i64 i] w λe w'=>e=.returned (.int .i64 3)/\Below w.heap.size w w':=by
 obtain⟨c,A,z⟩:=h;have p1:w.cell? ⟨y.pb,1,none⟩=some (.slice (some ⟨y.fg,0,none⟩) q.l.length y.cp):=A.p1;have OB:=xh (Below.refl w.heap.size w);clear A z
 by_cases h0:i<0
 .clear hi;unfold pp at *;go_enter func58,ntmps58;go_wp2_with fail;go_ret;exact aP OB.o
 .have h1:(q.l.length:Int)<=i:=by omega
  clear hi;unfold pp at *;go_enter func58,ntmps58;go_wp2_with fail;go_ret;exact aP OB.o
theorem LS(h:ZP w y n q K)(hb:Fb q.l K)(hK:K<=999999999999)(i:Int):
  Calls prog 58 #[pp y.pb,.int .i64 i] w λe w'=>e=.returned (.int .i64 (q.eE i).2)/\ZP w' y n (q.eE i).1 (K+1)/\ag y.fp w w':=by
 by_cases hi:i<0\/(q.l.length:Int)<=i
 .unfold QS.eE;rw[if_pos hi];exact(LR h i hi).mono λe w' ⟨r,b⟩=>⟨r,(h.below b).more (by omega),.ai b⟩
 .obtain⟨k,rfl⟩:=eT (show 0<=i by omega);exact QC h hb hK k (by omega)
def lB(l:List Fr)(i:Nat):List Fr:=List.replicate i Fr.nil++l.drop i
theorem QD(l:List Fr)(h:i<=l.length):(lB l i).length=l.length:=by unfold lB;simp;omega
theorem QE(l:List Fr)(h:i<l.length):(lB l i).set i Fr.nil=lB l (i+1):=by
 unfold lB;rw[qN _ _ (by simp),ev,fM,nZ h,List.set_cons_zero,yq,cy];rfl
theorem Ig(h:ZP w y n q K):
  Calls prog 51 #[pp y.pb] w λe w'=>e=.returned (.bool true)/\ZTo w w' y n q.bY K:=by
 obtain⟨c,A,z⟩:=h;have p1:w.cell? ⟨y.pb,1,none⟩=some (.slice (some ⟨y.fg,0,none⟩) q.l.length y.cp):=A.p1;have l2:q.l.length<=32:=A.l2;obtain⟨N,hN⟩:∃N,q.l.length=N:=⟨_,rfl⟩;have HN:=xh hN;rw[hN]at p1 l2;have KE:=xh l7;unfold Fr.nil Fr.agg at KE;have HST:=xh (show ∀i,i<N->(lB q.l i).set i Fr.nil=lB q.l (i+1)from λi hi=>QE q.l (by omega));have HLE:=xh (show ∀i,i<=N->(lB q.l i).length=N from λi hi=>by rw[QD q.l (by omega)];exact hN)
 have HEND:=xh (show lB q.l N=List.replicate q.l.length Fr.nil from by unfold lB;rw[hN,Ee (by omega),jh]);have H0:=xh (show gW w y n (({q with l:=lB q.l 0}:QS).ps c)from A);have KA:=xh (λ(W:World) (B:gW W y n (({q with l:=lB q.l N}:QS).ps c))=>Lx B.hs z)
 have HZ:=xh (show ∀(w1 w2:World) (c':C) (B:gW w1 y n (({q with l:=lB q.l N}:QS).ps c)) (o:ag y.fp w w1) (p:yh w1 w2 y.x n c') (z':Zc c' n {q.a with now:=gl q.a.bQ} K),ZTo w w2 y n q.bY K from λw1 w2 c' B o p z'=>by
  obtain⟨y',e1,_,_,e2,e3,B',o',f'⟩:=B.store p;refine⟨y',e1,e2,e3,⟨c',?_,z'⟩,o.trans o',λg hg=>(f' g hg).imp id (λh=>aq o.size h)⟩;have hE:(q.bY).ps c'={(({q with l:=lB q.l N}:QS).ps c)with c:=c'}:=by
   unfold QS.bY QS.ps;dsimp only;rw[HEND.o]
  rw[hE];exact B')
 clear A z hN;unfold pp sp at *;go_enter func51,ntmps51;go_wp2_with fail
 go_loopw [3,11] (λ_ iv wr=> ∃i:Nat,i<=N/\iv=.int .i64 i/\Hid (gW wr y n (({q with l:=lB q.l i}:QS).ps c))/\Hid (ag y.fp w wr)) (λ_ iv _=>N-(intOf iv).toNat)
 case atStart=>exact⟨0,bf _,rfl,H0,xh (ag.refl _ _)⟩
 case round=>
  obtain⟨i,hi,rfl,AI,OI⟩:=hrel
  by_cases h':i<N
  .have hI:(i:Int)<(N:Int):=by omega
   have yf:=xh (HLE.o i hi);obtain⟨g,HG⟩:∃g,Hid ((lB q.l i)[i]?=some g):=⟨_,xh (aG (by rw[yf.o];exact h'))⟩;have AD:=xh AI.o.drew;have OD:=xh OI.o.drew;have P1D:=xh (show wr.drew.cell? ⟨y.pb,1,none⟩=some (.slice (some ⟨y.fg,0,none⟩) N y.cp)from by rw[<-yf.o];exact AD.o.p1);have HS1:=xh (HST.o i h');go_wp2_with fail
   refine wp_region_held_drew (S:=λW'=>W'.cell? ⟨y.pb,1,none⟩=some (.slice (some ⟨y.fg,0,none⟩) N y.cp)) (by kernel_rfl) (P1D.o) (λau=>?_);refine cP [(0,14),(1,15),(2,16),(3,17),(4,18)] ?_
   iterate 5 refine bj ?_
   refine cQ 5 19 λK hK=>?_;go_simp
   go_at_call 86
   refine(KE.o _).mono ?_;rintro e w6 ⟨rfl,sE⟩;have A6:=xh (AD.o.below sE);have O6:=xh (OD.o.trans (ag.ai (S:=y.fp) sE));have p1y:w6.cell? ⟨y.pb,1,none⟩=some (.slice (some ⟨y.fg,0,none⟩) N y.cp):=by rw[<-yf.o];exact A6.o.p1
   clear sE;go_simp;refine bz hK (p1y) (λau=>?_);refine cP [(6,20)] ?_
   iterate 1 refine bj ?_
   refine nB 7 λK hK=>?_;go_simp;have p1x:w6.cell? ⟨y.pb,1,none⟩=some (.slice (some ⟨y.fg,0,none⟩) N y.cp):=by rw[<-yf.o];exact A6.o.p1
   obtain⟨c0,c1,c2,c3,c4⟩:=A6.o.yD i g HG.o;obtain⟨z0,z1,z2,z3,z4,B4,q4⟩:=A6.o.KQ i HG.o;have AZ:=xh B4;have OZ:=xh (O6.o.trans q4);clear B4 q4;go_simp;refine hK.o _ _ (by have h:=AZ.o.p1;rw[<-yf.o];simpa [QS.ps,yf.o]using h) (λau=>?_)
   try simp only[Act.put,pa,pb,pc]
   refine wpAnyH_done (by kernel_rfl) ?_ _;have A9:=xh (show gW _ y n (({q with l:=lB q.l (i+1)}:QS).ps c)from by rw[<-HS1.o];exact AZ.o);go_wp2_with fail;go_roundw
   case rel=>exact⟨i+1,by omega,by go_num,A9,OZ⟩
   case measure=>simp[intOf];omega
  .obtain rfl:N=i:=by omega
   have q0:=AI.o.p0;go_wp2_with fail;refine(KA.o _ AI.o).mono ?_;rintro e w5 ⟨rfl,c5,p5,z5⟩;have HF:=xh (HZ.o _ _ _ AI.o OI.o p5 z5);clear p5 z5;go_wp2_with fail;go_ret;exact aP HF.o
theorem FG(h:Fb q.l K):∀i,i<=q.l.length->Fb (q.aT i).1.l K/\(q.aT i).1.l.length=q.l.length
 |0,_=>⟨h,rfl⟩
 |i+1,hi=>by
  obtain⟨h1,h2⟩:=FG h i (by omega);unfold QS.aT
  split
  .exact⟨h1,h2⟩
  .obtain⟨h3,h4⟩:=vQ (k:=i) h1 (by omega);exact⟨h3,by rw[h4,h2]⟩
theorem LX(q:QS)(i:Nat):q.aT (i+1)=if(q.aT i).2≠0 then q.aT i else(q.aT i).1.bI i:=rfl
theorem zY(q:QS)(h:(q.aT i).2≠0):∀k,q.aT (i+k)=q.aT i
 |0=>rfl
 |k+1=>by
  show q.aT ((i+k)+1)=_;rw[LX,zY q h k,if_pos h]
theorem FH(h:ZP w y n q K)(hb:Fb q.l K)(hK:K<=999999999000):
  Calls prog 50 #[pp y.pb] w λe w'=>e=.returned (.int .i64 q.aE.2)/\ZTo w w' y n q.aE.1 (K+40):=by
 obtain⟨c,A,z⟩:=h;have l2:q.l.length<=32:=A.l2;have KC:=xh (LQ A);rw[show(q.ps c).l=q.l from rfl]at KC;obtain⟨N,hN⟩:∃N,q.l.length=N:=⟨_,rfl⟩;have HN:=xh hN;have HP1:=xh (show ∀W,Below w.heap.size w W->W.cell? ⟨y.pb,1,none⟩=some (.slice (some ⟨y.fg,0,none⟩) N y.cp)from λW hW=>by rw[<-hN];exact(A.below hW).p1);have H0:=xh (λW (hW:Below w.heap.size w W)=>(show ZP W y n (q.aT 0).1 (K+0)from⟨c,A.below hW,z⟩))
 have KB:=xh (λ(i:Nat) (hi:i<N) (W:World) (hW:ZP W y n (q.aT i).1 (K+i))=>zR hW (by omega) i (by rw[(FG hb i (by omega)).2];omega) (λf hf=>((FG hb i (by omega)).1 f hf).2.2));have HSU:=xh (show ∀i,(q.aT i).2=0->q.aT (i+1)=(q.aT i).1.bI i from λi h0=>by
  show(if(q.aT i).2≠0 then q.aT i else(q.aT i).1.bI i)=_;rw[if_neg (by simpa using h0)])
 have HBAD:=xh (show ∀i,i<=N->(q.aT i).2≠0->q.uh=0->q.aE=q.aT i from λi hi fc h0=>by
  have h1:=zY q fc (N-i);rw[show i+(N-i)=N by omega]at h1;unfold QS.aE;rw[h0,if_neg (by omega),hN,h1,if_pos fc])
 have HEND:=xh (show(q.aT N).2=0->q.uh=0->q.aE=({(q.aT N).1 with a:=(q.aT N).1.a.aE.1},(q.aT N).1.a.aE.2)from λh1 h0=>by
  unfold QS.aE;rw[h0,if_neg (by omega),hN,if_neg (by rw[h1];simp)])
 have HHE:=xh (show 0<q.uh->q.aE=(q,16)from λh0=>by
  unfold QS.aE;rw[if_pos h0])
 have HZQ:=xh (show ∀W,Below w.heap.size w W->ZTo w W y n q (K+40)from λW hW=> .self ((show ZP W y n q K from⟨c,A.below hW,z⟩).more (by omega)) (.ai hW));have KS:=xh (λ(W:World) (c1:C) (a:St) (K1:Nat) (x:X) (B:At W x n c1) (z1:Zc c1 n a K1) (hK1:K1<=1000000000000)=>Hu B z1 hK1);rw[hN]at l2 KC;have UL:(q.l.countP λf=>decide (0<f.held))=q.uh:=rfl;rw[UL]at KC;clear UL A z hN;unfold pp sp at *;go_enter func50,ntmps50;go_wp2_with fail
 refine KC.o.mono ?_;rintro e w1 ⟨rfl,bg⟩;have O1:=xh bg;clear bg;obtain⟨hn,hhn⟩:∃hn,q.uh=hn:=⟨_,rfl⟩;have HHN:=xh hhn;rw[hhn];clear hhn
 by_cases h0:0<hn
 .have h0I:(0:Int)<(hn:Int):=by omega
  have HR:=xh (HHE.o (by rw[HHN.o];exact h0));go_wp2_with fail;go_ret;exact⟨by rw[HR.o];rfl,by rw[HR.o];exact HZQ.o _ O1.o⟩
 .have h0I:¬(0:Int)<(hn:Int):=by omega
  have HH0:=xh (show q.uh=0 by rw[HHN.o];omega);have p1:=HP1.o _ O1.o;go_wp2_with fail
  go_loopw [6,7,23] (λ_ _ iv wr=> ∃i:Nat,i<=N/\iv=.int .i64 i/\Hid (ZP wr y n (q.aT i).1 (K+i))/\Hid ((q.aT i).2=0)/\Hid (ag y.fp w wr)) (λ_ _ iv _=>N-(intOf iv).toNat)
  case atStart=>exact⟨0,bf _,rfl,xh (H0.o _ O1.o),xh rfl,xh (ag.ai O1.o)⟩
  case round=>
   obtain⟨i,hi,rfl,ZI,E0,OI⟩:=hrel
   by_cases h':i<N
   .have hI:(i:Int)<(N:Int):=by omega
    have KB1:=xh (KB.o i h' wr ZI.o);have HS1:=xh (HSU.o i E0.o);have GY:=xh (HBAD.o (i+1) (by omega));rw[<-HS1.o]at KB1;obtain⟨R,HR⟩:∃R,Hid (q.aT (i+1)=R):=⟨_,xh rfl⟩;rw[HR.o]at KB1 GY
    by_cases hr:R.2=0
    .rw[hr]at KB1;go_wp2_with fail;refine KB1.o.mono ?_;rintro e w5 ⟨rfl,z5,o5⟩;have Z5:=xh (show ZP w5 y n (q.aT (i+1)).1 (K+(i+1))from by rw[HR.o];exact z5);have E5:=xh (show(q.aT (i+1)).2=0 from by rw[HR.o];exact hr);have O5:=xh (OI.o.trans o5);clear z5 o5;go_wp2_with fail;go_roundw
     case rel=>exact⟨i+1,by omega,by go_num,Z5,E5,O5⟩
     case measure=>simp[intOf];omega
    .have hq:(R.2==0)=false:=by rw[beq_eq_false_iff_ne];exact hr
     have kh:(R.2 != 0)=true:=by rw[bne_iff_ne];exact hr
     have HC:=xh (GY.o hr HH0.o);go_wp2_with fail;refine KB1.o.mono ?_;rintro e w5 ⟨rfl,z5,o5⟩;have Z5:=xh z5;have O5:=xh (OI.o.trans o5);clear z5 o5;go_wp2_with fail;go_ret;exact⟨by rw[HC.o];rfl,by rw[HC.o];exact .self (Z5.o.more (by omega)) O5.o⟩
   .obtain rfl:N=i:=by omega
    obtain⟨c5,A5,Z5⟩:=ZI.o;have q0:=A5.p0;have KS5:=xh (KS.o _ _ _ _ _ A5.hs Z5 (by omega));have HE:=xh (HEND.o E0.o HH0.o);have A5:=xh A5;clear Z5;unfold sp at *;go_wp2_with fail;refine KS5.o.mono ?_;rintro e w6 ⟨rfl,c6,p6,z6⟩;have HF:=xh (show ZTo w w6 y n ({(q.aT N).1 with a:=(q.aT N).1.a.aE.1}) (K+40)from by
     obtain⟨y',e1,_,_,e2,e3,B',o',f'⟩:=A5.o.store p6;exact⟨y',e1,e2,e3,⟨c6,B',z6.more (by omega)⟩,OI.o.trans o',λg hg=>(f' g hg).imp id (λh=>aq OI.o.size h)⟩)
    clear p6 z6;go_wp2_with fail;go_ret;exact⟨by rw[HE.o];rfl,by rw[HE.o];exact HF.o⟩
theorem QF(h:ZP w y n q K)(hK:K<=1000000000000)(v:ByteArray)(hs:v.size<=9223372036854775807):
  Calls prog 69 #[pp y.pb,.string v] w λe w'=>e=.returned (.tuple #[.int .i64 (q.bJ v.data.toList).2.1,.int .i64 (q.bJ v.data.toList).2.2])/\ZTo w w' y n (q.bJ v.data.toList).1 (K+1):=by
 obtain⟨c,A,z⟩:=h;have zn:=z.new v.data.toList;have hp:=P8 A v hs (z.ep0 hK) (by have:=(z.calls hK).1;show c.d.calls<=_;omega) (z.calls hK).2;rw[show(q.ps c).c=c from rfl,zn.2]at hp;refine hp.mono λe w' ⟨r,y',e1,_,_,e2,e3,B',o',f'⟩=>⟨r,y',e1,e2,e3,⟨_,B',zn.1⟩,o',f'⟩
theorem LY(h:ZP w y n q K)(hb:Fb q.l K)(p:Int):
  Calls prog 132 #[pp y.pb,.int .i64 p] w λe w'=>e=.returned (.int .i64 (q.aR p).2)/\ZP w' y n (q.aR p).1 K/\ag y.fp w w':=by
 obtain⟨c,A,z⟩:=h;have zd:=z.drop p;unfold QS.aR
 rcases fX q.l p with e|⟨k,f,e,hf,_,_⟩
 .rw[e,if_neg (by omega)];have hd:=Qc A p e;rw[show(q.ps c).c=c from rfl,zd.2]at hd
  by_cases h0:(q.a.aR p).2=0
  .rw[if_neg (by simpa using h0),if_neg (by omega)];refine hd.mono λe w' ⟨r,A',o⟩=>⟨by rw[r,h0],⟨_,A',zd.1⟩,o⟩
  .rw[if_pos h0];refine hd.mono λe w' ⟨r,A',o⟩=>⟨r,⟨_,A',zd.1⟩,o⟩
 .rw[e,show((k:Nat):Int).toNat=k by omega,nr hf];have hm:=hb f (ay hf)
  by_cases hh:0<f.held
  .rw[if_pos ⟨by omega,hh⟩];exact(KK A p k e hf hh).mono λe w' ⟨r,b⟩=>⟨r,⟨c,A.below b,z⟩,.ai b⟩
  .rw[if_neg (λh=>hh h.2)];have hd:=TO A p k e hf (by omega);rw[show(q.ps c).c=c from rfl,zd.2]at hd
   by_cases h0:(q.a.aR p).2=0
   .rw[if_neg (by simpa using h0),if_pos (by omega)];rw[if_pos h0]at hd;refine hd.mono λe w' ⟨r,A',o⟩=>⟨by rw[r,h0],⟨_,A',zd.1⟩,o⟩
   .rw[if_pos h0];rw[if_neg h0]at hd;refine hd.mono λe w' ⟨r,A',o⟩=>⟨r,⟨_,A',zd.1⟩,o⟩
end Sh
namespace Sh
open Go.RowKit Pk Dk Pg
variable{w:World}{n g K K':Nat}{t:TypeId}{cs:Array Value}{y:Y}{q:QS}
theorem At.alien2{x:X}{c:C}(h:At w x n c)(B:aF w g t cs)(h1:t≠146)(h2:t≠218)(h3:t≠3)(h4:t≠149)(h5:t≠152)(h6:t≠4)(h7:t≠231):g∉x.fp:=by
 intro hg;simp only[X.fp,aj,aB]at hg;have hs:∀{v:Value} {k:Nat} {l:List Value},Sl w 3 v k l->g∉cf v:=λS hg=>by
  obtain⟨cs',B'⟩:=vA S _ hg;exact B.kl B' h3 rfl
 rcases hg with rfl|rfl|rfl|((hg|hg)|hg)|hg
 .exact B.kl h.hb h1 rfl
 .exact B.kl h.hm.hb h2 rfl
 .exact B.kl h.hm.hg h3 rfl
 .simp only[Loc.fp,aj,gP,or_false]at hg
  rcases hg with rfl|rfl|rfl|rfl
  .exact B.kl h.hd.hb h4 rfl
  .exact B.kl h.hd.hN h5 rfl
  .exact B.kl h.hd.hO h5 rfl
  .exact B.kl h.hd.hL h6 rfl
 .exact hs h.ht hg
 .exact hs h.ho hg
 .exact h.hp.aQ B h3 h7 hg
theorem gW.iI{s:PS}(h:gW w y n s)(B:aF w g t cs)(ha:t≠143)(hb:t≠167)(h1:t≠146)(h2:t≠218)(h3:t≠3)(h4:t≠149)(h5:t≠152)(h6:t≠4)(h7:t≠231):g∉y.fp:=by
 intro hg;simp only[Y.fp,aj]at hg
 rcases hg with rfl|rfl|hg
 .exact B.kl h.hp ha rfl
 .exact dk h.hf B (by exact hb) (by simp[ah])
 .exact h.hs.alien2 B h1 h2 h3 h4 h5 h6 h7 hg
theorem UM(h:ZP w y n q K)(H:Hq q n K)(hK:K<=999999999999)(p:Int):
  Calls prog 121 #[pp y.pb,.int .i64 p] w λe w'=>e=.returned (.tuple #[.string (q.cU p).2.1,.int .i64 (q.cU p).2.2])/\ZP w' y n (q.cU p).1 (K+1)/\ag y.fp w w':=by
 unfold QS.cU
 by_cases h0:(q.aZ p).2.2=0
 .rw[if_neg (by simpa using h0)];exact Qw h H.f hK H.full p h0
 .rw[if_pos h0];exact Uy h H.f hK p h0
theorem UN(h:ZP w y n q K)(H:Hq q n K)(hK:K<=999999999999)(p:Int)(b:ByteArray):
  Calls prog 176 #[pp y.pb,.int .i64 p,.string b] w λe w'=>e=.returned (.int .i64 (q.du p b).2)/\ZP w' y n (q.du p b).1 (K+1)/\ag y.fp w w':=by
 unfold QS.du
 by_cases hb:232<b.size
 .rw[if_pos hb];exact(UA p b hb).mono λe w' ⟨r,o⟩=>⟨r,(h.below o).more (by omega),.ai o⟩
 rw[if_neg hb]
 by_cases h0:(q.aZ p).2.2=0
 .rw[if_neg (by simpa using h0)];have hp:=Qx h H.f hK H.full p b (by omega) h0;rw[UG H p b (by omega) h0]at hp;exact hp
 .rw[if_pos h0];exact Uz h H.f hK H.full p b (by omega) h0
structure Ix where
 pb:Nat
 sb:Nat
 L:Dk.Loc
def PQ(w:World)(I:Ix)(F:List Nat)(q:QS)(n K:Nat):Prop:= ∃y,y.pb=I.pb/\y.x.b=I.sb/\y.x.L=I.L/\y.fp=F/\ZP w y n q K/\Wp q n K
def PT(w w':World)(I:Ix)(F:List Nat)(q:QS)(n K:Nat):Prop:= ∃F',PQ w' I F' q n K/\ag F w w'/\∀g∈F',g∈F\/w.heap.size<=g
section
variable{w w':World}{I:Ix}{F S:List Nat}{q:QS}{n K:Nat}
theorem PQ.wp(h:PQ w I F q n K):Wp q n K:=by
 obtain⟨y,_,_,_,_,_,W⟩:=h;exact W
theorem PQ.only(h:PQ w I F q n K)(o:ag S w w')(hd:∀g∈F,g∉S):PQ w' I F q n K:=by
 obtain⟨y,e1,e2,e3,rfl,⟨c,A,z⟩,W⟩:=h;exact⟨y,e1,e2,e3,rfl,⟨c,A.only o hd,z⟩,W⟩
theorem PQ.below(h:PQ w I F q n K)(hb:Below w.heap.size w w'):PQ w' I F q n K:=h.only (S:=[]) (.ai hb) (by simp)
theorem PQ.drew(h:PQ w I F q n K):PQ w.drew I F q n K:=h.below (Below.refl _ _).drew
theorem PQ.lt(h:PQ w I F q n K):∀g∈F,g<w.heap.size:=by
 obtain⟨y,_,_,_,rfl,⟨c,A,z⟩,_⟩:=h;exact A.lt
theorem PQ.le(h:PQ w I F q n K)(hk:K<=K'):PQ w I F q n K':=by
 obtain⟨y,e1,e2,e3,e4,⟨c,A,z⟩,W⟩:=h;exact⟨y,e1,e2,e3,e4,⟨c,A,z.more hk⟩,W.more hk⟩
theorem PQ.aQ{b:Nat}(h:PQ w I F q n K)(o:ag [b] w w')(hb:b∉F):PQ w' I F q n K:=h.only o (λg hg hm=>hb (by rw[<-aI.1 hm];exact hg))
theorem PQ.iI(h:PQ w I F q n K)(B:aF w g t cs)(ha:t≠143:=by decide)(hb:t≠167:=by decide)(h1:t≠146:=by decide)(h2:t≠218:=by decide)(h3:t≠3:=by decide)(h4:t≠149:=by decide)(h5:t≠152:=by decide)(h6:t≠4:=by decide)(h7:t≠231:=by decide):g∉F:=by
 obtain⟨y,_,_,_,rfl,⟨c,A,z⟩,_⟩:=h;exact A.iI B ha hb h1 h2 h3 h4 h5 h6 h7
theorem PT.self(h:PQ w' I F q n K)(o:ag F w w'):PT w w' I F q n K:=⟨F,h,o,λ_ hg=> .inl hg⟩
theorem PT.le(h:PT w w' I F q n K)(hk:K<=K'):PT w w' I F q n K':=by
 obtain⟨F',a,b⟩:=h;exact⟨F',a.le hk,b⟩
theorem ZTo.pt{q':QS}(h:ZTo w w' y n q' K')(W:Wp q' n K'):PT w w' ⟨y.pb,y.x.b,y.x.L⟩ y.fp q' n K':=by
 obtain⟨y',e1,e2,e3,z,o,f⟩:=h;exact⟨y'.fp,⟨y',e1,e2,e3,rfl,z,W⟩,o,f⟩
theorem uk(h:PQ w I F q n K)(hK:K<=999999999999)(p:Int):
  Calls prog 121 #[pp I.pb,.int .i64 p] w λe w'=>e=.returned (.tuple #[.string (q.cU p).2.1,.int .i64 (q.cU p).2.2])/\PQ w' I F (q.cU p).1 n (K+1)/\ag F w w':=by
 obtain⟨y,e1,e2,e3,rfl,z,W⟩:=h;have hw:=(W.get p).1.w;rw[<-e1];exact(UM z W.H hK p).mono λe w' ⟨r,z',o⟩=>⟨r,⟨y,e1,e2,e3,rfl,z',hw⟩,o⟩
theorem UO(h:PQ w I F q n K)(hK:K<=999999999999)(p:Int)(b:ByteArray)(hb:b.size<=232):
  Calls prog 176 #[pp I.pb,.int .i64 p,.string b] w λe w'=>e=.returned (.int .i64 (q.du p b).2)/\PQ w' I F (q.du p b).1 n (K+1)/\ag F w w':=by
 obtain⟨y,e1,e2,e3,rfl,z,W⟩:=h;have hw:=(W.put p b hb).1.w;rw[<-e1];exact(UN z W.H hK p b).mono λe w' ⟨r,z',o⟩=>⟨r,⟨y,e1,e2,e3,rfl,z',hw⟩,o⟩
theorem zZ(h:PQ w I F q n K)(hK:K<=1000000000000)(v:ByteArray)(hv:v.size<=232):
  Calls prog 69 #[pp I.pb,.string v] w λe w'=>e=.returned (.tuple #[.int .i64 (q.bJ v.data.toList).2.1,.int .i64 (q.bJ v.data.toList).2.2])/\PT w w' I F (q.bJ v.data.toList).1 n (K+1):=by
 obtain⟨y,e1,e2,e3,rfl,z,W⟩:=h;have hw:=(W.new v hv).1.w;obtain⟨_,_,_⟩:=I;subst e1 e2 e3;exact(QF z hK v (by omega)).mono λe w' ⟨r,t⟩=>⟨r,t.pt hw⟩
theorem ra(h:PQ w I F q n K)(p:Int):
  Calls prog 132 #[pp I.pb,.int .i64 p] w λe w'=>e=.returned (.int .i64 (q.aR p).2)/\PQ w' I F (q.aR p).1 n K/\ag F w w':=by
 obtain⟨y,e1,e2,e3,rfl,z,W⟩:=h;have hw:=(W.drop p).1.w;rw[<-e1];exact(LY z W.H.f p).mono λe w' ⟨r,z',o⟩=>⟨r,⟨y,e1,e2,e3,rfl,z',hw⟩,o⟩
theorem L8(h:PQ w I F q n K)(hK:K<=999999999999)(i:Int):
  Calls prog 58 #[pp I.pb,.int .i64 i] w λe w'=>e=.returned (.int .i64 (q.eE i).2)/\PQ w' I F (q.eE i).1 n (K+1)/\ag F w w':=by
 obtain⟨y,e1,e2,e3,rfl,z,W⟩:=h;have hw:=(W.xw i).1.w;rw[<-e1];exact(LS z W.H.f hK i).mono λe w' ⟨r,z',o⟩=>⟨r,⟨y,e1,e2,e3,rfl,z',hw⟩,o⟩
theorem xy(h:PQ w I F q n K)(hK:K<=999999999000):
  Calls prog 50 #[pp I.pb] w λe w'=>e=.returned (.int .i64 q.aE.2)/\PT w w' I F q.aE.1 n (K+40):=by
 obtain⟨y,e1,e2,e3,rfl,z,W⟩:=h;have hw:=(W.j0 hK).1;obtain⟨_,_,_⟩:=I;subst e1 e2 e3;exact(FH z W.H.f hK).mono λe w' ⟨r,t⟩=>⟨r,t.pt hw⟩
theorem Ma(h:PQ w I F q n K):
  Calls prog 51 #[pp I.pb] w λe w'=>e=.returned (.bool true)/\PT w w' I F q.bY n K:=by
 obtain⟨y,e1,e2,e3,rfl,z,W⟩:=h;have hw:=W.abort.1;obtain⟨_,_,_⟩:=I;subst e1 e2 e3;exact(Ig z).mono λe w' ⟨r,t⟩=>⟨r,t.pt hw⟩
theorem Ab(h:PQ w I F q n K):Calls prog 28 #[pp I.pb] w λe w'=>e=.returned (sp I.sb)/\w=w':=by
 obtain⟨y,e1,e2,e3,rfl,⟨c,A,z⟩,W⟩:=h;rw[<-e1,<-e2];exact Kv A
theorem Ad(h:PQ w I F q n K):
  Calls prog 29 #[sp I.sb] w λe w'=> ∃A cc,e=.returned (.slice A q.a.jK.length cc)/\aS w' 3 1 (.slice A q.a.jK.length cc) q.a.jK.length (cZ q.a.jK)/\Below w.heap.size w w':=by
 obtain⟨y,e1,e2,e3,rfl,⟨c,A,z⟩,W⟩:=h;rw[<-e2];obtain⟨k,e⟩:=z.e;have hp:yi c.table c.table.length=q.a.jK:=by
  rw[NV (n:=n) _ (Nat.le_refl _),e];have:=pad_pgs (c.bP n).now k;unfold St.jK St.pad C.bP at *;simp only[aO,ev,eM]at *;exact this.symm
 have:=Kq A.hs;rw[show(q.ps c).c=c from rfl,hp]at this;exact this
end
attribute [local go_sem ↓] Go.wp_at_zero Go.wp_at_succ
variable{w w':World}{b n K g:Nat}{F:List Nat}{c:Int}{a:ByteArray}{I:Ix}
def eF(n:Int):Int:=max ((max n 0+227) / 228) 1
def p7(n:Nat):List UInt8:=[UInt8.ofNat (n / 256),UInt8.ofNat n]
def dU(v:List UInt8)(i:Nat):List UInt8:=(v.drop (228*i)).take 228
theorem Dd(n:Int)(h:n<=1000000)(w:World):
  Calls prog 172 #[.int .i64 n] w λe w'=>e=.returned (.int .i64 (eF n))/\w=w':=by
 unfold eF;obtain⟨m,hm⟩:=eT (show 0<=max n 0 by omega);rw[hm];have NK:m<=1000000:=by omega
 have e1:IntKind.i64.wrap ((m:Int)+228)=(m:Int)+228:=IntWalk.i64_in _ (by omega);have e2:IntKind.i64.wrap ((m:Int)+228-1)=(m:Int)+227:=by rw[show(m:Int)+228-1=(m:Int)+227 by omega];exact IntWalk.i64_in _ (by omega)
 have e3:IntKind.i64.wrap (((m:Int)+227).tdiv 228)=((m:Int)+227) / 228:=by rw[JJ (by omega)];exact IntWalk.i64_in _ (by omega)
 have e4:IntKind.i64.wrap ((m:Int)+227)=(m:Int)+227:=IntWalk.i64_in _ (by omega);go_enter func172,ntmps172;go_wp2_with fail
 all_goals
  go_ret;refine⟨?_,rfl⟩
  first|(simp;done)|(simp;omega)
theorem fe(n:Nat)(h:n<=60000)(w:World):
  Calls prog 173 #[.int .i64 (n:Nat)] w λe w'=>e=.returned (.string ⟨(p7 n).toArray⟩)/\Below w.heap.size w w':=by
 have O0:=xh (ae (Below.refl w.heap.size w) (.cells #[.int .u8 ((n:Int) / 256),.int .u8 ((n:Int) % 256)] 5));have B0:=aF.new w 5 #[.int .u8 ((n:Int) / 256),.int .u8 ((n:Int) % 256)];have e1:IntKind.u8.wrap ((n:Int) / 256)=(n:Int) / 256:=IntWalk.u8_in _ (by omega);have hb:dN (p7 n)=[.int .u8 ((n:Int) / 256),.int .u8 ((n:Int) % 256)]:=by
  unfold p7 dN bv;simp only[fJ,qK,iN];rw[show((n / 256 % 2 ^ 8:Nat):Int)=(n:Int) / 256 by omega,show((n % 2 ^ 8:Nat):Int)=(n:Int) % 256 by omega]
 have HR:=xh (cm (P:=prog) _ 150 9 5 underlying150 underlying5 underlying9 ⟨w.heap.size,0,none⟩ 2 2 (p7 n) rfl (bq (l:=dN (p7 n)) (by rw[hb];exact B0) 0 _ (by simp)));clear B0 hb;go_enter func173,ntmps173;go_wp2_with fail;rw[HR.o];go_wp2_with fail;go_ret;exact aP O0.o
theorem QG{q:Nat}(v:ByteArray)(hv:v.size<=1024)(hq:w.cell? ⟨q,0,none⟩=some (.string v))(i:Nat)(hi:228*i<=v.size):
  Calls prog 171 #[.int .i64 (i:Nat),.pointer (some ⟨q,0,none⟩)] w λe w'=>e=.returned (.string ⟨(dU v.data.toList i).toArray⟩)/\w=w':=by
 have e1:IntKind.i64.wrap ((i:Int)*228)=((228*i:Nat):Int):=by rw[show(i:Int)*228=((228*i:Nat):Int) by omega];exact IntWalk.i64_in _ (by omega)
 have e2:IntKind.i64.wrap ((i:Int)+1)=(i:Int)+1:=IntWalk.i64_in _ (by omega);have e3:IntKind.i64.wrap (((i:Int)+1)*228)=((228*i+228:Nat):Int):=by rw[show((i:Int)+1)*228=((228*i+228:Nat):Int) by omega];exact IntWalk.i64_in _ (by omega)
 have HP:=xh (show ∀b:Nat,(228*i+228<=v.size->b=228*i+228)->(v.size<228*i+228->b=v.size)->v.extract (228*i) b=⟨(dU v.data.toList i).toArray⟩from λb h1 h2=>by
  apply mo;apply rS.1;show(v.extract (228*i) b).data.toList=dU v.data.toList i;rw[exl'];unfold dU
  rcases dX v.size (228*i+228)with h|h
  .rw[h2 h,cr (by simp),cr (by simp;omega)]
  .rw[h1 h,show 228*i+228-228*i=228 by omega])
 go_enter func171,ntmps171;go_wp2_with fail
 all_goals
  go_ret;exact⟨by rw[HP.o _ (by omega) (by omega)];rfl,rfl⟩
def bS(l:List UInt8)(k:Nat):Nat:=(l.getD k 0).toNat*256+(l.getD (k+1) 0).toNat
theorem or8(a b:Nat)(ha:a<256)(hb:b<256):bits .or .i64 ((a:Int)*256) (b:Int)=((a*256+b:Nat):Int):=by
 rw[bits_join .i64 32 (by decide) (λn h0 h1=>IntWalk.i64_in n (by omega)) 8 _ _ (by omega) (by omega) (by omega) (by omega) (by omega) (by omega)];omega
theorem dK(s:ByteArray)(k:Nat)(h:k<s.size):s.data.toList.getD k 0=s[k]:=by
 have h2:k<s.data.toList.length:=by simpa using h
 simp only[List.getD,aG h2,iM,Array.getElem_toList];rfl
theorem l8(o:ag (b::F) w w')(hb:w.heap.size<=b):ag F w w':=o.mono (λx hx dP=>(aj.1 hx).elim (λe=>by omega) id)
theorem l9(o:ag F w w'):ag (b::F) w w':=o.mono (λ_ hx _=>aw _ hx)
theorem ma(o:ag [b] w w'):ag (b::F) w w':=o.mono (λ_ hx _=>by rw[aI.1 hx];exact fK ..)
def QS.dV(q:QS)(l:Int):QS×Int×List UInt8×Int:=
 if(q.cU l).2.2≠0 then((q.cU l).1,0,[],(q.cU l).2.2)else if 228<bS (q.cU l).2.1.data.toList 2 then((q.cU l).1,0,[],14)else((q.cU l).1,(bS (q.cU l).2.1.data.toList 0:Int)-1,((q.cU l).2.1.data.toList.drop 4).take (bS (q.cU l).2.1.data.toList 2),0)
theorem Ae{q:QS}(h:Wp q n K){p:Int}(h0:(q.cU p).2.2=0):(q.cU p).2.1.size=232:=by
 rcases(h.get p).2 with⟨h1,h2⟩|⟨h1,h2⟩|⟨h1,h2⟩
 .rw[h2];show(q.vw p).1.toArray.size=232;simpa using h.len h1
 .rw[h2]at h0;exact absurd h0 (by decide)
 .rw[h2]at h0;exact absurd h0 (by decide)
def Af(n:Int)(s:ByteArray):Value:= .agg #[.int .i64 n,.string s]
theorem Ag{fn:Func}{p u:Tmp}{tmps:Array Value}(h:fn.results= #[.cell p 262,.tmp u])(hp:tmps.getD p undef=.pointer (some ⟨g,0,none⟩))(B:aF w g 262 #[.int .i64 c,.string a]):
  (results fn tmps).run prog w=.ok (.tuple #[Af c a,tmps.getD u undef]) w:=by
 have c0:=B.ab (i:=0) rfl;have c1:=B.ab (i:=1) rfl;rw[results_cell_tmp h,hp];clear h hp B;unfold Af;go_simp
theorem Mb{c':Int}{a':ByteArray}(B:aF w g 262 #[.int .i64 c,.string a]):
  aF ((w.setCell ⟨g,0,none⟩ (.int .i64 c')).setCell ⟨g,1,none⟩ (.string a')) g 262 #[.int .i64 c',.string a']/\ag [g] w ((w.setCell ⟨g,0,none⟩ (.int .i64 c')).setCell ⟨g,1,none⟩ (.string a'))/\
   w.cell? ⟨g,0,none⟩=some (.int .i64 c)/\w.cell? ⟨g,1,none⟩=some (.string a)/\w.frozen? ⟨g,0,none⟩=false/\w.frozen? ⟨g,1,none⟩=false:=
 ⟨(B.bU 0 _).bU 1 _,((ag.refl _ _).setCell (by simp) _).setCell (by simp) _,B.ab rfl,B.ab rfl,B.frozen 0 (by simp),B.frozen 1 (by simp)⟩
theorem QH{q:QS}(h:PQ w I F q n K)(hK:K<=999999999999)(p:Int)(he:(q.cU p).2.2≠0):
  Calls prog 204 #[pp I.pb,.int .i64 p] w λe w'=>e=.returned (.tuple #[Af 0 ⟨#[]⟩,.int .i64 (q.cU p).2.2])/\PQ w' I F (q.cU p).1 n (K+1)/\ag F w w':=by
 have O0:=xh (ae (Below.refl w.heap.size w) (.cells #[.int .i64 0,.string ⟨#[]⟩] 262));have B0:=xh (aF.new w 262 #[.int .i64 0,.string ⟨#[]⟩]);have NQ:=xh (show w.heap.size∉F from λhm=>by have:=h.lt _ hm;omega);have KG:=xh (uk (h.below O0.o) hK p);have hq:((q.cU p).2.2 != 0)=true:=by rw[bne_iff_ne];exact he
 have kh:((q.cU p).2.2==0)=false:=by rw[beq_eq_false_iff_ne];exact he
 generalize q.cU p=R at *;obtain⟨q1,R1,R2⟩:=R;dsimp only at *;clear h he;unfold pp at *;go_enter func204,ntmps204;go_wp2_with fail;refine KG.o.mono ?_;rintro e w1 ⟨rfl,A1,o1⟩;have A1:=xh A1;have o1:=xh o1;obtain⟨B2,o2,c0,c1,z0,z1⟩:=Mb (c':=0) (a':=⟨#[]⟩) (B0.o.only o1.o NQ.o);have B2:=xh B2;have o2:=xh o2;go_wp2_with fail
 exact bodyPost_ret (Ag rfl rfl B2.o) rfl ⟨rfl,(A1.o).aQ o2.o NQ.o,l8 (((ag.ai (S:=w.heap.size::F) O0.o).trans (l9 o1.o)).trans (ma o2.o)) (Nat.le_refl _)⟩
theorem Mc{q:QS}(h:PQ w I F q n K)(hK:K<=999999999999)(p:Int)(he:(q.cU p).2.2=0)(H2:228<bS (q.cU p).2.1.data.toList 2):
  Calls prog 204 #[pp I.pb,.int .i64 p] w λe w'=>e=.returned (.tuple #[Af 0 ⟨#[]⟩,.int .i64 14])/\PQ w' I F (q.cU p).1 n (K+1)/\ag F w w':=by
 have O0:=xh (ae (Below.refl w.heap.size w) (.cells #[.int .i64 0,.string ⟨#[]⟩] 262));have B0:=xh (aF.new w 262 #[.int .i64 0,.string ⟨#[]⟩]);have NQ:=xh (show w.heap.size∉F from λhm=>by have:=h.lt _ hm;omega);have KG:=xh (uk (h.below O0.o) hK p);have oX:=Ae h.wp he;rw[he]at KG;generalize q.cU p=R at *;obtain⟨q1,s,R2⟩:=R;dsimp only at *;have b0:=s[0].toNat_lt;have b1:=s[1].toNat_lt;have b2:=s[2].toNat_lt;have b3:=s[3].toNat_lt
 have V0:=xh (show bits .or .i64 ((s[0].toNat:Int)*256) (s[1].toNat:Int)=((bS s.data.toList 0:Nat):Int)from by
  rw[or8 _ _ (by omega) (by omega)];unfold bS;rw[dK _ _ (by omega),dK _ _ (by omega)])
 have V2:=xh (show bits .or .i64 ((s[2].toNat:Int)*256) (s[3].toNat:Int)=((bS s.data.toList 2:Nat):Int)from by
  rw[or8 _ _ (by omega) (by omega)];unfold bS;rw[dK _ _ (by omega),dK _ _ (by omega)])
 have m0:bS s.data.toList 0<=65535:=by unfold bS;rw[dK _ _ (by omega),dK _ _ (by omega)];simp only[bl];omega
 have u0:IntKind.i64.wrap (s[0].toNat:Int)=(s[0].toNat:Int):=IntWalk.i64_in _ (by omega);have u1:IntKind.i64.wrap (s[1].toNat:Int)=(s[1].toNat:Int):=IntWalk.i64_in _ (by omega);have u2:IntKind.i64.wrap (s[2].toNat:Int)=(s[2].toNat:Int):=IntWalk.i64_in _ (by omega);have u3:IntKind.i64.wrap (s[3].toNat:Int)=(s[3].toNat:Int):=IntWalk.i64_in _ (by omega);have u4:IntKind.i64.wrap ((s[0].toNat:Int)*256)=(s[0].toNat:Int)*256:=IntWalk.i64_in _ (by omega)
 have u5:IntKind.i64.wrap ((s[2].toNat:Int)*256)=(s[2].toNat:Int)*256:=IntWalk.i64_in _ (by omega);generalize bS s.data.toList 2=m2 at *;generalize bS s.data.toList 0=m1 at *;clear h he;unfold pp at *;go_enter func204,ntmps204;go_wp2_with fail;refine KG.o.mono ?_;rintro e w1 ⟨rfl,A1,o1⟩;have A1:=xh A1;have o1:=xh o1;go_wp2_with fail;go_quiet (fail);rw[V0.o,V2.o];obtain⟨B2,o2,c0,c1,z0,z1⟩:=Mb (c':=0) (a':=⟨#[]⟩) ((B0.o.only o1.o NQ.o).drewN nq)
 have B2:=xh B2;have o2:=xh (((ag.refl [w.heap.size] w1).drewN nq).trans o2);go_wp2_with fail;exact bodyPost_ret (Ag rfl rfl B2.o) rfl ⟨rfl,(A1.o).aQ o2.o NQ.o,l8 (((ag.ai (S:=w.heap.size::F) O0.o).trans (l9 o1.o)).trans (ma o2.o)) (Nat.le_refl _)⟩
theorem UP{q:QS}(h:PQ w I F q n K)(hK:K<=999999999999)(p:Int)(he:(q.cU p).2.2=0)(H2:bS (q.cU p).2.1.data.toList 2<=228):
  Calls prog 204 #[pp I.pb,.int .i64 p] w λe w'=>e=.returned (.tuple #[Af ((bS (q.cU p).2.1.data.toList 0:Int)-1) ⟨(((q.cU p).2.1.data.toList.drop 4).take (bS (q.cU p).2.1.data.toList 2)).toArray⟩,.int .i64 0])/\PQ w' I F (q.cU p).1 n (K+1)/\ag F w w':=by
 have O0:=xh (ae (Below.refl w.heap.size w) (.cells #[.int .i64 0,.string ⟨#[]⟩] 262));have B0:=xh (aF.new w 262 #[.int .i64 0,.string ⟨#[]⟩]);have NQ:=xh (show w.heap.size∉F from λhm=>by have:=h.lt _ hm;omega);have KG:=xh (uk (h.below O0.o) hK p);have oX:=Ae h.wp he;rw[he]at KG;generalize q.cU p=R at *;obtain⟨q1,s,R2⟩:=R;dsimp only at *;have b0:=s[0].toNat_lt;have b1:=s[1].toNat_lt;have b2:=s[2].toNat_lt;have b3:=s[3].toNat_lt
 have V0:=xh (show bits .or .i64 ((s[0].toNat:Int)*256) (s[1].toNat:Int)=((bS s.data.toList 0:Nat):Int)from by
  rw[or8 _ _ (by omega) (by omega)];unfold bS;rw[dK _ _ (by omega),dK _ _ (by omega)])
 have V2:=xh (show bits .or .i64 ((s[2].toNat:Int)*256) (s[3].toNat:Int)=((bS s.data.toList 2:Nat):Int)from by
  rw[or8 _ _ (by omega) (by omega)];unfold bS;rw[dK _ _ (by omega),dK _ _ (by omega)])
 have m0:bS s.data.toList 0<=65535:=by unfold bS;rw[dK _ _ (by omega),dK _ _ (by omega)];simp only[bl];omega
 have u0:IntKind.i64.wrap (s[0].toNat:Int)=(s[0].toNat:Int):=IntWalk.i64_in _ (by omega);have u1:IntKind.i64.wrap (s[1].toNat:Int)=(s[1].toNat:Int):=IntWalk.i64_in _ (by omega);have u2:IntKind.i64.wrap (s[2].toNat:Int)=(s[2].toNat:Int):=IntWalk.i64_in _ (by omega);have u3:IntKind.i64.wrap (s[3].toNat:Int)=(s[3].toNat:Int):=IntWalk.i64_in _ (by omega);have u4:IntKind.i64.wrap ((s[0].toNat:Int)*256)=(s[0].toNat:Int)*256:=IntWalk.i64_in _ (by omega)
 have u5:IntKind.i64.wrap ((s[2].toNat:Int)*256)=(s[2].toNat:Int)*256:=IntWalk.i64_in _ (by omega);have HX:=xh (show s.extract 4 (4+bS s.data.toList 2)=⟨((s.data.toList.drop 4).take (bS s.data.toList 2)).toArray⟩from by
  apply mo;apply rS.1;show(s.extract 4 (4+bS s.data.toList 2)).data.toList=(s.data.toList.drop 4).take (bS s.data.toList 2);rw[exl',show 4+bS s.data.toList 2-4=bS s.data.toList 2 by omega])
 generalize (⟨((s.data.toList.drop 4).take (bS s.data.toList 2)).toArray⟩:ByteArray)=P at *;generalize bS s.data.toList 2=m2 at *;generalize bS s.data.toList 0=m1 at *;have u6:IntKind.i64.wrap ((m1:Int)-1)=(m1:Int)-1:=IntWalk.i64_in _ (by omega);have u7:IntKind.i64.wrap (4+(m2:Int))=4+(m2:Int):=IntWalk.i64_in _ (by omega);have u8:(4+(m2:Int)).toNat=4+m2:=by omega
 clear h he;unfold pp at *;go_enter func204,ntmps204;go_wp2_with fail;refine KG.o.mono ?_;rintro e w1 ⟨rfl,A1,o1⟩;have A1:=xh A1;have o1:=xh o1;go_wp2_with fail;go_quiet (fail);rw[V0.o,V2.o];obtain⟨B2,o2,c0,c1,z0,z1⟩:=Mb (c':=(m1:Int)-1) (a':=s.extract 4 (4+m2)) ((B0.o.only o1.o NQ.o).drewN nq);have B2:=xh B2;have o2:=xh (((ag.refl [w.heap.size] w1).drewN nq).trans o2);go_wp2_with fail
 exact bodyPost_ret (Ag rfl rfl B2.o) rfl ⟨by rw[HX.o];rfl,(A1.o).aQ o2.o NQ.o,l8 (((ag.ai (S:=w.heap.size::F) O0.o).trans (l9 o1.o)).trans (ma o2.o)) (Nat.le_refl _)⟩
theorem QI{q:QS}(h:PQ w I F q n K)(hK:K<=999999999999)(p:Int):
  Calls prog 204 #[pp I.pb,.int .i64 p] w λe w'=>e=.returned (.tuple #[Af (q.dV p).2.1 ⟨(q.dV p).2.2.1.toArray⟩,.int .i64 (q.dV p).2.2.2])/\PQ w' I F (q.dV p).1 n (K+1)/\ag F w w':=by
 unfold QS.dV
 by_cases h0:(q.cU p).2.2=0
 .rw[if_neg (by simpa using h0)]
  by_cases h1:228<bS (q.cU p).2.1.data.toList 2
  .rw[if_pos h1];exact Mc h hK p h0 h1
  .rw[if_neg h1];exact UP h hK p h0 (by omega)
 .rw[if_pos h0];exact QH h hK p h0
attribute [local go_sem ↓] bw vq
variable{w:World}{e:TypeId}{z n:Nat}{v:Value}{l:List Value}
def QS.mB:Nat->QS->Int->List Int->List UInt8->QS×List Int×List UInt8×Int
 |0,q,_,_,_=>(q,[],[],14)
 |m+1,q,at_,l,b=>
  if(q.dV at_).2.2.2=3/\0<l.length then((q.dV at_).1,[],[],14)
  else if(q.dV at_).2.2.2≠0 then((q.dV at_).1,[],[],(q.dV at_).2.2.2)
  else if 1024<(b++(q.dV at_).2.2.1).length then((q.dV at_).1,[],[],14)
  else if(q.dV at_).2.1<0 then((q.dV at_).1,l++[at_],b++(q.dV at_).2.2.1,0)
  else QS.mB m (q.dV at_).1 (q.dV at_).2.1 (l++[at_]) (b++(q.dV at_).2.2.1)
def QS.cH(q:QS)(first:Int):QS×List Int×List UInt8×Int:=q.mB 5 first [] []
theorem UQ(q:QS)(l:Int):(q.dV l).2.1<=65534/\ -1<=(q.dV l).2.1/\(q.dV l).2.2.1.length<=228:=by
 unfold QS.dV
 split
 .exact⟨by show(0:Int)<=_;omega,by show(-1:Int)<=0;omega,by show 0<=228;omega⟩
 .split
  .exact⟨by show(0:Int)<=_;omega,by show(-1:Int)<=0;omega,by show 0<=228;omega⟩
  .refine⟨?_,?_,?_⟩
   .show(bS _ 0:Int)-1<=_;unfold bS;have:=(List.getD (q.cU l).2.1.data.toList 0 0).toNat_lt;have:=(List.getD (q.cU l).2.1.data.toList (0+1) 0).toNat_lt;omega
   .show -1<=(bS _ 0:Int)-1;omega
   .rw[bK];omega
theorem yH(h:aS w e z v n l):∀g∈ah v,∃cs,aF w g e cs:=by
 rcases h.2 with⟨rfl,_⟩|⟨g,cap,rest,rfl,B,_⟩
 .simp[ah]
 .intro x hx;simp only[ah,aI]at hx;exact⟨_,by rw[hx];exact B⟩
theorem mc{t:TypeId}{y m:Nat}{u:Value}{k:List Value}(h:aS w e z v n l)(h':aS w t y u m k)(fc:e≠t):∀g∈ah v,g∉ah u:=λg hg hu=>by
 obtain⟨cs,B⟩:=yH h g hg;exact dk h' B fc hu
theorem vS{I:Ix}{F:List Nat}{q:QS}{K:Nat}(h:PQ w I F q n K)(hK:K<=999999999900)(p:Int):
  Calls prog 160 #[pp I.pb,.int .i64 p] w λe w'=> ∃A m c,e=.returned (.tuple #[.slice A m c,.string ⟨(q.cH p).2.2.1.toArray⟩,.int .i64 (q.cH p).2.2.2])/\aS w' 3 1 (.slice A m c) (q.cH p).2.1.length (cZ (q.cH p).2.1)/\PQ w' I F (q.cH p).1 n (K+5)/\ag F w w'/\∀g∈ah (.slice A m c),w.heap.size<=g:=by
 have KN:=xh (Dd 1024 (by omega));rw[show eF 1024=5 from rfl]at KN;have KR:=xh (λ(W:World) (qj:QS) (kj:Nat) (hW:PQ W I F qj n kj) (hk:kj<=999999999999) (y:Int)=>QI hW hk y);have pQ:=xh h.lt;obtain⟨R,hR⟩:∃R,q.cH p=R:=⟨_,rfl⟩;rw[hR];have HQ:=xh h;unfold QS.cH at hR;have HR:=xh hR;clear h hR;unfold Af at KR;unfold pp at *;go_enter func160,ntmps160;go_wp2_with fail;refine(KN.o _).mono ?_;rintro e w1 ⟨rfl,rfl⟩;go_wp2_with fail
 go_loopw [7,8,9,16] (λlv bv av iv wr=> ∃(i:Nat) (l:List Int) (b:List UInt8) (at_:Int) (qi:QS),i<=5/\l.length=i/\iv=.int .i64 i/\av=.int .i64 at_/\b.length<=1024/\aS wr 3 1 lv i (cZ l)/\aS wr 5 1 bv b.length (dN b)/\Hid (qi.mB (5-i) at_ l b=R)/\Hid (PQ wr I F qi n (K+i)/\ag F w wr/\(∀g∈ah lv,w.heap.size<=g)/\(∀g∈ah bv,w.heap.size<=g))) (λ_ _ _ iv _=>5-(intOf iv).toNat)
 case atStart=>exact⟨0,[],[],p,q,by omega,rfl,rfl,rfl,by simp,aS.nil _ _ _,aS.nil _ _ _,HR,xh ⟨HQ.o,ag.refl _ _,by simp[ah],by simp[ah]⟩⟩
 case round=>
  obtain⟨i,l,b,at_,qi,hi,hl,rfl,rfl,hb,S1,S2,HW,HA⟩:=hrel;obtain⟨VA,vc,rfl⟩:=ax S1;obtain⟨VB,vb,rfl⟩:=ax S2
  by_cases h5:i<5
  .have K1:=xh (KR.o wr qi (K+i) HA.o.1 (by omega) at_);obtain⟨bd1,bd2,bd3⟩:=UQ qi at_;have HW:=HW.o;rw[show 5-i=(5-(i+1))+1 by omega]at HW;unfold QS.mB at HW;rw[hl]at HW;generalize qi.dV at_=r at *;obtain⟨qn,nx,pc,er⟩:=r;dsimp only at *
   by_cases he:er=0
   .subst he;rw[if_neg (by omega),if_neg (by simp)]at HW;have W2:=xh (show ∀w2,PQ w2 I F qn n (K+(i+1))->ag F wr w2->PQ (w2.alloc (.cells #[.int .i64 nx,.string ⟨pc.toArray⟩] 262)) I F qn n (K+(i+1))/\ag F w (w2.alloc (.cells #[.int .i64 nx,.string ⟨pc.toArray⟩] 262))/\
      aS (w2.alloc (.cells #[.int .i64 nx,.string ⟨pc.toArray⟩] 262)) 3 1 (.slice VA i vc) i (cZ l)/\aS (w2.alloc (.cells #[.int .i64 nx,.string ⟨pc.toArray⟩] 262)) 5 1 (.slice VB b.length vb) b.length (dN b)/\aF (w2.alloc (.cells #[.int .i64 nx,.string ⟨pc.toArray⟩] 262)) w2.heap.size 262 #[.int .i64 nx,.string ⟨pc.toArray⟩]/\w2.heap.size∉ah (.slice VA i vc)/\w2.heap.size∉ah (.slice VB b.length vb)from λw2 A2 o2=>by
     obtain⟨a1,a2,a3,a4⟩:=HA.o;have U:=ae (Below.refl w2.heap.size w2) (.cells #[.int .i64 nx,.string ⟨pc.toArray⟩] 262);have s1:=S1.only o2 (λg hg hF=>by have:=pQ.o g hF;have:=a3 g hg;omega);have s2:=S2.only o2 (λg hg hF=>by have:=pQ.o g hF;have:=a4 g hg;omega);exact⟨A2.below U,(a2.trans o2).trans (.ai U),s1.below U,s2.below U,aF.new _ _ _,λhg=>by have:=s1.lt _ hg;omega,λhg=>by have:=s2.lt _ hg;omega⟩)
    have HW:=xh HW;go_wp2_with fail;refine K1.o.mono ?_;rintro e w2 ⟨rfl,A2,o2⟩;obtain⟨A3,o3,s1,s2,LK,n1,n2⟩:=W2.o w2 A2 o2;obtain⟨v',w4,ea,S4,ow,fr⟩:=dj (P:=prog) s1 60 60 (.int .i64 0) 8 underlying60 kG rfl (.int .i64 at_) rfl (by unfold maxLen;omega) (by omega);have s4:=s2.only ow (mc s2 s1 (by decide));have L4:=LK.only ow n1;have A4:=A3.only ow (λg hF hg=>by have:=pQ.o g hF;have:=HA.o.2.2.1 g hg;omega)
    obtain⟨u',w5,eb,S5,ov,fv⟩:=kx (P:=prog) s4 150 9 150 underlying150 underlying9 jB.eR ⟨pc.toArray⟩ (by show _+pc.toArray.size<=_;simp;omega);have S6:=S4.only ov (λg hg=>mc S4 s4 (by decide) g hg);have L6:=L4.only ov n2;have A6:=xh (A4.only ov (λg hF hg=>by have:=pQ.o g hF;have:=HA.o.2.2.2 g hg;omega));have k1:=L4.ab (i:=1) rfl;have k0:=L6.ab (i:=0) rfl
    have O6:=xh (show ag F w w5 from((o3.aL ow (λg hg dP=>by have:=HA.o.2.2.1 g hg;omega)).aL ov (λg hg dP=>by have:=HA.o.2.2.2 g hg;omega)));have F4:=xh (show ∀g∈ah v',w.heap.size<=g from λg hg=>(fr g hg).elim (HA.o.2.2.1 g) (λh=>by have:=o3.size;omega));have F5:=xh (show ∀g∈ah u',w.heap.size<=g from λg hg=>(fv g hg).elim (HA.o.2.2.2 g) (λh=>by have:=o3.size;have:=ow.size;omega));obtain⟨V4,c4,rfl⟩:=ax S4
    rw[show(⟨pc.toArray⟩:ByteArray).size=pc.length from by show pc.toArray.size=_;simp,show(⟨pc.toArray⟩:ByteArray).data.toList=pc from rfl,<-di]at S5;obtain⟨V5,c5,rfl⟩:=ax S5;have SV:=xh (show aS w5 5 1 (.slice V5 (b.length+pc.length) c5) (b++pc).length (dN (b++pc))from by rw[aO];exact S5);have CV:=xh (Ny (P:=prog) S5.drew 150 9 underlying150 underlying5 underlying9);rw[World.size_alloc]at ea;have EA:=xh ea
    have EB:=xh eb;clear ea eb ow ov fr fv S4 s4 L4 A4 L6 LK A3 A2 o2 o3 s1 s2 n1 n2;go_wp2_with fail;rw[EA.o];go_wp2_with fail;rw[EB.o];have HW:=HW.o
    by_cases hL:1024<(b++pc).length
    .rw[if_pos hL]at HW;subst HW;rw[aO]at hL;go_wp2_with fail
     go_ret3
     exact⟨none,0,0,by first|rfl|simp,aS.nil _ _ _,A6.o.le (by omega),O6.o,by simp[ah]⟩
    .rw[if_neg hL]at HW;have hL2:b.length+pc.length<=1024:=by rw[aO]at hL;omega
     by_cases hn:nx<0
     .rw[if_pos hn]at HW;subst HW;go_wp2_with fail;have CV:=CV.o
      go_region
      go_wp2_with fail
      go_ret3
      exact⟨V4,i+1,c4,by first|rfl|simp,by rw[fW];first|exact S6.drew|(rw[aO,hl];exact S6.drew),(A6.o.below ((Below.refl _ _).drew)).le (by omega),O6.o.drew,F4.o⟩
     .rw[if_neg hn]at HW;have HW:=xh HW;go_wp2_with fail;go_roundw
      case rel=>exact⟨i+1,l++[at_],b++pc,nx,qn,by omega,by simp[hl],by go_num,rfl,by rw[aO];exact hL2,by rw[fW];exact S6,SV.o,HW,xh ⟨A6.o,O6.o,F4.o,F5.o⟩⟩
      case measure=>simp[intOf];omega
   .have hq:(er != 0)=true:=by rw[bne_iff_ne];exact he
    have kh:(er==0)=false:=by rw[beq_eq_false_iff_ne];exact he
    have W2:=xh (show ∀w2,PQ w2 I F qn n (K+(i+1))->ag F wr w2->PQ (w2.alloc (.cells #[.int .i64 nx,.string ⟨pc.toArray⟩] 262)) I F qn n (K+(i+1))/\ag F w (w2.alloc (.cells #[.int .i64 nx,.string ⟨pc.toArray⟩] 262))from λw2 A2 o2=>by
     obtain⟨a1,a2,a3,a4⟩:=HA.o;have U:=ae (Below.refl w2.heap.size w2) (.cells #[.int .i64 nx,.string ⟨pc.toArray⟩] 262);exact⟨A2.below U,(a2.trans o2).trans (.ai U)⟩)
    by_cases h3:er=3/\0<i
    .rw[if_pos h3]at HW;subst HW;obtain⟨rfl,h3⟩:=h3;go_wp2_with fail;refine K1.o.mono ?_;rintro e w2 ⟨rfl,A2,o2⟩;obtain⟨A3,o3⟩:=W2.o w2 A2 o2;have A3:=xh A3;have o3:=xh o3;clear A2 o2;go_wp2_with fail
     go_ret3
     exact⟨none,0,0,by first|rfl|simp,aS.nil _ _ _,A3.o.le (by omega),o3.o,by simp[ah]⟩
    .rw[if_neg h3,if_pos he]at HW;subst HW;have h33:er=3->¬0<i:=λe h=>h3 ⟨e,h⟩;have hq3:i=0\/((er==3)=false/\er≠3):=by
      by_cases e:er=3
      .exact .inl (by have:=h33 e;omega)
      .exact .inr ⟨by rw[beq_eq_false_iff_ne];exact e,e⟩
     rcases hq3 with Cw|⟨hq3,hq4⟩
     all_goals
      clear h33 h3;go_wp2_with fail;refine K1.o.mono ?_;rintro e w2 ⟨rfl,A2,o2⟩;obtain⟨A3,o3⟩:=W2.o w2 A2 o2;have A3:=xh A3;have o3:=xh o3;clear A2 o2;go_wp2_with fail
      all_goals
       go_ret3
       exact⟨none,0,0,by first|rfl|simp,aS.nil _ _ _,A3.o.le (by omega),o3.o,by simp[ah]⟩
  .have HW:=HW.o;rw[show 5-i=0 by omega]at HW;unfold QS.mB at HW;subst HW;go_wp2_with fail
   go_ret3
   exact⟨none,0,0,by first|rfl|simp,aS.nil _ _ _,HA.o.1.le (by omega),HA.o.2.1,by simp[ah]⟩
end Sh
namespace Sh
open Go.RowKit Pk Dk Pg
attribute [local go_sem ↓] Go.wp_at_zero Go.wp_at_succ
variable{w:World}{I:Ix}{F:List Nat}{n K:Nat}
theorem UR{q:QS}(h:PQ w I F q n K)(hK:K<=999999999900)(p:Int):
  Calls prog 111 #[pp I.pb,.int .i64 p] w λe w'=>e=.returned (.tuple #[.string ⟨(q.cH p).2.2.1.toArray⟩,.int .i64 (q.cH p).2.2.2])/\PQ w' I F (q.cH p).1 n (K+5)/\ag F w w':=by
 have KW:=xh (vS h hK p);generalize q.cH p=R at *;clear h;unfold pp at *;go_enter func111,ntmps111;go_wp2_with fail;refine KW.o.mono ?_;rintro e w1 ⟨A,m,c,rfl,S1,A1,o1,f1⟩;have S1:=xh S1;have A1:=xh A1;have o1:=xh o1;go_wp2_with fail;go_ret2;exact aP ⟨A1.o,o1.o⟩
theorem Md{q:QS}(h:PQ w I F q n K)(hK:K<=999999999900)(p:Int):
  Calls prog 116 #[pp I.pb,.int .i64 p] w λe w'=> ∃A m c,e=.returned (.tuple #[.slice A m c,.int .i64 (q.cH p).2.2.2])/\aS w' 3 1 (.slice A m c) (q.cH p).2.1.length (cZ (q.cH p).2.1)/\PQ w' I F (q.cH p).1 n (K+5)/\ag F w w'/\∀g∈ah (.slice A m c),w.heap.size<=g:=by
 have KW:=xh (vS h hK p);generalize q.cH p=R at *;clear h;unfold pp at *;go_enter func116,ntmps116;go_wp2_with fail;refine KW.o.mono ?_;rintro e w1 ⟨A,m,c,rfl,S1,A1,o1,f1⟩;have S1:=xh S1;have A1:=xh A1;have o1:=xh o1;go_wp2_with fail;go_ret2;exact⟨A,m,c,by first|rfl|simp,S1.o,A1.o,o1.o,f1⟩
def QS.um(q:QS):List Int->QS×Int
 |[]=>(q,0)
 |p::l=>if(q.aR p).2≠0 then((q.aR p).1,(q.aR p).2)else(q.aR p).1.um l
def QS.p9(q:QS)(p:Int):QS×Int:=if(q.cH p).2.2.2≠0 then((q.cH p).1,(q.cH p).2.2.2)else(q.cH p).1.um (q.cH p).2.1
theorem De:∀(m:Nat) (q:QS) (p:Int) (l:List Int) (b:List UInt8),(q.mB m p l b).2.1.length<=l.length+m
 |0,_,_,_,_=>by simp[QS.mB]
 |m+1,q,p,l,b=>by
  unfold QS.mB
  split
  .simp
  .split
   .simp
   .split
    .simp
    .split
     .simp<;>omega
     .have:=De m (q.dV p).1 (q.dV p).2.1 (l++[p]) (b++(q.dV p).2.2.1);simp only[aO,fo,yY]at this;omega
theorem QJ{q:QS}(h:PQ w I F q n K)(hK:K<=999999999900)(p:Int):
  Calls prog 123 #[pp I.pb,.int .i64 p] w λe w'=>e=.returned (.int .i64 (q.p9 p).2)/\PQ w' I F (q.p9 p).1 n (K+5)/\ag F w w':=by
 have KW:=xh (vS h hK p);have KD:=xh (λ(W:World) (b:QS) (hW:PQ W I F b n (K+5)) (y:Int)=>ra hW y);have pQ:=xh h.lt;obtain⟨R,hR⟩:∃R,q.p9 p=R:=⟨_,rfl⟩;rw[hR];unfold QS.p9 at hR;have hlen:(q.cH p).2.1.length<=5:=De 5 q p [] [];generalize q.cH p=Q at *;obtain⟨q1,L,B,E⟩:=Q;dsimp only at *;clear h;unfold pp at *
 by_cases h0:E=0
 .subst h0;rw[if_neg (by simp)]at hR;have HR:=xh hR;clear hR;go_enter func123,ntmps123;go_wp2_with fail;refine KW.o.mono ?_;rintro e w1 ⟨A,m,c,rfl,S1,A1,o1,f1⟩;obtain⟨A',c',e⟩:=ax S1;injection e with e1 e2 e3
  subst e1 e2 e3;have HL:=xh S1;have H1:=xh (And.intro A1 (And.intro o1 f1));clear S1 A1 o1 f1;go_wp2_with fail
  go_loopw [23] (λiv wr=> ∃(i:Nat) (b:QS),i<=L.length/\iv=.int .i64 i/\Hid (b.um (L.drop i)=R)/\Hid (PQ wr I F b n (K+5)/\ag F w wr/\aS wr 3 1 (.slice A L.length c) L.length (cZ L))) (λiv _=>L.length-(intOf iv).toNat)
  case atStart=>exact⟨0,q1,bf _,rfl,HR,xh ⟨H1.o.1,H1.o.2.1,HL.o⟩⟩
  case round=>
   obtain⟨i,b,hi,rfl,HW,HA⟩:=hrel
   by_cases h:i<L.length
   .obtain⟨x,hx⟩:∃x,L[i]?=some x:=⟨L[i],aG h⟩;have Ih:L.drop i=x::L.drop (i+1):=by
     rw[nZ h]
     congr 1
     rw[aG h]at hx;injection hx
    obtain⟨g,cp,rest,hv,BB,_⟩:∃g cp rest,(Value.slice A L.length c)= .slice (some ⟨g,0,none⟩) L.length cp/\aF wr g 3 (cZ L++rest).toArray/\True:=by
     rcases HA.o.2.2.2 with⟨h1,h2⟩|⟨g,cap,rest,h1,h2,_⟩
     .omega
     .exact⟨g,cap,rest,h1,h2,trivial⟩
    injection hv with e1 e2 e3
    subst e1 e3;have cx:wr.cell? ⟨g,i,none⟩=some (.int .i64 x):=BB.ab (by
     rw[dh,bE (by simpa using h)];simp[cZ,hx])
    have xA:=HW.o;rw[Ih]at xA;unfold QS.um at xA;have K2:=xh (KD.o wr b HA.o.1 x);have hiI:(i:Int)<(L.length:Int):=by omega
    have hl5:(L.length:Int)<=5:=by have:=hlen;omega
    have HFR:=xh (show ∀g'∈ah (.slice (some ⟨g,0,none⟩) L.length c),g'∉F from λg' hg hF=>by have:=H1.o.2.2 g' hg;have:=pQ.o g' hF;omega);generalize b.aR x=D at *;obtain⟨D1,D2⟩:=D;dsimp only at *
    by_cases hd:D2=0
    .subst hd;rw[if_neg (by simp)]at xA;have xA:=xh xA;clear BB hx Ih;go_wp2_with fail;refine K2.o.mono ?_;rintro e w2 ⟨rfl,A2,o2⟩;have H2:=xh (show PQ w2 I F D1 n (K+5)/\ag F w w2/\aS w2 3 1 (.slice (some ⟨g,0,none⟩) L.length c) L.length (cZ L)from⟨A2,HA.o.2.1.trans o2,HA.o.2.2.only o2 HFR.o⟩);clear A2 o2 cx;go_wp2_with fail;go_roundw
     case rel=>exact⟨i+1,D1,by omega,by go_num,xA,H2⟩
     case measure=>simp[intOf];omega
    .rw[if_pos hd]at xA;subst xA;have hq:(D2 != 0)=true:=by rw[bne_iff_ne];exact hd
     have kh:(D2==0)=false:=by rw[beq_eq_false_iff_ne];exact hd
     clear BB hx Ih;go_wp2_with fail;refine K2.o.mono ?_;rintro e w2 ⟨rfl,A2,o2⟩;have H2:=xh (show PQ w2 I F D1 n (K+5)/\ag F w w2 from⟨A2,HA.o.2.1.trans o2⟩);clear A2 o2 cx;go_wp2_with fail;go_ret;exact aP ⟨H2.o.1,H2.o.2⟩
   .have xA:=HW.o;rw[lK (by omega)]at xA;unfold QS.um at xA;subst xA;obtain rfl:i=L.length:=by omega
    go_wp2_with fail;go_ret;exact aP ⟨HA.o.1,HA.o.2.1⟩
 .rw[if_pos h0]at hR;subst hR;have hq:(E != 0)=true:=by rw[bne_iff_ne];exact h0
  have kh:(E==0)=false:=by rw[beq_eq_false_iff_ne];exact h0
  go_enter func123,ntmps123;go_wp2_with fail;refine KW.o.mono ?_;rintro e w1 ⟨A,m,c,rfl,S1,A1,o1,f1⟩;have H1:=xh (And.intro A1 o1);clear S1 A1 o1 f1;go_wp2_with fail;go_ret;exact aP ⟨H1.o.1,H1.o.2⟩
attribute [local go_sem ↓] bw
def j9(v:List UInt8)(i:Nat)(next:Int):List UInt8:=p7 (next+1).toNat++p7 (dU v i).length++dU v i
def QS.mY(q:QS):List Int->QS
 |[]=>q
 |p::l=>(q.aR p).1.mY l
theorem QS.uo(q:QS)(p:Int)(l:List Int):q.mY (p::l)=(q.aR p).1.mY l:=rfl
def QS.sQ(v:List UInt8):Nat->QS->Int->List Int->QS×Int×Int
 |0,q,next,_=>(q,next,0)
 |i+1,q,next,made=>
  if(q.bJ (j9 v i next)).2.2≠0 then((q.bJ (j9 v i next)).1.mY made,0,(q.bJ (j9 v i next)).2.2)
  else QS.sQ v i (q.bJ (j9 v i next)).1 (q.bJ (j9 v i next)).2.1 (made++[(q.bJ (j9 v i next)).2.1])
def QS.qa(q:QS)(v:List UInt8):QS×Int×Int:=if 1024<v.length then(q,0,4)else QS.sQ v (eF v.length).toNat q (-1) []
theorem newF_bd(a:St)(p:List UInt8):0<=(a.bJ p).2.1/\(a.bJ p).2.1<=511:=by
 unfold St.bJ
 split
 .exact⟨by show(0:Int)<=0;omega,by show(0:Int)<=511;omega⟩
 .split
  .exact⟨by show(0:Int)<=0;omega,by show(0:Int)<=511;omega⟩
  .exact⟨by show(0:Int)<=(a.slot:Nat);omega,by show((a.slot:Nat):Int)<=511;omega⟩
theorem US(q:QS)(p:List UInt8):0<=(q.bJ p).2.1/\(q.bJ p).2.1<=511:=newF_bd q.a p
theorem UT{q:QS}(h:PQ w I F q n K)(v:ByteArray)(hv:v.size<=1024)(hK:K<=999999999900):
  Calls prog 124 #[pp I.pb,.string v] w λe w'=>e=.returned (.tuple #[.int .i64 (q.qa v.data.toList).2.1,.int .i64 (q.qa v.data.toList).2.2])/\PT w w' I F (q.qa v.data.toList).1 n (K+5):=by
 have hvl:v.data.toList.length=v.size:=by simp
 obtain⟨R,hR⟩:∃R,q.qa v.data.toList=R:=⟨_,rfl⟩;rw[hR];unfold QS.qa at hR;rw[if_neg (by omega),hvl]at hR;have hn1:1<=eF v.size/\eF v.size<=5:=by unfold eF;omega
 have RU:228*(eF v.size-1)<=v.size:=by unfold eF;omega
 have KN:=xh (Dd (v.size:Nat) (by omega));obtain⟨m,hm⟩:=eT (show 0<=eF v.size by omega);rw[hm]at hn1 RU KN hR;rw[show((m:Nat):Int).toNat=m by omega]at hR;have HR:=xh hR;have O0:=xh (ae (Below.refl w.heap.size w) (.cells #[.string v] 9));have B0:=xh (aF.new w 9 #[.string v]);have q0:=B0.o.ab (i:=0) rfl;have HQ:=xh (h.below O0.o);have pQ:=xh h.lt
 have KNEW:=xh (λ(W:World) (F':List Nat) (b:QS) (j:Nat) (hW:PQ W I F' b n j) (s:ByteArray) (hs:s.size<=232) (hj:j<=1000000000000)=>zZ hW hj s hs);have KD:=xh (λ(W:World) (F':List Nat) (b:QS) (j:Nat) (hW:PQ W I F' b n j) (y:Int)=>ra hW y);have KP:=xh (λ(W:World) (hq:W.cell? ⟨w.heap.size,0,none⟩=some (.string v)) (i:Nat) (hi:228*i<=v.size)=>QG v hv hq i hi);have KT:=xh fe;have hm1:IntKind.i64.wrap ((m:Int)-1)=(m:Int)-1:=IntWalk.i64_in _ (by omega)
 clear h hR;unfold pp at *;go_enter func124,ntmps124;go_wp2_with fail;refine(KN.o _).mono ?_;rintro e w1 ⟨rfl,rfl⟩;go_wp2_with fail
 go_loopw [7,8,9] (λmv nv iv wr=> ∃(j:Nat) (b:QS) (nx:Nat) (made:List Int) (F':List Nat),j<=m/\iv=.int .i64 ((j:Int)-1)/\nv=.int .i64 ((nx:Int)-1)/\nx<=512/\made.length=m-j/\aS wr 3 1 mv made.length (cZ made)/\Hid (QS.sQ v.data.toList j b ((nx:Int)-1) made=R)/\
   Hid (PQ wr I F' b n (K+(m-j))/\ag F w wr/\(∀g∈F',g∈F\/w.heap.size<=g)/\(∀g∈ah mv,w.heap.size<=g/\g∉F')/\aF wr w.heap.size 9 #[.string v]/\w.heap.size∉F')) (λ_ _ iv _=>(intOf iv+1).toNat)
 case atStart=>exact⟨m,q,0,[],F,Nat.le_refl _,rfl,rfl,by omega,by simp,aS.nil _ _ _,HR,xh ⟨by rw[show K+(m-m)=K by omega];exact HQ.o,.ai O0.o,λg hg=> .inl hg,by simp[ah],B0.o,λhF=>by have:=pQ.o _ hF;omega⟩⟩
 case round=>
  obtain⟨j,b,nx,made,F',hj,rfl,rfl,N8,nX,S,HW,HA⟩:=hrel;obtain⟨VM,vm,rfl⟩:=ax S
  by_cases h0:0<j
  .obtain⟨i,rfl⟩:∃i,j=i+1:=⟨j-1,by omega⟩;have hz:((i+1:Nat):Int)-1=(i:Nat):=by omega
   rw[hz];have q1:=HA.o.2.2.2.2.1.ab (i:=0) rfl;have N4:228*i<=v.size:=by omega
   have K1:=xh (KP.o wr q1 i N4);have uR:(dU v.data.toList i).length<=228:=by unfold dU;rw[bK];omega
   have xA:=HW.o;unfold QS.sQ at xA;have hlk:j9 v.data.toList i ((nx:Int)-1)=(((⟨(p7 nx).toArray⟩:ByteArray)++⟨(p7 (dU v.data.toList i).length).toArray⟩)++⟨(dU v.data.toList i).toArray⟩:ByteArray).data.toList:=by
    unfold j9;rw[show((nx:Int)-1+1).toNat=nx by omega];simp
   rw[hlk]at xA;have hps:(⟨(dU v.data.toList i).toArray⟩:ByteArray).size=(dU v.data.toList i).length:=by show(dU v.data.toList i).toArray.size=_;simp
   have hts:∀x,(⟨(p7 x).toArray⟩:ByteArray).size=2:=λx=>rfl;have hss:(((⟨(p7 nx).toArray⟩:ByteArray)++⟨(p7 (dU v.data.toList i).length).toArray⟩)++⟨(dU v.data.toList i).toArray⟩:ByteArray).size<=232:=by
    rw[Eb,Eb,hts,hts,hps];omega
   have K2:=xh (KT.o nx (by omega));have K3:=xh (KT.o (dU v.data.toList i).length (by omega));have K4:=xh (λ(W:World) (hW:PQ W I F' b n (K+(m-(i+1))))=>KNEW.o W F' b _ hW _ hss (by omega));have u1:IntKind.i64.wrap (nx:Int)=(nx:Int):=IntWalk.i64_in _ (by omega);have hbd:=US b ((((⟨(p7 nx).toArray⟩:ByteArray)++⟨(p7 (dU v.data.toList i).length).toArray⟩)++⟨(dU v.data.toList i).toArray⟩:ByteArray).data.toList);have t1:=hts nx
   have t2:=hts (dU v.data.toList i).length;generalize (⟨(p7 nx).toArray⟩:ByteArray)=T1 at *;generalize (⟨(p7 (dU v.data.toList i).length).toArray⟩:ByteArray)=T2 at *;generalize (⟨(dU v.data.toList i).toArray⟩:ByteArray)=PC at *;have z1:¬9223372036854775807<T1.size+T2.size:=by omega
   have z2:¬9223372036854775807<(T1++T2).size+PC.size:=by rw[Eb];omega
   clear hlk hts hss;generalize b.bJ (T1++T2++PC).data.toList=D at *;obtain⟨D1,D2,D3⟩:=D;dsimp only at *;have HS:=xh (show ∀w4 w5 F5,Below wr.heap.size wr w4->PQ w5 I F5 D1 n (K+(m-(i+1))+1)->ag F' w4 w5->(∀g∈F5,g∈F'\/w4.heap.size<=g)->
     PQ w5 I F5 D1 n (K+(m-(i+1))+1)/\ag F w w5/\(∀g∈F5,g∈F\/w.heap.size<=g)/\aS w5 3 1 (.slice VM made.length vm) made.length (cZ made)/\(∀g∈ah (.slice VM made.length vm),w.heap.size<=g/\g∉F5)/\aF w5 w.heap.size 9 #[.string v]/\w.heap.size∉F5 from λw4 w5 F5 hb A5 o5 f5=>by
    obtain⟨a1,a2,a3,a4,a5,a6⟩:=HA.o;have s4:=S.below hb;have b4:=a5.below hb a5.lt;have UU:w.heap.size<=w4.heap.size:=aq a2.size hb.size
    refine⟨A5,(a2.trans (.ai hb)).aL o5 (λg hg dP=>(a3 g hg).elim id (λh=>by omega)),λg hg=>(f5 g hg).elim (a3 g) (λh=> .inr (by omega)),s4.only o5 (λg hg=>(a4 g hg).2),λg hg=>⟨(a4 g hg).1,λhF=>(f5 g hF).elim (a4 g hg).2 (λh=>by have:=s4.lt g hg;omega)⟩,b4.only o5 a6,λhF=>(f5 _ hF).elim a6 (λh=>by have:=b4.lt;omega)⟩)
   by_cases hd:D3=0
   .subst hd;rw[if_neg (by simp)]at xA;obtain⟨d2,rfl⟩:=eT hbd.1;have HW3:=xh xA;clear xA;go_wp2_with fail;refine K1.o.mono ?_;rintro e w2 ⟨rfl,rfl⟩;go_wp2_with fail;refine(K2.o _).mono ?_;rintro e w3 ⟨rfl,gr⟩;have H3:=xh gr;go_wp2_with fail;refine(K3.o _).mono ?_;rintro e w4 ⟨rfl,jk⟩;have H4:=xh (aC H3.o jk);clear gr jk;go_wp2_with fail;refine(K4.o _ (HA.o.1.below H4.o)).mono ?_;rintro e w5 ⟨rfl,F5,A5,o5,f5⟩
    have H5:=xh (HS.o w4 w5 F5 H4.o A5 o5 f5);clear A5 o5 f5;obtain⟨v',w6,ea,S6,ow,fr⟩:=dj (P:=prog) H5.o.2.2.2.1 60 60 (.int .i64 0) 8 underlying60 kG rfl (.int .i64 (d2:Nat)) rfl (by unfold maxLen;omega) (by omega);obtain⟨V6,c6,rfl⟩:=ax S6
    have H6:=xh (show aS w6 3 1 (.slice V6 (made.length+1) c6) (made++[(d2:Int)]).length (cZ (made++[(d2:Int)]))/\PQ w6 I F5 D1 n (K+(m-i))/\ag F w w6/\(∀g∈F5,g∈F\/w.heap.size<=g)/\(∀g∈ah (.slice V6 (made.length+1) c6),w.heap.size<=g/\g∉F5)/\aF w6 w.heap.size 9 #[.string v]/\w.heap.size∉F5 from by
     obtain⟨a1,a2,a3,a4,a5,a6,a7⟩:=H5.o;refine⟨by rw[aO,fW];exact S6,(a1.only ow (λg hF hg=>(a5 g hg).2 hF)).le (by omega),a2.aL ow (λg hg dP=>by have:=(a5 g hg).1;omega),a3,λg hg=>?_,a6.only ow (λhg=>dk a4 a6 (by decide) hg),a7⟩
     rcases fr g hg with h|h
     .exact a5 g h
     .exact⟨by have:=a2.size;omega,λhF=>by have:=a1.lt g hF;omega⟩)
    rw[nX]at ea;have EA:=xh ea;clear ea S6 ow fr;go_wp2_with fail;rw[EA.o];go_wp2_with fail;go_roundw
    case rel=>exact⟨i,D1,d2+1,made++[(d2:Int)],F5,by omega,by go_num,by simp,by omega,by rw[aO,nX,tG];omega,by have:=H6.o.1;rw[nX]at this;exact this,by rw[show((d2+1:Nat):Int)-1=(d2:Nat) by omega];exact HW3,xh ⟨H6.o.2.1,H6.o.2.2.1,H6.o.2.2.2.1,by have:=H6.o.2.2.2.2.1;rw[nX]at this;exact this,H6.o.2.2.2.2.2.1,H6.o.2.2.2.2.2.2⟩⟩
    case measure=>simp[intOf]<;>omega
   .rw[if_pos hd]at xA;subst xA;have hq:(D3 != 0)=true:=by rw[bne_iff_ne];exact hd
    have kh:(D3==0)=false:=by rw[beq_eq_false_iff_ne];exact hd
    go_wp2_with fail;refine K1.o.mono ?_;rintro e w2 ⟨rfl,rfl⟩;go_wp2_with fail;refine(K2.o _).mono ?_;rintro e w3 ⟨rfl,gr⟩;have H3:=xh gr;go_wp2_with fail;refine(K3.o _).mono ?_;rintro e w4 ⟨rfl,jk⟩;have H4:=xh (aC H3.o jk);clear gr jk;go_wp2_with fail;refine(K4.o _ (HA.o.1.below H4.o)).mono ?_;rintro e w5 ⟨rfl,F5,A5,o5,f5⟩;have H5:=xh (HS.o w4 w5 F5 H4.o A5 o5 f5);clear A5 o5 f5;have hml2:(made.length:Int)<=5:=by omega
    have HM:=xh nX;rw[<-nX];clear nX;go_wp2_with fail
    go_loopw [52] (λtv wq=> ∃(t:Nat) (b':QS),t<=made.length/\tv=.int .i64 t/\Hid (b'.mY (made.drop t)=D1.mY made)/\Hid (PQ wq I F5 b' n (K+(m-(i+1))+1)/\ag F w wq/\aS wq 3 1 (.slice VM made.length vm) made.length (cZ made))) (λtv _=>made.length-(intOf tv).toNat)
    case atStart=>exact⟨0,D1,bf _,rfl,xh rfl,xh ⟨H5.o.1,H5.o.2.1,H5.o.2.2.2.1⟩⟩
    case round=>
     obtain⟨t,b',ht,rfl,HT,HB⟩:=hrel
     by_cases dP:t<made.length
     .obtain⟨x,hx⟩:∃x,made[t]?=some x:=⟨made[t],aG dP⟩;have Ih:made.drop t=x::made.drop (t+1):=by
       rw[nZ dP]
       congr 1
       rw[aG dP]at hx;injection hx
      obtain⟨g,cp,rest,RZ,BB,_⟩:∃g cp rest,(Value.slice VM made.length vm)= .slice (some ⟨g,0,none⟩) made.length cp/\aF wr g 3 (cZ made++rest).toArray/\True:=by
       rcases HB.o.2.2.2 with⟨h1,h2⟩|⟨g,cap,rest,h1,h2,_⟩
       .omega
       .exact⟨g,cap,rest,h1,h2,trivial⟩
      injection RZ with e1 e2 e3
      subst e1 e3;have cx:wr.cell? ⟨g,t,none⟩=some (.int .i64 x):=BB.ab (by
       rw[dh,bE (by simpa using dP)];simp[cZ,hx])
      have HT2:=HT.o;rw[Ih,QS.uo]at HT2;have HT3:=xh HT2;have K6:=xh (KD.o wr F5 b' _ HB.o.1 x);have htI:(t:Int)<(made.length:Int):=by omega
      clear BB hx Ih HT2;go_wp2_with fail;refine K6.o.mono ?_;rintro e w7 ⟨rfl,A7,o7⟩;have H7:=xh (show PQ w7 I F5 (b'.aR x).1 n (K+(m-(i+1))+1)/\ag F w w7/\aS w7 3 1 (.slice (some ⟨g,0,none⟩) made.length vm) made.length (cZ made)from⟨A7,HB.o.2.1.aL o7 (λg hg dP=>(H5.o.2.2.1 g hg).elim id (λh=>by omega)),HB.o.2.2.only o7 (λg' hg=>(H5.o.2.2.2.2.1 g' hg).2)⟩);clear A7 o7 cx;go_wp2_with fail;go_roundw
      case rel=>exact⟨t+1,(b'.aR x).1,by omega,by go_num,HT3,H7⟩
      case measure=>simp[intOf];omega
     .have HT2:=HT.o;rw[lK (by omega)]at HT2;have HT2:b'=D1.mY made:=HT2;subst HT2;obtain rfl:t=made.length:=by omega
      go_wp2_with fail;go_ret2;exact aP ⟨F5,HB.o.1.le (by omega),HB.o.2.1,H5.o.2.2.1⟩
  .obtain rfl:j=0:=by omega
   have xA:=HW.o;unfold QS.sQ at xA;subst xA;go_wp2_with fail;go_ret2;exact aP ⟨F',HA.o.1.le (by omega),HA.o.2.1,HA.o.2.2.1⟩
end Sh
namespace Sl
open Go.RowKit
def eS(n:Nat):List UInt8:=[UInt8.ofNat (n / 256),UInt8.ofNat n]
def bS(b:List UInt8)(k:Nat):Nat:=(b.getD k 0).toNat*256+(b.getD (k+1) 0).toNat
abbrev Slot:=Nat×Nat
def slot(b:List UInt8)(i:Nat):Slot:=(bS b (4+4*i),bS b (6+4*i))
def bM(b:List UInt8):List Slot:=(List.range (bS b 0)).map (slot b)
def apart(x y:Slot):Bool:=decide (x.2=0) || (decide (y.2=0) || (decide (x.1+x.2<=y.1) || decide (y.1+y.2<=x.1)))
structure Fit(heap:Nat)(l:List Slot):Prop where
 px:∀x∈l,heap<=x.1/\x.1+x.2<=232
 apart:l.Pairwise λx y=>Sl.apart x y=true
structure Sound(b:List UInt8):Prop where
 len:b.length=232
 heap:bS b 2<=232
 head:4+4*bS b 0<=bS b 2
 fit:Fit (bS b 2) (bM b)
def vT(l:List Slot):Nat:=(l.map Prod.snd).sum
def lN(b:List UInt8)(x:Slot):List UInt8:=(b.drop x.1).take x.2
def cV(b:List UInt8):List (List UInt8):=(bM b).map (lN b)
theorem Ah(b:List UInt8)(k:Nat):bS b k<65536:=by
 have h1:=(b.getD k 0).toNat_lt;have h2:=(b.getD (k+1) 0).toNat_lt;unfold bS;omega
theorem cM(b:List UInt8):(bM b).length=bS b 0:=by simp[bM]
theorem Df(b:List UInt8)(i:Nat)(h:i<bS b 0):(bM b)[i]?=some (slot b i):=by simp[bM,h]
theorem oL(x y:Slot):apart x y=apart y x:=by
 unfold apart
 cases h1:decide (x.2=0)<;>cases h2:decide (y.2=0)<;>cases h3:decide (x.1+x.2<=y.1)<;>cases h4:decide (y.1+y.2<=x.1)<;>rfl
theorem re(x y:Slot):apart x y=true↔x.2=0\/y.2=0\/x.1+x.2<=y.1\/y.1+y.2<=x.1:=by simp[apart]
theorem UW(x y:Slot):apart x y=false↔ ∃k,(x.1<=k/\k<x.1+x.2)/\(y.1<=k/\k<y.1+y.2):=by
 constructor
 .intro h;have:¬(x.2=0\/y.2=0\/x.1+x.2<=y.1\/y.1+y.2<=x.1):=by rw[<-re];simp[h]
  refine⟨max x.1 y.1,⟨by omega,by omega⟩,⟨by omega,by omega⟩⟩
 .rintro⟨k,h1,h2⟩
  cases h:apart x y
  .rfl
  .rw[re]at h;omega
def Ai(l:List Slot)(x:Slot):Bool:=l.all λy=>apart x y
def UX(heap:Nat):List Slot->List Slot->Bool
 |_,[]=>true
 |p,x::l=>decide (heap<=x.1) && (decide (x.1+x.2<=232) && (Ai p x && UX heap (p++[x]) l))
def Me(b:List UInt8):Bool:=decide (b.length=232) && (decide (bS b 2<=232) && (decide (4+4*bS b 0<=bS b 2) && UX (bS b 2) [] (bM b)))
theorem Fit.snoc{heap:Nat}{p:List Slot}{x:Slot}:Fit heap (p++[x])↔Fit heap p/\(heap<=x.1/\x.1+x.2<=232)/\∀y∈p,Sl.apart x y=true:=by
 constructor
 .rintro⟨h1,h2⟩;rw[dO]at h2;exact⟨⟨λy hy=>h1 y (by simp[hy]),h2.1⟩,h1 x (by simp),λy hy=>by rw[oL];exact h2.2.2 y hy x (by simp)⟩
 .rintro⟨⟨h1,h2⟩,h3,h4⟩;refine⟨λy hy=>?_,?_⟩
  .rcases aB.1 hy with h|h
   .exact h1 y h
   .simp at h;subst h;exact h3
  .rw[dO];exact⟨h2,by simp,λy hy z hz=>by simp at hz;subst hz;rw[oL];exact h4 y hy⟩
theorem Fit.nil(heap:Nat):Fit heap []:=⟨λx h=>by simp at h,by simp⟩
theorem UY(heap:Nat)(l:List Slot):∀p:List Slot,Fit heap p->(UX heap p l=true↔Fit heap (p++l)):=by
 induction l with
 |nil=>intro p h;simp[UX,h]
 |cons x l ih=>
  intro p h;have key:(heap<=x.1/\x.1+x.2<=232/\Ai p x=true)↔Fit heap (p++[x]):=by
   rw[Fit.snoc];simp only[Ai,pE];exact⟨λ⟨h1,h2,h3⟩=>⟨h,⟨h1,h2⟩,h3⟩,λ⟨_,⟨h1,h2⟩,h3⟩=>⟨h1,h2,h3⟩⟩
  simp only[UX,ig,decide_eq_true_eq]
  constructor
  .rintro⟨h1,h2,h3,h4⟩;have hf:=key.1 ⟨h1,h2,h3⟩;have:=(ih _ hf).1 h4;simpa using this
  .intro hf;have hp:Fit heap (p++[x]):=by
    refine⟨λy hy=>hf.px y (by simp at hy ⊢;rcases hy with h|h<;>simp[h]),?_⟩;have:=hf.apart;rw[show p++x::l=(p++[x])++l by simp,dO]at this;exact this.1
   obtain⟨h1,h2,h3⟩:=key.2 hp;exact⟨h1,h2,h3,(ih _ hp).2 (by simpa using hf)⟩
theorem sR(b:List UInt8):Me b=true↔Sound b:=by
 have h:=UY (bS b 2) (bM b) [] (Fit.nil _);rw[cI]at h;simp only[Me,ig,decide_eq_true_eq,h];exact⟨λ⟨h1,h2,h3,h4⟩=>⟨h1,h2,h3,h4⟩,λh=>⟨h.len,h.heap,h.head,h.fit⟩⟩
def cg(b:List UInt8):Int:=if b.length=232 then(if Me b then 0 else 14)else 6
theorem ff(b:List UInt8):cg b=0↔Sound b:=by
 rw[<-sR];unfold cg
 constructor
 .intro h
  split at h
  .split at h
   .assumption
   .cases h
  .cases h
 .intro h;have:=((sR b).1 h).len;rw[if_pos this,if_pos h]
def iq(b:List UInt8):Int:=228-((((bM b).map λx=>4+x.2).sum:Nat):Int)
def cover(l:List Slot)(k:Nat):Bool:=l.any λx=>decide (x.1<=k) && decide (k<x.1+x.2)
theorem count_range(a n m:Nat)(h:a+n<=m):((List.range m).countP λk=>decide (a<=k) && decide (k<a+n))=n:=by
 induction m generalizing n with
 |zero=>
  have:n=0:=by omega
  subst this;simp
 |succ m ih=>
  rw[Eu,nY]
  rcases dX (a+n) (m+1)with h1|h1
  .rw[ih n (by omega)];simp;omega
  .obtain rfl|hn:n=0\/0<n:=yt n
   .have:(List.range m).countP (λk=>decide (a<=k) && decide (k<a+0))=0:=by
     rw[JM];intro k _;simp<;>omega
    rw[this];simp<;>omega
   .have e:(List.range m).countP (λk=>decide (a<=k) && decide (k<a+n))=(List.range m).countP (λk=>decide (a<=k) && decide (k<a+(n-1))):=by
     apply sk;intro k hk;have:=kT.1 hk;simp;omega
    rw[e,ih (n-1) (by omega)];simp;have:a<=m/\m<a+n:=by omega
    simp[this];omega
theorem Ii(l:List Slot)(heap:Nat)(h:Fit heap l):(List.range 232).countP (cover l)=vT l:=by
 induction l with
 |nil=>simp[cover,vT]
 |cons x l ih=>
  have hx:=h.px x (by simp);have hp:=dW.1 h.apart;have ht:Fit heap l:=⟨λy hy=>h.px y (by simp[hy]),hp.2⟩;have e:(List.range 232).countP (cover (x::l))=(List.range 232).countP (λk=>decide (x.1<=k) && decide (k<x.1+x.2))+(List.range 232).countP (cover l):=by
   generalize List.range 232=r
   induction r with
   |nil=>rfl
   |cons k r ihr=>
    simp only[m9,ihr];have hdis:¬((x.1<=k/\k<x.1+x.2)/\cover l k=true):=by
     rintro⟨h1,h2⟩;simp only[cover,List.any_eq_true,ig,decide_eq_true_eq]at h2;obtain⟨y,hy,h3⟩:=h2;have hn:=(UW x y).2 ⟨k,h1,h3⟩;rw[hp.1 y hy]at hn;cases hn
    have ec:cover (x::l) k=((decide (x.1<=k) && decide (k<x.1+x.2)) || cover l k):=rfl;rw[ec]
    cases h1:(decide (x.1<=k) && decide (k<x.1+x.2))<;>cases h2:cover l k
    .simp
    .simp;omega
    .simp;omega
    .exfalso;apply hdis;simp at h1;exact⟨h1,h2⟩
  rw[e,count_range _ _ _ hx.2,ih ht];simp[vT]
theorem Dg(l:List Slot)(heap:Nat)(h:Fit heap l)(hh:heap<=232):vT l<=232-heap:=by
 rw[<-Ii l heap h];have e:(List.range 232).countP (cover l)<=(List.range 232).countP (λk=>decide (heap<=k) && decide (k<heap+(232-heap))):=by
  apply List.countP_mono_left;intro k hk hc;simp only[cover,List.any_eq_true,ig,decide_eq_true_eq]at hc;obtain⟨y,hy,h3⟩:=hc;have:=h.px y hy;have:=kT.1 hk;simp;omega
 have:=count_range heap (232-heap) 232 (by omega);omega
variable{F c b:List UInt8}{o:Nat}
def lay(F:List UInt8)(o:Nat)(c:List UInt8):List UInt8:=F.take o++c++F.drop (o+c.length)
theorem iA(h:o+c.length<=F.length):(lay F o c).length=F.length:=by
 simp[lay];omega
theorem tX(F:List UInt8)(o:Nat)(c:List UInt8):putAt (dN F) o (dN c)=dN (lay F o c):=by
 simp[putAt,lay,dN]
theorem oG(h:o+c.length<=F.length)(j:Nat):(lay F o c)[j]?=if o<=j/\j<o+c.length then c[j-o]? else F[j]?:=by
 unfold lay
 by_cases h1:j<o
 .rw[if_neg (by omega),cy,bE (by simp;omega),pH h1]
 .have e:(F.take o).length=o:=by simp;omega
  by_cases h2:j<o+c.length
  .rw[if_pos ⟨by omega,h2⟩,cy,dR (by omega),e,bE (by omega)]
  .rw[if_neg (by omega),dR (by simp;omega),gK]
   congr 1
   simp;omega
def mC(b:List UInt8)(k n:Nat):List UInt8:=(b.set k (UInt8.ofNat (n / 256))).set (k+1) (UInt8.ofNat n)
theorem eK(b:List UInt8)(k n:Nat):(mC b k n).length=b.length:=by simp[mC]
theorem nI(b:List UInt8)(k n j:Nat)(h:j<k\/k+1<j):(mC b k n)[j]?=b[j]?:=by
 unfold mC;rw[fP (by omega),fP (by omega)]
theorem at2_eq{k:Nat}(h0:b[k]?=c[k]?)(h1:b[k+1]?=c[k+1]?):bS b k=bS c k:=by
 simp only[bS,List.getD,h0,h1]
theorem eW(b:List UInt8)(k n j:Nat)(h:j+1<k\/k+1<j):bS (mC b k n) j=bS b j:=
 at2_eq (nI b k n j (by omega)) (nI b k n (j+1) (by omega))
theorem uq(b:List UInt8)(k n:Nat)(h:k+1<b.length)(hn:n<65536):bS (mC b k n) k=n:=by
 have e0:(mC b k n)[k]?=some (UInt8.ofNat (n / 256)):=by
  unfold mC;rw[fP (by omega),dI (by omega)]
 have e1:(mC b k n)[k+1]?=some (UInt8.ofNat n):=by
  unfold mC;rw[dI (by simpa using h)]
 simp only[bS,List.getD,e0,e1,iM,iN];omega
def gR(b:List UInt8)(l:List Slot)(heap:Nat):Nat->List UInt8
 |0=>mC (mC b 0 l.length) 2 heap
 |i+1=>mC (mC (gR b l heap i) (4+4*i) (l.getD i (0,0)).1) (6+4*i) (l.getD i (0,0)).2
def ko(b:List UInt8)(l:List Slot)(heap:Nat):List UInt8:=gR b l heap l.length
theorem k8(b:List UInt8)(l:List Slot)(heap:Nat):∀i,(gR b l heap i).length=b.length
 |0=>by simp[gR,eK]
 |i+1=>by rw[gR,eK,eK];exact k8 b l heap i
theorem Aj(b:List UInt8)(l:List Slot)(heap:Nat)(j:Nat):∀i,4+4*i<=j->(gR b l heap i)[j]?=b[j]?
 |0,h=>by rw[gR,nI _ _ _ _ (by omega),nI _ _ _ _ (by omega)]
 |i+1,h=>by rw[gR,nI _ _ _ _ (by omega),nI _ _ _ _ (by omega)];exact Aj b l heap j i (by omega)
theorem rf(b:List UInt8)(l:List Slot)(heap:Nat)(hb:b.length=232)(hh:heap<65536)(hl:l.length<65536)(hx:∀x∈l,x.1<65536/\x.2<65536):
  ∀i,i<=l.length->4+4*i<=232->bS (gR b l heap i) 0=l.length/\bS (gR b l heap i) 2=heap/\∀k,k<i->slot (gR b l heap i) k=l.getD k (0,0)
 |0,_,_=>by
  rw[gR];refine⟨?_,?_,λk hk=>absurd hk (by omega)⟩
  .rw[eW _ _ _ _ (by omega),uq _ _ _ (by omega) hl]
  .rw[uq _ _ _ (by rw[eK];omega) hh]
 |i+1,hi,h4=>by
  obtain⟨h0,h2,hs⟩:=rf b l heap hb hh hl hx i (by omega) (by omega);have hlen:=k8 b l heap i;rw[gR];refine⟨?_,?_,λk hk=>?_⟩
  .rw[eW _ _ _ _ (by omega),eW _ _ _ _ (by omega)];exact h0
  .rw[eW _ _ _ _ (by omega),eW _ _ _ _ (by omega)];exact h2
  .unfold slot
   by_cases e:k=i
   .subst e;have hm:l.getD k (0,0)∈l:=by
     rw[List.getD,aG (by omega)];exact kt _
    have:=hx _ hm;rw[eW _ _ _ _ (by omega),uq _ _ _ (by omega) this.1,uq _ _ _ (by rw[eK];omega) this.2]
   .rw[eW _ _ _ _ (by omega),eW _ _ _ _ (by omega),eW _ _ _ _ (by omega),eW _ _ _ _ (by omega)];exact hs k (by omega)
section
variable{b:List UInt8}{l:List Slot}{heap:Nat}
structure Laid(b:List UInt8)(l:List Slot)(heap:Nat):Prop where
 len:b.length=232
 hh:heap<=232
 head:4+4*l.length<=heap
 fit:Fit heap l
theorem Laid.small(h:Laid b l heap):∀x∈l,x.1<65536/\x.2<65536:=λx hx=>by
 have:=(h.fit.px x hx).2;omega
theorem Laid.n0(h:Laid b l heap):bS (ko b l heap) 0=l.length:=(rf b l heap h.len (by have:=h.hh;omega) (by have:=h.head;have:=h.hh;omega) h.small l.length (Nat.le_refl _) (by have:=h.head;have:=h.hh;omega)).1
theorem Laid.n2(h:Laid b l heap):bS (ko b l heap) 2=heap:=(rf b l heap h.len (by have:=h.hh;omega) (by have:=h.head;have:=h.hh;omega) h.small l.length (Nat.le_refl _) (by have:=h.head;have:=h.hh;omega)).2.1
theorem Laid.sl(h:Laid b l heap):bM (ko b l heap)=l:=by
 have hs:=(rf b l heap h.len (by have:=h.hh;omega) (by have:=h.head;have:=h.hh;omega) h.small l.length (Nat.le_refl _) (by have:=h.head;have:=h.hh;omega)).2.2;apply uY
 .rw[cM,h.n0]
 .intro i h1 h2;have:(bM (ko b l heap))[i]=slot (ko b l heap) i:=by simp[bM]
  rw[this,show slot (ko b l heap) i=l.getD i (0,0)from hs i h2];simp[List.getD,aG h2]
theorem Laid.length(h:Laid b l heap):(ko b l heap).length=232:=(k8 b l heap l.length).trans h.len
theorem Laid.sound(h:Laid b l heap):Sound (ko b l heap):=
 ⟨h.length,by rw[h.n2];exact h.hh,by rw[h.n2,h.n0];exact h.head,by rw[h.n2,h.sl];exact h.fit⟩
theorem Laid.rc(h:Laid b l heap):∀x∈l,lN (ko b l heap) x=lN b x:=by
 intro x hx;have h1:=(h.fit.px x hx).1;unfold lN
 congr 1
 apply mq;intro j;rw[gK,gK];exact Aj b l heap _ _ (by have:=h.head;omega)
theorem Laid.rcs(h:Laid b l heap):cV (ko b l heap)=l.map (lN b):=by
 unfold cV;rw[h.sl];exact gx h.rc
theorem Ij(h:o+c.length<=F.length)(x:Slot)(hx:x.1+x.2<=o\/o+c.length<=x.1):lN (lay F o c) x=lN F x:=by
 unfold lN;apply mq;intro j
 by_cases hj:j<x.2
 .rw[pH hj,pH hj,gK,gK,oG h,if_neg (by omega)]
 .rw[fG (by simp;omega),fG (by simp;omega)]
theorem Dh(h:o+c.length<=F.length):lN (lay F o c) (o,c.length)=c:=by
 unfold lN;apply mq;intro j
 by_cases hj:j<c.length
 .rw[pH hj,gK,oG h,if_pos ⟨by omega,by omega⟩]
  congr 1;omega
 .rw[fG (by simp;omega),fG (by omega)]
end
structure rO where
 o:List UInt8
 ts:List Slot
 heap:Nat
def Di:rO:=⟨List.replicate 232 0,[],232⟩
def rO.add(c:rO)(r:List UInt8):rO:=⟨lay c.o (c.heap-r.length) r,c.ts++[(c.heap-r.length,r.length)],c.heap-r.length⟩
def rZ(l:List (List UInt8)):rO:=l.foldl rO.add Di
structure rO.Ok(c:rO)(l:List (List UInt8)):Prop where
 len:c.o.length=232
 heap:c.heap+(l.map List.length).sum=232
 fit:Fit c.heap c.ts
 cV:c.ts.map (lN c.o)=l
theorem UZ:Di.Ok []:=⟨ev,rfl,Fit.nil _,rfl⟩
theorem Fit.mono{heap heap':Nat}{l:List Slot}(h:Fit heap l)(hh:heap'<=heap):Fit heap' l:=⟨λx hx=>⟨aq hh (h.px x hx).1,(h.px x hx).2⟩,h.apart⟩
theorem rO.Ok.add{c:rO}{l:List (List UInt8)}(h:c.Ok l)(r:List UInt8)(hr:r.length<=c.heap):(c.add r).Ok (l++[r]):=by
 have h1:=h.heap;have h2:=h.len;refine⟨by show(lay _ _ _).length=232;rw[iA (by omega)];exact h.len,by show c.heap-r.length+_=232;simp;omega,?_,?_⟩
 .show Fit (c.heap-r.length) (c.ts++[(c.heap-r.length,r.length)]);rw[Fit.snoc];refine⟨h.fit.mono (Nat.sub_le _ _),⟨Nat.le_refl _,by show c.heap-r.length+r.length<=232;omega⟩,λy hy=>?_⟩;have:=(h.fit.px y hy).1;rw[re];exact .inr (.inr (.inl (by show c.heap-r.length+r.length<=y.1;omega)))
 .show(c.ts++[(c.heap-r.length,r.length)]).map (lN (lay c.o (c.heap-r.length) r))=l++[r];rw[ez,<-h.cV]
  congr 1
  .apply gx;intro y hy;have:=(h.fit.px y hy).1;exact Ij (by omega) y (.inr (by omega))
  .simp only[fJ,qK];rw[Dh (by omega)]
theorem Ak(l:List (List UInt8))(h:(l.map List.length).sum<=232):(rZ l).Ok l:=by
 have key:∀(l m:List (List UInt8)) (c:rO),c.Ok m->((m++l).map List.length).sum<=232->(l.foldl rO.add c).Ok (m++l):=by
  intro l
  induction l with
  |nil=>intro m c h _;simpa using h
  |cons r l ih=>
   intro m c h hs;have h1:=h.heap;have:=ih (m++[r]) (c.add r) (h.add r (by simp at hs h1;omega)) (by simpa using hs);simpa using this
 have:=key l [] Di UZ (by simpa using h);rw[cI]at this;exact this
def gF(b:List UInt8):List UInt8:=ko (rZ (cV b)).o (rZ (cV b)).ts (rZ (cV b)).heap
theorem xB{x:Slot}(h:x.1+x.2<=b.length):(lN b x).length=x.2:=by
 simp[lN];omega
theorem Sound.lens(h:Sound b):((cV b).map List.length)=(bM b).map Prod.snd:=by
 unfold cV;rw[jR];apply gx;intro x hx;exact xB (by rw[h.len];exact(h.fit.px x hx).2)
theorem Sound.sum(h:Sound b):((cV b).map List.length).sum<=232-bS b 2:=by
 rw[h.lens];exact Dg _ _ h.fit h.heap
theorem rO.Ok.Vc{c:rO}{l:List (List UInt8)}(h:c.Ok l):c.ts.length=l.length:=by rw[<-h.cV,eM]
theorem dF(b:List UInt8):(cV b).length=bS b 0:=by simp[cV,cM]
theorem Sound.comp(h:Sound b):Laid (rZ (cV b)).o (rZ (cV b)).ts (rZ (cV b)).heap:=by
 have hs:=h.sum;have hh:=h.heap;have h4:=h.head;have hc:=Ak (cV b) (by omega);have h1:=hc.heap;have h2:=hc.Vc;rw[dF]at h2;exact⟨hc.len,by omega,by omega,hc.fit⟩
theorem Sound.compact(h:Sound b):Sound (gF b)/\cV (gF b)=cV b/\bS (gF b) 2+((cV b).map List.length).sum=232/\bM (gF b)=(rZ (cV b)).ts:=by
 have hs:=h.sum;have hh:=h.heap;have hc:=Ak (cV b) (by omega);have L:=h.comp;exact⟨L.sound,L.rcs.trans hc.cV,by unfold gF;rw[L.n2];exact hc.heap,L.sl⟩
theorem Al(h:Sound b):iq b=228-4*(bS b 0:Int)-(((cV b).map List.length).sum:Nat):=by
 rw[h.lens];have e:∀l:List Slot,(l.map λx=>4+x.2).sum=4*l.length+(l.map Prod.snd).sum:=by
  intro l
  induction l with
  |nil=>rfl
  |cons x l ih=>simp only[fJ,kU,ih,fo];omega
 unfold iq;rw[e,cM];omega
def jl(l:List (List UInt8)):Int:=228-((l.map λr=>4+r.length).sum:Nat)
theorem Oc(h:Sound b):iq b=jl (cV b):=by
 rw[Al h];have e:∀l:List (List UInt8),(l.map λr=>4+r.length).sum=4*l.length+(l.map List.length).sum:=by
  intro l
  induction l with
  |nil=>rfl
  |cons x l ih=>simp only[fJ,kU,ih,fo];omega
 unfold jl;rw[e,dF];omega
def jM(b r:List UInt8):List UInt8:=if 4+4*(bS b 0+1)+r.length>bS b 2 then gF b else b
def sS(b:List UInt8)(i:Nat)(r:List UInt8):List UInt8:=
 ko (lay (jM b r) (bS (jM b r) 2-r.length) r) ((bM (jM b r)).take i++(bS (jM b r) 2-r.length,r.length)::(bM (jM b r)).drop i) (bS (jM b r) 2-r.length)
theorem Sound.base(h:Sound b)(r:List UInt8)(hr:(r.length:Int)<=iq b-4):Sound (jM b r)/\cV (jM b r)=cV b/\bS (jM b r) 0=bS b 0/\4+4*(bS b 0+1)+r.length<=bS (jM b r) 2:=by
 unfold jM
 split
 .obtain⟨h1,h2,h3,_⟩:=h.compact;have e0:bS (gF b) 0=bS b 0:=by rw[<-dF,<-dF,h2]
  rw[Al h]at hr;exact⟨h1,h2,e0,by omega⟩
 .exact⟨h,rfl,rfl,by omega⟩
theorem Laid.insert(h:Sound b)(i:Nat)(r:List UInt8)(hr:4+4*(bS b 0+1)+r.length<=bS b 2)(hi:i<=bS b 0):
  Laid (lay b (bS b 2-r.length) r) ((bM b).take i++(bS b 2-r.length,r.length)::(bM b).drop i) (bS b 2-r.length):=by
 have h1:=h.heap;have h2:=h.len;have hl:=cM b;refine⟨by rw[iA (by omega)];exact h2,by omega,by simp[hl];omega,?_,?_⟩
 .intro x hx;have hx:x∈(bM b).take i\/x=(bS b 2-r.length,r.length)\/x∈(bM b).drop i:=by simpa using hx
  rcases hx with hx|rfl|hx
  .have:=h.fit.px x (gM hx);omega
  .exact⟨Nat.le_refl _,by show bS b 2-r.length+r.length<=232;omega⟩
  .have:=h.fit.px x (tI hx);omega
 .have hp:=h.fit.apart;rw[<-kW i (bM b),dO]at hp;rw[dO,dW];have hz:∀y∈bM b,apart (bS b 2-r.length,r.length) y=true:=by
   intro y hy;have:=(h.fit.px y hy).1;rw[re];exact .inr (.inr (.inl (by show bS b 2-r.length+r.length<=y.1;omega)))
  refine⟨hp.1,⟨λy hy=>hz y (tI hy),hp.2.1⟩,λx hx y hy=>?_⟩
  rcases aj.1 hy with rfl|hy
  .rw[oL];exact hz x (gM hx)
  .exact hp.2.2 x hx y hy
theorem Sound.insert(h:Sound b)(i:Nat)(r:List UInt8)(hr:(r.length:Int)<=iq b-4)(hi:i<=bS b 0):
  Sound (sS b i r)/\cV (sS b i r)=(cV b).take i++r::(cV b).drop i:=by
 obtain⟨hs,he,h0,hh⟩:=h.base r hr;rw[<-h0]at hi hh;have L:=Laid.insert hs i r hh hi;refine⟨L.sound,?_⟩;have h2:=hs.len;have h3:=hs.heap;have key:∀x∈bM (jM b r),lN (lay (jM b r) (bS (jM b r) 2-r.length) r) x=lN (jM b r) x:=by
  intro x hx;have:=(hs.fit.px x hx).1;exact Ij (by omega) x (.inr (by omega))
 unfold sS;rw[L.rcs,ez,fJ,Dh (by omega),<-he];unfold cV;rw[gx (λx hx=>key x (gM hx)),gx (λx hx=>key x (tI hx)),lU,List.map_drop]
def lO:List UInt8:=mC (List.replicate 232 0) 2 232
theorem qb:Sound lO/\cV lO=[]/\bS lO 0=0/\bS lO 2=232:=by
 have e0:bS lO 0=0:=by decide
 have e2:bS lO 2=232:=by decide
 have es:bM lO=[]:=by unfold bM;rw[e0];rfl
 exact⟨⟨by unfold lO;rw[eK,ev],by omega,by omega,by rw[es];exact Fit.nil _⟩,by unfold cV;rw[es];rfl,e0,e2⟩
theorem or8(a b:Nat)(ha:a<256)(hb:b<256):bits .or .i64 ((a:Int)*256) (b:Int)=((a*256+b:Nat):Int):=by
 rw[bits_join .i64 32 (by decide) (λn h0 h1=>IntWalk.i64_in n (by omega)) 8 _ _ (by omega) (by omega) (by omega) (by omega) (by omega) (by omega)];omega
theorem dK(s:ByteArray)(k:Nat)(h:k<s.size):s.data.toList.getD k 0=s[k]:=by
 have:k<s.data.toList.length:=by simpa using h
 simp[List.getD,aG this];rfl
theorem fe(s:ByteArray)(i:Int)(w:World)(h0:0<=i)(h:i+1<s.size)(hs:s.size<=1000000):
  Calls prog 210 #[.string s,.int .i64 i] w λe w'=>e=.returned (.int .i64 (bS s.data.toList i.toNat:Nat))/\Below w.heap.size w w':=by
 obtain⟨k,rfl⟩:=eT h0;rw[gI];have hk:k<s.size:=by omega
 have h:k+1<s.size:=by omega
 have b0:=s[k].toNat_lt;have b1:=s[k+1].toNat_lt;have HV:=xh (show bits .or .i64 ((s[k].toNat:Int)*256) (s[k+1].toNat:Int)=((bS s.data.toList k:Nat):Int)from by
  rw[or8 _ _ (by omega) (by omega)];unfold bS;rw[dK _ _ hk,dK _ _ h])
 have e1:IntKind.i64.wrap ((k:Int)+1)=(k:Int)+1:=IntWalk.i64_in _ (by omega);have e2:(0:Int)<=(k:Int)+1:=by omega
 have e3:((k:Int)+1).toNat=k+1:=by omega
 have e7:(k:Int)+1<(s.size:Int):=by omega
 have e8:(k:Int)<(s.size:Int):=by omega
 have e4:IntKind.i64.wrap (s[k].toNat:Int)=(s[k].toNat:Int):=IntWalk.i64_in _ (by omega);have e5:IntKind.i64.wrap ((s[k].toNat:Int)*256)=(s[k].toNat:Int)*256:=IntWalk.i64_in _ (by omega);have e6:IntKind.i64.wrap (s[k+1].toNat:Int)=(s[k+1].toNat:Int):=IntWalk.i64_in _ (by omega);go_enter func210,ntmps210
 go_wp2
 go_quiet (fail);rw[HV.o]
 go_wp2
 go_ret;exact⟨rfl,df (Below.refl _ _) _⟩
def sc(l:List Slot):List Value:=l.flatMap λx=>[.int .i64 (x.1:Int),.int .i64 (x.2:Int)]
theorem jN(l:List Slot):(sc l).length=2*l.length:=by
 induction l with
 |nil=>rfl
 |cons x l ih=>simp only[sc,gJ]at ih ⊢;simp[ih];omega
theorem nJ(l m:List Slot):sc (l++m)=sc l++sc m:=by simp[sc]
theorem Vd(l:List Slot)(i:Nat)(hi:i<l.length):(sc l)[i*2]?=some (.int .i64 (l[i].1:Int))/\(sc l)[i*2+1]?=some (.int .i64 (l[i].2:Int)):=by
 induction l generalizing i with
 |nil=>simp at hi
 |cons x l ih=>
  have e:sc (x::l)= .int .i64 (x.1:Int):: .int .i64 (x.2:Int)::sc l:=rfl;rw[e]
  cases i with
  |zero=>exact⟨rfl,rfl⟩
  |succ i=>
   have:=ih i (by simpa using hi);rw[show(i+1)*2=i*2+1+1 by omega,show i*2+1+1+1=(i*2+1)+1+1 by omega];simpa using this
theorem Ve(l:List Slot):∀v∈sc l,v.oneCell'=true:=by
 intro v hv;simp only[sc,mO]at hv;obtain⟨x,_,h⟩:=hv;simp at h
 rcases h with rfl|rfl<;>rfl
theorem vU:(prog.info? 271).map (λi=>(i.zero,i.size,i.bytes))=some (some (.agg #[.int .i64 0,.int .i64 0]),2,16):=by kernel_rfl
theorem sU(b:List UInt8)(k:Nat)(h:k<bS b 0):(bM b).take (k+1)=(bM b).take k++[slot b k]:=by
 rw[gy (by rw[cM];exact h)];simp[bM]
attribute [local go_sem ↓] bw
theorem jX(s:ByteArray)(w:World)(h4:4+4*bS s.data.toList 0<=s.size)(hs:s.size<=1000000):
  Calls prog 208 #[.string s] w λe w'=> ∃v,e=.returned v/\aS w' 271 2 v (bS s.data.toList 0) (sc (bM s.data.toList))/\Below w.heap.size w w'/\(∀g∈ah v,w.heap.size<=g):=by
 have hn:=Ah s.data.toList 0;have HL:=xh (cM s.data.toList);go_enter func208,ntmps208;go_wp2_with fail;refine(fe s 0 _ (by omega) (by omega) hs).mono ?_;rintro e w1 ⟨rfl,bg⟩;rw[show(0:Int).toNat=0 from rfl];have HS:=xh (show ∀k,k<bS s.data.toList 0->(bM s.data.toList).take (k+1)=(bM s.data.toList).take k++[slot s.data.toList k]from λk hk=>sU _ k hk)
 have HE:=xh (show(bM s.data.toList).take (bS s.data.toList 0)=bM s.data.toList from cr (by rw[cM];exact Nat.le_refl _));have HSl:=xh (show ∀k,slot s.data.toList k=(bS s.data.toList (4+4*k),bS s.data.toList (6+4*k))from λk=>rfl);generalize hgn:bS s.data.toList 0=n at *;have HN:=xh hgn;clear hgn;go_wp2_with fail
 go_loopw [3,4,5,8] (λv _ _ i wr=> ∃k:Nat,k<=n/\i=.int .i64 k/\aS wr 271 2 v k (sc ((bM s.data.toList).take k))/\Below w.heap.size w wr/\Hid (∀g∈ah v,w.heap.size<=g)) (λ_ _ _ i _=>n-(intOf i).toNat)
 case atStart=>exact⟨0,bf _,rfl,by rw[iL];exact aS.nil _ _ _,bg,xh (by simp[ah])⟩
 case round=>
  obtain⟨k,hk,rfl,S,O,F⟩:=hrel;obtain⟨A,c,rfl⟩:=ax S
  by_cases h:k<n
  .have uO:=xh (HS.o k h);go_wp2_with fail;refine(fe s _ _ (by omega) (by omega) hs).mono ?_;rintro e w2 ⟨rfl,dn⟩;have S2:=xh (S.below dn);have O2:=xh (aC O dn);clear dn S O;go_wp2_with fail;refine(fe s _ _ (by omega) (by omega) hs).mono ?_;rintro e w3 ⟨rfl,gr⟩;have S3:=S2.o.below gr;have O3:=xh (aC O2.o gr);clear gr S2 O2;rw[show(4+4*(k:Int)).toNat=4+4*k by omega,show(4+4*(k:Int)+2).toNat=6+4*k by omega]
   obtain⟨i0,hi,ku,js,ki⟩:=info_parts vU;obtain⟨v',w',ea,S',O',F'⟩:=dC (P:=prog) (S3.alloc (.cells #[.int .i64 (bS s.data.toList (4+4*k):Nat),.int .i64 (bS s.data.toList (6+4*k):Nat)] 271)) 266 266 i0 (.agg #[.int .i64 0,.int .i64 0]) 16 underlying266 hi ku js ki rfl (by omega)
    ⟨w3.heap.size,0,none⟩ 1 1 [.int .i64 (bS s.data.toList (4+4*k):Nat),.int .i64 (bS s.data.toList (6+4*k):Nat)] rfl (bq (l:=[_,_]) (aF.new _ _ _) 0 _ (by simp)) (by intro u hu;simp at hu;rcases hu with rfl|rfl<;>rfl) (by unfold maxLen;omega) (by omega)
   have e1:sc ((bM s.data.toList).take k)++[.int .i64 (bS s.data.toList (4+4*k):Nat),.int .i64 (bS s.data.toList (6+4*k):Nat)]=sc ((bM s.data.toList).take (k+1)):=by
    rw[uO.o,nJ,HSl.o];rfl
   rw[e1]at S';have EA:=ea;have F2:=xh (show ∀g∈ah v',w.heap.size<=g from λg hg=>(F' g hg).elim (F.o g) (λh=>aq O3.o.size (by simp at h;omega)));have O2:=xh (O3.o.trans ((((ag.refl (ah (.slice A k c)) w3).alloc (.cells #[.int .i64 (bS s.data.toList (4+4*k):Nat),.int .i64 (bS s.data.toList (6+4*k):Nat)] 271)).trans O').aJ O3.o.size F.o));have S2:=xh S';clear S3 F' O' S' e1 uO hi ku js ki ea
   change dZ _ _ _ _ _ _=_ at EA
   obtain⟨A2,c2,rfl⟩:=ax S2.o;go_wp2_with fail;go_roundw
   case rel=>exact⟨k+1,by omega,by go_num,S2.o,O2.o,F2⟩
   case measure=>simp[intOf];omega
  .have Cd:k=n:=by omega
   have H2:=xh Cd;have SS:=xh S;clear Cd S;go_wp2_with fail;go_ret;refine⟨_,rfl,?_,O,F.o⟩;have:=SS.o
   cases H2.o
   rw[HE.o]at this;rw[HN.o];exact this
variable{w w':World}{e:TypeId}{g n cap:Nat}{l:List Value}{v:Value}{F:List UInt8}
theorem aS.set1(S:aS w e 1 (.slice (some ⟨g,0,none⟩) n cap) n l)(k:Nat)(hk:k<n)(x:Value):aS (w.setCell ⟨g,k,none⟩ x) e 1 (.slice (some ⟨g,0,none⟩) n cap) n (l.set k x):=by
 have hl:l.length=n:=by have:=S.1;omega
 rcases S.2 with⟨h0,_⟩|⟨g',Gw,rest,hv,B,hc,hm⟩
 .cases h0
 .simp only[Value.slice.injEq,Option.some.injEq,Addr.mk.injEq,and_true,true_and]at hv;obtain⟨rfl,rfl⟩:=hv;refine⟨by simp[hl],.inr ⟨g,cap,rest,rfl,?_,by simpa using hc,hm⟩⟩;have:=B.bU k x;rw[tK,yr _ _ (by omega)]at this;exact this
theorem aS.cell(S:aS w e 1 (.slice (some ⟨g,0,none⟩) n cap) n l)(k:Nat)(hk:k<n)(x:Value)(hx:l[k]?=some x):w.cell? ⟨g,k,none⟩=some x/\w.frozen? ⟨g,k,none⟩=false:=by
 have hl:l.length=n:=by have:=S.1;omega
 rcases S.2 with⟨h0,_⟩|⟨g',Gw,rest,hv,B,hc,hm⟩
 .cases h0
 .simp only[Value.slice.injEq,Option.some.injEq,Addr.mk.injEq,and_true,true_and]at hv;obtain⟨rfl,rfl⟩:=hv;exact⟨B.ab (by rw[dh,bE (by omega)];exact hx),B.frozen k (by simp;omega)⟩
def mS(w:World)(v:Value)(F:List UInt8):Prop:=aS w 5 1 v F.length (dN F)
theorem mS.form(S:mS w v F)(h:0<F.length):∃g cap,v=.slice (some ⟨g,0,none⟩) F.length cap/\F.length<=cap:=by
 obtain⟨g,cap,rest,rfl,B,hc,_⟩:=aS.form S h (by omega);exact⟨g,cap,rfl,hc⟩
theorem eR:(prog.info? 5).map (λi=>(i.zero,i.size,i.bytes))=some (some (.int .u8 0),1,1):=by kernel_rfl
theorem iO(S:mS w v F)(i m:Int)(Cw:0<=i)(hi:i+1<F.length)(hF:F.length<=1000000)(hm0:0<=m)(hm:m<65536):
  Calls prog 206 #[v,.int .i64 i,.int .i64 m] w λe w'=>e=.returned (.tuple #[])/\mS w' v (mC F i.toNat m.toNat)/\ag (ah v) w w':=by
 obtain⟨k,rfl⟩:=eT Cw;obtain⟨n,rfl⟩:=eT hm0;obtain⟨g,cap,rfl,Am⟩:=S.form (by omega);have c0:=(aS.cell S k (by omega) (bv F[k]) (by rw[yz,aG (by omega)];rfl));have c1:=(aS.cell S (k+1) (by omega) (bv F[k+1]) (by rw[yz,aG (by omega)];rfl));obtain⟨c0,z0⟩:=c0;obtain⟨c1,z1⟩:=c1
 have HS:=xh (aS.set1 (aS.set1 S k (by omega) (bv (UInt8.ofNat (n / 256)))) (k+1) (by omega) (bv (UInt8.ofNat n)));have HO:=xh (show ag [g] w ((w.setCell ⟨g,k,none⟩ (bv (UInt8.ofNat (n / 256)))).setCell ⟨g,k+1,none⟩ (bv (UInt8.ofNat n)))from((ag.refl _ _).setCell (by simp) _).setCell (by simp) _);clear S;generalize F[k]=x0 at *;generalize F[k+1]=x1 at *;unfold bv at c0 c1;go_enter func206,ntmps206
 go_wp2
 have e0:bv (UInt8.ofNat (n / 256))= .int .u8 ((n:Int) / 256):=by
  unfold bv
  congr 1
  rw[iN];omega
 have e1:bv (UInt8.ofNat n)= .int .u8 ((n:Int) % 256):=by
  unfold bv;rfl
 have el:((dN F).set k (bv (UInt8.ofNat (n / 256)))).set (k+1) (bv (UInt8.ofNat n))=dN (mC F k n):=by
  simp[dN,mC]
 have h1:=HS.o;have h2:=HO.o;rw[el]at h1;rw[e0,e1]at h1 h2;clear el e0 e1
 go_end0
 refine⟨rfl,?_,by simpa [ah]using h2⟩;rw[gI,gI];unfold mS;rw[eK];exact h1
theorem ox(n:Nat)(h1:n<=140737488355328)(w:World):
  (Instr.makeSlice 150 (.int .i64 n) (.int .i64 n)).run prog w=.ok (.slice (some ⟨w.heap.size,0,none⟩) n n) (w.alloc (.cells (dN (List.replicate n 0)).toArray 5)):=by
 obtain⟨i0,hi,ku,js,ki⟩:=info_parts eR;have h:=run_make (P:=prog) w 150 5 i0 (.int .u8 0) underlying150 hi ku .i64 .i64 n n (by omega) (jg _) (by rw[ki];omega) (by omega);rw[h,js];have e:madeCells (Value.int .u8 0).cells (((n:Int).toNat)*1)=(dN (List.replicate n 0)).toArray:=by
  show madeCells #[Value.int .u8 0] (n*1)=_;rw[Nat.mul_one,hJ];simp[dN,bv]
 rw[e];rfl
theorem mS.string(S:mS w v F)(h:0<F.length):(convert 150 9 v).run prog w=.ok (.string ⟨F.toArray⟩) w:=by
 obtain⟨g,cap,rest,rfl,B,_,_⟩:=aS.form S h (by omega);exact cm (P:=prog) w 150 9 5 underlying150 underlying5 underlying9 ⟨g,0,none⟩ F.length cap F rfl (bq B 0 (dN F) (by
  intro j u hu;rw[bl,bE]
  .exact hu
  .exact(aM.1 hu).1))
theorem mS.only{S:List Nat}(B:mS w v F)(ho:ag S w w')(hd:∀g∈ah v,g∉S):mS w' v F:=aS.only B ho hd
theorem mS.below(B:mS w v F)(ho:Below w.heap.size w w'):mS w' v F:=aS.below B ho
theorem mS.new(w:World)(F:List UInt8)(h:F.length<=maxLen):mS (w.alloc (.cells (dN F).toArray 5)) (.slice (some ⟨w.heap.size,0,none⟩) F.length F.length) F:=
 ⟨by simp,.inr ⟨w.heap.size,F.length,[],rfl,by rw[jh];exact aF.new _ _ _,by simp,h⟩⟩
theorem l7(w:World):
  Calls prog 163 #[] w λe w'=>e=.returned (.string ⟨lO.toArray⟩)/\Below w.heap.size w w':=by
 have hmk:Hid (∀w':World,(Instr.makeSlice 150 (.int .i64 232) (.int .i64 232)).run prog w'= .ok (.slice (some ⟨w'.heap.size,0,none⟩) 232 232) (w'.alloc (.cells (dN (List.replicate 232 0)).toArray 5))):=xh (λw':World=>ox 232 (by omega) w');have B0:=xh (mS.new w (List.replicate 232 0) (by unfold maxLen;rw[ev];omega));have O0:=xh ((Below.refl w.heap.size w).alloc (Nat.le_refl _) (.cells (dN (List.replicate 232 0)).toArray 5))
 have hl:(List.replicate 232 (0:UInt8)).length=232:=ev;have e1:lO=mC (List.replicate 232 0) 2 232:=rfl;rw[e1];clear e1;generalize List.replicate 232 (0:UInt8)=Z at *;rw[hl]at B0;have HL:=xh hl;clear hl;have hm:=hmk.o;clear hmk;go_enter func163,ntmps163;go_wp2_with fail;generalize w.alloc (.cells (dN Z).toArray 5)=W at *;clear hm;refine(iO B0.o 2 232 (by omega) (by rw[HL.o];omega) (by rw[HL.o];omega) (by omega) (by omega)).mono ?_
 rintro e w1 ⟨rfl,B1,o1⟩;have KS:=xh (B1.string (by rw[eK,HL.o];omega));have O1:=xh (O0.o.trans (o1.aJ O0.o.size (by simp[ah])));clear B1 o1;go_wp2_with fail;rw[KS.o];go_wp2_with fail;go_ret;exact⟨rfl,O1.o⟩
variable{b:List UInt8}{k:Nat}
theorem Vf{a b:Bool}(h:a=b):Ending.returned (.bool a)= .returned (.bool b):=by rw[h]
theorem QK(x y:Slot)(w:World)(hx:x.1+x.2<=1000000)(hy:y.1+y.2<=1000000):
  Calls prog 227 #[.agg #[.int .i64 x.1,.int .i64 x.2],.agg #[.int .i64 y.1,.int .i64 y.2]] w λe w'=>e=.returned (.bool (apart x y))/\Below w.heap.size w w':=by
 obtain⟨a,b⟩:=x;obtain⟨c,d⟩:=y;have O:=xh (((Below.refl w.heap.size w).alloc (Nat.le_refl _) (.cells #[.int .i64 a,.int .i64 b] 271)).alloc (by simp) (.cells #[.int .i64 c,.int .i64 d] 271));simp only at hx hy;have HA:=xh (show apart (a,b) (c,d)=(decide (b=0) || (decide (d=0) || (decide (a+b<=c) || decide (c+d<=a))))from rfl);go_enter func227,ntmps227
 go_wp2
 all_goals go_ret
 all_goals
  refine⟨Vf ?_,((Below.refl _ _).alloc (Nat.le_refl _) _).alloc (by simp) _⟩;rw[HA.o,Bool.eq_iff_iff];simp
  try omega
theorem vV(hl:b.length=232)(h:¬Sound b):cg b=14:=by
 unfold cg;rw[if_pos hl,if_neg];rw[sR];exact h
theorem Mf(hl:b.length=232)(hk:k<bS b 0)(h:¬(bS b 2<=(slot b k).1/\(slot b k).1+(slot b k).2<=232)):cg b=14:=
 vV hl λS=>h (S.fit.px _ (ay (Df b k hk)))
theorem Ik(hl:b.length=232){j:Nat}(hk:k<bS b 0)(hj:j<k)(h:apart (slot b k) (slot b j)=false):cg b=14:=
 vV hl λS=>by
  have hp:=S.fit.apart;rw[Er]at hp;have h1:=hp j k (by rw[cM];omega) (by rw[cM];omega) hj;simp only[bM,JV,yX]at h1;rw[oL,h]at h1
  cases h1
theorem Mg(hl:b.length=232)(hh:bS b 2<=232)(h4:4+4*bS b 0<=bS b 2)(hf:Fit (bS b 2) (bM b)):cg b=0:=(ff b).2 ⟨hl,hh,h4,hf⟩
theorem Vg{heap:Nat}(hk:k<bS b 0)(hf:Fit heap ((bM b).take k))(hx:heap<=(slot b k).1/\(slot b k).1+(slot b k).2<=232)(ha:∀j,j<k->apart (slot b k) (slot b j)=true):Fit heap ((bM b).take (k+1)):=by
 rw[sU b k hk,Fit.snoc];refine⟨hf,hx,λy hy=>?_⟩;obtain⟨j,hj,rfl⟩:=n8 hy;have hj2:j<k:=by simp at hj;omega
 simp only[bM,List.getElem_take,JV,yX];exact ha j hj2
theorem oM{w:World}{g n cap:Nat}{l:List Slot}(S:aS w 271 2 (.slice (some ⟨g,0,none⟩) n cap) n (sc l))(k:Nat)(hk:k<l.length):w.cell? ⟨g,k*2,none⟩=some (.int .i64 l[k].1)/\w.cell? ⟨g,k*2+1,none⟩=some (.int .i64 l[k].2):=by
 obtain⟨rest,B,_⟩:=S.uP;obtain⟨h0,h1⟩:=Vd l k hk;have hlen:=jN l;exact⟨B.ab (by rw[dh,bE (by omega)];exact h0),B.ab (by rw[dh,bE (by omega)];exact h1)⟩
theorem k9(b:List UInt8)(k:Nat)(h:k<(bM b).length):(bM b)[k]=slot b k:=by simp[bM]
theorem Mh(s:ByteArray)(w:World)(hl:s.size=232)(hh:bS s.data.toList 2<=232)(h4:4+4*bS s.data.toList 0<=bS s.data.toList 2):
  Calls prog 207 #[.string s] w λe w'=>e=.returned (.int .i64 (cg s.data.toList))/\Below w.heap.size w w':=by
 have hL:s.data.toList.length=232:=by simpa using hl
 have HLI:=xh (λ(k:Nat) (hk:k<bS s.data.toList 0) (h:¬(bS s.data.toList 2<=(slot s.data.toList k).1/\(slot s.data.toList k).1+(slot s.data.toList k).2<=232))=>Mf hL hk h);have HAP:=xh (λ(k j:Nat) (hk:k<bS s.data.toList 0) (hj:j<k) (h:apart (slot s.data.toList k) (slot s.data.toList j)=false)=>Ik hL hk hj h);have PF:=xh (λ(hf:Fit (bS s.data.toList 2) (bM s.data.toList))=>Mg hL hh h4 hf)
 have HST:=xh (λ(k:Nat) (hk:k<bS s.data.toList 0) (hf:Fit (bS s.data.toList 2) ((bM s.data.toList).take k)) (hx:bS s.data.toList 2<=(slot s.data.toList k).1/\(slot s.data.toList k).1+(slot s.data.toList k).2<=232) (ha:∀j,j<k->apart (slot s.data.toList k) (slot s.data.toList j)=true)=>Vg hk hf hx ha);have HAL:=xh (show(bM s.data.toList).take (bS s.data.toList 0)=bM s.data.toList from cr (by rw[cM];exact Nat.le_refl _))
 have HN:=xh (cM s.data.toList);have Od:=λk=>Ah s.data.toList k;have BH:∀k,(slot s.data.toList k).1<65536/\(slot s.data.toList k).2<65536:=λk=>⟨Od _,Od _⟩;have Sd:=xh BH;have KL:=xh (λw'=>jX s w' (by omega) (by omega));clear Od BH hL;have hs1:s.size<=232:=by omega
 have hs2:232<=s.size:=by omega
 have hsb:((s.size:Int)==232)=true:=by simp;omega
 have HHL:=xh hl;clear hl;have K0:=xh (λw'=>fe s 0 w' (by omega) (by omega) (by omega));have K2:=xh (λw'=>fe s 2 w' (by omega) (by omega) (by omega));simp only[show(0:Int).toNat=0 from rfl,show(2:Int).toNat=2 from rfl]at K0 K2;generalize hq:cg s.data.toList=q at *;have HQ:=xh hq;clear hq;generalize bS s.data.toList 0=n at *;generalize bS s.data.toList 2=heap at *;go_enter func207,ntmps207;go_wp2_with fail;refine(K0.o _).mono ?_
 rintro e w1 ⟨rfl,bg⟩;go_wp2_with fail;refine(K2.o _).mono ?_;rintro e w2 ⟨rfl,dn⟩;go_wp2_with fail;refine(KL.o _).mono ?_;rintro e w3 ⟨v,rfl,S,gr,fr⟩;obtain⟨A,c,rfl⟩:=ax S;have S:=xh S;have O3:=xh (aC (aC bg dn) gr);clear bg dn gr fr K0 K2 KL;go_wp2_with fail
 go_loopw [31] (λiv wr=> ∃k:Nat,k<=n/\iv=.int .i64 k/\aS wr 271 2 (.slice A n c) n (sc (bM s.data.toList))/\Below w.heap.size w wr/\Hid (Fit heap ((bM s.data.toList).take k))) (λiv _=>n-(intOf iv).toNat)
 case atStart=>exact⟨0,bf _,rfl,S.o,O3.o,xh (by rw[iL];exact Fit.nil _)⟩
 case round=>
  obtain⟨k,hk,rfl,S,O,F⟩:=hrel
  by_cases h:k<n
  .obtain⟨g,cap,rest,hv,-,Am,-⟩:=S.form (by omega) (by omega);simp only[Value.slice.injEq,true_and]at hv;obtain⟨rfl,rfl⟩:=hv;have gZ:=oM S k (by rw[HN.o];exact h);rw[k9]at gZ;obtain⟨c0,c1⟩:=gZ;have b0:=Sd.o k;have LI:=xh (HLI.o k h);have AP:=xh (λj=>HAP.o k j h);have ST:=xh (HST.o k h F.o);have SS:=xh S;have OO:=xh O;clear S O;generalize slot s.data.toList k=x at *;obtain⟨x0,x1⟩:=x;simp only at b0 c0 c1
   have B8:=xh (aF.new wr 271 #[.int .i64 x0,.int .i64 x1]);have S8:=xh (SS.o.alloc (.cells #[.int .i64 x0,.int .i64 x1] 271));have O8:=xh (OO.o.alloc OO.o.size (.cells #[.int .i64 x0,.int .i64 x1] 271));have hx:heap<=x0/\x0+x1<=232\/(heap<=x0/\232<x0+x1)\/x0<heap:=by omega
   rcases hx with⟨g1,g2⟩|⟨g1,g2⟩|g1
   .go_wp2_with fail;generalize wr.alloc (.cells #[.int .i64 x0,.int .i64 x1] 271)=W at *;generalize wr.heap.size=z at *
    go_loopw [52] (λjv w4=> ∃j:Nat,j<=k/\jv=.int .i64 j/\aS w4 271 2 (.slice (some ⟨g,0,none⟩) n c) n (sc (bM s.data.toList))/\aF w4 z 271 #[.int .i64 x0,.int .i64 x1]/\Below w.heap.size w w4/\Hid (∀i,i<j->apart (x0,x1) (slot s.data.toList i)=true)) (λjv _=>k-(intOf jv).toNat)
    case atStart=>exact⟨0,bf _,rfl,S8.o,B8.o,O8.o,xh λi hi=>absurd hi (kZ i)⟩
    case round=>
     obtain⟨j,hj,rfl,S9,B9,O9,HJ⟩:=hrel
     by_cases hjk:j<k
     .have gZ:=oM S9 j (by rw[HN.o];omega);rw[k9]at gZ;obtain⟨d0,d1⟩:=gZ;have b2:=Sd.o j;have hn1:=AP.o j hjk;have HJS:=xh (show apart (x0,x1) (slot s.data.toList j)=true->∀i,i<j+1->apart (x0,x1) (slot s.data.toList i)=true from λe i hi=>by
       rcases dX i j with h|h
       .exact HJ.o i h
       .obtain rfl:i=j:=by omega
        exact e)
      have HN1:=xh hn1;have z0:=B9.ab (i:=0) rfl;have z1:=B9.ab (i:=1) rfl;have zl:=B9.lt;have SS9:=xh S9;have BB9:=xh B9;have OO9:=xh O9;clear S9 B9 O9 hn1 HJ;generalize slot s.data.toList j=y at *;obtain⟨y0,y1⟩:=y;simp only at b2 d0 d1;have KA:=xh (λw'=>QK (x0,x1) (y0,y1) w' (by show x0+x1<=1000000;omega) (by show y0+y1<=1000000;omega));simp only at KA;go_wp2_with fail;refine(KA.o _).mono ?_;rintro e w5 ⟨rfl,oF⟩
      have oF:=xh (((Below.refl wr.heap.size wr).alloc (Nat.le_refl _) (.cells #[.int .i64 y0,.int .i64 y1] 271)).trans (oF.mono (by simp)))
      cases ha:apart (x0,x1) (y0,y1)
      .have hq:=HN1.o ha;go_wp2_with fail;go_ret;exact⟨by first|rfl|(rw[hq];rfl),aC OO9.o oF.o⟩
      .have HA:=xh ha;clear ha;go_wp2_with fail;go_roundw
       case rel=>exact⟨j+1,by omega,by go_num,SS9.o.below oF.o,BB9.o.below oF.o BB9.o.lt,aC OO9.o oF.o,xh (HJS.o HA.o)⟩
       case measure=>simp[intOf];omega
     .have SS9:=xh S9;have OO9:=xh O9;have hjk2:=xh (show j=k by omega);clear S9 B9 O9;go_wp2_with fail;go_roundw
      case rel=>exact⟨k+1,by omega,by go_num,SS9.o,OO9.o,xh (ST.o ⟨g1,g2⟩ (hjk2.o▸HJ.o))⟩
      case measure=>simp[intOf];omega
   .have hq:=LI.o (by omega);go_wp2_with fail;go_ret;exact⟨by first|rfl|(rw[hq];rfl),O8.o⟩
   .have hq:=LI.o (by omega);go_wp2_with fail;go_ret;exact⟨by first|rfl|(rw[hq];rfl),O8.o⟩
  .have Cd:k=n:=by omega
   have H2:=xh Cd;have OO:=xh O;have SS:=xh S;clear Cd S O;go_wp2_with fail;go_ret;refine⟨?_,OO.o⟩;have hf:=F.o;rw[H2.o,HAL.o]at hf;rw[PF.o hf];rfl
theorem rh(s:ByteArray)(w:World)(hs:s.size<=1000000):
  Calls prog 207 #[.string s] w λe w'=>e=.returned (.int .i64 (cg s.data.toList))/\Below w.heap.size w w':=by
 by_cases hl:s.size=232
 .by_cases hg:bS s.data.toList 2<=232/\4+4*bS s.data.toList 0<=bS s.data.toList 2
  .exact Mh s w hl hg.1 hg.2
  .have hL:s.data.toList.length=232:=by simpa using hl
   have e1:cg s.data.toList=14:=vV hL λS=>hg ⟨S.heap,S.head⟩;rw[e1];have K0:=xh (λw'=>fe s 0 w' (by omega) (by omega) (by omega));have K2:=xh (λw'=>fe s 2 w' (by omega) (by omega) (by omega));simp only[show(0:Int).toNat=0 from rfl,show(2:Int).toNat=2 from rfl]at K0 K2;have b0:=Ah s.data.toList 0;generalize bS s.data.toList 0=n at *;generalize bS s.data.toList 2=heap at *;have hsb:((s.size:Int)==232)=true:=by simp;omega
   have hx:232<heap\/(heap<=232/\heap<4+4*n):=by omega
   clear hl hg e1 hL
   rcases hx with h1|⟨h1,h2⟩
   all_goals
    go_enter func207,ntmps207;go_wp2_with fail;refine(K0.o _).mono ?_;rintro e w1 ⟨rfl,bg⟩;go_wp2_with fail;refine(K2.o _).mono ?_;rintro e w2 ⟨rfl,dn⟩;have O:=xh (aC bg dn);clear bg dn;go_wp2_with fail;go_ret;exact⟨rfl,O.o⟩
 .have e1:cg s.data.toList=6:=by unfold cg;rw[if_neg (by simpa using hl)]
  rw[e1];have hsb:((s.size:Int)==232)=false:=by simp;omega
  clear e1 hl;go_enter func207,ntmps207;go_wp2_with fail;go_ret;exact⟨rfl,Below.refl _ _⟩
end Sl
end Go.Proofs.YtmonobkginiajaaGreat
