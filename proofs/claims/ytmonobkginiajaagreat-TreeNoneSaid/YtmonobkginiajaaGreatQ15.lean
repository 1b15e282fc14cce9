/- packed. -/
import Derived.Test.YtmonobkginiajaaGreatQ13
import Derived.Test.YtmonobkginiajaaGreatQ14
import Derived.Test.YtmonobkginiajaaGreatQ11
set_option linter.all false
set_option maxRecDepth 100000
set_option maxHeartbeats 8000000
namespace Go.Proofs.YtmonobkginiajaaGreat.Sh
open Go.RowKit Pk Dk Pg
attribute [local go_sem ↓] Go.wp_at_zero Go.wp_at_succ aX
def wR (l:List Fr):List Int:=(l.map Fr.al).filter fun x=>decide (0≤x)
theorem Ky (l:List Fr) (i:Nat) (f:Fr) (hf:l[i]?=some f):wR (l.take (i+1))=if 0≤f.al then wR (l.take i)++[f.al] else wR (l.take i):=by
 obtain ⟨hi,rfl⟩:=List.getElem?_eq_some_iff.1 hf;unfold wR;rw [List.take_succ_eq_append_getElem hi,List.map_append,List.filter_append]
 by_cases h:0≤l[i].al
 ·rw [if_pos h]; simp [h]
 ·rw [if_neg h]; simp [h]
theorem pgL_len (l:List Fr):(wR l).length≤l.length:=by
 unfold wR;exact Nat.le_trans (List.length_filter_le _ _) (by simp)
theorem Dw {w:World} {y:Y} {n:Nat} {s:PS} (h:fJ w y n s):
  Calls Tryz.prog 146 #[pp y.pb] w fun e w'=> ∃v,e= .returned v∧aG w' 3 1 v (wR s.l).length (cw (ua (wR s.l)))∧Below w.heap.size w w':=by
 have H0:=xh h;have p1:w.cell? ⟨y.pb,1,none⟩=some (.slice (some ⟨y.fg,0,none⟩) s.l.length y.cp):=h.p1;have HL:=xh (show ∀i,(wR (s.l.take i)).length≤32 from fun i=>by
  have:=pgL_len (s.l.take i);have:=h.l2;rw [List.length_take] at *;omega)
 obtain ⟨N,hN⟩: ∃N,s.l.length=N:=⟨_,rfl⟩;have HN:=xh hN;have HT:=xh (show wR (s.l.take N)=wR s.l from by rw [←hN,List.take_length]);have JF:N≤32:=by rw [←hN]; exact h.l2
 rw [hN] at p1;have HF:=xh h.vP;clear h hN H0;unfold pp;go_enter Tryz.func146,Tryz.ntmps146;go_wp2_with fail
 go_loopw [3,5,14] (fun pv _ iv wq=> ∃i:Nat,i≤N∧iv= .int .i64 i∧aG wq 3 1 pv (wR (s.l.take i)).length (cw (wR (s.l.take i)))∧Hid (Below w.heap.size w wq)∧Hid (∀g∈ah pv,w.heap.size≤g)) (fun _ _ iv _=>N-(intOf iv).toNat)
 case atStart=>exact ⟨0,Nat.zero_le _,rfl,aG.nil _ _ _,xh (Below.refl _ _),xh (by simp [ah])⟩
 case round=>
  obtain ⟨i,hi,rfl,S,O,F⟩:=hrel;obtain ⟨VA,vc,rfl⟩:=aq S
  by_cases h':i<N
  ·have hI:(i:Int)<(N:Int):=by omega
   obtain ⟨f,HG⟩: ∃f,Hid (s.l[i]?=some f):=⟨_,xh (List.getElem?_eq_getElem (by rw [HN.out]; exact h'))⟩;obtain ⟨c0,c1,c2,c3,c4⟩:=(HF.out.below O.out) i f HG.out;have hm:=HL.out i;have E4:=Ky s.l i f HG.out;have S5:=S.alloc (.cells #[.int .i64 f.al,.string f.et,.int .i64 f.held,.bool f.bG,.bool f.used] 167);have O5:=xh (ae O.out (.cells #[.int .i64 f.al,.string f.et,.int .i64 f.held,.bool f.bG,.bool f.used] 167))
   have d0:=(ax.new wr 167 #[.int .i64 f.al,.string f.et,.int .i64 f.held,.bool f.bG,.bool f.used]).ab (i:=0) rfl
   by_cases hp:0≤f.al
   ·rw [if_pos hp] at E4;obtain ⟨v',w2,ea,S2,ow,fr⟩:=cd (P:=Tryz.prog) S5 60 60 (.int .i64 0) 8 Tryz.underlying60 gh rfl (.int .i64 f.al) rfl (by unfold maxLen; omega) (by omega);obtain ⟨V2,fu,rfl⟩:=aq S2;rw [show (wr.alloc (.cells #[.int .i64 f.al,.string f.et,.int .i64 f.held,.bool f.bG,.bool f.used] 167)).heap.size=wr.heap.size+1 from by simp] at ea;have EA:=xh ea
    have SX:=xh (show aG w2 3 1 (.slice V2 ((wR (s.l.take i)).length+1) fu) (wR (s.l.take (i+1))).length (cw (wR (s.l.take (i+1)))) from by
     rw [E4,eB,List.length_append]; exact S2)
    have OX:=xh (O5.out.trans (ow.ay O5.out.size F.out));have FX:=xh (show ∀g'∈ah (.slice V2 ((wR (s.l.take i)).length+1) fu),w.heap.size≤g' from fun g' hg=>(fr g' hg).elim (F.out g') (fun h=>Nat.le_trans O5.out.size h));clear ea S2 ow fr S S5 E4;generalize (wR (s.l.take i)).length=pl at *;go_wp2_with fail;rw [EA.out];go_wp2_with fail;go_roundw
    case rel=>exact ⟨i+1,by omega,by go_num,SX.out,OX,FX⟩
    case measure=>simp [intOf]; omega
   ·rw [if_neg hp] at E4;have SX:=xh S5;have HX:=xh E4;clear S S5 E4;go_wp2_with fail;go_roundw
    case rel=>exact ⟨i+1,by omega,by go_num,by rw [HX.out]; exact SX.out,O5,F⟩
    case measure=>simp [intOf]; omega
  ·obtain rfl:N=i:=by omega
   have vB:=HL.out N;have KS:=xh (Kx S (by omega));clear S;go_wp2_with fail;refine KS.out.mono ?_;rintro e w5 ⟨rfl,S5,o5⟩;have SX:=xh S5;have OX:=xh (O.out.trans (o5.ay O.out.size F.out));clear S5 o5;go_wp2_with fail;go_ret;exact ⟨_,by first | rfl | simp,by have h:=SX.out; rw [HT.out] at h ⊢; exact h,OX.out⟩
theorem Dx {w:World} {y:Y} {n:Nat} {s:PS} (h:fJ w y n s):
  Calls Tryz.prog 98 #[pp y.pb] w fun e w'=>e= .returned (.tuple #[.int .i64 (s.l.length:Nat),.int .i64 ((wR s.l).length:Nat),.int .i64 ((s.l.countP fun f=>decide (0<f.held)):Nat)])∧Below w.heap.size w w':=by
 have p1:w.cell? ⟨y.pb,1,none⟩=some (.slice (some ⟨y.fg,0,none⟩) s.l.length y.cp):=h.p1;obtain ⟨N,hN⟩: ∃N,s.l.length=N:=⟨_,rfl⟩;have HN:=xh hN;have HT:=xh (show ((s.l.take N).countP fun f=>decide (0<f.held))=(s.l.countP fun f=>decide (0<f.held)) from by rw [←hN,List.take_length]);have HL:=xh (show ∀i,((s.l.take i).countP fun f=>decide (0<f.held))≤32 from fun i=>by
  have h1:((s.l.take i).countP fun f=>decide (0<f.held))≤(s.l.take i).length:=List.countP_le_length;have h2:=h.l2;rw [List.length_take] at h1;omega)
 have HU:=xh (show ∀i f,s.l[i]?=some f→((s.l.take (i+1)).countP fun f=>decide (0<f.held))=((s.l.take i).countP fun f=>decide (0<f.held))+(if 0<f.held then 1 else 0) from fun i f hf=>by
  obtain ⟨hi,rfl⟩:=List.getElem?_eq_some_iff.1 hf;rw [List.take_succ_eq_append_getElem hi,List.countP_append];simp [List.countP_cons])
 have JF:N≤32:=by rw [←hN]; exact h.l2
 rw [hN] at p1 ⊢;have HF:=xh h.vP;have KP:=xh (fun W (hb:Below w.heap.size w W)=>Dw (h.below hb));have HP1:=xh (fun W (hb:Below w.heap.size w W)=>(show W.cell? ⟨y.pb,1,none⟩=some (.slice (some ⟨y.fg,0,none⟩) N y.cp) from by rw [←hN]; exact (h.below hb).p1));clear h hN;unfold pp at *;go_enter Tryz.func98,Tryz.ntmps98;go_wp2_with fail
 go_loopw [5,7,15] (fun kv _ iv wq=> ∃i:Nat,i≤N∧iv= .int .i64 i∧kv= .int .i64 (((s.l.take i).countP fun f=>decide (0<f.held)):Nat)∧Hid (Below w.heap.size w wq)) (fun _ _ iv _=>N-(intOf iv).toNat)
 case atStart=>exact ⟨0,Nat.zero_le _,rfl,rfl,xh (Below.refl _ _)⟩
 case round=>
  obtain ⟨i,hi,rfl,rfl,O⟩:=hrel
  by_cases h':i<N
  ·have hI:(i:Int)<(N:Int):=by omega
   obtain ⟨f,HG⟩: ∃f,Hid (s.l[i]?=some f):=⟨_,xh (List.getElem?_eq_getElem (by rw [HN.out]; exact h'))⟩;obtain ⟨c0,c1,c2,c3,c4⟩:=(HF.out.below O.out) i f HG.out;have hm:=HL.out i;have E4:=HU.out i f HG.out;have O5:=xh (ae O.out (.cells #[.int .i64 f.al,.string f.et,.int .i64 f.held,.bool f.bG,.bool f.used] 167));have d2:=(ax.new wr 167 #[.int .i64 f.al,.string f.et,.int .i64 f.held,.bool f.bG,.bool f.used]).ab (i:=2) rfl;have HX:=xh E4;clear E4
   generalize hcn:((s.l.take i).countP fun f=>decide (0<f.held))=cn at *;have ec:IntKind.i64.wrap ((cn:Int)+1)=((cn+1:Nat):Int):=IntWalk.i64_in _ (by omega)
   by_cases hp:0<f.held
   ·go_wp2_with fail;go_roundw
    case rel=>exact ⟨i+1,by omega,by go_num,by rw [HX.out,if_pos hp]; try rfl,O5⟩
    case measure=>simp [intOf]; omega
   ·go_wp2_with fail;go_roundw
    case rel=>exact ⟨i+1,by omega,by go_num,by rw [HX.out,if_neg hp]; try rfl,O5⟩
    case measure=>simp [intOf]; omega
  ·obtain rfl:N=i:=by omega
   rw [HT.out];have OD:=xh O.out.drew;have q1:=HP1.out _ OD.out;have Q1:=xh q1;have hcn:=HL.out N;rw [HT.out] at hcn;generalize hcq:(s.l.countP fun f=>decide (0<f.held))=cn at *;have HCQ:=xh hcq;clear hcq;go_wp2_with fail;refine wp_region_held_drew (S:=fun W'=>W'.cell? ⟨y.pb,1,none⟩=some (.slice (some ⟨y.fg,0,none⟩) N y.cp)) (by kernel_rfl) (Q1.out) (fun aj=>?_);refine bR [(0,25),(1,26),(2,27),(3,28),(4,29),(5,30),(8,33)] ?_
   iterate 7 (refine zt ?_; try simp only [Act.put,pa,pb,pc])
   refine bS ?_;refine cA (i:=6) (o:=⟨some 31,_,_,_,_,_⟩) fun K hK=>?_;go_simp
   go_at_call 146
   refine (KP.out _ OD.out).mono ?_;rintro e w5 ⟨v5,rfl,S5,ko⟩;obtain ⟨V5,vc5,rfl⟩:=aq S5;have O5:=xh (ao OD.out ko);have d1:=HP1.out _ O5.out;clear S5 ko;go_simp;refine hK.out _ _ (d1) (fun aj=>?_)
   try simp only [Act.put,pa,pb,pc]
   refine bR [(7,32),(9,2),(10,3),(11,4)] ?_
   iterate 4 (refine zt ?_; try simp only [Act.put,pa,pb,pc])
   refine bS ?_;refine wpAnyH_done (by kernel_rfl) ?_ _;go_wp2_with fail;refine bodyPost_ret (v:= .tuple #[.int .i64 (N:Nat),.int .i64 ((wR s.l).length:Nat),.int .i64 (cn:Nat)]) ?_ rfl ⟨by rw [HCQ.out],O5.out⟩;simp [results,Tryz.results98,go_sem]
end Go.Proofs.YtmonobkginiajaaGreat.Sh
namespace Go.Proofs.YtmonobkginiajaaGreat.Sh
open Go.RowKit Pk Dk Pg
attribute [local go_sem ↓] Go.wp_at_zero Go.wp_at_succ
def ZTo (w w':World) (y:Y) (n:Nat) (q:QS) (K:Nat):Prop:= ∃y',y'.pb=y.pb∧y'.x.b=y.x.b∧y'.x.L=y.x.L∧ZP w' y' n q K∧ag y.fp w w'∧ ∀g∈y'.fp,g∈y.fp∨w.heap.size≤g
theorem ZTo.self {w w':World} {y:Y} {n:Nat} {q:QS} {K:Nat} (h:ZP w' y n q K) (o:ag y.fp w w'):ZTo w w' y n q K:=⟨y,rfl,rfl,rfl,h,o,fun _ hg=> .inl hg⟩
theorem yI {q:QS} {K:Nat} (h:Fb q.l K): ∀i,i≤q.l.length→Fb (q.aN i).1.l K∧(q.aN i).1.l.length=q.l.length
 | 0,_=>⟨h,rfl⟩
 | i+1,hi=>by
  obtain ⟨h1,h2⟩:=yI h i (by omega);unfold QS.aN
  split
  ·exact ⟨h1,h2⟩
  ·obtain ⟨h3,h4⟩:=tU (k:=i) h1 (by omega);exact ⟨h3,by rw [h4,h2]⟩
theorem Dy (q:QS) (i:Nat):q.aN (i+1)=if (q.aN i).2≠0 then q.aN i else (q.aN i).1.bF i:=rfl
theorem ub (q:QS) {i:Nat} (h:(q.aN i).2≠0): ∀k,q.aN (i+k)=q.aN i
 | 0=>rfl
 | k+1=>by
  show q.aN ((i+k)+1)=_;rw [Dy,ub q h k,if_pos h]
theorem yJ {w:World} {y:Y} {n K:Nat} {q:QS} (h:ZP w y n q K) (hb:Fb q.l K) (hK:K≤999999999000):
  Calls Tryz.prog 50 #[pp y.pb] w fun e w'=>e= .returned (.int .i64 q.aA.2)∧ZTo w w' y n q.aA.1 (K+40):=by
 obtain ⟨c,A,z⟩:=h;have l2:q.l.length≤32:=A.l2;have KC:=xh (Dx A);rw [show (q.ps c).l=q.l from rfl] at KC;obtain ⟨N,hN⟩: ∃N,q.l.length=N:=⟨_,rfl⟩;have HN:=xh hN;have HP1:=xh (show ∀W,Below w.heap.size w W→W.cell? ⟨y.pb,1,none⟩=some (.slice (some ⟨y.fg,0,none⟩) N y.cp) from fun W hW=>by rw [←hN]; exact (A.below hW).p1);have H0:=xh (fun W (hW:Below w.heap.size w W)=>(show ZP W y n (q.aN 0).1 (K+0) from ⟨c,A.below hW,z⟩))
 have KB:=xh (fun (i:Nat) (hi:i<N) (W:World) (hW:ZP W y n (q.aN i).1 (K+i))=>Ad hW (by omega) i (by rw [(yI hb i (by omega)).2]; omega) (fun f hf=>((yI hb i (by omega)).1 f hf).2.2));have HSU:=xh (show ∀i,(q.aN i).2=0→q.aN (i+1)=(q.aN i).1.bF i from fun i h0=>by
  show (if (q.aN i).2≠0 then q.aN i else (q.aN i).1.bF i)=_;rw [if_neg (by simpa using h0)])
 have HBAD:=xh (show ∀i,i≤N→(q.aN i).2≠0→q.pw=0→q.aA=q.aN i from fun i hi eg h0=>by
  have h1:=ub q eg (N-i);rw [show i+(N-i)=N by omega] at h1;unfold QS.aA;rw [h0,if_neg (by omega),hN,h1,if_pos eg])
 have HEND:=xh (show (q.aN N).2=0→q.pw=0→q.aA=({(q.aN N).1 with a:=(q.aN N).1.a.aA.1},(q.aN N).1.a.aA.2) from fun h1 h0=>by
  unfold QS.aA;rw [h0,if_neg (by omega),hN,if_neg (by rw [h1]; simp)])
 have HHE:=xh (show 0<q.pw→q.aA=(q,16) from fun h0=>by
  unfold QS.aA;rw [if_pos h0])
 have HZQ:=xh (show ∀W,Below w.heap.size w W→ZTo w W y n q (K+40) from fun W hW=> .self ((show ZP W y n q K from ⟨c,A.below hW,z⟩).more (by omega)) (.ak hW));have KS:=xh (fun (W:World) (c1:C) (a:St) (K1:Nat) (x:X) (B:At W x n c1) (z1:Zc c1 n a K1) (hK1:K1≤1000000000000)=>Ab B z1 hK1);rw [hN] at l2 KC;have KK:(q.l.countP fun f=>decide (0<f.held))=q.pw:=rfl;rw [KK] at KC;clear KK A z hN;unfold pp sp at *;go_enter Tryz.func50,Tryz.ntmps50;go_wp2_with fail
 refine KC.out.mono ?_;rintro e w1 ⟨rfl,aM⟩;have O1:=xh aM;clear aM;obtain ⟨hn,hhn⟩: ∃hn,q.pw=hn:=⟨_,rfl⟩;have HHN:=xh hhn;rw [hhn];clear hhn
 by_cases h0:0<hn
 ·have h0I:(0:Int)<(hn:Int):=by omega
  have HR:=xh (HHE.out (by rw [HHN.out]; exact h0));go_wp2_with fail;go_ret;exact ⟨by rw [HR.out]; rfl,by rw [HR.out]; exact HZQ.out _ O1.out⟩
 ·have h0I: ¬(0:Int)<(hn:Int):=by omega
  have HH0:=xh (show q.pw=0 by rw [HHN.out]; omega);have p1:=HP1.out _ O1.out;go_wp2_with fail
  go_loopw [6,7,23] (fun _ _ iv wr=> ∃i:Nat,i≤N∧iv= .int .i64 i∧Hid (ZP wr y n (q.aN i).1 (K+i))∧Hid ((q.aN i).2=0)∧Hid (ag y.fp w wr)) (fun _ _ iv _=>N-(intOf iv).toNat)
  case atStart=>exact ⟨0,Nat.zero_le _,rfl,xh (H0.out _ O1.out),xh rfl,xh (ag.ak O1.out)⟩
  case round=>
   obtain ⟨i,hi,rfl,ZI,E0,OI⟩:=hrel
   by_cases h':i<N
   ·have hI:(i:Int)<(N:Int):=by omega
    have KB1:=xh (KB.out i h' wr ZI.out);have HS1:=xh (HSU.out i E0.out);have ER:=xh (HBAD.out (i+1) (by omega));rw [←HS1.out] at KB1;obtain ⟨R,HR⟩: ∃R,Hid (q.aN (i+1)=R):=⟨_,xh rfl⟩;rw [HR.out] at KB1 ER
    by_cases hr:R.2=0
    ·rw [hr] at KB1;go_wp2_with fail;refine KB1.out.mono ?_;rintro e w5 ⟨rfl,z5,o5⟩;have Z5:=xh (show ZP w5 y n (q.aN (i+1)).1 (K+(i+1)) from by rw [HR.out]; exact z5);have E5:=xh (show (q.aN (i+1)).2=0 from by rw [HR.out]; exact hr);have O5:=xh (OI.out.trans o5);clear z5 o5;go_wp2_with fail;go_roundw
     case rel=>exact ⟨i+1,by omega,by go_num,Z5,E5,O5⟩
     case measure=>simp [intOf]; omega
    ·have hq:(R.2==0)=false:=by rw [beq_eq_false_iff_ne]; exact hr
     have jm:(R.2 != 0)=true:=by rw [bne_iff_ne]; exact hr
     have HC:=xh (ER.out hr HH0.out);go_wp2_with fail;refine KB1.out.mono ?_;rintro e w5 ⟨rfl,z5,o5⟩;have Z5:=xh z5;have O5:=xh (OI.out.trans o5);clear z5 o5;go_wp2_with fail;go_ret;exact ⟨by rw [HC.out]; rfl,by rw [HC.out]; exact .self (Z5.out.more (by omega)) O5.out⟩
   ·obtain rfl:N=i:=by omega
    obtain ⟨c5,A5,Z5⟩:=ZI.out;have q0:=A5.p0;have KS5:=xh (KS.out _ _ _ _ _ A5.hs Z5 (by omega));have HE:=xh (HEND.out E0.out HH0.out);have A5:=xh A5;clear Z5;unfold sp at *;go_wp2_with fail;refine KS5.out.mono ?_;rintro e w6 ⟨rfl,c6,p6,z6⟩;have HF:=xh (show ZTo w w6 y n ({(q.aN N).1 with a:=(q.aN N).1.a.aA.1}) (K+40) from by
     obtain ⟨y',e1,_,_,e2,e3,B',o',f'⟩:=A5.out.store p6;exact ⟨y',e1,e2,e3,⟨c6,B',z6.more (by omega)⟩,OI.out.trans o',fun g hg=>(f' g hg).imp id (fun h=>Nat.le_trans OI.out.size h)⟩)
    clear p6 z6;go_wp2_with fail;go_ret;exact ⟨by rw [HE.out]; rfl,by rw [HE.out]; exact HF.out⟩
theorem GV {w:World} {y:Y} {n K:Nat} {q:QS} (h:ZP w y n q K) (hK:K≤1000000000000) (v:ByteArray) (hs:v.size≤9223372036854775807):
  Calls Tryz.prog 69 #[pp y.pb,.string v] w fun e w'=>e= .returned (.tuple #[.int .i64 (q.bm v.data.toList).2.1,.int .i64 (q.bm v.data.toList).2.2])∧ZTo w w' y n (q.bm v.data.toList).1 (K+1):=by
 obtain ⟨c,A,z⟩:=h;have zn:=z.new v.data.toList;have hp:=Gs A v hs (z.ep0 hK) (by have:=(z.calls hK).1; show c.d.calls≤_; omega) (z.calls hK).2;rw [show (q.ps c).c=c from rfl,zn.2] at hp;refine hp.mono fun e w' ⟨r,y',e1,_,_,e2,e3,B',o',f'⟩=>⟨r,y',e1,e2,e3,⟨_,B',zn.1⟩,o',f'⟩
theorem Dz {w:World} {y:Y} {n K:Nat} {q:QS} (h:ZP w y n q K) (hb:Fb q.l K) (p:Int):
  Calls Tryz.prog 132 #[pp y.pb,.int .i64 p] w fun e w'=>e= .returned (.int .i64 (q.aE p).2)∧ZP w' y n (q.aE p).1 K∧ag y.fp w w':=by
 obtain ⟨c,A,z⟩:=h;have zd:=z.drop p;unfold QS.aE
 rcases fe q.l p with e | ⟨k,f,e,hf,_,_⟩
 ·rw [e,if_neg (by omega)];have hd:=Gv A p e;rw [show (q.ps c).c=c from rfl,zd.2] at hd
  by_cases h0:(q.a.aE p).2=0
  ·rw [if_neg (by simpa using h0),if_neg (by omega)];refine hd.mono fun e w' ⟨r,A',o⟩=>⟨by rw [r,h0],⟨_,A',zd.1⟩,o⟩
  ·rw [if_pos h0];refine hd.mono fun e w' ⟨r,A',o⟩=>⟨r,⟨_,A',zd.1⟩,o⟩
 ·rw [e,show ((k:Nat):Int).toNat=k by omega,k7 hf];have hm:=hb f (List.mem_of_getElem? hf)
  by_cases hh:0<f.held
  ·rw [if_pos ⟨by omega,hh⟩];exact (CM A p k e hf hh).mono fun e w' ⟨r,b⟩=>⟨r,⟨c,A.below b,z⟩,.ak b⟩
  ·rw [if_neg (fun h=>hh h.2)];have hd:=JM A p k e hf (by omega);rw [show (q.ps c).c=c from rfl,zd.2] at hd
   by_cases h0:(q.a.aE p).2=0
   ·rw [if_neg (by simpa using h0),if_pos (by omega)];rw [if_pos h0] at hd;refine hd.mono fun e w' ⟨r,A',o⟩=>⟨by rw [r,h0],⟨_,A',zd.1⟩,o⟩
   ·rw [if_pos h0];rw [if_neg h0] at hd;refine hd.mono fun e w' ⟨r,A',o⟩=>⟨r,⟨_,A',zd.1⟩,o⟩
end Go.Proofs.YtmonobkginiajaaGreat.Sh
namespace Go.Proofs.YtmonobkginiajaaGreat.Sh
open Go.RowKit Pk Dk Pg
theorem At.alien2 {w:World} {x:X} {n:Nat} {c:C} (h:At w x n c) {g:Nat} {t:TypeId} {cs:Array Value} (B:ax w g t cs) (h1:t≠146) (h2:t≠218) (h3:t≠3) (h4:t≠149) (h5:t≠152) (h6:t≠4) (h7:t≠231):g∉x.fp:=by
 intro hg;simp only [X.fp,List.mem_cons,List.mem_append] at hg;have hs: ∀{v:Value} {k:Nat} {l:List Value},Sl w 3 v k l→g∉bA v:=fun S hg=>by
  obtain ⟨cs',B'⟩:=qg S _ hg;exact B.jF B' h3 rfl
 rcases hg with rfl | rfl | rfl | ((hg | hg) | hg) | hg
 ·exact B.jF h.hb h1 rfl
 ·exact B.jF h.hm.hb h2 rfl
 ·exact B.jF h.hm.hg h3 rfl
 ·simp only [Loc.fp,List.mem_cons,List.not_mem_nil,or_false] at hg
  rcases hg with rfl | rfl | rfl | rfl
  ·exact B.jF h.hd.hb h4 rfl
  ·exact B.jF h.hd.hN h5 rfl
  ·exact B.jF h.hd.hO h5 rfl
  ·exact B.jF h.hd.hL h6 rfl
 ·exact hs h.ht hg
 ·exact hs h.ho hg
 ·exact h.hp.aH B h3 h7 hg
theorem fJ.iR {w:World} {y:Y} {n:Nat} {s:PS} (h:fJ w y n s) {g:Nat} {t:TypeId} {cs:Array Value} (B:ax w g t cs) (ha:t≠143) (hb:t≠167) (h1:t≠146) (h2:t≠218) (h3:t≠3) (h4:t≠149) (h5:t≠152) (h6:t≠4) (h7:t≠231):g∉y.fp:=by
 intro hg;simp only [Y.fp,List.mem_cons] at hg
 rcases hg with rfl | rfl | hg
 ·exact B.jF h.hp ha rfl
 ·exact cv h.hf B (by exact hb) (by simp [ah])
 ·exact h.hs.alien2 B h1 h2 h3 h4 h5 h6 h7 hg
theorem KQ {w:World} {y:Y} {n K:Nat} {q:QS} (h:ZP w y n q K) (H:Hq q n K) (hK:K≤999999999999) (p:Int):
  Calls Tryz.prog 121 #[pp y.pb,.int .i64 p] w fun e w'=>e= .returned (.tuple #[.string (q.cO p).2.1,.int .i64 (q.cO p).2.2])∧ZP w' y n (q.cO p).1 (K+1)∧ag y.fp w w':=by
 unfold QS.cO
 by_cases h0:(q.aL p).2.2=0
 ·rw [if_neg (by simpa using h0)];exact GN h H.f hK H.full p h0
 ·rw [if_pos h0];exact Kk h H.f hK p h0
theorem KZ {w:World} {y:Y} {n K:Nat} {q:QS} (h:ZP w y n q K) (H:Hq q n K) (hK:K≤999999999999) (p:Int) (b:ByteArray):
  Calls Tryz.prog 176 #[pp y.pb,.int .i64 p,.string b] w fun e w'=>e= .returned (.int .i64 (q.cL p b).2)∧ZP w' y n (q.cL p b).1 (K+1)∧ag y.fp w w':=by
 unfold QS.cL
 by_cases hb:232<b.size
 ·rw [if_pos hb];exact (Km p b hb).mono fun e w' ⟨r,o⟩=>⟨r,(h.below o).more (by omega),.ak o⟩
 rw [if_neg hb]
 by_cases h0:(q.aL p).2.2=0
 ·rw [if_neg (by simpa using h0)];have hp:=GO h H.f hK H.full p b (by omega) h0;rw [Kt H p b (by omega) h0] at hp;exact hp
 ·rw [if_pos h0];exact Kl h H.f hK H.full p b (by omega) h0
structure Ix where
 pb:Nat
 sb:Nat
 L:Dk.Loc
def PQ (w:World) (I:Ix) (F:List Nat) (q:QS) (n K:Nat):Prop:= ∃y,y.pb=I.pb∧y.x.b=I.sb∧y.x.L=I.L∧y.fp=F∧ZP w y n q K∧Wp q n K
def PT (w w':World) (I:Ix) (F:List Nat) (q:QS) (n K:Nat):Prop:= ∃F',PQ w' I F' q n K∧ag F w w'∧ ∀g∈F',g∈F∨w.heap.size≤g
section
variable {w w':World} {I:Ix} {F S:List Nat} {q:QS} {n K:Nat}
theorem PQ.wp (h:PQ w I F q n K):Wp q n K:=by
 obtain ⟨y,_,_,_,_,_,W⟩:=h;exact W
theorem PQ.only (h:PQ w I F q n K) (o:ag S w w') (hd: ∀g∈F,g∉S):PQ w' I F q n K:=by
 obtain ⟨y,e1,e2,e3,rfl,⟨c,A,z⟩,W⟩:=h;exact ⟨y,e1,e2,e3,rfl,⟨c,A.only o hd,z⟩,W⟩
theorem PQ.below (h:PQ w I F q n K) (hb:Below w.heap.size w w'):PQ w' I F q n K:=h.only (S:=[]) (.ak hb) (by simp)
theorem PQ.drew (h:PQ w I F q n K):PQ w.drew I F q n K:=h.below (Below.refl _ _).drew
theorem PQ.lt (h:PQ w I F q n K): ∀g∈F,g<w.heap.size:=by
 obtain ⟨y,_,_,_,rfl,⟨c,A,z⟩,_⟩:=h;exact A.lt
theorem PQ.le (h:PQ w I F q n K) {K':Nat} (hk:K≤K'):PQ w I F q n K':=by
 obtain ⟨y,e1,e2,e3,e4,⟨c,A,z⟩,W⟩:=h;exact ⟨y,e1,e2,e3,e4,⟨c,A,z.more hk⟩,W.more hk⟩
theorem PQ.aH {b:Nat} (h:PQ w I F q n K) (o:ag [b] w w') (hb:b∉F):PQ w' I F q n K:=h.only o (fun g hg hm=>hb (by rw [←List.mem_singleton.1 hm]; exact hg))
theorem PQ.iR (h:PQ w I F q n K) {g:Nat} {t:TypeId} {cs:Array Value} (B:ax w g t cs) (ha:t≠143) (hb:t≠167) (h1:t≠146) (h2:t≠218) (h3:t≠3) (h4:t≠149) (h5:t≠152) (h6:t≠4) (h7:t≠231):g∉F:=by
 obtain ⟨y,_,_,_,rfl,⟨c,A,z⟩,_⟩:=h;exact A.iR B ha hb h1 h2 h3 h4 h5 h6 h7
theorem PT.self (h:PQ w' I F q n K) (o:ag F w w'):PT w w' I F q n K:=⟨F,h,o,fun _ hg=> .inl hg⟩
theorem PT.le (h:PT w w' I F q n K) {K':Nat} (hk:K≤K'):PT w w' I F q n K':=by
 obtain ⟨F',a,b⟩:=h;exact ⟨F',a.le hk,b⟩
theorem ZTo.pt {y:Y} {q':QS} {K':Nat} (h:ZTo w w' y n q' K') (W:Wp q' n K'):PT w w' ⟨y.pb,y.x.b,y.x.L⟩ y.fp q' n K':=by
 obtain ⟨y',e1,e2,e3,z,o,f⟩:=h;exact ⟨y'.fp,⟨y',e1,e2,e3,rfl,z,W⟩,o,f⟩
theorem pA (h:PQ w I F q n K) (hK:K≤999999999999) (p:Int):
  Calls Tryz.prog 121 #[pp I.pb,.int .i64 p] w fun e w'=>e= .returned (.tuple #[.string (q.cO p).2.1,.int .i64 (q.cO p).2.2])∧PQ w' I F (q.cO p).1 n (K+1)∧ag F w w':=by
 obtain ⟨y,e1,e2,e3,rfl,z,W⟩:=h;have hw:=(W.get p).1.w;rw [←e1];exact (KQ z W.H hK p).mono fun e w' ⟨r,z',o⟩=>⟨r,⟨y,e1,e2,e3,rfl,z',hw⟩,o⟩
theorem La (h:PQ w I F q n K) (hK:K≤999999999999) (p:Int) (b:ByteArray) (hb:b.size≤232):
  Calls Tryz.prog 176 #[pp I.pb,.int .i64 p,.string b] w fun e w'=>e= .returned (.int .i64 (q.cL p b).2)∧PQ w' I F (q.cL p b).1 n (K+1)∧ag F w w':=by
 obtain ⟨y,e1,e2,e3,rfl,z,W⟩:=h;have hw:=(W.put p b hb).1.w;rw [←e1];exact (KZ z W.H hK p b).mono fun e w' ⟨r,z',o⟩=>⟨r,⟨y,e1,e2,e3,rfl,z',hw⟩,o⟩
theorem uc (h:PQ w I F q n K) (hK:K≤1000000000000) (v:ByteArray) (hv:v.size≤232):
  Calls Tryz.prog 69 #[pp I.pb,.string v] w fun e w'=>e= .returned (.tuple #[.int .i64 (q.bm v.data.toList).2.1,.int .i64 (q.bm v.data.toList).2.2])∧PT w w' I F (q.bm v.data.toList).1 n (K+1):=by
 obtain ⟨y,e1,e2,e3,rfl,z,W⟩:=h;have hw:=(W.new v hv).1.w;obtain ⟨_,_,_⟩:=I;subst e1 e2 e3;exact (GV z hK v (by omega)).mono fun e w' ⟨r,t⟩=>⟨r,t.pt hw⟩
theorem mO (h:PQ w I F q n K) (p:Int):
  Calls Tryz.prog 132 #[pp I.pb,.int .i64 p] w fun e w'=>e= .returned (.int .i64 (q.aE p).2)∧PQ w' I F (q.aE p).1 n K∧ag F w w':=by
 obtain ⟨y,e1,e2,e3,rfl,z,W⟩:=h;have hw:=(W.drop p).1.w;rw [←e1];exact (Dz z W.H.f p).mono fun e w' ⟨r,z',o⟩=>⟨r,⟨y,e1,e2,e3,rfl,z',hw⟩,o⟩
theorem An (h:PQ w I F q n K) (hK:K≤999999999000):
  Calls Tryz.prog 50 #[pp I.pb] w fun e w'=>e= .returned (.int .i64 q.aA.2)∧PT w w' I F q.aA.1 n (K+40):=by
 obtain ⟨y,e1,e2,e3,rfl,z,W⟩:=h;have hw:=(W.jN hK).1;obtain ⟨_,_,_⟩:=I;subst e1 e2 e3;exact (yJ z W.H.f hK).mono fun e w' ⟨r,t⟩=>⟨r,t.pt hw⟩
theorem DB (h:PQ w I F q n K):Calls Tryz.prog 28 #[pp I.pb] w fun e w'=>e= .returned (sp I.sb)∧w=w':=by
 obtain ⟨y,e1,e2,e3,rfl,⟨c,A,z⟩,W⟩:=h;rw [←e1,←e2];exact CI A
theorem DE (h:PQ w I F q n K):
  Calls Tryz.prog 29 #[sp I.sb] w fun e w'=> ∃A cc,e= .returned (.slice A q.a.jL.length cc)∧aG w' 3 1 (.slice A q.a.jL.length cc) q.a.jL.length (cw q.a.jL)∧Below w.heap.size w w':=by
 obtain ⟨y,e1,e2,e3,rfl,⟨c,A,z⟩,W⟩:=h;rw [←e2];obtain ⟨k,e⟩:=z.e;have hp:rY c.table c.table.length=q.a.jL:=by
  rw [EU (n:=n) _ (Nat.le_refl _),e];have:=pad_pgs (c.bn n).now k;unfold St.jL St.pad C.bn at *;simp only [List.length_append,List.length_replicate,List.length_map] at *;exact this.symm
 have:=CC A.hs;rw [show (q.ps c).c=c from rfl,hp] at this;exact this
end
end Go.Proofs.YtmonobkginiajaaGreat.Sh
namespace Go.Proofs.YtmonobkginiajaaGreat.Sh
open Go.RowKit Pk Dk Pg
attribute [local go_sem ↓] Go.wp_at_zero Go.wp_at_succ
def fq (n:Int):Int:=max ((max n 0+227) / 228) 1
def lZ (n:Nat):List UInt8:=[UInt8.ofNat (n / 256),UInt8.ofNat n]
def cV (v:List UInt8) (i:Nat):List UInt8:=(v.drop (228*i)).take 228
theorem wS (n:Int) (h:n≤1000000) (w:World):
  Calls Tryz.prog 172 #[.int .i64 n] w fun e w'=>e= .returned (.int .i64 (fq n))∧w=w':=by
 unfold fq;obtain ⟨m,hm⟩:=Int.eq_ofNat_of_zero_le (show 0≤max n 0 by omega);rw [hm];have IC:m≤1000000:=by omega
 have e1:IntKind.i64.wrap ((m:Int)+228)=(m:Int)+228:=IntWalk.i64_in _ (by omega);have e2:IntKind.i64.wrap ((m:Int)+228-1)=(m:Int)+227:=by rw [show (m:Int)+228-1=(m:Int)+227 by omega]; exact IntWalk.i64_in _ (by omega)
 have e3:IntKind.i64.wrap (((m:Int)+227).tdiv 228)=((m:Int)+227) / 228:=by rw [Int.tdiv_eq_ediv_of_nonneg (by omega)]; exact IntWalk.i64_in _ (by omega)
 have e4:IntKind.i64.wrap ((m:Int)+227)=(m:Int)+227:=IntWalk.i64_in _ (by omega);go_enter Tryz.func172,Tryz.ntmps172;go_wp2_with fail
 all_goals
  go_ret;refine ⟨?_,rfl⟩
  first | (simp; done) | (simp; omega)
theorem dG (n:Nat) (h:n≤60000) (w:World):
  Calls Tryz.prog 173 #[.int .i64 (n:Nat)] w fun e w'=>e= .returned (.string ⟨(lZ n).toArray⟩)∧Below w.heap.size w w':=by
 have O0:=xh (ae (Below.refl w.heap.size w) (.cells #[.int .u8 ((n:Int) / 256),.int .u8 ((n:Int) % 256)] 5));have B0:=ax.new w 5 #[.int .u8 ((n:Int) / 256),.int .u8 ((n:Int) % 256)];have e1:IntKind.u8.wrap ((n:Int) / 256)=(n:Int) / 256:=IntWalk.u8_in _ (by omega);have hb:cI (lZ n)=[.int .u8 ((n:Int) / 256),.int .u8 ((n:Int) % 256)]:=by
  unfold lZ cI bv;simp only [List.map_cons,List.map_nil,UInt8.toNat_ofNat'];rw [show ((n / 256 % 2 ^ 8:Nat):Int)=(n:Int) / 256 by omega,show ((n % 2 ^ 8:Nat):Int)=(n:Int) % 256 by omega]
 have HR:=xh (bs (P:=Tryz.prog) _ 150 9 5 Tryz.underlying150 Tryz.underlying5 Tryz.underlying9 ⟨w.heap.size,0,none⟩ 2 2 (lZ n) rfl (aV (l:=cI (lZ n)) (by rw [hb]; exact B0) 0 _ (by simp)));clear B0 hb;go_enter Tryz.func173,Tryz.ntmps173;go_wp2_with fail;rw [HR.out];go_wp2_with fail;go_ret;exact ⟨by first | rfl | simp,O0.out⟩
theorem GW {w:World} {q:Nat} (v:ByteArray) (hv:v.size≤1024) (hq:w.cell? ⟨q,0,none⟩=some (.string v)) (i:Nat) (hi:228*i≤v.size):
  Calls Tryz.prog 171 #[.int .i64 (i:Nat),.pointer (some ⟨q,0,none⟩)] w fun e w'=>e= .returned (.string ⟨(cV v.data.toList i).toArray⟩)∧w=w':=by
 have e1:IntKind.i64.wrap ((i:Int)*228)=((228*i:Nat):Int):=by rw [show (i:Int)*228=((228*i:Nat):Int) by omega]; exact IntWalk.i64_in _ (by omega)
 have e2:IntKind.i64.wrap ((i:Int)+1)=(i:Int)+1:=IntWalk.i64_in _ (by omega);have e3:IntKind.i64.wrap (((i:Int)+1)*228)=((228*i+228:Nat):Int):=by rw [show ((i:Int)+1)*228=((228*i+228:Nat):Int) by omega]; exact IntWalk.i64_in _ (by omega)
 have HP:=xh (show ∀b:Nat,(228*i+228≤v.size→b=228*i+228)→(v.size<228*i+228→b=v.size)→v.extract (228*i) b=⟨(cV v.data.toList i).toArray⟩ from fun b h1 h2=>by
  apply ByteArray.ext;apply Array.toList_inj.1;show (v.extract (228*i) b).data.toList=cV v.data.toList i;rw [exl'];unfold cV
  rcases Nat.lt_or_ge v.size (228*i+228) with h | h
  ·rw [h2 h,List.take_of_length_le (by simp),List.take_of_length_le (by simp; omega)]
  ·rw [h1 h,show 228*i+228-228*i=228 by omega])
 go_enter Tryz.func171,Tryz.ntmps171;go_wp2_with fail
 all_goals
  go_ret;exact ⟨by rw [HP.out _ (by omega) (by omega)]; rfl,rfl⟩
def bh (l:List UInt8) (k:Nat):Nat:=(l.getD k 0).toNat*256+(l.getD (k+1) 0).toNat
theorem or8 (a b:Nat) (ha:a<256) (hb:b<256):bits .or .i64 ((a:Int)*256) (b:Int)=((a*256+b:Nat):Int):=by
 rw [bits_join .i64 32 (by decide) (fun n h0 h1=>IntWalk.i64_in n (by omega)) 8 _ _ (by omega) (by omega) (by omega) (by omega) (by omega) (by omega)];omega
theorem cK (s:ByteArray) (k:Nat) (h:k<s.size):s.data.toList.getD k 0=s[k]:=by
 have h2:k<s.data.toList.length:=by simpa using h
 simp only [List.getD,List.getElem?_eq_getElem h2,Option.getD_some,Array.getElem_toList];rfl
theorem jt {b:Nat} {F:List Nat} {w w':World} (o:ag (b::F) w w') (hb:w.heap.size≤b):ag F w w':=o.mono (fun x hx dL=>(List.mem_cons.1 hx).elim (fun e=>by omega) id)
theorem ju {b:Nat} {F:List Nat} {w w':World} (o:ag F w w'):ag (b::F) w w':=o.mono (fun _ hx _=>List.mem_cons_of_mem _ hx)
theorem jw {b:Nat} {F:List Nat} {w w':World} (o:ag [b] w w'):ag (b::F) w w':=o.mono (fun _ hx _=>by rw [List.mem_singleton.1 hx]; exact List.mem_cons_self ..)
def QS.dM (q:QS) (l:Int):QS×Int×List UInt8×Int:=
 if (q.cO l).2.2≠0 then ((q.cO l).1,0,[],(q.cO l).2.2) else if 228<bh (q.cO l).2.1.data.toList 2 then ((q.cO l).1,0,[],14) else ((q.cO l).1,(bh (q.cO l).2.1.data.toList 0:Int)-1,((q.cO l).2.1.data.toList.drop 4).take (bh (q.cO l).2.1.data.toList 2),0)
theorem ud {q:QS} {n K:Nat} (h:Wp q n K) {p:Int} (h0:(q.cO p).2.2=0):(q.cO p).2.1.size=232:=by
 rcases (h.get p).2 with ⟨h1,h2⟩ | ⟨h1,h2⟩ | ⟨h1,h2⟩
 ·rw [h2];show (q.vw p).1.toArray.size=232;simpa using h.len h1
 ·rw [h2] at h0; exact absurd h0 (by decide)
 ·rw [h2] at h0; exact absurd h0 (by decide)
def ue (n:Int) (s:ByteArray):Value:= .agg #[.int .i64 n,.string s]
theorem uf {fn:Func} {p u:Tmp} {w:World} {g:Nat} {c:Int} {a:ByteArray} {tmps:Array Value} (h:fn.results= #[.cell p 262,.tmp u]) (hp:tmps.getD p undef= .pointer (some ⟨g,0,none⟩)) (B:ax w g 262 #[.int .i64 c,.string a]):
  (results fn tmps).run Tryz.prog w= .ok (.tuple #[ue c a,tmps.getD u undef]) w:=by
 have c0:=B.ab (i:=0) rfl;have c1:=B.ab (i:=1) rfl;rw [results_cell_tmp h,hp];clear h hp B;unfold ue;go_simp
theorem DF {w:World} {g:Nat} {c c':Int} {a a':ByteArray} (B:ax w g 262 #[.int .i64 c,.string a]):
  ax ((w.setCell ⟨g,0,none⟩ (.int .i64 c')).setCell ⟨g,1,none⟩ (.string a')) g 262 #[.int .i64 c',.string a']∧ag [g] w ((w.setCell ⟨g,0,none⟩ (.int .i64 c')).setCell ⟨g,1,none⟩ (.string a'))∧
   w.cell? ⟨g,0,none⟩=some (.int .i64 c)∧w.cell? ⟨g,1,none⟩=some (.string a)∧w.frozen? ⟨g,0,none⟩=false∧w.frozen? ⟨g,1,none⟩=false:=
 ⟨(B.bq 0 _).bq 1 _,((ag.refl _ _).setCell (by simp) _).setCell (by simp) _,B.ab rfl,B.ab rfl,B.frozen 0 (by simp),B.frozen 1 (by simp)⟩
theorem GX {w:World} {I:Ix} {F:List Nat} {q:QS} {n K:Nat} (h:PQ w I F q n K) (hK:K≤999999999999) (p:Int) (he:(q.cO p).2.2≠0):
  Calls Tryz.prog 204 #[pp I.pb,.int .i64 p] w fun e w'=>e= .returned (.tuple #[ue 0 ⟨#[]⟩,.int .i64 (q.cO p).2.2])∧PQ w' I F (q.cO p).1 n (K+1)∧ag F w w':=by
 have O0:=xh (ae (Below.refl w.heap.size w) (.cells #[.int .i64 0,.string ⟨#[]⟩] 262));have B0:=xh (ax.new w 262 #[.int .i64 0,.string ⟨#[]⟩]);have NQ:=xh (show w.heap.size∉F from fun hm=>by have:=h.lt _ hm; omega);have KG:=xh (pA (h.below O0.out) hK p);have hq:((q.cO p).2.2 != 0)=true:=by rw [bne_iff_ne]; exact he
 have jm:((q.cO p).2.2==0)=false:=by rw [beq_eq_false_iff_ne]; exact he
 generalize q.cO p=R at *;obtain ⟨q1,R1,R2⟩:=R;dsimp only at *;clear h he;unfold pp at *;go_enter Tryz.func204,Tryz.ntmps204;go_wp2_with fail;refine KG.out.mono ?_;rintro e w1 ⟨rfl,A1,o1⟩;have A1:=xh A1;have o1:=xh o1;obtain ⟨B2,o2,c0,c1,z0,z1⟩:=DF (c':=0) (a':=⟨#[]⟩) (B0.out.only o1.out NQ.out);have B2:=xh B2;have o2:=xh o2;go_wp2_with fail
 exact bodyPost_ret (uf rfl rfl B2.out) rfl ⟨rfl,(A1.out).aH o2.out NQ.out,jt (((ag.ak (S:=w.heap.size::F) O0.out).trans (ju o1.out)).trans (jw o2.out)) (Nat.le_refl _)⟩
theorem DG {w:World} {I:Ix} {F:List Nat} {q:QS} {n K:Nat} (h:PQ w I F q n K) (hK:K≤999999999999) (p:Int) (he:(q.cO p).2.2=0) (H2:228<bh (q.cO p).2.1.data.toList 2):
  Calls Tryz.prog 204 #[pp I.pb,.int .i64 p] w fun e w'=>e= .returned (.tuple #[ue 0 ⟨#[]⟩,.int .i64 14])∧PQ w' I F (q.cO p).1 n (K+1)∧ag F w w':=by
 have O0:=xh (ae (Below.refl w.heap.size w) (.cells #[.int .i64 0,.string ⟨#[]⟩] 262));have B0:=xh (ax.new w 262 #[.int .i64 0,.string ⟨#[]⟩]);have NQ:=xh (show w.heap.size∉F from fun hm=>by have:=h.lt _ hm; omega);have KG:=xh (pA (h.below O0.out) hK p);have lK:=ud h.wp he;rw [he] at KG;generalize q.cO p=R at *;obtain ⟨q1,s,R2⟩:=R;dsimp only at *;have b0:=s[0].toNat_lt;have b1:=s[1].toNat_lt;have b2:=s[2].toNat_lt;have b3:=s[3].toNat_lt
 have V0:=xh (show bits .or .i64 ((s[0].toNat:Int)*256) (s[1].toNat:Int)=((bh s.data.toList 0:Nat):Int) from by
  rw [or8 _ _ (by omega) (by omega)]; unfold bh; rw [cK _ _ (by omega),cK _ _ (by omega)])
 have V2:=xh (show bits .or .i64 ((s[2].toNat:Int)*256) (s[3].toNat:Int)=((bh s.data.toList 2:Nat):Int) from by
  rw [or8 _ _ (by omega) (by omega)]; unfold bh; rw [cK _ _ (by omega),cK _ _ (by omega)])
 have m0:bh s.data.toList 0≤65535:=by unfold bh; rw [cK _ _ (by omega),cK _ _ (by omega)]; simp only [Nat.zero_add]; omega
 have u0:IntKind.i64.wrap (s[0].toNat:Int)=(s[0].toNat:Int):=IntWalk.i64_in _ (by omega);have u1:IntKind.i64.wrap (s[1].toNat:Int)=(s[1].toNat:Int):=IntWalk.i64_in _ (by omega);have u2:IntKind.i64.wrap (s[2].toNat:Int)=(s[2].toNat:Int):=IntWalk.i64_in _ (by omega);have u3:IntKind.i64.wrap (s[3].toNat:Int)=(s[3].toNat:Int):=IntWalk.i64_in _ (by omega);have u4:IntKind.i64.wrap ((s[0].toNat:Int)*256)=(s[0].toNat:Int)*256:=IntWalk.i64_in _ (by omega)
 have u5:IntKind.i64.wrap ((s[2].toNat:Int)*256)=(s[2].toNat:Int)*256:=IntWalk.i64_in _ (by omega);generalize bh s.data.toList 2=m2 at *;generalize bh s.data.toList 0=m1 at *;clear h he;unfold pp at *;go_enter Tryz.func204,Tryz.ntmps204;go_wp2_with fail;refine KG.out.mono ?_;rintro e w1 ⟨rfl,A1,o1⟩;have A1:=xh A1;have o1:=xh o1;go_wp2_with fail;go_quiet (fail);rw [V0.out,V2.out];obtain ⟨B2,o2,c0,c1,z0,z1⟩:=DF (c':=0) (a':=⟨#[]⟩) ((B0.out.only o1.out NQ.out).drewN nq)
 have B2:=xh B2;have o2:=xh (((ag.refl [w.heap.size] w1).drewN nq).trans o2);go_wp2_with fail;exact bodyPost_ret (uf rfl rfl B2.out) rfl ⟨rfl,(A1.out).aH o2.out NQ.out,jt (((ag.ak (S:=w.heap.size::F) O0.out).trans (ju o1.out)).trans (jw o2.out)) (Nat.le_refl _)⟩
theorem Lb {w:World} {I:Ix} {F:List Nat} {q:QS} {n K:Nat} (h:PQ w I F q n K) (hK:K≤999999999999) (p:Int) (he:(q.cO p).2.2=0) (H2:bh (q.cO p).2.1.data.toList 2≤228):
  Calls Tryz.prog 204 #[pp I.pb,.int .i64 p] w fun e w'=>e= .returned (.tuple #[ue ((bh (q.cO p).2.1.data.toList 0:Int)-1) ⟨(((q.cO p).2.1.data.toList.drop 4).take (bh (q.cO p).2.1.data.toList 2)).toArray⟩,.int .i64 0])∧PQ w' I F (q.cO p).1 n (K+1)∧ag F w w':=by
 have O0:=xh (ae (Below.refl w.heap.size w) (.cells #[.int .i64 0,.string ⟨#[]⟩] 262));have B0:=xh (ax.new w 262 #[.int .i64 0,.string ⟨#[]⟩]);have NQ:=xh (show w.heap.size∉F from fun hm=>by have:=h.lt _ hm; omega);have KG:=xh (pA (h.below O0.out) hK p);have lK:=ud h.wp he;rw [he] at KG;generalize q.cO p=R at *;obtain ⟨q1,s,R2⟩:=R;dsimp only at *;have b0:=s[0].toNat_lt;have b1:=s[1].toNat_lt;have b2:=s[2].toNat_lt;have b3:=s[3].toNat_lt
 have V0:=xh (show bits .or .i64 ((s[0].toNat:Int)*256) (s[1].toNat:Int)=((bh s.data.toList 0:Nat):Int) from by
  rw [or8 _ _ (by omega) (by omega)]; unfold bh; rw [cK _ _ (by omega),cK _ _ (by omega)])
 have V2:=xh (show bits .or .i64 ((s[2].toNat:Int)*256) (s[3].toNat:Int)=((bh s.data.toList 2:Nat):Int) from by
  rw [or8 _ _ (by omega) (by omega)]; unfold bh; rw [cK _ _ (by omega),cK _ _ (by omega)])
 have m0:bh s.data.toList 0≤65535:=by unfold bh; rw [cK _ _ (by omega),cK _ _ (by omega)]; simp only [Nat.zero_add]; omega
 have u0:IntKind.i64.wrap (s[0].toNat:Int)=(s[0].toNat:Int):=IntWalk.i64_in _ (by omega);have u1:IntKind.i64.wrap (s[1].toNat:Int)=(s[1].toNat:Int):=IntWalk.i64_in _ (by omega);have u2:IntKind.i64.wrap (s[2].toNat:Int)=(s[2].toNat:Int):=IntWalk.i64_in _ (by omega);have u3:IntKind.i64.wrap (s[3].toNat:Int)=(s[3].toNat:Int):=IntWalk.i64_in _ (by omega);have u4:IntKind.i64.wrap ((s[0].toNat:Int)*256)=(s[0].toNat:Int)*256:=IntWalk.i64_in _ (by omega)
 have u5:IntKind.i64.wrap ((s[2].toNat:Int)*256)=(s[2].toNat:Int)*256:=IntWalk.i64_in _ (by omega);have HX:=xh (show s.extract 4 (4+bh s.data.toList 2)=⟨((s.data.toList.drop 4).take (bh s.data.toList 2)).toArray⟩ from by
  apply ByteArray.ext;apply Array.toList_inj.1;show (s.extract 4 (4+bh s.data.toList 2)).data.toList=(s.data.toList.drop 4).take (bh s.data.toList 2);rw [exl',show 4+bh s.data.toList 2-4=bh s.data.toList 2 by omega])
 generalize (⟨((s.data.toList.drop 4).take (bh s.data.toList 2)).toArray⟩:ByteArray)=P at *;generalize bh s.data.toList 2=m2 at *;generalize bh s.data.toList 0=m1 at *;have u6:IntKind.i64.wrap ((m1:Int)-1)=(m1:Int)-1:=IntWalk.i64_in _ (by omega);have u7:IntKind.i64.wrap (4+(m2:Int))=4+(m2:Int):=IntWalk.i64_in _ (by omega);have u8:(4+(m2:Int)).toNat=4+m2:=by omega
 clear h he;unfold pp at *;go_enter Tryz.func204,Tryz.ntmps204;go_wp2_with fail;refine KG.out.mono ?_;rintro e w1 ⟨rfl,A1,o1⟩;have A1:=xh A1;have o1:=xh o1;go_wp2_with fail;go_quiet (fail);rw [V0.out,V2.out];obtain ⟨B2,o2,c0,c1,z0,z1⟩:=DF (c':=(m1:Int)-1) (a':=s.extract 4 (4+m2)) ((B0.out.only o1.out NQ.out).drewN nq);have B2:=xh B2;have o2:=xh (((ag.refl [w.heap.size] w1).drewN nq).trans o2);go_wp2_with fail
 exact bodyPost_ret (uf rfl rfl B2.out) rfl ⟨by rw [HX.out]; rfl,(A1.out).aH o2.out NQ.out,jt (((ag.ak (S:=w.heap.size::F) O0.out).trans (ju o1.out)).trans (jw o2.out)) (Nat.le_refl _)⟩
theorem GY {w:World} {I:Ix} {F:List Nat} {q:QS} {n K:Nat} (h:PQ w I F q n K) (hK:K≤999999999999) (p:Int):
  Calls Tryz.prog 204 #[pp I.pb,.int .i64 p] w fun e w'=>e= .returned (.tuple #[ue (q.dM p).2.1 ⟨(q.dM p).2.2.1.toArray⟩,.int .i64 (q.dM p).2.2.2])∧PQ w' I F (q.dM p).1 n (K+1)∧ag F w w':=by
 unfold QS.dM
 by_cases h0:(q.cO p).2.2=0
 ·rw [if_neg (by simpa using h0)]
  by_cases h1:228<bh (q.cO p).2.1.data.toList 2
  ·rw [if_pos h1];exact DG h hK p h0 h1
  ·rw [if_neg h1];exact Lb h hK p h0 (by omega)
 ·rw [if_pos h0];exact GX h hK p h0
end Go.Proofs.YtmonobkginiajaaGreat.Sh
namespace Go.Proofs.YtmonobkginiajaaGreat.Sh
open Go.RowKit Pk Dk Pg
attribute [local go_sem ↓] Go.wp_at_zero Go.wp_at_succ aX p9
def QS.lC:Nat→QS→Int→List Int→List UInt8→QS×List Int×List UInt8×Int
 | 0,q,_,_,_=>(q,[],[],14)
 | m+1,q,at_,l,b=>
  if (q.dM at_).2.2.2=3∧0<l.length then ((q.dM at_).1,[],[],14)
  else if (q.dM at_).2.2.2≠0 then ((q.dM at_).1,[],[],(q.dM at_).2.2.2)
  else if 1024<(b++(q.dM at_).2.2.1).length then ((q.dM at_).1,[],[],14)
  else if (q.dM at_).2.1<0 then ((q.dM at_).1,l++[at_],b++(q.dM at_).2.2.1,0)
  else QS.lC m (q.dM at_).1 (q.dM at_).2.1 (l++[at_]) (b++(q.dM at_).2.2.1)
def QS.dC (q:QS) (first:Int):QS×List Int×List UInt8×Int:=q.lC 5 first [] []
theorem Lc (q:QS) (l:Int):(q.dM l).2.1≤65534∧ -1≤(q.dM l).2.1∧(q.dM l).2.2.1.length≤228:=by
 unfold QS.dM
 split
 ·exact ⟨by show (0:Int)≤_; omega,by show (-1:Int)≤0; omega,by show 0≤228; omega⟩
 ·split
  ·exact ⟨by show (0:Int)≤_; omega,by show (-1:Int)≤0; omega,by show 0≤228; omega⟩
  ·refine ⟨?_,?_,?_⟩
   ·show (bh _ 0:Int)-1≤_;unfold bh;have:=(List.getD (q.cO l).2.1.data.toList 0 0).toNat_lt;have:=(List.getD (q.cO l).2.1.data.toList (0+1) 0).toNat_lt;omega
   ·show -1≤(bh _ 0:Int)-1;omega
   ·rw [List.length_take]; omega
theorem sA {w:World} {e:TypeId} {z n:Nat} {v:Value} {l:List Value} (h:aG w e z v n l): ∀g∈ah v,∃cs,ax w g e cs:=by
 rcases h.2 with ⟨rfl,_⟩ | ⟨g,cap,rest,rfl,B,_⟩
 ·simp [ah]
 ·intro x hx;simp only [ah,List.mem_singleton] at hx;exact ⟨_,by rw [hx]; exact B⟩
theorem fo {w:World} {e t:TypeId} {z y n m:Nat} {v u:Value} {l k:List Value} (h:aG w e z v n l) (h':aG w t y u m k) (eg:e≠t): ∀g∈ah v,g∉ah u:=fun g hg hu=>by
 obtain ⟨cs,B⟩:=sA h g hg;exact cv h' B eg hu
theorem wU {w:World} {I:Ix} {F:List Nat} {q:QS} {n K:Nat} (h:PQ w I F q n K) (hK:K≤999999999900) (p:Int):
  Calls Tryz.prog 160 #[pp I.pb,.int .i64 p] w fun e w'=> ∃A m c,e= .returned (.tuple #[.slice A m c,.string ⟨(q.dC p).2.2.1.toArray⟩,.int .i64 (q.dC p).2.2.2])∧aG w' 3 1 (.slice A m c) (q.dC p).2.1.length (cw (q.dC p).2.1)∧PQ w' I F (q.dC p).1 n (K+5)∧ag F w w'∧ ∀g∈ah (.slice A m c),w.heap.size≤g:=by
 have KN:=xh (wS 1024 (by omega));rw [show fq 1024=5 from rfl] at KN;have KR:=xh (fun (W:World) (qj:QS) (kj:Nat) (hW:PQ W I F qj n kj) (hk:kj≤999999999999) (y:Int)=>GY hW hk y);have nB:=xh h.lt;obtain ⟨R,hR⟩: ∃R,q.dC p=R:=⟨_,rfl⟩;rw [hR];have HQ:=xh h;unfold QS.dC at hR;have HR:=xh hR;clear h hR;unfold ue at KR;unfold pp at *;go_enter Tryz.func160,Tryz.ntmps160;go_wp2_with fail;refine (KN.out _).mono ?_;rintro e w1 ⟨rfl,rfl⟩;go_wp2_with fail
 go_loopw [7,8,9,16] (fun lv bv av iv wr=> ∃(i:Nat) (l:List Int) (b:List UInt8) (at_:Int) (qi:QS),i≤5∧l.length=i∧iv= .int .i64 i∧av= .int .i64 at_∧b.length≤1024∧aG wr 3 1 lv i (cw l)∧aG wr 5 1 bv b.length (cI b)∧Hid (qi.lC (5-i) at_ l b=R)∧Hid (PQ wr I F qi n (K+i)∧ag F w wr∧(∀g∈ah lv,w.heap.size≤g)∧(∀g∈ah bv,w.heap.size≤g))) (fun _ _ _ iv _=>5-(intOf iv).toNat)
 case atStart=>exact ⟨0,[],[],p,q,by omega,rfl,rfl,rfl,by simp,aG.nil _ _ _,aG.nil _ _ _,HR,xh ⟨HQ.out,ag.refl _ _,by simp [ah],by simp [ah]⟩⟩
 case round=>
  obtain ⟨i,l,b,at_,qi,hi,hl,rfl,rfl,hb,S1,S2,HW,HA⟩:=hrel;obtain ⟨VA,vc,rfl⟩:=aq S1;obtain ⟨VB,vb,rfl⟩:=aq S2
  by_cases h5:i<5
  ·have K1:=xh (KR.out wr qi (K+i) HA.out.1 (by omega) at_);obtain ⟨bd1,bd2,bd3⟩:=Lc qi at_;have HW:=HW.out;rw [show 5-i=(5-(i+1))+1 by omega] at HW;unfold QS.lC at HW;rw [hl] at HW;generalize qi.dM at_=r at *;obtain ⟨qn,nx,pc,er⟩:=r;dsimp only at *
   by_cases he:er=0
   ·subst he;rw [if_neg (by omega),if_neg (by simp)] at HW;have W2:=xh (show ∀w2,PQ w2 I F qn n (K+(i+1))→ag F wr w2→PQ (w2.alloc (.cells #[.int .i64 nx,.string ⟨pc.toArray⟩] 262)) I F qn n (K+(i+1))∧ag F w (w2.alloc (.cells #[.int .i64 nx,.string ⟨pc.toArray⟩] 262))∧
      aG (w2.alloc (.cells #[.int .i64 nx,.string ⟨pc.toArray⟩] 262)) 3 1 (.slice VA i vc) i (cw l)∧aG (w2.alloc (.cells #[.int .i64 nx,.string ⟨pc.toArray⟩] 262)) 5 1 (.slice VB b.length vb) b.length (cI b)∧ax (w2.alloc (.cells #[.int .i64 nx,.string ⟨pc.toArray⟩] 262)) w2.heap.size 262 #[.int .i64 nx,.string ⟨pc.toArray⟩]∧w2.heap.size∉ah (.slice VA i vc)∧w2.heap.size∉ah (.slice VB b.length vb) from fun w2 A2 o2=>by
     obtain ⟨a1,a2,a3,a4⟩:=HA.out;have U:=ae (Below.refl w2.heap.size w2) (.cells #[.int .i64 nx,.string ⟨pc.toArray⟩] 262);have s1:=S1.only o2 (fun g hg hF=>by have:=nB.out g hF; have:=a3 g hg; omega);have s2:=S2.only o2 (fun g hg hF=>by have:=nB.out g hF; have:=a4 g hg; omega);exact ⟨A2.below U,(a2.trans o2).trans (.ak U),s1.below U,s2.below U,ax.new _ _ _,fun hg=>by have:=s1.lt _ hg; omega,fun hg=>by have:=s2.lt _ hg; omega⟩)
    by_cases hL:1024<(b++pc).length
    ·rw [if_pos hL] at HW;subst HW;rw [List.length_append] at hL;go_wp2_with fail;refine K1.out.mono ?_;rintro e w2 ⟨rfl,A2,o2⟩;obtain ⟨A3,o3,s1,s2,LK,n1,n2⟩:=W2.out w2 A2 o2;obtain ⟨v',w4,ea,S4,ow,fr⟩:=cd (P:=Tryz.prog) s1 60 60 (.int .i64 0) 8 Tryz.underlying60 gh rfl (.int .i64 at_) rfl (by unfold maxLen; omega) (by omega);have s4:=s2.only ow (fo s2 s1 (by decide));have L4:=LK.only ow n1
     have A4:=A3.only ow (fun g hF hg=>by have:=nB.out g hF; have:=HA.out.2.2.1 g hg; omega);obtain ⟨u',w5,eb,S5,ov,fv⟩:=fK (P:=Tryz.prog) s4 150 9 150 Tryz.underlying150 Tryz.underlying9 gx.dg ⟨pc.toArray⟩ (by show _+pc.toArray.size≤_; simp; omega);have S6:=S4.only ov (fun g hg=>fo S4 s4 (by decide) g hg);have L6:=L4.only ov n2;have A6:=xh (A4.only ov (fun g hF hg=>by have:=nB.out g hF; have:=HA.out.2.2.2 g hg; omega));have k1:=L4.ab (i:=1) rfl
     have k0:=L6.ab (i:=0) rfl;have O6:=xh (show ag F w w5 from ((o3.aS ow (fun g hg dL=>by have:=HA.out.2.2.1 g hg; omega)).aS ov (fun g hg dL=>by have:=HA.out.2.2.2 g hg; omega)));have F4:=xh (show ∀g∈ah v',w.heap.size≤g from fun g hg=>(fr g hg).elim (HA.out.2.2.1 g) (fun h=>by have:=o3.size; omega));have F5:=xh (show ∀g∈ah u',w.heap.size≤g from fun g hg=>(fv g hg).elim (HA.out.2.2.2 g) (fun h=>by have:=o3.size; have:=ow.size; omega))
     obtain ⟨V4,c4,rfl⟩:=aq S4;rw [show (⟨pc.toArray⟩:ByteArray).size=pc.length from by show pc.toArray.size=_; simp,show (⟨pc.toArray⟩:ByteArray).data.toList=pc from rfl,←bU] at S5;obtain ⟨V5,c5,rfl⟩:=aq S5;have SV:=xh (show aG w5 5 1 (.slice V5 (b.length+pc.length) c5) (b++pc).length (cI (b++pc)) from by rw [List.length_append]; exact S5);have CV:=xh (r9 (P:=Tryz.prog) S5.drew 150 9 Tryz.underlying150 Tryz.underlying5 Tryz.underlying9)
     rw [World.size_alloc] at ea;have EA:=xh ea;have EB:=xh eb;clear ea eb ow ov fr fv S4 s4 L4 A4 L6 LK A3 A2 o2 o3 s1 s2 n1 n2;go_wp2_with fail;rw [EA.out];go_wp2_with fail;rw [EB.out];go_wp2_with fail
     go_ret3
     exact ⟨none,0,0,by first | rfl | simp,aG.nil _ _ _,A6.out.le (by omega),O6.out,by simp [ah]⟩
    ·rw [if_neg hL] at HW;have hL2:b.length+pc.length≤1024:=by rw [List.length_append] at hL; omega
     by_cases hn:nx<0
     ·rw [if_pos hn] at HW;subst HW;go_wp2_with fail;refine K1.out.mono ?_;rintro e w2 ⟨rfl,A2,o2⟩;obtain ⟨A3,o3,s1,s2,LK,n1,n2⟩:=W2.out w2 A2 o2;obtain ⟨v',w4,ea,S4,ow,fr⟩:=cd (P:=Tryz.prog) s1 60 60 (.int .i64 0) 8 Tryz.underlying60 gh rfl (.int .i64 at_) rfl (by unfold maxLen; omega) (by omega);have s4:=s2.only ow (fo s2 s1 (by decide));have L4:=LK.only ow n1;have A4:=A3.only ow (fun g hF hg=>by have:=nB.out g hF; have:=HA.out.2.2.1 g hg; omega)
      obtain ⟨u',w5,eb,S5,ov,fv⟩:=fK (P:=Tryz.prog) s4 150 9 150 Tryz.underlying150 Tryz.underlying9 gx.dg ⟨pc.toArray⟩ (by show _+pc.toArray.size≤_; simp; omega);have S6:=S4.only ov (fun g hg=>fo S4 s4 (by decide) g hg);have L6:=L4.only ov n2;have A6:=xh (A4.only ov (fun g hF hg=>by have:=nB.out g hF; have:=HA.out.2.2.2 g hg; omega));have k1:=L4.ab (i:=1) rfl;have k0:=L6.ab (i:=0) rfl
      have O6:=xh (show ag F w w5 from ((o3.aS ow (fun g hg dL=>by have:=HA.out.2.2.1 g hg; omega)).aS ov (fun g hg dL=>by have:=HA.out.2.2.2 g hg; omega)));have F4:=xh (show ∀g∈ah v',w.heap.size≤g from fun g hg=>(fr g hg).elim (HA.out.2.2.1 g) (fun h=>by have:=o3.size; omega));have F5:=xh (show ∀g∈ah u',w.heap.size≤g from fun g hg=>(fv g hg).elim (HA.out.2.2.2 g) (fun h=>by have:=o3.size; have:=ow.size; omega));obtain ⟨V4,c4,rfl⟩:=aq S4
      rw [show (⟨pc.toArray⟩:ByteArray).size=pc.length from by show pc.toArray.size=_; simp,show (⟨pc.toArray⟩:ByteArray).data.toList=pc from rfl,←bU] at S5;obtain ⟨V5,c5,rfl⟩:=aq S5;have SV:=xh (show aG w5 5 1 (.slice V5 (b.length+pc.length) c5) (b++pc).length (cI (b++pc)) from by rw [List.length_append]; exact S5);have CV:=xh (r9 (P:=Tryz.prog) S5.drew 150 9 Tryz.underlying150 Tryz.underlying5 Tryz.underlying9);rw [World.size_alloc] at ea;have EA:=xh ea
      have EB:=xh eb;clear ea eb ow ov fr fv S4 s4 L4 A4 L6 LK A3 A2 o2 o3 s1 s2 n1 n2;go_wp2_with fail;rw [EA.out];go_wp2_with fail;rw [EB.out];go_wp2_with fail;have CV:=CV.out
      go_region
      go_wp2_with fail
      go_ret3
      exact ⟨V4,i+1,c4,by first | rfl | simp,by rw [eB]; first | exact S6.drew | (rw [List.length_append,hl]; exact S6.drew),(A6.out.below ((Below.refl _ _).drew)).le (by omega),O6.out.drew,F4.out⟩
     ·rw [if_neg hn] at HW;have HW:=xh HW;go_wp2_with fail;refine K1.out.mono ?_;rintro e w2 ⟨rfl,A2,o2⟩;obtain ⟨A3,o3,s1,s2,LK,n1,n2⟩:=W2.out w2 A2 o2;obtain ⟨v',w4,ea,S4,ow,fr⟩:=cd (P:=Tryz.prog) s1 60 60 (.int .i64 0) 8 Tryz.underlying60 gh rfl (.int .i64 at_) rfl (by unfold maxLen; omega) (by omega);have s4:=s2.only ow (fo s2 s1 (by decide));have L4:=LK.only ow n1;have A4:=A3.only ow (fun g hF hg=>by have:=nB.out g hF; have:=HA.out.2.2.1 g hg; omega)
      obtain ⟨u',w5,eb,S5,ov,fv⟩:=fK (P:=Tryz.prog) s4 150 9 150 Tryz.underlying150 Tryz.underlying9 gx.dg ⟨pc.toArray⟩ (by show _+pc.toArray.size≤_; simp; omega);have S6:=S4.only ov (fun g hg=>fo S4 s4 (by decide) g hg);have L6:=L4.only ov n2;have A6:=xh (A4.only ov (fun g hF hg=>by have:=nB.out g hF; have:=HA.out.2.2.2 g hg; omega));have k1:=L4.ab (i:=1) rfl;have k0:=L6.ab (i:=0) rfl
      have O6:=xh (show ag F w w5 from ((o3.aS ow (fun g hg dL=>by have:=HA.out.2.2.1 g hg; omega)).aS ov (fun g hg dL=>by have:=HA.out.2.2.2 g hg; omega)));have F4:=xh (show ∀g∈ah v',w.heap.size≤g from fun g hg=>(fr g hg).elim (HA.out.2.2.1 g) (fun h=>by have:=o3.size; omega));have F5:=xh (show ∀g∈ah u',w.heap.size≤g from fun g hg=>(fv g hg).elim (HA.out.2.2.2 g) (fun h=>by have:=o3.size; have:=ow.size; omega));obtain ⟨V4,c4,rfl⟩:=aq S4
      rw [show (⟨pc.toArray⟩:ByteArray).size=pc.length from by show pc.toArray.size=_; simp,show (⟨pc.toArray⟩:ByteArray).data.toList=pc from rfl,←bU] at S5;obtain ⟨V5,c5,rfl⟩:=aq S5;have SV:=xh (show aG w5 5 1 (.slice V5 (b.length+pc.length) c5) (b++pc).length (cI (b++pc)) from by rw [List.length_append]; exact S5);have CV:=xh (r9 (P:=Tryz.prog) S5.drew 150 9 Tryz.underlying150 Tryz.underlying5 Tryz.underlying9);rw [World.size_alloc] at ea;have EA:=xh ea
      have EB:=xh eb;clear ea eb ow ov fr fv S4 s4 L4 A4 L6 LK A3 A2 o2 o3 s1 s2 n1 n2;go_wp2_with fail;rw [EA.out];go_wp2_with fail;rw [EB.out];go_wp2_with fail;go_roundw
      case rel=>exact ⟨i+1,l++[at_],b++pc,nx,qn,by omega,by simp [hl],by go_num,rfl,by rw [List.length_append]; exact hL2,by rw [eB]; exact S6,SV.out,HW,xh ⟨A6.out,O6.out,F4.out,F5.out⟩⟩
      case measure=>simp [intOf]; omega
   ·have hq:(er != 0)=true:=by rw [bne_iff_ne]; exact he
    have jm:(er==0)=false:=by rw [beq_eq_false_iff_ne]; exact he
    have W2:=xh (show ∀w2,PQ w2 I F qn n (K+(i+1))→ag F wr w2→PQ (w2.alloc (.cells #[.int .i64 nx,.string ⟨pc.toArray⟩] 262)) I F qn n (K+(i+1))∧ag F w (w2.alloc (.cells #[.int .i64 nx,.string ⟨pc.toArray⟩] 262)) from fun w2 A2 o2=>by
     obtain ⟨a1,a2,a3,a4⟩:=HA.out;have U:=ae (Below.refl w2.heap.size w2) (.cells #[.int .i64 nx,.string ⟨pc.toArray⟩] 262);exact ⟨A2.below U,(a2.trans o2).trans (.ak U)⟩)
    by_cases h3:er=3∧0<i
    ·rw [if_pos h3] at HW;subst HW;obtain ⟨rfl,h3⟩:=h3;go_wp2_with fail;refine K1.out.mono ?_;rintro e w2 ⟨rfl,A2,o2⟩;obtain ⟨A3,o3⟩:=W2.out w2 A2 o2;have A3:=xh A3;have o3:=xh o3;clear A2 o2;go_wp2_with fail
     go_ret3
     exact ⟨none,0,0,by first | rfl | simp,aG.nil _ _ _,A3.out.le (by omega),o3.out,by simp [ah]⟩
    ·rw [if_neg h3,if_pos he] at HW;subst HW;have h33:er=3→ ¬0<i:=fun e h=>h3 ⟨e,h⟩;have hq3:i=0∨((er==3)=false∧er≠3):=by
      by_cases e:er=3
      ·exact .inl (by have:=h33 e; omega)
      ·exact .inr ⟨by rw [beq_eq_false_iff_ne]; exact e,e⟩
     rcases hq3 with y8 | ⟨hq3,hq4⟩
     all_goals
      clear h33 h3;go_wp2_with fail;refine K1.out.mono ?_;rintro e w2 ⟨rfl,A2,o2⟩;obtain ⟨A3,o3⟩:=W2.out w2 A2 o2;have A3:=xh A3;have o3:=xh o3;clear A2 o2;go_wp2_with fail
      all_goals
       go_ret3
       exact ⟨none,0,0,by first | rfl | simp,aG.nil _ _ _,A3.out.le (by omega),o3.out,by simp [ah]⟩
  ·have HW:=HW.out;rw [show 5-i=0 by omega] at HW;unfold QS.lC at HW;subst HW;go_wp2_with fail
   go_ret3
   exact ⟨none,0,0,by first | rfl | simp,aG.nil _ _ _,HA.out.1.le (by omega),HA.out.2.1,by simp [ah]⟩
end Go.Proofs.YtmonobkginiajaaGreat.Sh
