/- packed. -/
import Derived.IntWalk
import Derived.Deep.Slices
import Derived.Deep.Grids
import Derived.Lib.SmallJoins
import Derived.Test.YtmonobkginiajaaGreatAp6
set_option linter.all false
set_option maxRecDepth 100000
set_option maxHeartbeats 8000000
namespace Go.Proofs.YtmonobkginiajaaGreat
open Go.Proofs.Tryz
namespace Sl
open Go.RowKit
theorem or8(a b:Nat)(ha:a<256)(hb:b<256):bits .or .i64 ((a:Int)*256) (b:Int)=((a*256+b:Nat):Int):=by
 rw[bits_join .i64 32 (by decide) (λn h0 h1=>IntWalk.i64_in n (by omega)) 8 _ _ (by omega) (by omega) (by omega) (by omega) (by omega) (by omega)];omega
theorem dq(s:ByteArray)(k:Nat)(h:k<s.size):s.data.toList.getD k 0=s[k]:=by
 have:k<s.data.toList.length:=by simpa using h
 simp[List.getD,aT this];rfl
theorem fo(s:ByteArray)(i:Int)(w:World)(h0:0<=i)(h:i+1<s.size)(hs:s.size<=1000000):
  Calls prog 210 #[.string s,.int .i64 i] w λe w'=>e=.returned (.int .i64 (bT s.data.toList i.toNat:Nat))/\Below w.heap.size w w':=by
 obtain⟨k,rfl⟩:=dL h0;rw[gv];have hk:k<s.size:=by omega
 have h:k+1<s.size:=by omega
 have b0:=s[k].toNat_lt;have b1:=s[k+1].toNat_lt;have HV:=xh (show bits .or .i64 ((s[k].toNat:Int)*256) (s[k+1].toNat:Int)=((bT s.data.toList k:Nat):Int)from by
  rw[or8 _ _ (by omega) (by omega)];unfold bT;rw[dq _ _ hk,dq _ _ h])
 have e1:IntKind.i64.wrap ((k:Int)+1)=(k:Int)+1:=IntWalk.i64_in _ (by omega);have e2:(0:Int)<=(k:Int)+1:=by omega
 have e3:((k:Int)+1).toNat=k+1:=by omega
 have e7:(k:Int)+1<(s.size:Int):=by omega
 have e8:(k:Int)<(s.size:Int):=by omega
 have e4:IntKind.i64.wrap (s[k].toNat:Int)=(s[k].toNat:Int):=IntWalk.i64_in _ (by omega);have e5:IntKind.i64.wrap ((s[k].toNat:Int)*256)=(s[k].toNat:Int)*256:=IntWalk.i64_in _ (by omega);have e6:IntKind.i64.wrap (s[k+1].toNat:Int)=(s[k+1].toNat:Int):=IntWalk.i64_in _ (by omega);go_enter func210,ntmps210
 go_wp2
 go_quiet (fail);rw[HV.o]
 go_wp2
 go_ret;exact⟨rfl,cD (Below.refl _ _) _⟩
def sc(l:List Slot):List Value:=l.flatMap λx=>[.int .i64 (x.1:Int),.int .i64 (x.2:Int)]
theorem jz(l:List Slot):(sc l).length=2*l.length:=by
 induction l with
 |nil=>rfl
 |cons x l ih=>simp only[sc,gS]at ih ⊢;simp[ih];omega
theorem nC(l m:List Slot):sc (l++m)=sc l++sc m:=by simp[sc]
theorem Sn(l:List Slot)(i:Nat)(hi:i<l.length):(sc l)[i*2]?=some (.int .i64 (l[i].1:Int))/\(sc l)[i*2+1]?=some (.int .i64 (l[i].2:Int)):=by
 induction l generalizing i with
 |nil=>simp at hi
 |cons x l ih=>
  have e:sc (x::l)= .int .i64 (x.1:Int):: .int .i64 (x.2:Int)::sc l:=rfl;rw[e]
  cases i with
  |zero=>exact⟨rfl,rfl⟩
  |succ i=>
   have:=ih i (by simpa using hi);rw[show(i+1)*2=i*2+1+1 by omega,show i*2+1+1+1=(i*2+1)+1+1 by omega];simpa using this
theorem Sp(l:List Slot):∀v∈sc l,v.oneCell'=true:=by
 intro v hv;simp only[sc,lq]at hv;obtain⟨x,_,h⟩:=hv;simp at h
 rcases h with rfl|rfl<;>rfl
theorem uQ:(prog.info? 271).map (λi=>(i.zero,i.size,i.bytes))=some (some (.agg #[.int .i64 0,.int .i64 0]),2,16):=by kernel_rfl
theorem sk(b:List UInt8)(k:Nat)(h:k<bT b 0):(bE b).take (k+1)=(bE b).take k++[slot b k]:=by
 rw[jO (by rw[cJ];exact h)];simp[bE]
attribute [local go_sem ↓] bq
theorem ma(s:ByteArray)(w:World)(h4:4+4*bT s.data.toList 0<=s.size)(hs:s.size<=1000000):
  Calls prog 208 #[.string s] w λe w'=> ∃v,e=.returned v/\aK w' 271 2 v (bT s.data.toList 0) (sc (bE s.data.toList))/\Below w.heap.size w w'/\(∀g∈ah v,w.heap.size<=g):=by
 have hn:=yT s.data.toList 0;have HL:=xh (cJ s.data.toList);go_enter func208,ntmps208;go_wp2_with fail;refine(fo s 0 _ (by omega) (by omega) hs).mono ?_;rintro e w1 ⟨rfl,aJ⟩;rw[show(0:Int).toNat=0 from rfl];have HS:=xh (show ∀k,k<bT s.data.toList 0->(bE s.data.toList).take (k+1)=(bE s.data.toList).take k++[slot s.data.toList k]from λk hk=>sk _ k hk)
 have HE:=xh (show(bE s.data.toList).take (bT s.data.toList 0)=bE s.data.toList from bY (by rw[cJ];exact aj _));have HSl:=xh (show ∀k,slot s.data.toList k=(bT s.data.toList (4+4*k),bT s.data.toList (6+4*k))from λk=>rfl);generalize hgn:bT s.data.toList 0=n at *;have HN:=xh hgn;clear hgn;go_wp2_with fail
 go_loopw [3,4,5,8] (λv _ _ i wr=> ∃k:Nat,k<=n/\i=.int .i64 k/\aK wr 271 2 v k (sc ((bE s.data.toList).take k))/\Below w.heap.size w wr/\Hid (∀g∈ah v,w.heap.size<=g)) (λ_ _ _ i _=>n-(intOf i).toNat)
 case atStart=>exact⟨0,bm _,rfl,by rw[iM];exact aK.nil _ _ _,aJ,xh (by simp[ah])⟩
 case round=>
  obtain⟨k,hk,rfl,S,O,F⟩:=hrel;obtain⟨A,c,rfl⟩:=ao S
  by_cases h:k<n
  .have ui:=xh (HS.o k h);go_wp2_with fail;refine(fo s _ _ (by omega) (by omega) hs).mono ?_;rintro e w2 ⟨rfl,bS⟩;have S2:=xh (S.below bS);have O2:=xh (au O bS);clear bS S O;go_wp2_with fail;refine(fo s _ _ (by omega) (by omega) hs).mono ?_;rintro e w3 ⟨rfl,cZ⟩;have S3:=S2.o.below cZ;have O3:=xh (au O2.o cZ);clear cZ S2 O2;rw[show(4+4*(k:Int)).toNat=4+4*k by omega,show(4+4*(k:Int)+2).toNat=6+4*k by omega]
   obtain⟨i0,hi,ke,iX,jF⟩:=info_parts uQ;obtain⟨v',w',ea,S',O',F'⟩:=di (P:=prog) (S3.alloc (.cells #[.int .i64 (bT s.data.toList (4+4*k):Nat),.int .i64 (bT s.data.toList (6+4*k):Nat)] 271)) 266 266 i0 (.agg #[.int .i64 0,.int .i64 0]) 16 underlying266 hi ke iX jF rfl (by omega)
    ⟨w3.heap.size,0,none⟩ 1 1 [.int .i64 (bT s.data.toList (4+4*k):Nat),.int .i64 (bT s.data.toList (6+4*k):Nat)] rfl (bn (l:=[_,_]) (aE.new _ _ _) 0 _ (by simp)) (by intro u hu;simp at hu;rcases hu with rfl|rfl<;>rfl) (by unfold maxLen;omega) (by omega)
   have e1:sc ((bE s.data.toList).take k)++[.int .i64 (bT s.data.toList (4+4*k):Nat),.int .i64 (bT s.data.toList (6+4*k):Nat)]=sc ((bE s.data.toList).take (k+1)):=by
    rw[ui.o,nC,HSl.o];rfl
   rw[e1]at S';have EA:=ea;have F2:=xh (show ∀g∈ah v',w.heap.size<=g from λg hg=>(F' g hg).elim (F.o g) (λh=>ay O3.o.size (by simp at h;omega)));have O2:=xh (O3.o.trans ((((ag.refl (ah (.slice A k c)) w3).alloc (.cells #[.int .i64 (bT s.data.toList (4+4*k):Nat),.int .i64 (bT s.data.toList (6+4*k):Nat)] 271)).trans O').aO O3.o.size F.o));have S2:=xh S';clear S3 F' O' S' e1 ui hi ke iX jF ea
   change df _ _ _ _ _ _=_ at EA
   obtain⟨A2,c2,rfl⟩:=ao S2.o;go_wp2_with fail;go_roundw
   case rel=>exact⟨k+1,by omega,by go_num,S2.o,O2.o,F2⟩
   case measure=>simp[intOf];omega
  .have AH:k=n:=by omega
   have H2:=xh AH;have SS:=xh S;clear AH S;go_wp2_with fail;go_ret;refine⟨_,rfl,?_,O,F.o⟩;have:=SS.o
   cases H2.o
   rw[HE.o]at this;rw[HN.o];exact this
variable{w w':World}{e:TypeId}{g n cap:Nat}{l:List Value}{v:Value}{F:List UInt8}
theorem aK.set1(S:aK w e 1 (.slice (some ⟨g,0,none⟩) n cap) n l)(k:Nat)(hk:k<n)(x:Value):aK (w.setCell ⟨g,k,none⟩ x) e 1 (.slice (some ⟨g,0,none⟩) n cap) n (l.set k x):=by
 have hl:l.length=n:=by have:=S.1;omega
 rcases S.2 with⟨h0,_⟩|⟨g',Ds,rest,hv,B,hc,hm⟩
 .cases h0
 .simp only[Value.slice.injEq,Option.some.injEq,Addr.mk.injEq,and_true,true_and]at hv;obtain⟨rfl,rfl⟩:=hv;refine⟨by simp[hl],.inr ⟨g,cap,rest,rfl,?_,by simpa using hc,hm⟩⟩;have:=B.bG k x;rw[qx,sZ _ _ (by omega)]at this;exact this
theorem aK.cell(S:aK w e 1 (.slice (some ⟨g,0,none⟩) n cap) n l)(k:Nat)(hk:k<n)(x:Value)(hx:l[k]?=some x):w.cell? ⟨g,k,none⟩=some x/\w.frozen? ⟨g,k,none⟩=false:=by
 have hl:l.length=n:=by have:=S.1;omega
 rcases S.2 with⟨h0,_⟩|⟨g',Ds,rest,hv,B,hc,hm⟩
 .cases h0
 .simp only[Value.slice.injEq,Option.some.injEq,Addr.mk.injEq,and_true,true_and]at hv;obtain⟨rfl,rfl⟩:=hv;exact⟨B.ab (by rw[cM,bD (by omega)];exact hx),B.frozen k (by simp;omega)⟩
def mN(w:World)(v:Value)(F:List UInt8):Prop:=aK w 5 1 v F.length (dh F)
theorem mN.form(S:mN w v F)(h:0<F.length):∃g cap,v=.slice (some ⟨g,0,none⟩) F.length cap/\F.length<=cap:=by
 obtain⟨g,cap,rest,rfl,B,hc,_⟩:=aK.form S h (by omega);exact⟨g,cap,rfl,hc⟩
theorem dU:(prog.info? 5).map (λi=>(i.zero,i.size,i.bytes))=some (some (.int .u8 0),1,1):=by kernel_rfl
theorem jg(S:mN w v F)(i m:Int)(E9:0<=i)(hi:i+1<F.length)(hF:F.length<=1000000)(hm0:0<=m)(hm:m<65536):
  Calls prog 206 #[v,.int .i64 i,.int .i64 m] w λe w'=>e=.returned (.tuple #[])/\mN w' v (l9 F i.toNat m.toNat)/\ag (ah v) w w':=by
 obtain⟨k,rfl⟩:=dL E9;obtain⟨n,rfl⟩:=dL hm0;obtain⟨g,cap,rfl,uR⟩:=S.form (by omega);have c0:=(aK.cell S k (by omega) (bv F[k]) (by rw[xC,aT (by omega)];rfl));have c1:=(aK.cell S (k+1) (by omega) (bv F[k+1]) (by rw[xC,aT (by omega)];rfl));obtain⟨c0,z0⟩:=c0;obtain⟨c1,z1⟩:=c1
 have HS:=xh (aK.set1 (aK.set1 S k (by omega) (bv (UInt8.ofNat (n / 256)))) (k+1) (by omega) (bv (UInt8.ofNat n)));have HO:=xh (show ag [g] w ((w.setCell ⟨g,k,none⟩ (bv (UInt8.ofNat (n / 256)))).setCell ⟨g,k+1,none⟩ (bv (UInt8.ofNat n)))from((ag.refl _ _).setCell (by simp) _).setCell (by simp) _);clear S;generalize F[k]=x0 at *;generalize F[k+1]=x1 at *;unfold bv at c0 c1;go_enter func206,ntmps206
 go_wp2
 have e0:bv (UInt8.ofNat (n / 256))= .int .u8 ((n:Int) / 256):=by
  unfold bv
  congr 1
  rw[gZ];omega
 have e1:bv (UInt8.ofNat n)= .int .u8 ((n:Int) % 256):=by
  unfold bv;rfl
 have el:((dh F).set k (bv (UInt8.ofNat (n / 256)))).set (k+1) (bv (UInt8.ofNat n))=dh (l9 F k n):=by
  simp[dh,l9]
 have h1:=HS.o;have h2:=HO.o;rw[el]at h1;rw[e0,e1]at h1 h2;clear el e0 e1
 go_end0
 refine⟨rfl,?_,by simpa [ah]using h2⟩;rw[gv,gv];unfold mN;rw[eC];exact h1
theorem oh(n:Nat)(h1:n<=140737488355328)(w:World):
  (Instr.makeSlice 150 (.int .i64 n) (.int .i64 n)).run prog w=.ok (.slice (some ⟨w.heap.size,0,none⟩) n n) (w.alloc (.cells (dh (List.replicate n 0)).toArray 5)):=by
 obtain⟨i0,hi,ke,iX,jF⟩:=info_parts dU;have h:=run_make (P:=prog) w 150 5 i0 (.int .u8 0) underlying150 hi ke .i64 .i64 n n (by omega) (jK _) (by rw[jF];omega) (by omega);rw[h,iX];have e:madeCells (Value.int .u8 0).cells (((n:Int).toNat)*1)=(dh (List.replicate n 0)).toArray:=by
  show madeCells #[Value.int .u8 0] (n*1)=_;rw[Nat.mul_one,gM];simp[dh,bv]
 rw[e];rfl
theorem mN.string(S:mN w v F)(h:0<F.length):(convert 150 9 v).run prog w=.ok (.string ⟨F.toArray⟩) w:=by
 obtain⟨g,cap,rest,rfl,B,_,_⟩:=aK.form S h (by omega);exact bZ (P:=prog) w 150 9 5 underlying150 underlying5 underlying9 ⟨g,0,none⟩ F.length cap F rfl (bn B 0 (dh F) (by
  intro j u hu;rw[bh,bD]
  .exact hu
  .exact(aX.1 hu).1))
theorem mN.only{S:List Nat}(B:mN w v F)(ho:ag S w w')(hd:∀g∈ah v,g∉S):mN w' v F:=aK.only B ho hd
theorem mN.below(B:mN w v F)(ho:Below w.heap.size w w'):mN w' v F:=aK.below B ho
theorem mN.new(w:World)(F:List UInt8)(h:F.length<=maxLen):mN (w.alloc (.cells (dh F).toArray 5)) (.slice (some ⟨w.heap.size,0,none⟩) F.length F.length) F:=
 ⟨by simp,.inr ⟨w.heap.size,F.length,[],rfl,by rw[jh];exact aE.new _ _ _,by simp,h⟩⟩
theorem qL(w:World):
  Calls prog 163 #[] w λe w'=>e=.returned (.string ⟨ld.toArray⟩)/\Below w.heap.size w w':=by
 have hmk:Hid (∀w':World,(Instr.makeSlice 150 (.int .i64 232) (.int .i64 232)).run prog w'= .ok (.slice (some ⟨w'.heap.size,0,none⟩) 232 232) (w'.alloc (.cells (dh (List.replicate 232 0)).toArray 5))):=xh (λw':World=>oh 232 (by omega) w');have B0:=xh (mN.new w (List.replicate 232 0) (by unfold maxLen;rw[fi];omega));have O0:=xh ((Below.refl w.heap.size w).alloc (aj _) (.cells (dh (List.replicate 232 0)).toArray 5))
 have hl:(List.replicate 232 (0:UInt8)).length=232:=fi;have e1:ld=l9 (List.replicate 232 0) 2 232:=rfl;rw[e1];clear e1;generalize List.replicate 232 (0:UInt8)=Z at *;rw[hl]at B0;have HL:=xh hl;clear hl;have hm:=hmk.o;clear hmk;go_enter func163,ntmps163;go_wp2_with fail;generalize w.alloc (.cells (dh Z).toArray 5)=W at *;clear hm;refine(jg B0.o 2 232 (by omega) (by rw[HL.o];omega) (by rw[HL.o];omega) (by omega) (by omega)).mono ?_
 rintro e w1 ⟨rfl,B1,o1⟩;have KS:=xh (B1.string (by rw[eC,HL.o];omega));have O1:=xh (O0.o.trans (o1.aO O0.o.size (by simp[ah])));clear B1 o1;go_wp2_with fail;rw[KS.o];go_wp2_with fail;go_ret;exact⟨rfl,O1.o⟩
variable{b:List UInt8}{k:Nat}
theorem Sq{a b:Bool}(h:a=b):Ending.returned (.bool a)= .returned (.bool b):=by rw[h]
theorem NV(x y:Slot)(w:World)(hx:x.1+x.2<=1000000)(hy:y.1+y.2<=1000000):
  Calls prog 227 #[.agg #[.int .i64 x.1,.int .i64 x.2],.agg #[.int .i64 y.1,.int .i64 y.2]] w λe w'=>e=.returned (.bool (apart x y))/\Below w.heap.size w w':=by
 obtain⟨a,b⟩:=x;obtain⟨c,d⟩:=y;have O:=xh (((Below.refl w.heap.size w).alloc (aj _) (.cells #[.int .i64 a,.int .i64 b] 271)).alloc (by simp) (.cells #[.int .i64 c,.int .i64 d] 271));simp only at hx hy;have HA:=xh (show apart (a,b) (c,d)=(decide (b=0) || (decide (d=0) || (decide (a+b<=c) || decide (c+d<=a))))from rfl);go_enter func227,ntmps227
 go_wp2
 all_goals go_ret
 all_goals
  refine⟨Sq ?_,((Below.refl _ _).alloc (aj _) _).alloc (by simp) _⟩;rw[HA.o,Fh];simp
  try omega
theorem uS(hl:b.length=232)(h:¬Sound b):bX b=14:=by
 unfold bX;rw[if_pos hl,if_neg];rw[sg];exact h
theorem JN(hl:b.length=232)(hk:k<bT b 0)(h:¬(bT b 2<=(slot b k).1/\(slot b k).1+(slot b k).2<=232)):bX b=14:=
 uS hl λS=>h (S.fit.pw _ (aA (BO b k hk)))
theorem Ge(hl:b.length=232){j:Nat}(hk:k<bT b 0)(hj:j<k)(h:apart (slot b k) (slot b j)=false):bX b=14:=
 uS hl λS=>by
  have hp:=S.fit.apart;rw[sW]at hp;have h1:=hp j k (by rw[cJ];omega) (by rw[cJ];omega) hj;simp only[bE,uw,Dd]at h1;rw[oG,h]at h1
  cases h1
theorem JO(hl:b.length=232)(hh:bT b 2<=232)(h4:4+4*bT b 0<=bT b 2)(hf:Fit (bT b 2) (bE b)):bX b=0:=(eu b).2 ⟨hl,hh,h4,hf⟩
theorem Sr{heap:Nat}(hk:k<bT b 0)(hf:Fit heap ((bE b).take k))(hx:heap<=(slot b k).1/\(slot b k).1+(slot b k).2<=232)(ha:∀j,j<k->apart (slot b k) (slot b j)=true):Fit heap ((bE b).take (k+1)):=by
 rw[sk b k hk,Fit.snoc];refine⟨hf,hx,λy hy=>?_⟩;obtain⟨j,hj,rfl⟩:=pB hy;have hj2:j<k:=by simp at hj;omega
 simp only[bE,IB,uw,Dd];exact ha j hj2
theorem oH{w:World}{g n cap:Nat}{l:List Slot}(S:aK w 271 2 (.slice (some ⟨g,0,none⟩) n cap) n (sc l))(k:Nat)(hk:k<l.length):w.cell? ⟨g,k*2,none⟩=some (.int .i64 l[k].1)/\w.cell? ⟨g,k*2+1,none⟩=some (.int .i64 l[k].2):=by
 obtain⟨rest,B,_⟩:=S.rp;obtain⟨h0,h1⟩:=Sn l k hk;have hlen:=jz l;exact⟨B.ab (by rw[cM,bD (by omega)];exact h0),B.ab (by rw[cM,bD (by omega)];exact h1)⟩
theorem kJ(b:List UInt8)(k:Nat)(h:k<(bE b).length):(bE b)[k]=slot b k:=by simp[bE]
theorem JP(s:ByteArray)(w:World)(hl:s.size=232)(hh:bT s.data.toList 2<=232)(h4:4+4*bT s.data.toList 0<=bT s.data.toList 2):
  Calls prog 207 #[.string s] w λe w'=>e=.returned (.int .i64 (bX s.data.toList))/\Below w.heap.size w w':=by
 have hL:s.data.toList.length=232:=by simpa using hl
 have HLI:=xh (λ(k:Nat) (hk:k<bT s.data.toList 0) (h:¬(bT s.data.toList 2<=(slot s.data.toList k).1/\(slot s.data.toList k).1+(slot s.data.toList k).2<=232))=>JN hL hk h);have HAP:=xh (λ(k j:Nat) (hk:k<bT s.data.toList 0) (hj:j<k) (h:apart (slot s.data.toList k) (slot s.data.toList j)=false)=>Ge hL hk hj h);have Bo:=xh (λ(hf:Fit (bT s.data.toList 2) (bE s.data.toList))=>JO hL hh h4 hf)
 have HST:=xh (λ(k:Nat) (hk:k<bT s.data.toList 0) (hf:Fit (bT s.data.toList 2) ((bE s.data.toList).take k)) (hx:bT s.data.toList 2<=(slot s.data.toList k).1/\(slot s.data.toList k).1+(slot s.data.toList k).2<=232) (ha:∀j,j<k->apart (slot s.data.toList k) (slot s.data.toList j)=true)=>Sr hk hf hx ha);have HAL:=xh (show(bE s.data.toList).take (bT s.data.toList 0)=bE s.data.toList from bY (by rw[cJ];exact aj _))
 have HN:=xh (cJ s.data.toList);have ry:=λk=>yT s.data.toList k;have AK:∀k,(slot s.data.toList k).1<65536/\(slot s.data.toList k).2<65536:=λk=>⟨ry _,ry _⟩;have Fe:=xh AK;have KL:=xh (λw'=>ma s w' (by omega) (by omega));clear ry AK hL;have xN:s.size<=232:=by omega
 have hs2:232<=s.size:=by omega
 have hsb:((s.size:Int)==232)=true:=by simp;omega
 have HHL:=xh hl;clear hl;have K0:=xh (λw'=>fo s 0 w' (by omega) (by omega) (by omega));have K2:=xh (λw'=>fo s 2 w' (by omega) (by omega) (by omega));simp only[show(0:Int).toNat=0 from rfl,show(2:Int).toNat=2 from rfl]at K0 K2;generalize hq:bX s.data.toList=q at *;have HQ:=xh hq;clear hq;generalize bT s.data.toList 0=n at *;generalize bT s.data.toList 2=heap at *;go_enter func207,ntmps207;go_wp2_with fail;refine(K0.o _).mono ?_
 rintro e w1 ⟨rfl,aJ⟩;go_wp2_with fail;refine(K2.o _).mono ?_;rintro e w2 ⟨rfl,bS⟩;go_wp2_with fail;refine(KL.o _).mono ?_;rintro e w3 ⟨v,rfl,S,cZ,fr⟩;obtain⟨A,c,rfl⟩:=ao S;have S:=xh S;have O3:=xh (au (au aJ bS) cZ);clear aJ bS cZ fr K0 K2 KL;go_wp2_with fail
 go_loopw [31] (λiv wr=> ∃k:Nat,k<=n/\iv=.int .i64 k/\aK wr 271 2 (.slice A n c) n (sc (bE s.data.toList))/\Below w.heap.size w wr/\Hid (Fit heap ((bE s.data.toList).take k))) (λiv _=>n-(intOf iv).toNat)
 case atStart=>exact⟨0,bm _,rfl,S.o,O3.o,xh (by rw[iM];exact Fit.nil _)⟩
 case round=>
  obtain⟨k,hk,rfl,S,O,F⟩:=hrel
  by_cases h:k<n
  .obtain⟨g,cap,rest,hv,-,uR,-⟩:=S.form (by omega) (by omega);simp only[Value.slice.injEq,true_and]at hv;obtain⟨rfl,rfl⟩:=hv;have gK:=oH S k (by rw[HN.o];exact h);rw[kJ]at gK;obtain⟨c0,c1⟩:=gK;have b0:=Fe.o k;have LI:=xh (HLI.o k h);have AP:=xh (λj=>HAP.o k j h);have ST:=xh (HST.o k h F.o);have SS:=xh S;have OO:=xh O;clear S O;generalize slot s.data.toList k=x at *;obtain⟨x0,x1⟩:=x;simp only at b0 c0 c1
   have B8:=xh (aE.new wr 271 #[.int .i64 x0,.int .i64 x1]);have S8:=xh (SS.o.alloc (.cells #[.int .i64 x0,.int .i64 x1] 271));have O8:=xh (OO.o.alloc OO.o.size (.cells #[.int .i64 x0,.int .i64 x1] 271));have hx:heap<=x0/\x0+x1<=232\/(heap<=x0/\232<x0+x1)\/x0<heap:=by omega
   rcases hx with⟨g1,g2⟩|⟨g1,g2⟩|g1
   .go_wp2_with fail;generalize wr.alloc (.cells #[.int .i64 x0,.int .i64 x1] 271)=W at *;generalize wr.heap.size=z at *
    go_loopw [52] (λjv w4=> ∃j:Nat,j<=k/\jv=.int .i64 j/\aK w4 271 2 (.slice (some ⟨g,0,none⟩) n c) n (sc (bE s.data.toList))/\aE w4 z 271 #[.int .i64 x0,.int .i64 x1]/\Below w.heap.size w w4/\Hid (∀i,i<j->apart (x0,x1) (slot s.data.toList i)=true)) (λjv _=>k-(intOf jv).toNat)
    case atStart=>exact⟨0,bm _,rfl,S8.o,B8.o,O8.o,xh λi hi=>absurd hi (kF i)⟩
    case round=>
     obtain⟨j,hj,rfl,S9,B9,O9,HJ⟩:=hrel
     by_cases hjk:j<k
     .have gK:=oH S9 j (by rw[HN.o];omega);rw[kJ]at gK;obtain⟨d0,d1⟩:=gK;have b2:=Fe.o j;have hn1:=AP.o j hjk;have HJS:=xh (show apart (x0,x1) (slot s.data.toList j)=true->∀i,i<j+1->apart (x0,x1) (slot s.data.toList i)=true from λe i hi=>by
       rcases eT i j with h|h
       .exact HJ.o i h
       .obtain rfl:i=j:=by omega
        exact e)
      have HN1:=xh hn1;have z0:=B9.ab (i:=0) rfl;have z1:=B9.ab (i:=1) rfl;have zl:=B9.lt;have SS9:=xh S9;have BB9:=xh B9;have OO9:=xh O9;clear S9 B9 O9 hn1 HJ;generalize slot s.data.toList j=y at *;obtain⟨y0,y1⟩:=y;simp only at b2 d0 d1;have KA:=xh (λw'=>NV (x0,x1) (y0,y1) w' (by show x0+x1<=1000000;omega) (by show y0+y1<=1000000;omega));simp only at KA;go_wp2_with fail;refine(KA.o _).mono ?_;rintro e w5 ⟨rfl,mD⟩
      have mD:=xh (((Below.refl wr.heap.size wr).alloc (aj _) (.cells #[.int .i64 y0,.int .i64 y1] 271)).trans (mD.mono (by simp)))
      cases ha:apart (x0,x1) (y0,y1)
      .have hq:=HN1.o ha;go_wp2_with fail;go_ret;exact⟨by first|rfl|(rw[hq];rfl),au OO9.o mD.o⟩
      .have HA:=xh ha;clear ha;go_wp2_with fail;go_roundw
       case rel=>exact⟨j+1,by omega,by go_num,SS9.o.below mD.o,BB9.o.below mD.o BB9.o.lt,au OO9.o mD.o,xh (HJS.o HA.o)⟩
       case measure=>simp[intOf];omega
     .have SS9:=xh S9;have OO9:=xh O9;have hjk2:=xh (show j=k by omega);clear S9 B9 O9;go_wp2_with fail;go_roundw
      case rel=>exact⟨k+1,by omega,by go_num,SS9.o,OO9.o,xh (ST.o ⟨g1,g2⟩ (hjk2.o▸HJ.o))⟩
      case measure=>simp[intOf];omega
   .have hq:=LI.o (by omega);go_wp2_with fail;go_ret;exact⟨by first|rfl|(rw[hq];rfl),O8.o⟩
   .have hq:=LI.o (by omega);go_wp2_with fail;go_ret;exact⟨by first|rfl|(rw[hq];rfl),O8.o⟩
  .have AH:k=n:=by omega
   have H2:=xh AH;have OO:=xh O;have SS:=xh S;clear AH S O;go_wp2_with fail;go_ret;refine⟨?_,OO.o⟩;have hf:=F.o;rw[H2.o,HAL.o]at hf;rw[Bo.o hf];rfl
theorem qS(s:ByteArray)(w:World)(hs:s.size<=1000000):
  Calls prog 207 #[.string s] w λe w'=>e=.returned (.int .i64 (bX s.data.toList))/\Below w.heap.size w w':=by
 by_cases hl:s.size=232
 .by_cases hg:bT s.data.toList 2<=232/\4+4*bT s.data.toList 0<=bT s.data.toList 2
  .exact JP s w hl hg.1 hg.2
  .have hL:s.data.toList.length=232:=by simpa using hl
   have e1:bX s.data.toList=14:=uS hL λS=>hg ⟨S.heap,S.head⟩;rw[e1];have K0:=xh (λw'=>fo s 0 w' (by omega) (by omega) (by omega));have K2:=xh (λw'=>fo s 2 w' (by omega) (by omega) (by omega));simp only[show(0:Int).toNat=0 from rfl,show(2:Int).toNat=2 from rfl]at K0 K2;have b0:=yT s.data.toList 0;generalize bT s.data.toList 0=n at *;generalize bT s.data.toList 2=heap at *;have hsb:((s.size:Int)==232)=true:=by simp;omega
   have hx:232<heap\/(heap<=232/\heap<4+4*n):=by omega
   clear hl hg e1 hL
   rcases hx with h1|⟨h1,h2⟩
   all_goals
    go_enter func207,ntmps207;go_wp2_with fail;refine(K0.o _).mono ?_;rintro e w1 ⟨rfl,aJ⟩;go_wp2_with fail;refine(K2.o _).mono ?_;rintro e w2 ⟨rfl,bS⟩;have O:=xh (au aJ bS);clear aJ bS;go_wp2_with fail;go_ret;exact⟨rfl,O.o⟩
 .have e1:bX s.data.toList=6:=by unfold bX;rw[if_neg (by simpa using hl)]
  rw[e1];have hsb:((s.size:Int)==232)=false:=by simp;omega
  clear e1 hl;go_enter func207,ntmps207;go_wp2_with fail;go_ret;exact⟨rfl,Below.refl _ _⟩
def mc(l:List Slot)(k:Nat):Int:=228-((((l.take k).map λx=>4+x.2).sum:Nat):Int)
theorem Gf(l:List Slot)(k:Nat)(h:k<l.length):mc l (k+1)=mc l k-(4+(l[k].2:Int)):=by
 unfold mc;rw[jO h,cW,xq];simp;omega
theorem JQ(b:List UInt8):mc (bE b) (bE b).length=ic b:=by unfold mc ic;rw[gY]
def tN(b:List UInt8):Int:=if bX b=0 then ic b else 0
theorem Gg(s:ByteArray)(w:World)(hs:s.size<=1000000):
  Calls prog 209 #[.string s] w λe w'=>e=.returned (.int .i64 (tN s.data.toList))/\Below w.heap.size w w':=by
 have KC:=xh (qS s w hs)
 by_cases h:bX s.data.toList=0
 .have e1:tN s.data.toList=ic s.data.toList:=by unfold tN;rw[if_pos h]
  have hS:=(eu _).1 h;have Nh:s.size=232:=by have:=hS.len;simpa using this
  have h4:=hS.head;have h5:=hS.heap;rw[e1];rw[h]at KC;have KL:=xh (λw'=>ma s w' (by omega) hs);have HN:=xh (cJ s.data.toList);have HA:=xh (JQ s.data.toList);have HX:=xh (show ∀k,(mc (bE s.data.toList) k<=228/\∀h:k<(bE s.data.toList).length,(bE s.data.toList)[k].2<65536)from λk=>⟨by unfold mc;omega,λh=>by rw[kJ];exact yT _ _⟩)
  have HLO:=xh (show ∀k,k<=bT s.data.toList 0-> -1000000<=mc (bE s.data.toList) k from λk hk=>by
   have hsum:=BR _ _ hS.fit hS.heap;have:((((bE s.data.toList).take k).map λx=>4+x.2).sum)<=4*(bE s.data.toList).length+uP (bE s.data.toList):=by
    generalize bE s.data.toList=l;unfold uP
    induction l generalizing k with
    |nil=>simp
    |cons x l ih=>
     cases k with
     |zero=>simp
     |succ k=>
      have:=ih k;simp only[mJ,eh,kC,ff];omega
   rw[cJ]at this;unfold mc;omega)
  clear e1 h hS;generalize ic s.data.toList=q at *;generalize bT s.data.toList 0=n at *;go_enter func209,ntmps209;go_wp2_with fail;refine KC.o.mono ?_;rintro e w1 ⟨rfl,aJ⟩;have aJ:=xh aJ;go_wp2_with fail;refine(KL.o _).mono ?_;rintro e w3 ⟨v,rfl,S,cZ,fr⟩;obtain⟨A,c,rfl⟩:=ao S;have S:=xh S;have O3:=xh (au aJ.o cZ);clear cZ fr KL aJ;go_wp2_with fail
  go_loopw [3,12] (λrv iv wr=> ∃k:Nat,k<=n/\iv=.int .i64 k/\rv=.int .i64 (mc (bE s.data.toList) k)/\aK wr 271 2 (.slice A n c) n (sc (bE s.data.toList))/\Below w.heap.size w wr) (λ_ iv _=>n-(intOf iv).toNat)
  case atStart=>exact⟨0,bm _,rfl,rfl,S.o,O3.o⟩
  case round=>
   obtain⟨k,hk,rfl,rfl,S,O⟩:=hrel;have hr1:=(HX.o k).1;have AO:=HLO.o k hk
   by_cases h:k<n
   .obtain⟨g,cap,rest,hv,-,uR,-⟩:=S.form (by omega) (by omega);simp only[Value.slice.injEq,true_and]at hv;obtain⟨rfl,rfl⟩:=hv;have nS:k<(bE s.data.toList).length:=by rw[HN.o];exact h
    obtain⟨c0,c1⟩:=oH S k nS;have hb:=(HX.o k).2 nS;have HST:=xh (Gf _ k nS);generalize (bE s.data.toList)[k]=x at *;obtain⟨x0,x1⟩:=x;simp only at hb c0 c1 HST;have S8:=xh (S.alloc (.cells #[.int .i64 x0,.int .i64 x1] 271));have O8:=xh (O.alloc O.size (.cells #[.int .i64 x0,.int .i64 x1] 271));clear S O nS;generalize mc (bE s.data.toList) k=r at *;go_wp2_with fail;go_roundw
    case rel=>exact⟨k+1,by omega,by go_num,by rw[HST.o],S8.o,O8.o⟩
    case measure=>simp[intOf];omega
   .have AH:=xh (show k=n by omega);have OO:=xh O;clear S O;go_wp2_with fail;go_ret;refine⟨?_,OO.o⟩;rw[<-HA.o,HN.o,<-AH.o];rfl
 .have e1:tN s.data.toList=0:=by unfold tN;rw[if_neg h]
  have hb:(bX s.data.toList==0)=false:=by simpa using h
  rw[e1];clear e1 h;generalize bX s.data.toList=q at *;go_enter func209,ntmps209;go_wp2_with fail;refine KC.o.mono ?_;rintro e w1 ⟨rfl,aJ⟩;have aJ:=xh aJ;go_wp2_with fail;go_ret;exact⟨rfl,aJ.o⟩
theorem oI(s:ByteArray)(a b:Nat):s.extract a (a+b)=⟨((s.data.toList.drop a).take b).toArray⟩:=by
 apply iS;apply nh.1;rw[Il,Ql,Iw];simp
theorem JR(s:ByteArray)(x:Slot)(w:World)(hx:x.1+x.2<=s.size)(hs:s.size<=1000000):
  Calls prog 215 #[.string s,.agg #[.int .i64 x.1,.int .i64 x.2]] w λe w'=>e=.returned (.string ⟨(k9 s.data.toList x).toArray⟩)/\Below w.heap.size w w':=by
 obtain⟨a,b⟩:=x;simp only at hx;have HE:=xh (oI s a b);go_enter func215,ntmps215
 go_wp2
 go_ret;refine⟨?_,(Below.refl _ _).alloc (aj _) _⟩;show Ending.returned (.string (s.extract a (a+b)))=_;rw[HE.o];rfl
def dF(b:List UInt8)(i:Int):List UInt8×Int:=if bX b=0 then(if 0<=i/\i<(bT b 0:Int)then(k9 b (slot b i.toNat),0)else([],3))else([],bX b)
attribute [local go_sem ↓] bq
variable{w:World}{e:TypeId}{size n:Nat}{v:Value}{l:List Value}
theorem uT(h:aK w e size v n l):∀g∈ah v,∃cs,aE w g e cs:=by
 rcases h.2 with⟨rfl,_⟩|⟨g,cap,rest,rfl,B,_⟩
 .simp[ah]
 .intro x hx;simp[ah]at hx;subst hx;exact⟨_,B⟩
theorem cC{e':TypeId}{size' n':Nat}{v':Value}{l':List Value}(h:aK w e size v n l)(h':aK w e' size' v' n' l')(eV:e≠e'):∀g∈ah v,g∉ah v':=by
 intro g hg hg';obtain⟨_,B⟩:=uT h g hg;obtain⟨_,B'⟩:=uT h' g hg';exact B.lI B' eV rfl
def strs(l:List (List UInt8)):List Value:=l.map λr=> .string ⟨r.toArray⟩
theorem Ca(l:List (List UInt8))(r:List UInt8):strs l++[.string ⟨r.toArray⟩]=strs (l++[r]):=by simp[strs]
@[simp] theorem wg(l:List (List UInt8)):(strs l).length=l.length:=by simp[strs]
theorem wh:(prog.info? 9).map (λi=>(i.zero,i.size,i.bytes))=some (some (.string .empty),1,16):=by kernel_rfl
theorem uU(b:List UInt8)(k:Nat)(h:k<bT b 0):(cI b).take (k+1)=(cI b).take k++[k9 b (slot b k)]:=by
 unfold cI;rw[<-mH,sk b k h,cW,mH];rfl
def lB(s:ByteArray)(w:World)(e:Ending)(w':World):Prop:=
 ∃v,e=.returned (.tuple #[v,.int .i64 (bX s.data.toList)])/\Below w.heap.size w w'/\(∀g∈ah v,w.heap.size<=g)/\
  ((bX s.data.toList=0/\aK w' 9 1 v (bT s.data.toList 0) (strs (cI s.data.toList)))\/(bX s.data.toList≠0/\v=.slice none 0 0))
theorem mQ(s:ByteArray)(w:World)(hs:s.size<=1000000):
  Calls prog 169 #[.string s] w (lB s w):=by
 have KC:=xh (qS s w hs)
 by_cases h:bX s.data.toList=0
 .have hS:=(eu _).1 h;have Nh:s.size=232:=by have:=hS.len;simpa using this
  have h4:=hS.head;have h5:=hS.heap;rw[h]at KC;have HC:=xh h;have KL:=xh (λw'=>ma s w' (by omega) hs);have HN:=xh (cJ s.data.toList);have HG:=xh (kJ s.data.toList);have HT:=xh (uU s.data.toList);have HF:=xh (λk (hk:k<bT s.data.toList 0)=>hS.fit.pw _ (aA (BO s.data.toList k hk)))
  have HA:=xh (show(cI s.data.toList).take (bT s.data.toList 0)=cI s.data.toList from bY (by rw[cE];exact aj _));clear hS h;generalize hn:bT s.data.toList 0=n at *;have HN0:=xh hn;clear hn;go_enter func169,ntmps169;go_wp2_with fail;refine KC.o.mono ?_;rintro e w1 ⟨rfl,aJ⟩;have aJ:=xh aJ;go_wp2_with fail;refine(KL.o _).mono ?_;rintro e w3 ⟨v,rfl,S,cZ,fr⟩;obtain⟨A,c,rfl⟩:=ao S;have S:=xh S
  have O3:=xh (au aJ.o cZ);have FR:=xh (show ∀x∈ah (.slice A n c),w.heap.size<=x from λx hx=>ay aJ.o.size (fr x hx));clear cZ fr KL aJ;go_wp2_with fail
  go_loopw [5,16] (λv iv wr=> ∃k:Nat,k<=n/\iv=.int .i64 k/\aK wr 9 1 v k (strs ((cI s.data.toList).take k))/\aK wr 271 2 (.slice A n c) n (sc (bE s.data.toList))/\Below w.heap.size w wr/\Hid (∀g∈ah v,w.heap.size<=g)) (λ_ iv _=>n-(intOf iv).toNat)
  case atStart=>exact⟨0,bm _,rfl,by rw[iM];exact aK.nil _ _ _,S.o,O3.o,xh (by simp[ah])⟩
  case round=>
   obtain⟨k,hk,rfl,T,S,O,F⟩:=hrel;obtain⟨TA,tc,rfl⟩:=ao T
   by_cases h:k<n
   .obtain⟨g,cap,rest,hv,-,uR,-⟩:=S.form (by omega) (by omega);simp only[Value.slice.injEq,true_and]at hv;obtain⟨rfl,rfl⟩:=hv;have nS:k<(bE s.data.toList).length:=by rw[HN.o];exact h
    obtain⟨c0,c1⟩:=oH S k nS;rw[HG.o k nS]at c0 c1;have hf:=HF.o k h;have KR:=xh (λw'=>JR s (slot s.data.toList k) w' (by omega) hs);have HTk:=xh (HT.o k (HN0.o▸h));generalize slot s.data.toList k=x at *;obtain⟨x0,x1⟩:=x;simp only at hf c0 c1 KR;have O8:=xh (((Below.refl wr.heap.size wr).alloc (aj _) (.cells #[.int .i64 x0,.int .i64 x1] 271)));have OO:=xh O;have SS:=xh S;have TT:=xh T;clear S T O;go_wp2_with fail
    refine(KR.o _).mono ?_;rintro e w4 ⟨rfl,eM⟩;have eM:=au O8.o eM;have T4:=TT.o.below eM;have S4:=SS.o.below eM;have O4:=xh (au OO.o eM);generalize k9 s.data.toList (x0,x1)=r at *;obtain⟨v',w5,ea,T5,o5,F5⟩:=cU (P:=prog) T4 123 123 (.string .empty) 16 underlying123 wh rfl (.string ⟨r.toArray⟩) rfl (by unfold maxLen;omega) (by omega);rw[Ca,<-HTk.o]at T5;have S5:=xh (S4.only o5 (cC S4 T4 (by decide)))
    have F6:=xh (show ∀g∈ah v',w.heap.size<=g from λg hg=>(F5 g hg).elim (F.o g) (λh=>ay O4.o.size h));have O5:=xh (O4.o.trans (o5.aO O4.o.size F.o));obtain⟨VA,vc,rfl⟩:=ao T5;have T5:=xh T5;clear eM T4 S4 o5 F5 SS TT OO;go_wp2_with fail;go_roundw
    case rel=>exact⟨k+1,by omega,by go_num,T5.o,S5.o,O5.o,F6⟩
    case measure=>simp[intOf];omega
   .have AH:=xh (show k=n by omega);have OO:=xh O;have TT:=xh T;clear S O T;go_wp2_with fail;go_ret2;refine⟨_,by rw[HC.o];rfl,OO.o,F.o,.inl ⟨HC.o,?_⟩⟩;have h1:=TT.o
    cases AH.o
    rw[HA.o]at h1;rw[HN0.o];exact h1
 .have HC:=xh h;have hb:(bX s.data.toList==0)=false:=by simpa using h
  clear h;generalize hq:bX s.data.toList=q at *;have HQ:=xh hq;clear hq;go_enter func169,ntmps169;go_wp2_with fail;refine KC.o.mono ?_;rintro e w1 ⟨rfl,aJ⟩;have aJ:=xh aJ;go_wp2_with fail;go_ret2;exact⟨_,by rw[HQ.o];rfl,aJ.o,by simp[ah],.inr ⟨by rw[HQ.o];exact HC.o,rfl⟩⟩
end Sl
namespace Sl
open Go.RowKit
variable{w w':World}{v:Value}{n:Nat}{l:List Slot}{F:List UInt8}
def sq(w:World)(v:Value)(l:List Slot):Prop:=
 ∃A c,v=.slice A l.length c/\(0<l.length->∃g cs,A=some ⟨g,0,none⟩/\aE w g 271 cs/\∀(j:Nat) (u:Value),(sc l)[j]?=some u->cs[j]?=some u)
theorem sq.of(S:aK w 271 2 v n (sc l)):sq w v l:=by
 have hl:=S.1;rw[jz]at hl;obtain rfl:n=l.length:=by omega
 obtain⟨A,c,rfl⟩:=ao S;refine⟨A,c,rfl,λh=>?_⟩;obtain⟨g,cap,rest,hv,B,_,_⟩:=S.form h (by omega);simp only[Value.slice.injEq,true_and]at hv;obtain⟨rfl,rfl⟩:=hv;exact⟨g,_,rfl,B,λj u hu=>by rw[cM,bD (aX.1 hu).1];exact hu⟩
theorem sq.only{S:List Nat}(h:sq w v l)(ho:ag S w w')(hd:∀g cs,aE w g 271 cs->g∉S):sq w' v l:=by
 obtain⟨A,c,rfl,h⟩:=h;refine⟨A,c,rfl,λhl=>?_⟩;obtain⟨g,cs,rfl,B,hc⟩:=h hl;exact⟨g,cs,rfl,B.only ho (hd g cs B),hc⟩
theorem sq.below(h:sq w v l)(hb:Below w.heap.size w w'):sq w' v l:=h.only (S:=[]) (.ai hb) (by simp)
theorem NW(B:mN w v F):∀g cs,aE w g 271 cs->g∉ah v:=by
 intro g cs hg hm;obtain⟨_,B'⟩:=uT B g hm;exact hg.lI B' (by decide) rfl
theorem sq.cells{A:Option Addr}{c:Nat}(h:sq w (.slice A n c) l)(k:Nat)(hk:k<l.length):∃g,A=some ⟨g,0,none⟩/\w.cell? ⟨g,k*2,none⟩=some (.int .i64 l[k].1)/\w.cell? ⟨g,k*2+1,none⟩=some (.int .i64 l[k].2):=by
 obtain⟨A',c',hv,h⟩:=h;simp only[Value.slice.injEq]at hv;obtain⟨rfl,rfl,rfl⟩:=hv;obtain⟨g,cs,rfl,B,hc⟩:=h (by omega);obtain⟨h0,h1⟩:=Sn l k hk;exact⟨g,rfl,B.ab (hc _ _ h0),B.ab (hc _ _ h1)⟩
theorem yY{vb vl:Value}(B:mN w vb F)(S:sq w vl l)(heap:Int)(hF:F.length=232)(hl:4+4*l.length<=232)(hh0:0<=heap)(hh:heap<65536)(hx:∀x∈l,x.1<65536/\x.2<65536):
  Calls prog 212 #[vb,vl,.int .i64 heap] w λe w'=>e=.returned (.string ⟨(j7 F l heap.toNat).toArray⟩)/\ag (ah vb) w w':=by
 obtain⟨h,rfl⟩:=dL hh0;rw[gv];obtain⟨A,c,rfl,-⟩:=id S;have SS:=xh S;have Na:=xh (kI F l h);have HX:=xh (show ∀k (hk:k<l.length),l[k].1<65536/\l[k].2<65536 from λk hk=>hx _ (j9 hk));have HST:=xh (show ∀k (hk:k<l.length),gD F l h (k+1)=l9 (l9 (gD F l h k) (4+4*k) l[k].1) (6+4*k) l[k].2 from λk hk=>by
  rw[gD];simp[List.getD,aT hk])
 have H0:=xh (show gD F l h 0=l9 (l9 F 0 l.length) 2 h from rfl);have HW:=xh (show j7 F l h=gD F l h l.length from rfl);have K0:=xh (jg B 0 l.length (by omega) (by omega) (by omega) (by omega) (by omega));have AP:=xh (λ(w':World) (F':List UInt8) (B':mN w' vb F')=>NW B');have BB:=xh B;have HFF:=xh hF;clear S B hx hF;go_enter func212,ntmps212;go_wp2_with fail;refine K0.o.mono ?_;rintro e w1 ⟨rfl,B1,o1⟩
 have S1:=xh (SS.o.only o1 (AP.o _ _ BB.o));have O1:=xh o1;have K2:=xh (jg B1 2 h (by omega) (by rw[eC,HFF.o];omega) (by rw[eC,HFF.o];omega) (by omega) (by omega));have BB1:=xh B1;clear B1 o1 K0 SS;go_wp2_with fail;refine K2.o.mono ?_;rintro e w2 ⟨rfl,B2,o2⟩;have S2:=xh (S1.o.only o2 (AP.o _ _ BB1.o));have O2:=xh (O1.o.trans o2)
 rw[show(2:Int).toNat=2 from rfl,show(0:Int).toNat=0 from rfl,gv,gv,<-H0.o]at B2;have BB2:=xh B2;clear B2 o2 K2 O1 S1 BB1;go_wp2_with fail
 go_loopw [18] (λiv wr=> ∃k:Nat,k<=l.length/\iv=.int .i64 k/\mN wr vb (gD F l h k)/\sq wr (.slice A l.length c) l/\ag (ah vb) w wr) (λiv _=>l.length-(intOf iv).toNat)
 case atStart=>exact⟨0,bm _,rfl,BB2.o,S2.o,O2.o⟩
 case round=>
  obtain⟨k,hk,rfl,B,S,O⟩:=hrel
  by_cases nS:k<l.length
  .obtain⟨g,rfl,c0,c1⟩:=S.cells k nS;have hx:=HX.o k nS;have HSTk:=xh (HST.o k nS);have hkl2:(k:Int)<(l.length:Int):=by omega
   generalize l[k]=x at *;obtain⟨x0,x1⟩:=x;simp only at hx c0 c1 HSTk;have b8:=(Below.refl wr.heap.size wr).alloc (aj _) (.cells #[.int .i64 x0,.int .i64 x1] 271);have B8:=xh (B.below b8);have S8:=xh (S.below b8);have O8:=xh (O.trans (.ai b8));have Z8:=xh (aE.new wr 271 #[.int .i64 x0,.int .i64 x1]);have K3:=xh (jg B8.o (4+4*k) x0 (by omega) (by rw[Na.o,HFF.o];omega) (by rw[Na.o,HFF.o];omega) (by omega) (by omega));clear b8 B S O
   go_wp2_with fail;generalize wr.alloc (.cells #[.int .i64 x0,.int .i64 x1] 271)=W at *;generalize wr.heap.size=z at *;refine K3.o.mono ?_;rintro e w3 ⟨rfl,B3,o3⟩;have S3:=xh (S8.o.only o3 (AP.o _ _ B8.o));have O3:=xh (O8.o.trans o3);have Z3:=xh (Z8.o.only o3 (AP.o _ _ B8.o _ _ Z8.o));have z1:=Z3.o.ab (i:=1) rfl
   have K4:=xh (jg B3 (4+4*k+2) x1 (by omega) (by rw[eC,Na.o,HFF.o];omega) (by rw[eC,Na.o,HFF.o];omega) (by omega) (by omega));have B3:=xh B3;clear o3 K3 B8 S8 O8 Z8 c0 c1;go_wp2_with fail;refine K4.o.mono ?_;rintro e w4 ⟨rfl,B4,o4⟩;have S4:=xh (S3.o.only o4 (AP.o _ _ B3.o));have O4:=xh (O3.o.trans o4)
   rw[show(4+4*(k:Int)).toNat=4+4*k by omega,show(4+4*(k:Int)+2).toNat=6+4*k by omega,gv,gv,<-HSTk.o]at B4;have B4:=xh B4;clear o4 K4 S3 O3 Z3 z1;go_wp2_with fail;go_roundw
   case rel=>exact⟨k+1,by omega,by go_num,B4.o,S4.o,O4.o⟩
   case measure=>simp[intOf];omega
  .have AH:=xh (show k=l.length by omega);have KS:=xh (B.string (by rw[Na.o,HFF.o];omega));have OO:=xh O;clear B S O;go_wp2_with fail;rw[KS.o];go_wp2_with fail;go_ret;refine⟨?_,OO.o⟩;rw[HW.o,<-AH.o];rfl
attribute [local go_sem ↓] bq
variable{l:List Value}{w:World}{g n:Nat}{F b:List UInt8}{v:Value}
theorem oe:(prog.info? 5).map (·.size)=some 1:=by kernel_rfl
theorem LH(F:List UInt8)(o:Nat):lay F o []=F:=by simp[lay]
theorem JS{r c:List Value}{o:Nat}(h:o+c.length<=l.length):putAt (l++r) o c=putAt l o c++r:=by
 unfold putAt;rw[qz (by omega),C9 h];simp
theorem pQ{cap:Nat}(B:mN w (.slice (some ⟨g,0,none⟩) F.length cap) F)(o oa ye:Nat)(s:ByteArray)(ho:o+s.size<=F.length)(hoa:oa=o\/(s.size=0/\oa<=F.length))(tm:Nat)(hd:tm=F.length-o):
  ∃w',(Builtin.copy_ #[150,9] 3 #[.slice (some ⟨g,oa,none⟩) tm ye,.string s]).run prog w=.ok (goInt s.size) w'/\mN w' (.slice (some ⟨g,0,none⟩) F.length cap) (lay F o s.data.toList)/\ag [g] w w':=by
 obtain⟨rest,BB,hc,_,hm⟩:=aK.rp B;have hl:(dh F).length=F.length:=jk F;have AK:s.data.toList.length=s.size:=by simp
 obtain⟨w',e,B',o'⟩:=mL (P:=prog) BB 150 9 3 5 oa tm ye s s.size underlying150 oe (by rw[hd];exact(xr (by omega)).symm) (by simp;omega);refine⟨w',e,?_,o'⟩;rw[bY (by omega),JS (by simp;omega),tw]at B';have el:lay F oa s.data.toList=lay F o s.data.toList:=by
  rcases hoa with rfl|⟨h0,_⟩
  .rfl
  .have:s.data.toList=[]:=nW (by omega);rw[this,LH,LH]
 rw[el]at B';have oU:(lay F o s.data.toList).length=F.length:=iz (by omega);unfold mN;rw[oU];exact⟨by simp[oU],.inr ⟨g,cap,rest,rfl,B',by simp[oU];simpa using hc,hm⟩⟩
theorem Gh{l:List Slot}(S:aK w 271 2 v n (sc l))(a b:Nat)(hn:n<=1000000):
  ∃v' w',df prog 266 266 (w.alloc (.cells #[.int .i64 a,.int .i64 b] 271)) v (.slice (some ⟨w.heap.size,0,none⟩) 1 1)= .ok v' w'/\aK w' 271 2 v' (n+1) (sc (l++[(a,b)]))/\ag (ah v) w w'/\(∀g∈ah v',g∈ah v\/w.heap.size<=g):=by
 obtain⟨i0,hi,ke,iX,jF⟩:=info_parts uQ;obtain⟨v',w',ea,S',O',F'⟩:=di (P:=prog) (S.alloc (.cells #[.int .i64 a,.int .i64 b] 271)) 266 266 i0 (.agg #[.int .i64 0,.int .i64 0]) 16 underlying266 hi ke iX jF rfl (by omega)
  ⟨w.heap.size,0,none⟩ 1 1 [.int .i64 a,.int .i64 b] rfl (bn (l:=[_,_]) (aE.new _ _ _) 0 _ (by simp)) (by intro u hu;simp at hu;rcases hu with rfl|rfl<;>rfl) (by unfold maxLen;omega) (by omega)
 rw[show sc l++[.int .i64 (a:Int),.int .i64 (b:Int)]=sc (l++[(a,b)])from by rw[nC];rfl]at S';exact⟨v',w',ea,S',((ag.refl _ _).alloc _).aN O' (λx hx _=>hx),λg hg=>(F' g hg).imp id (λh=>by simp at h;omega)⟩
theorem tO{c:Nat}{e:TypeId}{size m:Nat}(h:aK w e size v m l)(B:mN w (.slice (some ⟨g,0,none⟩) n c) F)(eV:e≠5):∀x∈ah v,x∉[g]:=by
 have:=cC h B eV;simpa [ah]using this
def fq(b:List UInt8)(k:Nat):ru:=((cI b).take k).foldl ru.add BV
theorem Gj(b:List UInt8)(k:Nat)(h:k<bT b 0):fq b (k+1)=(fq b k).add (k9 b (slot b k)):=by
 unfold fq;rw[uU b k h,List.foldl_append];rfl
theorem yZ(b:List UInt8):fq b (bT b 0)=rE (cI b):=by
 unfold fq rE;rw[bY (by rw[cE];exact aj _)]
theorem wi(l:List Nat):∀k,(l.take k).sum<=l.sum:=by
 induction l with
 |nil=>intro k;simp
 |cons x l ih=>
  intro k
  cases k with
  |zero=>simp
  |succ k=>simp only[mJ,kC];have:=ih k;omega
theorem uV(h:Sound b)(k:Nat):(fq b k).Ok ((cI b).take k):=by
 refine yW _ ?_;rw[mH];have:=wi ((cI b).map List.length) k;have:=h.sum;omega
theorem Gk(h:Sound b)(k:Nat)(hk:k<bT b 0):(k9 b (slot b k)).length<=(fq b k).heap:=by
 have h1:=(uV h k).heap;have h2:=(uV h (k+1)).heap;rw[uU b k hk,cW,xq]at h2;simp only[eh,mG,kC,List.sum_nil]at h2;omega
def kQ(b:List UInt8):List UInt8×Int:=if bX b=0 then(gm b,0)else([],bX b)
theorem Gl(s:ByteArray)(w:World)(hs:s.size<=1000000):
  Calls prog 211 #[.string s] w λe w'=>e=.returned (.tuple #[.string ⟨(kQ s.data.toList).1.toArray⟩,.int .i64 (kQ s.data.toList).2])/\Below w.heap.size w w':=by
 have KA:=xh (mQ s w hs)
 by_cases h:bX s.data.toList=0
 .have hS:=(eu _).1 h;have e1:kQ s.data.toList=(gm s.data.toList,0):=by unfold kQ;rw[if_pos h]
  rw[e1];clear e1;have Nh:s.size=232:=by have:=hS.len;simpa using this
  have h4:=hS.head;have h5:=hS.heap;have HC:=xh h;have hlist:(cI s.data.toList).length=bT s.data.toList 0:=cE _;have HGET:=xh (show ∀k,k<bT s.data.toList 0->(strs (cI s.data.toList))[k]?=some (.string ⟨(k9 s.data.toList (slot s.data.toList k)).toArray⟩)from λk hk=>by
   simp[strs,cI,bE,hk])
  have HSU:=xh (Gj s.data.toList);have Bo:=xh (λk=>uV hS k);have HRM:=xh (λk hk=>Gk hS k hk);have HCF:=xh (show gm s.data.toList=j7 (fq s.data.toList (bT s.data.toList 0)).o (fq s.data.toList (bT s.data.toList 0)).to (fq s.data.toList (bT s.data.toList 0)).heap from by rw[yZ];rfl);have HLA:=xh hS.comp;have HAL:=xh (yZ s.data.toList)
  have H0:=xh (show fq s.data.toList 0=BV from rfl);clear h hS hlist Nh;generalize hn:bT s.data.toList 0=n at *;have HN0:=xh hn;clear hn;have hmk:Hid (∀w':World,(Instr.makeSlice 150 (.int .i64 232) (.int .i64 232)).run prog w'= .ok (.slice (some ⟨w'.heap.size,0,none⟩) 232 232) (w'.alloc (.cells (dh (List.replicate 232 0)).toArray 5))):=xh (λw':World=>oh 232 (by omega) w');have HZ:=xh (show BV=⟨List.replicate 232 0,[],232⟩from rfl)
  have HZL:=xh (show(List.replicate 232 (0:UInt8)).length=232 from fi);generalize List.replicate 232 (0:UInt8)=Z at *;go_enter func211,ntmps211;go_wp2_with fail;refine KA.o.mono ?_;rintro e w1 ⟨v,rfl,aJ,fr,hv⟩
  rcases hv with⟨-,T⟩|⟨eV,-⟩
  .rw[HC.o];rw[HN0.o]at T;obtain⟨A,c,rfl⟩:=ao T;have hm:=hmk.o;have B0:=xh (mN.new w1 Z (by rw[HZL.o];unfold maxLen;omega));rw[HZL.o]at B0;have b0:=(Below.refl w1.heap.size w1).alloc (aj _) (.cells (dh Z).toArray 5);have T0:=xh (T.below b0);have O0:=xh (au aJ b0);have hg:=aJ.size;clear b0 T aJ fr hmk KA;go_wp2_with fail;generalize w1.alloc (.cells (dh Z).toArray 5)=W at *;generalize w1.heap.size=g at *;clear hm
   go_loopw [7,8,22] (λv hv iv wr=> ∃k:Nat,k<=n/\iv=.int .i64 k/\hv=.int .i64 (fq s.data.toList k).heap/\mN wr (.slice (some ⟨g,0,none⟩) 232 232) (fq s.data.toList k).o/\aK wr 271 2 v k (sc (fq s.data.toList k).to)/\aK wr 9 1 (.slice A n c) n (strs (cI s.data.toList))/\Below w.heap.size w wr/\Hid (∀g∈ah v,w.heap.size<=g)) (λ_ _ iv _=>n-(intOf iv).toNat)
   case atStart=>exact⟨0,bm _,rfl,by rw[H0.o];rfl,by rw[H0.o,HZ.o];exact B0.o,by rw[H0.o];exact aK.nil _ _ _,T0.o,O0.o,xh (by simp[ah])⟩
   case round=>
    obtain⟨k,hk,rfl,rfl,B,S,T,O,F⟩:=hrel;obtain⟨SA,cS,rfl⟩:=ao S;have AQ:=(Bo.o k).len;have hsum:=(Bo.o k).heap
    by_cases h:k<n
    .obtain⟨gT,cT,restT,hv,BT,uR,-⟩:=T.form (by omega) (by omega);simp only[Value.slice.injEq,true_and]at hv;obtain⟨rfl,rfl⟩:=hv;have ck:wr.cell? ⟨gT,k,none⟩=some (.string ⟨(k9 s.data.toList (slot s.data.toList k)).toArray⟩):=BT.ab (by
      have h1:=HGET.o k h;rw[cM,bD (aX.1 h1).1];exact h1)
     have hrm:=HRM.o k h;have HS:=xh (HSU.o k h);have TT:=xh T;have OO:=xh O;have SS:=xh S;clear T O S BT;generalize k9 s.data.toList (slot s.data.toList k)=r at *;have HCk:=xh (show fq s.data.toList (k+1)=⟨lay (fq s.data.toList k).o ((fq s.data.toList k).heap-r.length) r,(fq s.data.toList k).to++[((fq s.data.toList k).heap-r.length,r.length)],(fq s.data.toList k).heap-r.length⟩from HS.o);generalize fq s.data.toList k=C at *
     obtain⟨out,to,heap⟩:=C;simp only at hrm B HCk SS AQ hsum;have hhp:heap<=232:=by omega
     clear hsum;obtain⟨R,rfl⟩:∃R:ByteArray,R.data.toList=r:=⟨⟨r.toArray⟩,by simp⟩;have bC:(⟨R.data.toList.toArray⟩:ByteArray)=R:=by simp
     have hRl:R.data.toList.length=R.size:=by simp
     rw[bC]at ck;rw[hRl]at hrm HCk;obtain⟨h',rfl⟩:∃h',heap=h'+R.size:=⟨heap-R.size,by omega⟩;rw[td]at HCk;have HB:=xh B;rw[<-AQ]at B;have KCP:=xh (λ(oa:Nat) (hoa:oa=h'\/(R.size=0/\oa<=232)) (ye:Nat)=>pQ B h' oa ye R (by omega) (by rw[AQ];exact hoa) (232-h') (by omega));rw[AQ]at KCP;clear B AQ bC hRl HS;have NS:=xh (tO SS.o HB.o (by decide));have NT:=xh (tO TT.o HB.o (by decide))
     have KX:=xh (show ∃(oa dc:Nat) (w5:World),((h'=232/\oa=0/\dc=0)\/(h'≠232/\oa=h'/\dc=232-h'))/\(Builtin.copy_ #[150,9] 3 #[.slice (some ⟨g,oa,none⟩) (232-h') dc,.string R]).run prog wr=.ok (goInt R.size) w5/\mN w5 (.slice (some ⟨g,0,none⟩) 232 232) (lay out h' R.data.toList)/\ag [g] wr w5 from by
      by_cases hz:h'=232
      .obtain⟨w5,h1,h2,h3⟩:=KCP.o 0 (.inr ⟨by omega,by omega⟩) 0;exact⟨0,0,w5,.inl ⟨hz,rfl,rfl⟩,h1,h2,h3⟩
      .obtain⟨w5,h1,h2,h3⟩:=KCP.o h' (.inl rfl) (232-h');exact⟨h',232-h',w5,.inr ⟨hz,rfl,rfl⟩,h1,h2,h3⟩)
     obtain⟨oa,dc,w5,hoa,cp,B5,o5⟩:=KX.o;have S5:=SS.o.only o5 NS.o;have T5:=TT.o.only o5 NT.o;have O5:=xh (OO.o.trans (o5.aO OO.o.size (by simp;exact hg)));obtain⟨v6,w6,ea,S6,o6,F6⟩:=Gh S5 h' R.size (by omega);obtain⟨VA,vc,rfl⟩:=ao S6;have B6:=xh (B5.only o6 (λx hx hx'=>cC S5 B5 (by decide) x hx' hx));have T6:=xh (T5.only o6 (cC T5 S5 (by decide)));have O6:=xh (O5.o.trans (o6.aO O5.o.size F.o))
     have F7:=xh (show ∀g∈ah (.slice VA (k+1) vc),w.heap.size<=g from λg hg=>(F6 g hg).elim (F.o g) (λh=>ay O5.o.size h));have S6:=xh S6;clear KX B5 o5 S5 T5 o6 F6 KCP NS NT HB
     rcases hoa with⟨rfl,rfl,rfl⟩|⟨hz,rfl,rfl⟩
     all_goals
      try simp only[show((232:Nat):Int)=232 from rfl]at ea
      go_wp2_with fail;go_roundw
      case rel=>exact⟨k+1,by omega,by go_num,by rw[HCk.o]<;>rfl,by rw[HCk.o];exact B6.o,by rw[HCk.o];exact S6.o,T6.o,O6.o,F7⟩
      case measure=>simp[intOf];omega
    .have AH:=xh (show k=n by omega);obtain rfl:k=n:=AH.o;have HL:=xh HLA.o;have HTL:=xh (Bo.o k).Sm;rw[<-HAL.o]at HL;have KW:=xh (yY B (sq.of S) (fq s.data.toList k).heap AQ (by have h1:=HL.o.head;have h2:=HL.o.hh;omega) (by omega) (by have:=HL.o.hh;omega) HL.o.small);rw[gv,<-HCF.o]at KW;have NX:=hg;have OO:=xh O;have hlt2:(fq s.data.toList k).heap<=232:=HL.o.hh;clear B S T O HL
     generalize fq s.data.toList k=C at *;go_wp2_with fail;refine KW.o.mono ?_;rintro e w5 ⟨rfl,o5⟩;have O6:=xh (OO.o.trans (o5.aO OO.o.size (by simpa [ah]using NX)));clear o5;go_wp2_with fail;go_ret2;exact⟨rfl,O6.o⟩
  .exact absurd HC.o eV
 .have HC:=xh h;have hb:(bX s.data.toList==0)=false:=by simpa using h
  have e1:kQ s.data.toList=([],bX s.data.toList):=by unfold kQ;rw[if_neg h]
  rw[e1];clear h e1;unfold lB at KA;generalize bX s.data.toList=q at *;go_enter func211,ntmps211;go_wp2_with fail;refine KA.o.mono ?_;rintro e w1 ⟨v,rfl,aJ,fr,hv⟩
  rcases hv with⟨h0,-⟩|⟨-,rfl⟩
  .exact absurd h0 HC.o
  .have O:=xh aJ;clear aJ fr;go_wp2_with fail;go_ret2;exact⟨rfl,O.o⟩
variable{w:World}{A:Option Addr}{n c:Nat}{l:List Slot}
theorem lj:∃i:TypeInfo,prog.info? 271=some i/\i.zero=some (.agg #[.int .i64 0,.int .i64 0])/\i.size=2/\i.bytes=16:=info_parts uQ
theorem Ss{cc:Nat}(h:n<=c):df prog 266 266 w (.slice A n c) (.slice none 0 cc)= .ok (.slice A n c) w:=by
 obtain⟨i0,E9,ke,iX,jF⟩:=lj;unfold df
 cases A with
 |none=>simp[Builtin.append_,run_underlying underlying266,sizeOf,typeInfo,E9,Builtin.lenOf,Builtin.firstCells,xx.2 h,h]
 |some a=>simp[Builtin.append_,run_underlying underlying266,sizeOf,typeInfo,E9,Builtin.lenOf,Builtin.firstCells,h,storeCells]
theorem Gm(l:List Slot)(i:Nat):sc l=sc (l.take i)++sc (l.drop i):=by rw[<-nC,mI]
theorem Gn(S:aK w 271 2 (.slice A n c) n (sc l))(i:Nat)(hi:i<=n)(hn:n<=1000000)(a:Addr)(cc:Nat)(lx:List Slot)(hm0:0<lx.length)(hm1:lx.length<=1000000)(hx:∀j u,(sc lx)[j]?=some u->w.cell? (a.add j)=some u):
  ∃v' w',df prog 266 266 w (.slice A i i) (.slice (some a) lx.length cc)= .ok v' w'/\aK w' 271 2 v' (i+lx.length) (sc (l.take i++lx))/\Below w.heap.size w w'/\(∀g∈ah v',w.heap.size<=g):=by
 obtain⟨i0,E9,ke,iX,jF⟩:=lj;have hl:=S.1;rw[jz]at hl;have NY:(sc lx).length=lx.length*2:=by rw[jz];omega
 rcases S.2 with⟨hv,h0⟩|⟨g,cap,rest,hv,B,hc,_⟩
 .simp only[Value.slice.injEq]at hv;obtain⟨rfl,-,rfl⟩:=hv;subst h0;obtain rfl:i=0:=by omega
  obtain⟨v',w',e,S',o,F⟩:=di (P:=prog) (aK.nil w 271 2) 266 266 i0 (.agg #[.int .i64 0,.int .i64 0]) 16 underlying266 E9 ke iX jF rfl (by omega) a lx.length cc (sc lx) NY hx (Sp lx) (by unfold maxLen;omega) (by omega);exact⟨v',w',e,by rw[iM,cX];simpa using S',o.below (by simp[ah]),λx hx=>(F x hx).elim (by simp[ah]) id⟩
 .simp only[Value.slice.injEq]at hv;obtain⟨rfl,-,rfl⟩:=hv;have hli:(sc (l.take i)).length=i*2:=by rw[jz,bK];omega
  obtain⟨v',w',Du,h2,h3⟩:=run_append_arg_grows (P:=prog) w 266 266 271 i0 (.agg #[.int .i64 0,.int .i64 0]) 2 16 underlying266 E9 ke iX jF rfl (by omega) ⟨g,0,none⟩ i i (sc (l.take i)) hli
   (bn B 0 _ (by
    intro j u hu;rw[bh];have hj:j<(sc (l.take i)).length:=(aX.1 hu).1;rw[Gm l i,cL,bD hj];exact hu)) a lx.length cc (sc lx) NY hx (by omega) (by unfold maxLen;omega) (by omega)
  rw[<-nC]at h2;refine⟨v',w',Du,.yf h2,((ag.refl [] w).grown h3 (by simp)).dW,?_⟩;intro g' hg
  rcases h2.2 with⟨rfl,_⟩|⟨g'',Ds,cur,rfl,hb,_⟩
  .simp[ah]at hg
  .simp[ah]at hg;subst hg;exact hb
theorem y7(S:aK w 271 2 (.slice A n c) n (sc l))(i:Nat)(hi:i<=n)(hn:n<=1000000)(a b:Nat):
  ∃v' w',df prog 266 266 (w.alloc (.cells #[.int .i64 a,.int .i64 b] 271)) (.slice A i i) (.slice (some ⟨w.heap.size,0,none⟩) 1 1)= .ok v' w'/\aK w' 271 2 v' (i+1) (sc (l.take i++[(a,b)]))/\Below w.heap.size w w'/\(∀g∈ah v',w.heap.size<=g):=by
 have b0:=(Below.refl w.heap.size w).alloc (aj _) (.cells #[.int .i64 (a:Int),.int .i64 (b:Int)] 271);obtain⟨v',w',e,S',o,F⟩:=Gn (S.below b0) i hi hn ⟨w.heap.size,0,none⟩ 1 [(a,b)] (by simp) (by simp) (bn (l:=[.int .i64 (a:Int),.int .i64 (b:Int)]) (aE.new _ _ _) 0 _ (by intro j u hu;rw[bh];exact hu));exact⟨v',w',e,S',au b0 o,λg hg=>ay (by simp) (F g hg)⟩
theorem wj{vt:Value}{m:Nat}{lt:List Slot}(T:aK w 271 2 vt m (sc lt))(S:aK w 271 2 (.slice A n c) n (sc l))(i:Nat)(hi:i<=n)(hn:n<=1000000)(hm:m<=1000000)(hmp:0<m):
  ∃A' cc v' w',((A=none/\n=0/\i=0/\c=0/\A'=none/\cc=0)\/(∃g,A=some ⟨g,0,none⟩/\c=i/\n=i/\A'=some ⟨g,0,none⟩/\cc=0)\/(∃g,A=some ⟨g,0,none⟩/\c≠i/\i<c/\n<=c/\A'=some ⟨g,i*2,none⟩/\cc=c-i))/\
   df prog 266 266 w vt (.slice A' (n-i) cc)= .ok v' w'/\aK w' 271 2 v' (m+(n-i)) (sc (lt++l.drop i))/\ag (ah vt) w w'/\(∀g∈ah v',g∈ah vt\/w.heap.size<=g):=by
 obtain⟨i0,E9,ke,iX,jF⟩:=lj;have hl:=S.1;rw[jz]at hl
 rcases S.2 with⟨hv,h0⟩|⟨g,cap,rest,hv,B,hc,_⟩
 .simp only[Value.slice.injEq]at hv;obtain⟨rfl,-,rfl⟩:=hv;subst h0;obtain rfl:i=0:=by omega
  have Nf:l=[]:=nW (by omega);subst Nf;obtain⟨g,cap,rest,rfl,_,uR,_⟩:=T.form hmp (by omega);exact⟨none,0,_,w,.inl ⟨rfl,rfl,rfl,rfl,rfl,rfl⟩,Ss uR,by simpa using T,ag.refl _ _,λx hx=> .inl hx⟩
 .simp only[Value.slice.injEq]at hv;obtain⟨rfl,-,rfl⟩:=hv;have Ic:n<=c:=by
   have:=S.1;omega
  have hdl:(sc (l.drop i)).length=(n-i)*2:=by rw[jz,de];omega
  have hcells:∀(o:Nat),o=i*2\/n-i=0->∀j u,(sc (l.drop i))[j]?=some u->w.cell? ((⟨g,o,none⟩:Addr).add j)=some u:=λo ho=>bn B o _ (by
   intro j u hu;have hj:j<(sc (l.drop i)).length:=(aX.1 hu).1
   rcases ho with rfl|h0
   .have hti:(sc (l.take i)).length=i*2:=by rw[jz,bK];omega
    rw[Gm l i,cL,dE (by omega),hti,Nat.add_sub_cancel_left,bD hj];exact hu
   .omega)
  have key:∀(o cc:Nat),o=i*2\/n-i=0->∃v' w',df prog 266 266 w vt (.slice (some ⟨g,o,none⟩) (n-i) cc)= .ok v' w'/\aK w' 271 2 v' (m+(n-i)) (sc (lt++l.drop i))/\ag (ah vt) w w'/\(∀g∈ah v',g∈ah vt\/w.heap.size<=g):=by
   intro o cc ho;obtain⟨v',w',e,S',o',F⟩:=di (P:=prog) T 266 266 i0 (.agg #[.int .i64 0,.int .i64 0]) 16 underlying266 E9 ke iX jF rfl (by omega) ⟨g,o,none⟩ (n-i) cc (sc (l.drop i)) hdl (hcells o ho) (Sp _) (by unfold maxLen;omega) (by omega);rw[<-nC]at S';exact⟨v',w',e,S',o',F⟩
  by_cases hci:c=i
  .have hni:n=i:=by omega
   obtain⟨v',w',h1,h2,h3,h4⟩:=key 0 0 (.inr (by omega));exact⟨_,0,v',w',.inr (.inl ⟨g,rfl,hci,hni,rfl,rfl⟩),h1,h2,h3,h4⟩
  .obtain⟨v',w',h1,h2,h3,h4⟩:=key (i*2) (c-i) (.inl rfl);exact⟨_,c-i,v',w',.inr (.inr ⟨g,rfl,hci,by omega,Ic,rfl,rfl⟩),h1,h2,h3,h4⟩
variable{b r:List UInt8}
def tP(b:List UInt8)(i:Int)(r:List UInt8):List UInt8×Int:=
 if bX b=0 then(if 0<=i/\i<=(bT b 0:Int)then(if(r.length:Int)<=ic b-4 then(sj b i.toNat r,0)else([],11))else([],3))else([],bX b)
theorem Su(h:¬4+4*(bT b 0+1)+r.length>bT b 2):jy b r=b:=by unfold jy;rw[if_neg h]
theorem N1(h:4+4*(bT b 0+1)+r.length>bT b 2):jy b r=gm b:=by unfold jy;rw[if_pos h]
theorem rF(s:ByteArray)(w:World)(hs:s.size<=1000000):
  ∃cap w',(convert 9 150 (.string s)).run prog w=.ok (.slice (some ⟨w.heap.size,0,none⟩) s.size cap) w'/\mN w' (.slice (some ⟨w.heap.size,0,none⟩) s.size cap) s.data.toList/\Below w.heap.size w w':=by
 obtain⟨cap,w1,e1,S1,aJ⟩:=wS (P:=prog) w 9 150 5 s underlying9 underlying150 underlying5 (by unfold maxLen;omega);refine⟨cap,w1,e1,?_,aJ⟩;unfold mN;rw[show s.data.toList.length=s.size from by simp];exact S1
theorem Gp(h:Sound b)(i:Nat)(hr:(r.length:Int)<=ic b-4)(hi:i<=bT b 0):
  ∃t:List UInt8,t=jy b r/\Sound t/\bT t 0=bT b 0/\4+4*(bT b 0+1)+r.length<=bT t 2/\
   sj b i r=j7 (lay t (bT t 2-r.length) r) (((bE t).take i++[(bT t 2-r.length,r.length)])++(bE t).drop i) (bT t 2-r.length)/\
   Laid (lay t (bT t 2-r.length) r) (((bE t).take i++[(bT t 2-r.length,r.length)])++(bE t).drop i) (bT t 2-r.length):=by
 obtain⟨hs,he,h0,hh⟩:=h.base r hr;refine⟨_,rfl,hs,h0,hh,?_,?_⟩
 .unfold sj;simp
 .rw[cL];exact Laid.insert hs i r (by rw[h0];exact hh) (by rw[h0];exact hi)
theorem N4(s r:ByteArray)(i:Nat)(w:World)(hs:Sound s.data.toList)(hr:(r.size:Int)<=ic s.data.toList-4)(hi:i<=bT s.data.toList 0):
  Calls prog 164 #[.string s,.int .i64 i,.string r] w λe w'=>e=.returned (.tuple #[.string ⟨(sj s.data.toList i r.data.toList).toArray⟩,.int .i64 0])/\Below w.heap.size w w':=by
 have Nh:s.size=232:=by have:=hs.len;simpa using this
 have h4:=hs.head;have h5:=hs.heap;have N7:r.data.toList.length=r.size:=by simp
 obtain⟨t,ht,tS,t0,t2,hF,LJ⟩:=Gp hs i (r:=r.data.toList) (by rw[N7];exact hr) hi;rw[N7]at t2 hF LJ;rw[hF];have hc0:=(eu _).2 hs;have Rw:tN s.data.toList=ic s.data.toList:=by unfold tN;rw[if_pos hc0]
 have hrle:ic s.data.toList<=228:=by unfold ic;omega
 have KC:=xh (λw'=>qS s w' (by omega));have KL:=xh (λw'=>ma s w' (by omega) (by omega));have KR:=xh (λw'=>Gg s w' (by omega));have K2:=xh (λw'=>fo s 2 w' (by omega) (by omega) (by omega));have KM:=xh (λw'=>Gl s w' (by omega));have hcg:kQ s.data.toList=(gm s.data.toList,0):=by unfold kQ;rw[if_pos hc0]
 rw[hcg]at KM;rw[hc0]at KC;rw[Rw]at KR;simp only[show(2:Int).toNat=2 from rfl]at K2;obtain⟨T,rfl⟩:∃T:ByteArray,T.data.toList=t:=⟨⟨t.toArray⟩,by simp⟩;have Lm:T.size=232:=by have:=tS.len;simpa using this
 have tH:=tS.heap;have KLT:=xh (λw'=>ma T w' (by rw[t0];omega) (by omega));have K2T:=xh (λw'=>fo T 2 w' (by omega) (by omega) (by omega));simp only[show(2:Int).toNat=2 from rfl]at K2T;rw[t0]at KLT;have Fe:=xh (cJ T.data.toList);rw[t0]at Fe;obtain⟨h',hh'⟩:∃h',bT T.data.toList 2=h'+r.size:=⟨bT T.data.toList 2-r.size,by omega⟩;rw[hh',td]at LJ;rw[hh',td];rw[hh']at tH t2 K2T
 have ry:bT s.data.toList 0<65536:=yT _ _;have wk:=xh LJ;have HT:=xh ht;have HCB:=xh (show 4+4*(bT s.data.toList 0+1)+r.size>bT s.data.toList 2->(⟨(gm s.data.toList).toArray⟩:ByteArray)=T from λhg=>by
  rw[N1 (by rw[N7];exact hg)]at ht;rw[<-ht])
 have HCN:=xh (show ¬4+4*(bT s.data.toList 0+1)+r.size>bT s.data.toList 2->s=T from λhg=>by
  rw[Su (by rw[N7];exact hg)]at ht;apply iS;apply nh.1;exact ht.symm)
 have HTL:=xh Lm;have hTl1:T.size<=1000000:=by omega
 clear ht tS hF LJ hc0 Rw hcg Nh N7 hh' Lm t0 hs;generalize bT s.data.toList 0=n at *;generalize bT s.data.toList 2=heap at *;generalize ic s.data.toList=room at *;go_enter func164,ntmps164;go_wp2_with fail;refine(KC.o _).mono ?_;rintro e w1 ⟨rfl,aJ⟩;have O1:=xh aJ;clear aJ;go_wp2_with fail;refine(KL.o _).mono ?_;rintro e w2 ⟨v,rfl,S2,bS,Lx⟩;have O2:=xh (au O1.o bS);have hS2:=xh S2;obtain⟨A2,c2,rfl⟩:=ao S2
 have FR2:=xh (show ∀g∈ah (.slice A2 n c2),w.heap.size<=g from λg hg=>ay O1.o.size (Lx g hg));clear S2 bS Lx;go_wp2_with fail;refine(KR.o _).mono ?_;rintro e w3 ⟨rfl,cZ⟩;have O3:=xh (au O2.o cZ);have S3:=xh (hS2.o.below cZ);clear cZ hS2;go_wp2_with fail;refine(K2.o _).mono ?_;rintro e w4 ⟨rfl,eM⟩;have O4:=xh (au O3.o eM);have S4:=xh (S3.o.below eM);clear eM S3 O3 O2 O1
 by_cases hg:4+4*(n+1)+r.size>heap
 .have e1:=HCB.o hg;rw[e1]at KM;clear e1;have Cb:heap<4+4*(n+1)+r.size:=hg;clear hg HCB HCN;go_wp2_with fail;refine(KM.o _).mono ?_;rintro e w5 ⟨rfl,mD⟩;have O5:=xh (au O4.o mD);clear mD O4;go_wp2_with fail;refine(KLT.o _).mono ?_;rintro e w6 ⟨v,rfl,S6,xE,fr6⟩;have O6:=xh (au O5.o xE);obtain⟨A,c,rfl⟩:=ao S6;have S:=xh S6;have FR:=xh (show ∀g∈ah (.slice A n c),w.heap.size<=g from λg hg=>ay O5.o.size (fr6 g hg))
  clear S6 xE fr6 O5 S4;go_wp2_with fail;refine(K2T.o _).mono ?_;rintro e w7 ⟨rfl,wU⟩;have O7:=xh (au O6.o wU);have S7:=xh (S.o.below wU);clear wU S O6 Cb KM K2 KC KL KR K2T KLT;obtain⟨cap,w8,e8,B8,xF⟩:=rF T w7 (by omega);rw[HTL.o]at e8 B8;have E8:=xh e8;have O8:=xh (au O7.o xF);have S8:=S7.o.below xF;have hgw:=ay O7.o.size (aj w7.heap.size);have pR:T.data.toList.length=232:=by have:=HTL.o;simpa using this
  have NS:=xh (tO S8 B8 (by decide));have uR:232<=cap:=by obtain⟨rest,_,h2,_⟩:=aK.rp B8;rw[jk,pR]at h2;omega
  obtain⟨oa,dc,w9,hoa,cp,B9,o9⟩:∃(oa dc:Nat) (w9:World),((h'=232/\cap=232/\oa=0/\dc=0)\/(h'≠cap/\h'<cap/\oa=h'/\dc=cap-h'))/\(Builtin.copy_ #[150,9] 3 #[.slice (some ⟨w7.heap.size,oa,none⟩) (232-h') dc,.string r]).run prog w8=.ok (goInt r.size) w9/\mN w9 (.slice (some ⟨w7.heap.size,0,none⟩) 232 cap) (lay T.data.toList h' r.data.toList)/\ag [w7.heap.size] w8 w9:=by
   rw[<-pR]at B8
   by_cases hz:h'=cap
   .obtain⟨w9,h1,h2,h3⟩:=pQ B8 h' 0 0 r (by omega) (.inr ⟨by omega,by omega⟩) (232-h') (by omega);rw[pR]at h2;exact⟨0,0,w9,.inl ⟨by omega,by omega,rfl,rfl⟩,h1,h2,h3⟩
   .obtain⟨w9,h1,h2,h3⟩:=pQ B8 h' h' (cap-h') r (by omega) (.inl rfl) (232-h') (by omega);rw[pR]at h2;exact⟨h',cap-h',w9,.inr ⟨hz,by omega,rfl,rfl⟩,h1,h2,h3⟩
  have S9:=S8.only o9 NS.o;have O9:=xh (O8.o.trans (o9.aO O8.o.size (by simpa using hgw)));obtain⟨v10,jI,ea,T10,Eo,Sv⟩:=y7 S9 i hi (by omega) h' r.size;obtain⟨V10,c10,rfl⟩:=ao T10;have O10:=xh (au O9.o Eo);have B10:=B9.below Eo;have tQ:=S9.below Eo;obtain⟨A',cc,v11,N8,hd,eb,T11,o11,-⟩:=wj T10 tQ i hi (by omega) (by omega) (by omega);obtain⟨V11,c11,rfl⟩:=ao T11
  have B11:=B10.only o11 (λx hx hx'=>cC T10 B10 (by decide) x hx' hx);have rz:=xh (O10.o.trans (o11.aO O10.o.size (λx hx=>ay O9.o.size (Sv x hx))));have KW:=xh (yY B11 (sq.of T11) h' wk.o.len (by have h1:=wk.o.head;have h2:=wk.o.hh;omega) (by omega) (by omega) wk.o.small);rw[gv]at KW;have NX:=xh (show ∀x∈ah (.slice (some ⟨w7.heap.size,0,none⟩) 232 cap),w.heap.size<=x from by simpa [ah]using hgw)
  generalize Sw:j7 (lay T.data.toList h' r.data.toList) (List.take i (bE T.data.toList)++[(h',r.size)]++List.drop i (bE T.data.toList)) h'=RES at *;have Q4:=xh Sw;clear Sw;clear e8 B8 xF S8 NS B9 o9 S9 T10 Eo Sv B10 tQ T11 o11 B11 O7 S7 O8 O9 O10 pR;go_wp2_with fail;rw[E8.o]
  rcases hoa with⟨rfl,rfl,rfl,rfl⟩|⟨hz,jF,rfl,rfl⟩
  all_goals
   rcases hd with⟨rfl,rfl,rfl,rfl,rfl,rfl⟩|⟨gA,rfl,rfl,rfl,rfl,rfl⟩|⟨gA,rfl,hci,hci2,Ic,rfl,rfl⟩
  all_goals
   try simp only[show((232:Nat):Int)=232 from rfl,show((0:Nat):Int)=0 from rfl]at ea
   try simp only[eU,kE]at eb KW
   go_wp2_with fail;refine KW.o.mono ?_;rintro e Ep ⟨rfl,o12⟩;have uW:=xh (rz.o.trans (o12.aO rz.o.size NX.o));clear o12;go_wp2_with fail;go_ret2;refine⟨?_,uW.o⟩
   first|rfl|(rw[Q4.o];rfl)
 .have e1:=HCN.o hg;have Cb:4+4*(n+1)+r.size<=heap:=by omega
  clear hg HCB HCN;subst e1;have A2':=FR2;go_wp2_with fail;refine(K2T.o _).mono ?_;rintro e w7 ⟨rfl,wU⟩;have O7:=xh (au O4.o wU);have S7:=xh (S4.o.below wU);clear wU S4 O4 Cb KM K2 KC KL KR K2T KLT;obtain⟨cap,w8,e8,B8,xF⟩:=rF s w7 (by omega);rw[HTL.o]at e8 B8;have E8:=xh e8;have O8:=xh (au O7.o xF);have S8:=S7.o.below xF;have hgw:=ay O7.o.size (aj w7.heap.size)
  have pR:s.data.toList.length=232:=by have:=HTL.o;simpa using this
  have NS:=xh (tO S8 B8 (by decide));have uR:232<=cap:=by obtain⟨rest,_,h2,_⟩:=aK.rp B8;rw[jk,pR]at h2;omega
  obtain⟨oa,dc,w9,hoa,cp,B9,o9⟩:∃(oa dc:Nat) (w9:World),((h'=232/\cap=232/\oa=0/\dc=0)\/(h'≠cap/\h'<cap/\oa=h'/\dc=cap-h'))/\(Builtin.copy_ #[150,9] 3 #[.slice (some ⟨w7.heap.size,oa,none⟩) (232-h') dc,.string r]).run prog w8=.ok (goInt r.size) w9/\mN w9 (.slice (some ⟨w7.heap.size,0,none⟩) 232 cap) (lay s.data.toList h' r.data.toList)/\ag [w7.heap.size] w8 w9:=by
   rw[<-pR]at B8
   by_cases hz:h'=cap
   .obtain⟨w9,h1,h2,h3⟩:=pQ B8 h' 0 0 r (by omega) (.inr ⟨by omega,by omega⟩) (232-h') (by omega);rw[pR]at h2;exact⟨0,0,w9,.inl ⟨by omega,by omega,rfl,rfl⟩,h1,h2,h3⟩
   .obtain⟨w9,h1,h2,h3⟩:=pQ B8 h' h' (cap-h') r (by omega) (.inl rfl) (232-h') (by omega);rw[pR]at h2;exact⟨h',cap-h',w9,.inr ⟨hz,by omega,rfl,rfl⟩,h1,h2,h3⟩
  have S9:=S8.only o9 NS.o;have O9:=xh (O8.o.trans (o9.aO O8.o.size (by simpa using hgw)));obtain⟨v10,jI,ea,T10,Eo,Sv⟩:=y7 S9 i hi (by omega) h' r.size;obtain⟨V10,c10,rfl⟩:=ao T10;have O10:=xh (au O9.o Eo);have B10:=B9.below Eo;have tQ:=S9.below Eo;obtain⟨A',cc,v11,N8,hd,eb,T11,o11,-⟩:=wj T10 tQ i hi (by omega) (by omega) (by omega);obtain⟨V11,c11,rfl⟩:=ao T11
  have B11:=B10.only o11 (λx hx hx'=>cC T10 B10 (by decide) x hx' hx);have rz:=xh (O10.o.trans (o11.aO O10.o.size (λx hx=>ay O9.o.size (Sv x hx))));have KW:=xh (yY B11 (sq.of T11) h' wk.o.len (by have h1:=wk.o.head;have h2:=wk.o.hh;omega) (by omega) (by omega) wk.o.small);rw[gv]at KW;have NX:=xh (show ∀x∈ah (.slice (some ⟨w7.heap.size,0,none⟩) 232 cap),w.heap.size<=x from by simpa [ah]using hgw)
  generalize Sw:j7 (lay s.data.toList h' r.data.toList) (List.take i (bE s.data.toList)++[(h',r.size)]++List.drop i (bE s.data.toList)) h'=RES at *;have Q4:=xh Sw;clear Sw;clear e8 B8 xF S8 NS B9 o9 S9 T10 Eo Sv B10 tQ T11 o11 B11 O7 S7 O8 O9 O10 pR;go_wp2_with fail;rw[E8.o]
  rcases hoa with⟨rfl,rfl,rfl,rfl⟩|⟨hz,jF,rfl,rfl⟩
  all_goals
   rcases hd with⟨rfl,rfl,rfl,rfl,rfl,rfl⟩|⟨gA,rfl,rfl,rfl,rfl,rfl⟩|⟨gA,rfl,hci,hci2,Ic,rfl,rfl⟩
  all_goals
   try simp only[show((232:Nat):Int)=232 from rfl,show((0:Nat):Int)=0 from rfl]at ea
   try simp only[eU,kE]at eb KW
   go_wp2_with fail;refine KW.o.mono ?_;rintro e Ep ⟨rfl,o12⟩;have uW:=xh (rz.o.trans (o12.aO rz.o.size NX.o));clear o12;go_wp2_with fail;go_ret2;refine⟨?_,uW.o⟩
   first|rfl|(rw[Q4.o];rfl)
attribute [local go_sem ↓] Go.wp_at_zero Go.wp_at_succ
theorem JT(s r:ByteArray)(i:Int)(w:World)(hs:s.size<=1000000)(hr:r.size<=9223372036854775807):
  Calls prog 164 #[.string s,.int .i64 i,.string r] w λe w'=>e=.returned (.tuple #[.string ⟨(tP s.data.toList i r.data.toList).1.toArray⟩,.int .i64 (tP s.data.toList i r.data.toList).2])/\Below w.heap.size w w':=by
 have N7:r.data.toList.length=r.size:=by simp
 have KC:=xh (λw'=>qS s w' hs)
 by_cases h:bX s.data.toList=0
 .have hS:=(eu _).1 h;have Nh:s.size=232:=by have:=hS.len;simpa using this
  have h4:=hS.head;have h5:=hS.heap
  by_cases hi:0<=i/\i<=(bT s.data.toList 0:Int)
  .by_cases hg:(r.size:Int)<=ic s.data.toList-4
   .have e1:tP s.data.toList i r.data.toList=(sj s.data.toList i.toNat r.data.toList,0):=by unfold tP;rw[if_pos h,if_pos hi,N7,if_pos hg]
    rw[e1];obtain⟨k,rfl⟩:=dL hi.1;rw[gv];exact N4 s r k w hS hg (by omega)
   .have e1:tP s.data.toList i r.data.toList=([],11):=by unfold tP;rw[if_pos h,if_pos hi,N7,if_neg hg]
    rw[e1];have Rw:tN s.data.toList=ic s.data.toList:=by unfold tN;rw[if_pos h]
    have Ie: -1000000<=ic s.data.toList:=by
     rw[yX hS];have:=hS.sum;omega
    have N9:ic s.data.toList<=228:=by unfold ic;omega
    have KL:=xh (λw'=>ma s w' (by omega) hs);have KR:=xh (λw'=>Gg s w' hs);rw[Rw]at KR;rw[h]at KC;have Cb:ic s.data.toList-4<(r.size:Int):=by omega
    clear e1 h hS Rw hg;generalize ic s.data.toList=room at *;generalize bT s.data.toList 0=n at *;obtain⟨hi1,Sf⟩:=hi;go_enter func164,ntmps164;go_wp2_with fail;refine(KC.o _).mono ?_;rintro e w1 ⟨rfl,aJ⟩;have O1:=xh aJ;clear aJ;go_wp2_with fail;refine(KL.o _).mono ?_;rintro e w2 ⟨v,rfl,S2,bS,-⟩;have O2:=xh (au O1.o bS);obtain⟨A2,c2,rfl⟩:=ao S2;clear S2 bS;go_wp2_with fail;refine(KR.o _).mono ?_;rintro e w3 ⟨rfl,cZ⟩
    have O3:=xh (au O2.o cZ);clear cZ;go_wp2_with fail;go_ret2;exact⟨rfl,O3.o⟩
  .have e1:tP s.data.toList i r.data.toList=([],3):=by unfold tP;rw[if_pos h,if_neg hi]
   rw[e1];have KL:=xh (λw'=>ma s w' (by omega) hs);rw[h]at KC;generalize bT s.data.toList 0=n at *;have hx:i<0\/(¬i<0/\(n:Int)<i):=by omega
   clear e1 h hi hS
   rcases hx with h1|⟨h1,h2⟩
   all_goals
    go_enter func164,ntmps164;go_wp2_with fail;refine(KC.o _).mono ?_;rintro e w1 ⟨rfl,aJ⟩;have O1:=xh aJ;clear aJ;go_wp2_with fail;refine(KL.o _).mono ?_;rintro e w2 ⟨v,rfl,S2,bS,-⟩;have O2:=xh (au O1.o bS);obtain⟨A2,c2,rfl⟩:=ao S2;clear S2 bS;go_wp2_with fail;go_ret2;exact⟨rfl,O2.o⟩
 .have e1:tP s.data.toList i r.data.toList=([],bX s.data.toList):=by unfold tP;rw[if_neg h]
  have hb:(bX s.data.toList==0)=false:=by simpa using h
  rw[e1];clear e1 h;generalize bX s.data.toList=q at *;go_enter func164,ntmps164;go_wp2_with fail;refine(KC.o _).mono ?_;rintro e w1 ⟨rfl,aJ⟩;have O1:=xh aJ;clear aJ;go_wp2_with fail;go_ret2;exact⟨rfl,O1.o⟩
end Sl
namespace Sl
open Go.RowKit
attribute [local go_sem ↓] bq
theorem kR{w:World}{A:Option Addr}{n c:Nat}{l:List (List UInt8)}(S:aK w 9 1 (.slice A n c) n (strs l))(k:Nat)(hk:k<l.length):∃g,A=some ⟨g,0,none⟩/\w.cell? ⟨g,k,none⟩=some (.string ⟨l[k].toArray⟩):=by
 have hl:=S.1;rw[wg]at hl;obtain⟨g,cap,rest,hv,B,_,_⟩:=S.form (by omega) (by omega);simp only[Value.slice.injEq,true_and]at hv;obtain⟨rfl,rfl⟩:=hv;exact⟨g,rfl,B.ab (by rw[cM,bD (by rw[wg];exact hk)];simp[strs,aT hk])⟩
theorem size_of_list(l:List UInt8):(⟨l.toArray⟩:ByteArray).size=l.length:=by
 show l.toArray.size=l.length;simp
attribute [local go_sem ↓] Go.wp_at_zero Go.wp_at_succ
section
variable{w:World}{A:Option Addr}{n c i:Nat}{l:List (List UInt8)}{A3:Option Addr}{cc:Nat}
end
section
variable{W:World}{A:Option Addr}{n c i:Nat}{l:List (List UInt8)}{A3:Option Addr}{cc:Nat}{r:ByteArray}
end
end Sl
namespace Sl
open Go.RowKit
attribute [local go_sem ↓] bq
variable{b:List UInt8}
theorem LL(T:ByteArray):(⟨T.data.toList.toArray⟩:ByteArray)=T:=by simp
theorem Sx(b:List UInt8):∃T:ByteArray,T.data.toList=b:=⟨⟨b.toArray⟩,by simp⟩
theorem kk(h:Sound b):∀r∈cI b,r.length<=232:=by
 intro r hr;simp only[cI,cg]at hr;obtain⟨x,hx,rfl⟩:=hr;have:=(h.fit.pw x hx).2;rw[we (by rw[h.len];omega)];omega
theorem lQ(h:Sound b):(cI b).length<=57:=by
 rw[cE];have:=h.head;have:=h.heap;omega
theorem LM(h:Sound b)(i:Nat)(r:List UInt8)(hr:(r.length:Int)<=iZ (cI b)-4)(hi:i<=(cI b).length):
  tP b i r=(sj b i r,0)/\Sound (sj b i r)/\cI (sj b i r)=(cI b).take i++r::(cI b).drop i:=by
 rw[cE]at hi;rw[<-LG h]at hr;refine⟨?_,h.insert i r hr hi⟩;unfold tP;rw[if_pos ((eu b).2 h),if_pos ⟨by omega,by omega⟩,if_pos hr,gv]
open Go.RowKit Go.Deep Go.ChangeShapes Go.WideShapes
theorem JU{b:List UInt8}(h:Sound b)(i:Nat)(r:List UInt8)(hr:iZ (cI b)-4<(r.length:Int))(hi:i<=(cI b).length):tP b i r=([],11):=by
 rw[cE]at hi;rw[<-LG h]at hr;unfold tP;rw[if_pos ((eu b).2 h),if_pos ⟨by omega,by omega⟩,if_neg (by omega)]
end Sl
namespace Sl
open Go.RowKit Go.Deep Go.ChangeShapes Go.WideShapes
structure Ac where
 kind:Int
 i:Int
 r:ByteArray
instance:Inhabited Ac:=⟨⟨0,0,.empty⟩⟩
open Go.RowKit
attribute [local go_sem ↓] bq
theorem y8(l:List (List UInt8))(k:Nat)(h:k<l.length):iZ (l.take (k+1))=iZ (l.take k)-4-(l[k].length:Int):=by
 unfold iZ;rw[jO h,cW,xq];simp;omega
theorem y9(l:List (List UInt8))(k:Nat):iZ l<=iZ (l.take k):=by
 unfold iZ;have:((l.take k).map λr=>4+r.length).sum<=(l.map λr=>4+r.length).sum:=by
  rw[mH];exact wi _ k
 omega
def Gq(l:List (List UInt8)):Nat->List UInt8
 |0=>ld
 |k+1=>sj (Gq l k) k (l.getD k [])
def ofL(l:List (List UInt8)):List UInt8:=Gq l l.length
def Sy(l:List (List UInt8))(w:World)(e:Ending)(w':World):Prop:=
 ((0<=iZ l/\∃b:ByteArray,e=.returned (.tuple #[.string b,.int .i64 0])/\Sound b.data.toList/\cI b.data.toList=l/\b.data.toList=ofL l)\/(iZ l<0/\e=.returned (.tuple #[.string ⟨#[]⟩,.int .i64 11])))/\Below w.heap.size w w'
theorem za{w:World}{v:Value}{l:List (List UInt8)}(S:aK w 9 1 v l.length (strs l))(hl:l.length<=1000000)(hm:∀r∈l,r.length<=1000000):
  Calls prog 119 #[v] w (Sy l w):=by
 obtain⟨A,c,rfl⟩:=ao S;have SS:=xh S;obtain⟨s0,r0,-,-⟩:=pP;obtain⟨T0,h0⟩:=Sx ld;have KE:=xh (qL w);rw[<-h0,LL]at KE;rw[<-h0]at s0 r0;have HS:=xh (show Sound T0.data.toList/\cI T0.data.toList=l.take 0/\T0.data.toList=Gq l 0 from⟨s0,r0,h0⟩);have HM:=xh (show ∀k (h:k<l.length),l[k].length<=1000000 from λk h=>hm _ (j9 h));have HR:=xh (λk h=>y8 l k h);have HMO:=xh (λk=>y9 l k)
 have HAL:=xh (show l.take l.length=l from gY);have HZ:=xh (show 0<=iZ (l.take 0)from by rw[iM];decide);clear S s0 r0 h0 hm;go_enter func119,ntmps119;go_wp2_with fail;refine KE.o.mono ?_;rintro e w1 ⟨rfl,aJ⟩;have S1:=xh (SS.o.below aJ);have O1:=xh aJ;clear aJ SS;go_wp2_with fail
 go_loopw [4,12] (λbv iv wr=> ∃(k:Nat) (b:ByteArray),k<=l.length/\bv=.string b/\iv=.int .i64 k/\Hid (Sound b.data.toList/\cI b.data.toList=l.take k/\b.data.toList=Gq l k)/\Hid (0<=iZ (l.take k))/\aK wr 9 1 (.slice A l.length c) l.length (strs l)/\Below w.heap.size w wr) (λ_ iv _=>l.length-(intOf iv).toNat)
 case atStart=>exact⟨0,T0,bm _,rfl,rfl,HS,HZ,S1.o,O1.o⟩
 case round=>
  obtain⟨k,b,hk,rfl,rfl,HB,HP,S,O⟩:=hrel;have OO:=xh O;have SS:=xh S;clear S O
  by_cases h:k<l.length
  .obtain⟨g,rfl,ck⟩:=kR SS.o k h;have hrk:=HM.o k h;have HRk:=xh (HR.o k h);have HMk:=xh (HMO.o (k+1));obtain⟨R,hR⟩:=Sx l[k];have HST:=xh (show l.take (k+1)=l.take k++[R.data.toList]from by rw[jO h,hR]);rw[<-hR]at ck hrk HRk;rw[LL]at ck;have hRl:R.data.toList.length=R.size:=by simp
   rw[hRl]at hrk HRk;have hs:=HB.o.1;have mM:b.size=232:=by have:=hs.len;simpa using this
   have KI:=xh (λw'=>JT b R k w' (by omega) (by omega));have hlen:(cI b.data.toList).length=k:=by rw[HB.o.2.1,bK];omega
   have hki:(k:Int)<(l.length:Int):=by omega
   by_cases hf:0<=iZ (l.take (k+1))
   .obtain⟨i1,s1,r1⟩:=LM hs k R.data.toList (by rw[HB.o.2.1,hRl];have:=HRk.o;omega) (by omega);obtain⟨T,hT⟩:=Sx (sj b.data.toList k R.data.toList);rw[<-hT]at i1 s1 r1;rw[i1,LL]at KI;have JV:=xh (show Sound T.data.toList/\cI T.data.toList=l.take (k+1)/\T.data.toList=Gq l (k+1)from⟨s1,by
     rw[r1,HST.o,HB.o.2.1];rw[bY (by rw[bK];omega),j8 (by rw[bK];omega)],by
     rw[hT,hR,HB.o.2.2];show sj _ k l[k]=sj _ k (l.getD k []);rw[jj,aT h];rfl⟩)
    have HF:=xh hf;clear i1 s1 r1 hT hs mM hlen hf hR hRl;go_wp2_with fail;refine(KI.o _).mono ?_;rintro e w2 ⟨rfl,bS⟩;have S2:=xh (SS.o.below bS);have O2:=xh (au OO.o bS);clear bS;go_wp2_with fail;go_roundw
    case rel=>exact⟨k+1,T,by omega,rfl,by go_num,JV,HF,S2.o,O2.o⟩
    case measure=>simp[intOf];omega
   .have i1:=JU hs k R.data.toList (by rw[HB.o.2.1,hRl];have:=HRk.o;omega) (by omega);rw[i1]at KI;have HF:=xh (show iZ l<0 from by have:=HMk.o;omega);clear i1 hs mM hlen hf hR hRl;go_wp2_with fail;refine(KI.o _).mono ?_;rintro e w2 ⟨rfl,bS⟩;have O2:=xh (au OO.o bS);clear bS;go_wp2_with fail;go_ret2;exact⟨.inr ⟨HF.o,rfl⟩,O2.o⟩
  .have AH:=xh (show k=l.length by omega);go_wp2_with fail;go_ret2;refine⟨.inl ⟨?_,b,rfl,HB.o.1,?_,by rw[HB.o.2.2,AH.o];rfl⟩,OO.o⟩
   .have:=HP.o;rw[AH.o,HAL.o]at this;exact this
   .rw[HB.o.2.1,AH.o,HAL.o]
end Sl
namespace Nd
open Go.RowKit Sl
variable{s:ByteArray}
structure E where
 key:ByteArray
 val:ByteArray
 aU:Int
def E.agg(e:E):Value:= .agg #[.string e.key,.string e.val,.int .i64 e.aU]
def E.cells(e:E):List Value:=[.string e.key,.string e.val,.int .i64 e.aU]
def dg(e:E)(leaf:Bool):Prop:=e.key.size<=32/\e.val.size<=40/\(if leaf=true then -1 else 0)<=e.aU/\e.aU<512/\(e.aU<0\/e.val.size=0)
instance(e:E)(leaf:Bool):Decidable (dg e leaf):=by unfold dg;exact inferInstance
theorem Cc(h:s.size=0):s= .empty:=by
 apply iS;exact Qh h
theorem uX(h:s.size≠0):s.toList.isEmpty=false:=by
 cases e:s.toList with
 |nil=>
  refine absurd ?_ h;rw[bu]at e;show s.data.size=0;rw[<-Qj,e];rfl
 |cons a l=>rfl
theorem uG(w:World)(e:E)(leaf:Bool):
  Calls prog 162 #[e.agg,.bool leaf] w λr w'=>r=.returned (.bool (decide (dg e leaf)))/\Below w.heap.size w w':=by
 have O0:=xh ((Below.refl w.heap.size w).alloc (aj _) (.cells #[.string e.key,.string e.val,.int .i64 e.aU] 111));have B0:=aE.new w 111 #[.string e.key,.string e.val,.int .i64 e.aU];have c0:=B0.ab (i:=0) rfl;have c1:=B0.ab (i:=1) rfl;have c2:=B0.ab (i:=2) rfl;clear B0;obtain⟨b,hb⟩:∃b,b=decide (dg e leaf):=⟨_,rfl⟩;rw[<-hb]
 replace hb:=xh hb
 unfold E.agg;obtain⟨key,val,aU⟩:=e;dsimp only at *
 by_cases hv:val.size=0
 .have pk:=xh hv;obtain rfl:=Cc hv
  cases leaf
  all_goals
   go_enter func162,ntmps162;go_wp2_with fail
  all_goals
   go_ret;refine⟨?_,O0.o⟩;have h:=hb.o;have Fc:=pk.o
   first
    |(rw[decide_eq_true (by unfold dg;dsimp only;simp only[lZ,if_false,if_true];omega)]at h;subst h;rfl)
    |(rw[decide_eq_false (by unfold dg;dsimp only;simp only[lZ,if_false,if_true];omega)]at h;subst h;rfl)
 .have pk:=uX hv;have Fc:=xh hv;clear hv
  by_cases hf:aU<0
  all_goals
   cases leaf
  all_goals
   go_enter func162,ntmps162;go_wp2_with fail
  all_goals
   go_ret;refine⟨?_,O0.o⟩;have h:=hb.o;have hv4:=Fc.o
   first
    |(rw[decide_eq_true (by unfold dg;dsimp only;simp only[lZ,if_false,if_true];omega)]at h;subst h;rfl)
    |(rw[decide_eq_false (by unfold dg;dsimp only;simp only[lZ,if_false,if_true];omega)]at h;subst h;rfl)
attribute [local go_sem ↓] Go.wp_at_zero Go.wp_at_succ
variable{w w':World}{A:Option Addr}{n:Nat}{l:List E}
theorem ae{W w1:World}(h:Below W.heap.size W w1)(o:Obj):Below W.heap.size W (w1.alloc o):=h.alloc h.size o
structure Cd(w:World)(ad:Addr)(e:E):Prop where
 c0:w.cell? ad=some (.string e.key)
 c1:w.cell? ⟨ad.block,ad.off+1,none⟩=some (.string e.val)
 c2:w.cell? ⟨ad.block,ad.off+2,none⟩=some (.int .i64 e.aU)
def oJ(w:World)(A:Option Addr)(n:Nat)(l:List E):Prop:=l.length=n/\∀k e,l[k]?=some e->∃ad,A=some ad/\Cd w (ad.add (k*3)) e
theorem Cd.below{ad:Addr}{e:E}(h:Cd w ad e)(hb:Below w.heap.size w w'):Cd w' ad e:=by
 have dV:=dN h.c0;exact⟨(hb.cell dV).trans h.c0,(hb.cell (p:=⟨ad.block,ad.off+1,none⟩) dV).trans h.c1,(hb.cell (p:=⟨ad.block,ad.off+2,none⟩) dV).trans h.c2⟩
theorem oJ.below(h:oJ w A n l)(hb:Below w.heap.size w w'):oJ w' A n l:=by
 refine⟨h.1,λk e he=>?_⟩;obtain⟨ad,e1,h1⟩:=h.2 k e he;exact⟨ad,e1,h1.below hb⟩
theorem oJ.at(h:oJ w A n l)(k:Nat)(hk:k<n):∃ad e,A=some ad/\l[k]?=some e/\Cd w (ad.add (k*3)) e:=by
 have hl:=h.1;obtain⟨ad,e1,h1⟩:=h.2 k l[k] (aT (by omega));exact⟨ad,l[k],e1,aT (by omega),h1⟩
def leB(a b:ByteArray):Bool:=Op.bytesLess a.toList b.toList || a.toList==b.toList
def okAt(l:List E)(leaf:Bool)(i:Nat):Prop:= ∀e,l[i]?=some e->dg e leaf/\(0<i->∀p,l[i-1]?=some p->leB e.key p.key=false)
def dD(l:List E)(leaf:Bool):Prop:= ∀i,i<l.length->okAt l leaf i
def bt(leaf:Bool)(A:Option Addr)(n c:Nat):Value:= .agg #[.bool leaf,.slice A n c]
theorem qT(leaf:Bool)(A:Option Addr)(n c:Nat)(l:List E)(h:oJ w A n l)(hn:n<=9223372036854775807):
  Calls prog 117 #[bt leaf A n c] w λr w'=>(∃b,r=.returned (.bool b)/\(b=true↔dD l leaf))/\Below w.heap.size w w':=by
 have O0:=(Below.refl w.heap.size w).alloc (aj _) (.cells #[.bool leaf,.slice A n c] 118);have B0:=xh (aE.new w 118 #[.bool leaf,.slice A n c]);have hl:=xh h.1;have H0:=xh (h.below O0);have O0:=xh O0;clear h;have c1:=B0.o.ab (i:=1) rfl;unfold bt;go_enter func117,ntmps117;go_wp2_with fail;generalize (w.alloc (.cells #[.bool leaf,.slice A n c] 118))=W at *;clear c1
 go_loopw [8] (λiv wr=> ∃i:Nat,i<=n/\iv=.int .i64 i/\(∀j,j<i->okAt l leaf j)/\Below W.heap.size W wr) (λiv _=>n-(intOf iv).toNat)
 case atStart=>exact⟨0,by omega,rfl,λj hj=>absurd hj (kF j),Below.refl _ _⟩
 case round=>
  obtain⟨i,hi,rfl,fy,hb⟩:=hrel
  by_cases h:i<n
  .obtain⟨ad,e,rfl,he,AT⟩:=(H0.o.below hb).at i h;have HB:=xh hb;have Bo:=xh fy;have b0:=(B0.o.below hb B0.o.lt).ab (i:=0) rfl;have b1:=(B0.o.below hb B0.o.lt).ab (i:=1) rfl;have a0:=AT.c0;have a1:=AT.c1;have a2:=AT.c2;clear hb fy;have gu:=ae (Below.refl wr.heap.size wr) (.cells #[.string e.key,.string e.val,.int .i64 e.aU] 111);have BE:=xh (aE.new wr 111 #[.string e.key,.string e.val,.int .i64 e.aU]);have JV:=xh (au HB.o gu)
   have HE:=xh ((H0.o.below HB.o).below gu);have HN:=xh ((B0.o.below HB.o B0.o.lt).below gu (B0.o.below HB.o B0.o.lt).lt);clear gu AT;have hnn:(i:Int)<(n:Int):=by omega
   go_wp2_with fail;generalize hwA:(wr.alloc (.cells #[.string e.key,.string e.val,.int .i64 e.aU] 111))=wA at *;clear hwA a0 a1 a2 b0 b1;have x0:=BE.o.ab (i:=0) rfl;have x1:=BE.o.ab (i:=1) rfl;have x2:=BE.o.ab (i:=2) rfl;have y0:=HN.o.ab (i:=0) rfl;have y1:=HN.o.ab (i:=1) rfl;have hyx:wr.heap.size<wA.heap.size:=BE.o.lt
   have HK:=xh (show ∀W',Below wA.heap.size wA W'->(Below wA.heap.size wA W'/\W'.cell? ⟨wr.heap.size,0,none⟩=some (.string e.key)/\W'.cell? ⟨wr.heap.size,1,none⟩=some (.string e.val)/\W'.cell? ⟨wr.heap.size,2,none⟩=some (.int .i64 e.aU)/\W'.cell? ⟨w.heap.size,0,none⟩=some (.bool leaf)/\W'.cell? ⟨w.heap.size,1,none⟩=some (.slice (some ad) n c))from λW' hb=>⟨hb,(Below.cell hb BE.o.lt).trans x0,(Below.cell hb BE.o.lt).trans x1,(Below.cell hb BE.o.lt).trans x2,(Below.cell hb HN.o.lt).trans y0,(Below.cell hb HN.o.lt).trans y1⟩)
   have d0:Below wA.heap.size wA wA.drew:=(Below.refl _ _).drew;have HF:=xh (And.intro Bo.o (And.intro he (And.intro hl.o O0.o)));have KR:=xh (λw'=>uG w' e leaf)
   rcases Bool.eq_false_or_eq_true (decide (dg e leaf))with hr|hr
   .rw[hr]at KR
    by_cases E9:i=0
    .subst E9;refine wp_region_held_drew (S:=(λw'=>Below wA.heap.size wA w'/\w'.cell? ⟨wr.heap.size,0,none⟩=some (.string e.key)/\w'.cell? ⟨wr.heap.size,1,none⟩=some (.string e.val)/\w'.cell? ⟨wr.heap.size,2,none⟩=some (.int .i64 e.aU)/\w'.cell? ⟨w.heap.size,0,none⟩=some (.bool leaf)/\w'.cell? ⟨w.heap.size,1,none⟩=some (.slice (some ad) n c))) (by kernel_rfl) (HK.o _ d0) (λaq=>?_);refine cV [(0,13),(1,14),(2,15)] ?_
     iterate 3 refine bj ?_
     refine dn 3 16 λK hK=>?_;go_simp
     go_at_call 162
     refine(KR.o _).mono ?_;rintro r w1 ⟨rfl,aJ⟩;have bS:=au (show Below wA.heap.size wA _ from aq.1) aJ;go_simp;refine aW hK (HK.o _ bS) (λaq=>?_);refine cV [(4,17),(5,18),(6,19),(7,20),(8,21)] ?_
     iterate 5 refine bj ?_
     refine cm 9 22 ?_;refine cm 10 23 ?_;refine cm 11 24 ?_;refine cm 12 25 ?_;refine cm 13 26 ?_;refine cm 14 27 ?_;refine cm 15 28 ?_;refine cm 16 29 ?_;refine cm 17 30 ?_;refine cm 18 31 ?_;refine cV [(19,32),(20,33)] ?_
     iterate 2 refine bj ?_
     refine wpAnyH_done (by kernel_rfl) ?_ _;go_wp2_with fail;obtain⟨f1,f2,f3,f4⟩:=HF.o;refine⟨⟨0+1,by omega,rfl,?_,au JV.o aq.1⟩,by simp[intOf];omega⟩;intro j hj e' oY;obtain rfl:j=0:=by omega
     rw[f2]at oY;injection oY with oY
     subst oY;exact⟨of_decide_eq_true hr,λh0=>absurd h0 (qC _)⟩
    .obtain⟨ad',p,e',hp,AP⟩:=HE.o.at (i-1) (by omega);injection e' with e'
     subst e';have q0:=AP.c0;have HK:=xh (show ∀W',Below wA.heap.size wA W'->(Below wA.heap.size wA W'/\W'.cell? ⟨wr.heap.size,0,none⟩=some (.string e.key)/\W'.cell? ⟨wr.heap.size,1,none⟩=some (.string e.val)/\W'.cell? ⟨wr.heap.size,2,none⟩=some (.int .i64 e.aU)/\W'.cell? ⟨w.heap.size,0,none⟩=some (.bool leaf)/\W'.cell? ⟨w.heap.size,1,none⟩=some (.slice (some ad) n c)/\W'.cell? (ad.add ((i-1)*3))=some (.string p.key))from λW' hb=>by
      obtain⟨h1,h2,h3,h4,h5,h6⟩:=HK.o W' hb;exact⟨h1,h2,h3,h4,h5,h6,(hb.cell (dN q0)).trans q0⟩)
     have e1:IntKind.i64.wrap ((i:Int)-1)=(i:Int)-1:=IntWalk.i64_in _ (by omega);have e2:(0:Int)<=(i:Int)-1:=by omega
     have e3:(i:Int)-1<(n:Int):=by omega
     have e4:((i:Int)-1).toNat=i-1:=by omega
     have e5:(0:Int)<(i:Int):=by omega
     have e6:(1:Int)<=(i:Int):=by omega
     refine wp_region_held_drew (S:=(λw'=>Below wA.heap.size wA w'/\w'.cell? ⟨wr.heap.size,0,none⟩=some (.string e.key)/\w'.cell? ⟨wr.heap.size,1,none⟩=some (.string e.val)/\w'.cell? ⟨wr.heap.size,2,none⟩=some (.int .i64 e.aU)/\w'.cell? ⟨w.heap.size,0,none⟩=some (.bool leaf)/\w'.cell? ⟨w.heap.size,1,none⟩=some (.slice (some ad) n c)/\w'.cell? (ad.add ((i-1)*3))=some (.string p.key))) (by kernel_rfl) (HK.o _ d0) (λaq=>?_);refine cV [(0,13),(1,14),(2,15)] ?_
     iterate 3 refine bj ?_
     refine dn 3 16 λK hK=>?_;go_simp
     go_at_call 162
     refine(KR.o _).mono ?_;rintro r w1 ⟨rfl,aJ⟩;have bS:=au (show Below wA.heap.size wA _ from aq.1) aJ;go_simp;refine aW hK (HK.o _ bS) (λaq=>?_);refine cV [(4,17),(5,18),(6,19)] ?_
     iterate 3 refine bj ?_
     refine mX 7 20 (.bool true) ?_ ?_
     ·(intro w nr;(try dsimp only at nr);go_simp;(try omega))
     refine cV [(8,21),(9,22),(10,23),(11,24),(12,25),(13,26),(14,27),(15,28),(16,29),(17,30),(18,31),(19,32),(20,33)] ?_
     iterate 13 refine bj ?_
     refine wpAnyH_done (by kernel_rfl) ?_ _;go_wp2_with fail
     .rename_i hx;obtain⟨f1,f2,f3,f4⟩:=HF.o;go_ret;refine⟨⟨false,rfl,?_⟩,au (au f4 JV.o) aq.1⟩;simp only[lZ,false_iff];intro hm;have h1:=(hm i (by omega) e f2).2 (by omega) p hp;unfold leB at h1
      rcases hx with hx|hx
      .rw[hx]at h1;simp at h1
      .rw[hx]at h1;simp at h1
     .rename_i hx;obtain⟨f1,f2,f3,f4⟩:=HF.o;refine⟨⟨i+1,by omega,rfl,?_,au JV.o aq.1⟩,by simp[intOf];omega⟩;intro j hj
      rcases nZ.1 hj with h1|rfl
      .exact f1 j h1
      .intro e' oY;rw[f2]at oY;injection oY with oY
       subst oY;refine⟨of_decide_eq_true hr,λ_ p' hp'=>?_⟩;rw[hp]at hp';injection hp' with hp'
       subst hp';unfold leB;rw[hx.1,hx.2];rfl
   .rw[hr]at KR;refine wp_region_held_drew (S:=(λw'=>Below wA.heap.size wA w'/\w'.cell? ⟨wr.heap.size,0,none⟩=some (.string e.key)/\w'.cell? ⟨wr.heap.size,1,none⟩=some (.string e.val)/\w'.cell? ⟨wr.heap.size,2,none⟩=some (.int .i64 e.aU)/\w'.cell? ⟨w.heap.size,0,none⟩=some (.bool leaf)/\w'.cell? ⟨w.heap.size,1,none⟩=some (.slice (some ad) n c))) (by kernel_rfl) (HK.o _ d0) (λaq=>?_);refine cV [(0,13),(1,14),(2,15)] ?_
    iterate 3 refine bj ?_
    refine dn 3 16 λK hK=>?_;go_simp
    go_at_call 162
    refine(KR.o _).mono ?_;rintro r w1 ⟨rfl,aJ⟩;have bS:=au (show Below wA.heap.size wA _ from aq.1) aJ;go_simp;refine aW hK (HK.o _ bS) (λaq=>?_);refine cV [(4,17),(5,18)] ?_
    iterate 2 refine bj ?_
    refine cm 6 19 ?_;refine cm 7 20 ?_;refine cm 8 21 ?_;refine cm 9 22 ?_;refine cm 10 23 ?_;refine cm 11 24 ?_;refine cm 12 25 ?_;refine cm 13 26 ?_;refine cm 14 27 ?_;refine cm 15 28 ?_;refine cm 16 29 ?_;refine cm 17 30 ?_;refine cm 18 31 ?_;refine cm 19 32 ?_;refine cV [(20,33)] ?_
    iterate 1 refine bj ?_
    refine wpAnyH_done (by kernel_rfl) ?_ _;go_wp2_with fail;obtain⟨f1,f2,f3,f4⟩:=HF.o;go_ret;refine⟨⟨false,rfl,?_⟩,au (au f4 JV.o) aq.1⟩;simp only[lZ,false_iff];intro hm;exact of_decide_eq_false hr (hm i (by omega) e f2).1
  .go_wp2_with fail;go_ret;refine⟨⟨true,rfl,?_⟩,au O0.o hb⟩;simp only[true_iff];intro k hk;have:=hl.o;exact fy k (by omega)
def mf(s:ByteArray):Nat:=(s.data.toList.getD 0 0).toNat
def ie(s:ByteArray):Prop:=3+mf s<=s.size
def gV(s:ByteArray):E:=⟨s.extract 1 (1+mf s),s.extract (3+mf s) s.size,(bT s.data.toList (1+mf s):Int)-1⟩
def E.zero:E:=⟨.empty,.empty,0⟩
theorem nD{fn:Func}{p u:Tmp}{w:World}{g:Nat}{a b:ByteArray}{c:Int}{tmps:Array Value}(h:fn.results= #[.cell p 111,.tmp u])(hp:tmps.getD p undef=.pointer (some ⟨g,0,none⟩))(B:aE w g 111 #[.string a,.string b,.int .i64 c]):
  (results fn tmps).run prog w=.ok (.tuple #[.agg #[.string a,.string b,.int .i64 c],tmps.getD u undef]) w:=by
 have c0:=B.ab (i:=0) rfl;have c1:=B.ab (i:=1) rfl;have c2:=B.ab (i:=2) rfl;rw[results_cell_tmp h,hp];clear h hp B;go_simp
theorem Gr(w:World)(s:ByteArray)(h:¬ie s):
  Calls prog 170 #[.string s] w λr w'=>r=.returned (.tuple #[E.zero.agg,.bool false])/\Below w.heap.size w w':=by
 have O0:=xh ((Below.refl w.heap.size w).alloc (aj _) (.cells #[.string .empty,.string .empty,.int .i64 0] 111));have B0:=xh (aE.new w 111 #[.string .empty,.string .empty,.int .i64 0]);unfold E.agg E.zero
 by_cases hs:s.size=0
 .obtain rfl:=Cc hs;go_enter func170,ntmps170;go_wp2_with fail;exact bodyPost_ret (nD rfl rfl B0.o) rfl ⟨rfl,O0.o⟩
 .have hs2:=uX hs;have h0:0<s.size:=by omega
  have h1:(0:Int)<(s.size:Int):=by omega
  have hk:mf s=s[0].toNat:=by unfold mf;rw[dq _ _ h0]
  unfold ie at h;rw[hk]at h;have b0:=s[0].toNat_lt;have h2:(s.size:Int)<3+(s[0].toNat:Int):=by omega
  have e4:IntKind.i64.wrap (s[0].toNat:Int)=(s[0].toNat:Int):=IntWalk.i64_in _ (by omega);have e5:IntKind.i64.wrap (3+(s[0].toNat:Int))=3+(s[0].toNat:Int):=IntWalk.i64_in _ (by omega);go_enter func170,ntmps170;go_wp2_with fail;exact bodyPost_ret (nD rfl rfl B0.o) rfl ⟨rfl,O0.o⟩
theorem Ce(w:World)(s:ByteArray)(h:ie s)(hs:s.size<=1000000):
  Calls prog 170 #[.string s] w λr w'=>r=.returned (.tuple #[(gV s).agg,.bool true])/\Below w.heap.size w w':=by
 have O0:=xh ((Below.refl w.heap.size w).alloc (aj _) (.cells #[.string .empty,.string .empty,.int .i64 0] 111));have B0:=xh (aE.new w 111 #[.string .empty,.string .empty,.int .i64 0]);unfold ie at h;have hs2:=uX (s:=s) (by omega);have h0:0<s.size:=by omega
 have h1:(0:Int)<(s.size:Int):=by omega
 have hk:mf s=s[0].toNat:=by unfold mf;rw[dq _ _ h0]
 rw[hk]at h;have hE:=xh (show(gV s).agg=.agg #[.string (s.extract 1 (1+s[0].toNat)),.string (s.extract (3+s[0].toNat) s.size),.int .i64 ((bT s.data.toList (1+s[0].toNat):Int)-1)]from by unfold E.agg gV;rw[hk]);have b0:=s[0].toNat_lt;have h2:¬(s.size:Int)<3+(s[0].toNat:Int):=by omega
 have e4:IntKind.i64.wrap (s[0].toNat:Int)=(s[0].toNat:Int):=IntWalk.i64_in _ (by omega);have e5:IntKind.i64.wrap (3+(s[0].toNat:Int))=3+(s[0].toNat:Int):=IntWalk.i64_in _ (by omega);have e6:IntKind.i64.wrap (1+(s[0].toNat:Int))=1+(s[0].toNat:Int):=IntWalk.i64_in _ (by omega);go_enter func170,ntmps170;go_wp2_with fail;obtain⟨k,hkk⟩:∃k,1+s[0].toNat=k:=⟨_,rfl⟩;have Ly:(1:Int)+((s[0].toNat:Nat):Int)=((k:Nat):Int):=by omega
 rw[Ly];have hk1:k<s.size:=by omega
 have hk2:k+1<s.size:=by omega
 have b1:=s[k].toNat_lt;have b2:=s[k+1].toNat_lt;have HV:=xh (show bits .or .i64 ((s[k].toNat:Int)*256) (s[k+1].toNat:Int)=((bT s.data.toList k:Nat):Int)from by
  rw[or8 _ _ (by omega) (by omega)];unfold bT;rw[dq _ _ hk1,dq _ _ hk2])
 have e1:IntKind.i64.wrap ((k:Int)+1)=(k:Int)+1:=IntWalk.i64_in _ (by omega);have e2:(0:Int)<=(k:Int)+1:=by omega
 have e3:((k:Int)+1).toNat=k+1:=by omega
 have e7:(k:Int)+1<(s.size:Int):=by omega
 have e8:(k:Int)<(s.size:Int):=by omega
 have v1:IntKind.i64.wrap (s[k].toNat:Int)=(s[k].toNat:Int):=IntWalk.i64_in _ (by omega);have v2:IntKind.i64.wrap ((s[k].toNat:Int)*256)=(s[k].toNat:Int)*256:=IntWalk.i64_in _ (by omega);have v3:IntKind.i64.wrap (s[k+1].toNat:Int)=(s[k+1].toNat:Int):=IntWalk.i64_in _ (by omega);have z1:IntKind.i64.wrap ((k:Int)+2)=(k:Int)+2:=IntWalk.i64_in _ (by omega);have z2:(0:Int)<=(k:Int)+2:=by omega
 have z3:((k:Int)+2).toNat=k+2:=by omega
 have z4:(k:Int)+2<=(s.size:Int):=by omega
 have z5:(k:Int)<=(s.size:Int):=by omega
 have z6:(1:Int)<=(k:Int):=by omega
 go_quiet (fail);rw[HV.o];have u0:=List.getD s.data.toList k 0|>.toNat_lt;have u1:=List.getD s.data.toList (k+1) 0|>.toNat_lt;have z7:IntKind.i64.wrap ((bT s.data.toList k:Int)-1)=(bT s.data.toList k:Int)-1:=IntWalk.i64_in _ (by unfold bT;omega);go_wp2_with fail;refine wp_region_held_drew (S:=λ_=>True) (by kernel_rfl) trivial (λaq=>?_);refine cV [(0,33),(1,34),(2,35),(3,36),(4,37),(5,38),(6,39),(7,40),(8,41),(9,42)] ?_
 iterate 10 refine bj ?_
 refine mW 10 λK hK=>?_;go_simp;refine hK.o _ _ trivial (λaq=>?_)
 try simp only[Act.put,pa,pb,pc]
 refine cV [(11,3)] ?_
 iterate 1 refine bj ?_
 refine wpAnyH_done (by kernel_rfl) ?_ _;go_wp2_with fail;have BB:=((((B0.o.drewN (nq+1)).bG 0 (.string (s.extract 1 k))).bG 1 (.string (s.extract (k+2) s.size))).bG 2 (.int .i64 ((bT s.data.toList k:Int)-1)));refine bodyPost_ret (nD rfl rfl BB) rfl ⟨?_,?_⟩
 .have hE2:(gV s).agg=.agg #[.string (s.extract 1 k),.string (s.extract (k+2) s.size),.int .i64 ((bT s.data.toList k:Int)-1)]:=by
   rw[hE.o,<-hkk,show 3+s[0].toNat=1+s[0].toNat+2 by omega]
  rw[hE2];rfl
 .have hn:w.heap.size<w.heap.size->w.heap.size∈([]:List Nat):=λh=>absurd h (qC _);exact((((ag.ai (S:=[]) (cD O0.o (nq+1))).setCell (p:=⟨w.heap.size,0,none⟩) hn _).setCell (p:=⟨w.heap.size,1,none⟩) hn _).setCell (p:=⟨w.heap.size,2,none⟩) hn _).dW
end Nd
namespace Nd
open Go.RowKit Sl
def an(l:List E):Nat:=(l.map λe=>e.key.size+e.val.size+7).sum
theorem kS(l:List E)(i:Nat)(e:E)(h:l[i]?=some e):an (l.take (i+1))=an (l.take i)+(e.key.size+e.val.size+7):=by
 unfold an;rw[kD,h];simp
theorem pS(l:List E)(i:Nat):an (l.take i)<=an l:=by
 have:an l=an (l.take i)+an (l.drop i):=by
  unfold an;rw[<-xq,<-cW,mI]
 omega
theorem Cf{w:World}(A:Option Addr)(n c:Nat)(l:List E)(h:oJ w A n l)(hn:n<=9223372036854775807)(hb:an l<=1000000):
  Calls prog 177 #[.slice A n c] w λr w'=>r=.returned (.int .i64 (an l:Nat))/\Below w.heap.size w w':=by
 have H0:=xh h;have hl:=xh h.1;have hB:=xh hb;clear h hb;go_enter func177,ntmps177;go_wp2_with fail
 go_loopw [3,8] (λsv iv wr=> ∃i:Nat,i<=n/\iv=.int .i64 i/\sv=.int .i64 (an (l.take i):Nat)/\Below w.heap.size w wr) (λ_ iv _=>n-(intOf iv).toNat)
 case atStart=>exact⟨0,by omega,rfl,by simp[an],Below.refl _ _⟩
 case round=>
  obtain⟨i,hi,rfl,rfl,hbw⟩:=hrel
  by_cases h:i<n
  .obtain⟨ad,e,rfl,he,AT⟩:=(H0.o.below hbw).at i h;have a0:=AT.c0;have a1:=AT.c1;have a2:=AT.c2;have hs:=kS l i e he;have ht:=pS l (i+1);have hb:=hB.o;have HS:=xh hs;have s1:IntKind.i64.wrap ((e.key.size:Int)+(e.val.size:Int))=(e.key.size:Int)+(e.val.size:Int):=IntWalk.i64_in _ (by omega);have s2:IntKind.i64.wrap ((e.key.size:Int)+(e.val.size:Int)+7)=(e.key.size:Int)+(e.val.size:Int)+7:=IntWalk.i64_in _ (by omega)
   have s3:IntKind.i64.wrap ((an (l.take i):Int)+((e.key.size:Int)+(e.val.size:Int)+7))=(an (l.take i):Int)+((e.key.size:Int)+(e.val.size:Int)+7):=IntWalk.i64_in _ (by omega);have JV:=xh (au hbw (ae (Below.refl wr.heap.size wr) (.cells #[.string e.key,.string e.val,.int .i64 e.aU] 111)));clear AT hs ht hb hbw;go_wp2_with fail;refine⟨⟨i+1,by omega,rfl,?_,JV.o⟩,by simp[intOf];omega⟩;rw[HS.o];simp
  .obtain rfl:i=n:=by omega
   have JV:=xh hbw;clear hbw;go_wp2_with fail;go_ret;refine⟨?_,JV.o⟩;have:=hl.o;rw[bY (by omega)];rfl
attribute [local go_sem ↓] Go.wp_at_zero Go.wp_at_succ
theorem zc(e:E)(leaf:Bool):dg e leaf↔e.key.size<=32/\e.val.size<=40/\ -1<=e.aU/\e.aU<=511/\(0<=e.aU->e.val.size=0)/\(e.aU<0->leaf=true):=by
 unfold dg
 constructor
 .rintro⟨h1,h2,h3,h4,h5⟩
  cases leaf
  .simp only[lZ,if_false]at h3;exact⟨h1,h2,by omega,by omega,λh=>by omega,λh=>by omega⟩
  .simp only[if_true]at h3;exact⟨h1,h2,by omega,by omega,λh=>by omega,λ_=>rfl⟩
 .rintro⟨h1,h2,h3,h4,h5,h6⟩;have h7:e.aU<0\/e.val.size=0:=by
   rcases(show e.aU<0\/0<=e.aU by omega)with h|h
   .exact .inl h
   .exact .inr (h5 h)
  cases leaf
  .simp only[lZ,if_false];refine⟨h1,h2,?_,by omega,h7⟩
   rcases(show e.aU<0\/0<=e.aU by omega)with h|h
   .exact absurd (h6 h) (by decide)
   .exact h
  .simp only[if_true];exact⟨h1,h2,h3,by omega,h7⟩
end Nd
namespace Nd
open Go.RowKit Sl
variable{l:List E}{w:World}{t:TypeId}{n:Nat}
def aH(l:List E):List Value:=l.flatMap E.cells
theorem kl(e:E)(l:List E):aH (e::l)=e.cells++aH l:=by simp[aH]
theorem fS(l m:List E):aH (l++m)=aH l++aH m:=by simp[aH]
theorem ax(l:List E):(aH l).length=l.length*3:=by
 induction l with
 |nil=>rfl
 |cons e l ih=>rw[kl,aQ,ih];simp[E.cells];omega
theorem Sz{k:Nat}{e:E}(h:l[k]?=some e)(j:Nat)(hj:j<3):(aH l)[k*3+j]?=e.cells[j]?:=by
 induction l generalizing k with
 |nil=>simp at h
 |cons x l ih=>
  rw[kl]
  cases k with
  |zero=>
   simp only[rR,Option.some.injEq]at h;subst h;rw[bD (by simp[E.cells];omega)];congr 1;omega
  |succ k=>
   rw[pA]at h;rw[dE (by simp[E.cells];omega),<-ih h]
   congr 1;simp[E.cells];omega
theorem eP(g o j:Nat):(⟨g,o,none⟩:Addr).add j=⟨g,o+j,none⟩:=by
 unfold Addr.add
 split
 .next h=>rw[h];rfl
 .rfl
theorem Gs{g:Nat}{rest:List Value}(B:aE w g t (aH l++rest).toArray)(k:Nat)(e:E)(h:l[k]?=some e):Cd w ((⟨g,0,none⟩:Addr).add (k*3)) e:=by
 have hk:=(aX.1 h).1;have hlen:=ax l;have key:∀j,j<3->(aH l++rest).toArray[k*3+j]?=e.cells[j]?:=λj hj=>by
  rw[cM,bD (by omega),Sz h j hj]
 rw[eP,bh];exact⟨(B.cell _).trans (key 0 (by omega)),(B.cell _).trans (key 1 (by omega)),(B.cell _).trans (key 2 (by omega))⟩
theorem aK.aH{A:Option Addr}{c m:Nat}(S:aK w t 3 (.slice A n c) m (aH l)):n=m/\oJ w A m l:=by
 have hl:=S.1;rw[ax]at hl;have SC:l.length=m:=by omega
 rcases S.2 with⟨hv,h0⟩|⟨g,cap,rest,hv,B,hc,_⟩
 .simp only[Value.slice.injEq]at hv;obtain⟨rfl,rfl,rfl⟩:=hv;refine⟨h0.symm,SC,λk e he=>?_⟩;have:=(aX.1 he).1;omega
 .simp only[Value.slice.injEq]at hv;obtain⟨rfl,rfl,rfl⟩:=hv;exact⟨rfl,SC,λk e he=>⟨_,rfl,Gs B k e he⟩⟩
theorem sr{P:Program}{v:Value}{l:List Value}(S:aK w t 3 v n l)
 (T ty:TypeId)(z:Value)(bytes:Nat)(ht:P.underlying T=some (.slice t))(l6:(P.info? t).map (λi=>(i.zero,i.size,i.bytes))=some (some z,3,bytes))(hz:z.cells.size=3)
 (e:E)(Dt:n+1<=maxLen)(hb:(n+1)*bytes<=140737488355328):
  ∃v' w',df P T ty (w.alloc (.cells #[.string e.key,.string e.val,.int .i64 e.aU] t)) v (.slice (some ⟨w.heap.size,0,none⟩) 1 1)= .ok v' w'/\aK w' t 3 v' (n+1) (l++e.cells)/\ag (ah v) w w'/\(∀g∈ah v',g∈ah v\/w.heap.size<=g):=by
 obtain⟨i0,hi,ke,iX,jF⟩:=info_parts l6;obtain⟨v',w',h1,h2,h3,h4⟩:=di (P:=P) (S.alloc (.cells #[.string e.key,.string e.val,.int .i64 e.aU] t)) T ty i0 z bytes ht hi ke iX jF hz (by omega)
  ⟨w.heap.size,0,none⟩ 1 1 e.cells rfl (bn (l:=e.cells) (aE.new w t #[.string e.key,.string e.val,.int .i64 e.aU]) 0 _ (by intro j v hv;rw[bh];exact hv)) (by intro u hu;simp[E.cells]at hu;rcases hu with rfl|rfl|rfl<;>rfl) Dt hb
 exact⟨v',w',h1,h2,((ag.refl _ _).alloc _).aN h3 (λx hx _=>hx),λg hg=>(h4 g hg).imp id (λh=>by simp at h;omega)⟩
attribute [local go_sem ↓] bq
def pT(e:E):List UInt8:=UInt8.ofNat e.key.size::(e.key.data.toList++(fA (e.aU+1).toNat++e.val.data.toList))
def tR(e:E):ByteArray:=⟨(pT e).toArray⟩
theorem uY(a b:ByteArray):a++b=⟨(a.data.toList++b.data.toList).toArray⟩:=by
 have:=rS a.data.toList b;rw[LL]at this;exact this
theorem recB_eq(e:E):(⟨[UInt8.ofNat e.key.size].toArray⟩++e.key)++⟨(fA (e.aU+1).toNat).toArray⟩++e.val=tR e:=by
 rw[uY,uY,uY];unfold tR pT;simp
theorem uZ(w:World)(o:Obj):(w.alloc o).heap.size=w.heap.size+1:=by simp
theorem tG{w:World}(e:E)(hk:e.key.size<=32)(hv:e.val.size<=40)(hf: -1<=e.aU)(DW:e.aU<=511){g n:Nat}{v:Value}{l:List (List UInt8)}(B:aE w g 123 #[v])(S:aK w 9 1 v n (strs l))(hg:g∉ah v)(hn:n<=1000000):
  Calls prog 118 #[e.agg,.pointer (some ⟨g,0,none⟩)] w λr w'=>r=.returned (.tuple #[])/\∃v',aE w' g 123 #[v']/\aK w' 9 1 v' (n+1) (strs (l++[pT e]))/\ag (g::ah v) w w'/\(∀x∈ah v',x∈ah v\/w.heap.size<=x):=by
 obtain⟨A,c,rfl⟩:=ao S;have HR:=xh (recB_eq e);have hR2:Value.string (tR e)= .string ⟨(pT e).toArray⟩:=rfl;obtain⟨m,hm⟩:=dL (show 0<=e.aU+1 by omega);have Ig:m<=512:=by omega
 have e0:Value.int .u8 ((m:Int) / 256)=bv (UInt8.ofNat (m / 256)):=by
  unfold bv
  congr 1
  rw[gZ];omega
 have e1:Value.int .u8 ((m:Int) % 256)=bv (UInt8.ofNat m):=by
  unfold bv;rfl
 have e2:Value.int .u8 (e.key.size:Int)=bv (UInt8.ofNat e.key.size):=by
  unfold bv
  congr 1
  rw[gZ];omega
 rw[hm,gv]at HR;have HE:=xh (show #[Value.int .u8 ((m:Int) / 256),Value.int .u8 ((m:Int) % 256)]=(dh (fA m)).toArray from by rw[e0,e1];rfl);have HK:=xh (show #[Value.int .u8 (e.key.size:Int)]=(dh [UInt8.ofNat e.key.size]).toArray from by rw[e2];rfl);have BX:=xh (aE.new w 111 #[.string e.key,.string e.val,.int .i64 e.aU])
 have s1:=bZ (P:=prog) ((w.alloc (.cells #[.string e.key,.string e.val,.int .i64 e.aU] 111)).alloc (.cells (dh [UInt8.ofNat e.key.size]).toArray 5)) 150 9 5 underlying150 underlying5 underlying9 ⟨(w.alloc (.cells #[.string e.key,.string e.val,.int .i64 e.aU] 111)).heap.size,0,none⟩ 1 1 [UInt8.ofNat e.key.size] rfl (bn (l:=dh [UInt8.ofNat e.key.size]) (aE.new _ 5 _) 0 _ (by intro j u hu;rw[bh];exact hu));rw[<-HK.o,uZ]at s1
 have S1:=xh s1
 have s2:=bZ (P:=prog) (((w.alloc (.cells #[.string e.key,.string e.val,.int .i64 e.aU] 111)).alloc (.cells #[.int .u8 (e.key.size:Int)] 5)).alloc (.cells (dh (fA m)).toArray 5)) 150 9 5 underlying150 underlying5 underlying9 ⟨((w.alloc (.cells #[.string e.key,.string e.val,.int .i64 e.aU] 111)).alloc (.cells #[.int .u8 (e.key.size:Int)] 5)).heap.size,0,none⟩ 2 2 (fA m) rfl (bn (l:=dh (fA m)) (aE.new _ 5 _) 0 _ (by intro j u hu;rw[bh];exact hu))
 rw[<-HE.o,uZ,uZ]at s2;have S2:=xh s2;have B1:=B.alloc (.cells #[.string e.key,.string e.val,.int .i64 e.aU] 111);have c1:(w.alloc (.cells #[.string e.key,.string e.val,.int .i64 e.aU] 111)).cell? ⟨g,0,none⟩=some (.slice A n c):=B1.ab (i:=0) rfl
 obtain⟨v',w2,ea,SS,ow,fr⟩:=cU (P:=prog) (((S.alloc (.cells #[.string e.key,.string e.val,.int .i64 e.aU] 111)).alloc (.cells #[.int .u8 (e.key.size:Int)] 5)).alloc (.cells #[Value.int .u8 ((m:Int) / 256),Value.int .u8 ((m:Int) % 256)] 5)) 123 123 (.string .empty) 16 underlying123 wh rfl (.string (⟨#[UInt8.ofNat e.key.size]⟩++e.key++⟨(fA m).toArray⟩++e.val)) rfl (by unfold maxLen;omega) (by omega);obtain⟨V2,hJ,rfl⟩:=ao SS;rw[uZ,uZ,uZ]at ea
 have EA:=xh ea;clear s1 s2 ea;have OO:=xh (((((ag.refl (g::ah (.slice A n c)) w).alloc (.cells #[.string e.key,.string e.val,.int .i64 e.aU] 111)).alloc (.cells #[.int .u8 (e.key.size:Int)] 5)).alloc (.cells #[Value.int .u8 ((m:Int) / 256),Value.int .u8 ((m:Int) % 256)] 5)).aN ow (λx hx _=>bz _ hx))
 have B2:=xh ((((B.alloc (.cells #[.string e.key,.string e.val,.int .i64 e.aU] 111)).alloc (.cells #[.int .u8 (e.key.size:Int)] 5)).alloc (.cells #[Value.int .u8 ((m:Int) / 256),Value.int .u8 ((m:Int) % 256)] 5)).only ow hg);have hR3:Value.string (⟨#[UInt8.ofNat e.key.size]⟩++e.key++⟨(fA m).toArray⟩++e.val)= .string ⟨(pT e).toArray⟩:=congrArg Value.string HR.o;rw[hR3,Ca]at SS
 replace SS:=xh SS
 have c2:w2.cell? ⟨g,0,none⟩=some (.slice A n c):=B2.o.ab (i:=0) rfl;have c3:w2.frozen? ⟨g,0,none⟩=false:=B2.o.frozen 0 (by simp);have t8:(fA m).length=2:=rfl;have FR2:=xh (show ∀x∈ah (.slice V2 (n+1) hJ),x∈ah (.slice A n c)\/w.heap.size<=x from λx hx=>(fr x hx).imp id (λh=>by rw[uZ,uZ,uZ]at h;omega));have NE:=xh (show g∉ah (.slice V2 (n+1) hJ)from λhx=>(FR2.o g hx).elim hg (λh=>by have:=B.lt;omega));have HM:=xh hm;unfold E.agg
 clear B1 e0 e1 e2 ow fr S B hg hR2 hR3;have m1:IntKind.u8.wrap ((m:Int) / 256)=(m:Int) / 256:=IntWalk.u8_in _ (by omega);go_enter func118,ntmps118;go_wp2_with fail;rw[S1.o];go_wp2_with fail;rw[S2.o];go_wp2_with fail;rw[EA.o];go_wp2_with fail
 go_end0
 exact⟨rfl,_,B2.o.bG 0 _,SS.o.only ((ag.refl [g] w2).setCell (λ_=>by simp) _) (λx hx=>by simp;exact λhh=>NE.o (hh▸hx)),OO.o.setCell (λ_=>by simp) _,FR2.o⟩
end Nd
end Go.Proofs.YtmonobkginiajaaGreat
