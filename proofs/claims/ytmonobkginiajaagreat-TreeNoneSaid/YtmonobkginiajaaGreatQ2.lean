/- packed. -/
import Derived.Test.YtmonobkginiajaaGreatQ1
import Derived.Laws.Bits64b
import Derived.Lib.AppendStr
import Derived.Deep.QuietTactic
import Derived.BigQuiet
import Derived.Deep.LoopGhost
import Derived.Deep.DrawnRows
import Derived.Laws.ResultCell
import Derived.Deep.RegionHeld3
set_option linter.all false
set_option maxRecDepth 100000
set_option maxHeartbeats 8000000
namespace Go.Proofs.YtmonobkginiajaaGreat.Pk
open Go.RowKit
attribute [local go_sem ↓] aX
def Cl (N k:Nat):List UInt8:=(List.range k).map fun j=>UInt8.ofNat (N / 256 ^ (7-j))
def p7 (N:Nat):List UInt8:=Cl N 8
theorem iN (N k:Nat):Cl N (k+1)=Cl N k++[UInt8.ofNat (N / 256 ^ (7-k))]:=by
 unfold Cl;rw [List.range_succ,List.map_append]; rfl
theorem kQ (N k:Nat):(Cl N k).length=k:=by simp [Cl]
theorem I6 (n:Nat):Value.int .u8 ((n:Int) % 256)=bv (UInt8.ofNat n):=by
 unfold bv
 congr 1
theorem nL (N p:Nat):Value.int .u8 ((N:Int) / (p:Int) % 256)=bv (UInt8.ofNat (N / p)):=by
 rw [←Int.natCast_ediv]; exact I6 _
theorem fX (N:Nat) (hN:N<18446744073709551616) (w:World):
  Calls Tryz.prog 141 #[.slice none 0 0,.int .u64 (N:Int),.int .i64 8] w fun e w'=>(∃v,e= .returned v∧aG w' 5 1 v 8 (cI (p7 N)))∧Below w.heap.size w w':=by
 go_enter Tryz.func141,Tryz.ntmps141;go_wp2_with fail
 go_loopw [0,7] (fun sv iv wr=> ∃(k:Nat),k≤8∧iv= .int .i64 (7-(k:Int))∧aG wr 5 1 sv k (cI (Cl N k))∧Below w.heap.size w wr∧Hid (∀x∈ah sv,w.heap.size≤x)) (fun _ iv _=>(intOf iv+1).toNat)
 case atStart=>exact ⟨0,by omega,rfl,aG.nil _ _ _,Below.refl _ _,xh (by simp [ah])⟩
 case round=>
  obtain ⟨k,hk,rfl,S,O,F⟩:=hrel;obtain ⟨VA,vc,rfl⟩:=aq S;have hkk:k=0∨k=1∨k=2∨k=3∨k=4∨k=5∨k=6∨k=7∨k=8:=by omega
  rcases hkk with rfl | rfl | rfl | rfl | rfl | rfl | rfl | rfl | rfl
  ·have hx:Value.int .u8 ((N:Int) / 72057594037927936)=bv (UInt8.ofNat (N / 72057594037927936)):=by rw [←nL N 72057594037927936]; congr 1; omega
   obtain ⟨v',w2,ea,S2,ow,fr⟩:=cd (P:=Tryz.prog) S 150 150 (.int .u8 0) 1 Tryz.underlying150 gx.dg rfl (.int .u8 ((N:Int) / 72057594037927936)) rfl (by unfold maxLen; omega) (by omega);obtain ⟨V2,fu,rfl⟩:=aq S2;have EA:=xh ea;have SX:=xh (show aG w2 5 1 (.slice V2 (0+1) fu) (0+1) (cI (Cl N (0+1))) from by
    rw [hx] at S2;rw [iN,bU];exact S2)
   have OX:=xh (O.trans (ow.ay O.size F.out));have FX:=xh (show ∀x∈ah (.slice V2 (0+1) fu),w.heap.size≤x from fun x hx=>(fr x hx).elim (F.out x) (fun h=>Nat.le_trans O.size h));clear hx ea S S2 ow fr O;go_wp2_with fail;rw [EA.out];go_wp2_with fail;go_roundw
   case rel=>exact ⟨0+1,by omega,by first | rfl | simp,SX.out,OX.out,FX⟩
   case measure=>first | decide | simp [intOf]
  ·have hx:Value.int .u8 ((N:Int) / 281474976710656 % 256)=bv (UInt8.ofNat (N / 281474976710656)):=nL N 281474976710656;obtain ⟨v',w2,ea,S2,ow,fr⟩:=cd (P:=Tryz.prog) S 150 150 (.int .u8 0) 1 Tryz.underlying150 gx.dg rfl (.int .u8 ((N:Int) / 281474976710656 % 256)) rfl (by unfold maxLen; omega) (by omega);obtain ⟨V2,fu,rfl⟩:=aq S2;have EA:=xh ea;have SX:=xh (show aG w2 5 1 (.slice V2 (1+1) fu) (1+1) (cI (Cl N (1+1))) from by
    rw [hx] at S2;rw [iN,bU];exact S2)
   have OX:=xh (O.trans (ow.ay O.size F.out));have FX:=xh (show ∀x∈ah (.slice V2 (1+1) fu),w.heap.size≤x from fun x hx=>(fr x hx).elim (F.out x) (fun h=>Nat.le_trans O.size h));clear hx ea S S2 ow fr O;go_wp2_with fail;rw [EA.out];go_wp2_with fail;go_roundw
   case rel=>exact ⟨1+1,by omega,by first | rfl | simp,SX.out,OX.out,FX⟩
   case measure=>first | decide | simp [intOf]
  ·have hx:Value.int .u8 ((N:Int) / 1099511627776 % 256)=bv (UInt8.ofNat (N / 1099511627776)):=nL N 1099511627776;obtain ⟨v',w2,ea,S2,ow,fr⟩:=cd (P:=Tryz.prog) S 150 150 (.int .u8 0) 1 Tryz.underlying150 gx.dg rfl (.int .u8 ((N:Int) / 1099511627776 % 256)) rfl (by unfold maxLen; omega) (by omega);obtain ⟨V2,fu,rfl⟩:=aq S2;have EA:=xh ea;have SX:=xh (show aG w2 5 1 (.slice V2 (2+1) fu) (2+1) (cI (Cl N (2+1))) from by
    rw [hx] at S2;rw [iN,bU];exact S2)
   have OX:=xh (O.trans (ow.ay O.size F.out));have FX:=xh (show ∀x∈ah (.slice V2 (2+1) fu),w.heap.size≤x from fun x hx=>(fr x hx).elim (F.out x) (fun h=>Nat.le_trans O.size h));clear hx ea S S2 ow fr O;go_wp2_with fail;rw [EA.out];go_wp2_with fail;go_roundw
   case rel=>exact ⟨2+1,by omega,by first | rfl | simp,SX.out,OX.out,FX⟩
   case measure=>first | decide | simp [intOf]
  ·have hx:Value.int .u8 ((N:Int) / 4294967296 % 256)=bv (UInt8.ofNat (N / 4294967296)):=nL N 4294967296;obtain ⟨v',w2,ea,S2,ow,fr⟩:=cd (P:=Tryz.prog) S 150 150 (.int .u8 0) 1 Tryz.underlying150 gx.dg rfl (.int .u8 ((N:Int) / 4294967296 % 256)) rfl (by unfold maxLen; omega) (by omega);obtain ⟨V2,fu,rfl⟩:=aq S2;have EA:=xh ea;have SX:=xh (show aG w2 5 1 (.slice V2 (3+1) fu) (3+1) (cI (Cl N (3+1))) from by
    rw [hx] at S2;rw [iN,bU];exact S2)
   have OX:=xh (O.trans (ow.ay O.size F.out));have FX:=xh (show ∀x∈ah (.slice V2 (3+1) fu),w.heap.size≤x from fun x hx=>(fr x hx).elim (F.out x) (fun h=>Nat.le_trans O.size h));clear hx ea S S2 ow fr O;go_wp2_with fail;rw [EA.out];go_wp2_with fail;go_roundw
   case rel=>exact ⟨3+1,by omega,by first | rfl | simp,SX.out,OX.out,FX⟩
   case measure=>first | decide | simp [intOf]
  ·have hx:Value.int .u8 ((N:Int) / 16777216 % 256)=bv (UInt8.ofNat (N / 16777216)):=nL N 16777216;obtain ⟨v',w2,ea,S2,ow,fr⟩:=cd (P:=Tryz.prog) S 150 150 (.int .u8 0) 1 Tryz.underlying150 gx.dg rfl (.int .u8 ((N:Int) / 16777216 % 256)) rfl (by unfold maxLen; omega) (by omega);obtain ⟨V2,fu,rfl⟩:=aq S2;have EA:=xh ea;have SX:=xh (show aG w2 5 1 (.slice V2 (4+1) fu) (4+1) (cI (Cl N (4+1))) from by
    rw [hx] at S2;rw [iN,bU];exact S2)
   have OX:=xh (O.trans (ow.ay O.size F.out));have FX:=xh (show ∀x∈ah (.slice V2 (4+1) fu),w.heap.size≤x from fun x hx=>(fr x hx).elim (F.out x) (fun h=>Nat.le_trans O.size h));clear hx ea S S2 ow fr O;go_wp2_with fail;rw [EA.out];go_wp2_with fail;go_roundw
   case rel=>exact ⟨4+1,by omega,by first | rfl | simp,SX.out,OX.out,FX⟩
   case measure=>first | decide | simp [intOf]
  ·have hx:Value.int .u8 ((N:Int) / 65536 % 256)=bv (UInt8.ofNat (N / 65536)):=nL N 65536;obtain ⟨v',w2,ea,S2,ow,fr⟩:=cd (P:=Tryz.prog) S 150 150 (.int .u8 0) 1 Tryz.underlying150 gx.dg rfl (.int .u8 ((N:Int) / 65536 % 256)) rfl (by unfold maxLen; omega) (by omega);obtain ⟨V2,fu,rfl⟩:=aq S2;have EA:=xh ea;have SX:=xh (show aG w2 5 1 (.slice V2 (5+1) fu) (5+1) (cI (Cl N (5+1))) from by
    rw [hx] at S2;rw [iN,bU];exact S2)
   have OX:=xh (O.trans (ow.ay O.size F.out));have FX:=xh (show ∀x∈ah (.slice V2 (5+1) fu),w.heap.size≤x from fun x hx=>(fr x hx).elim (F.out x) (fun h=>Nat.le_trans O.size h));clear hx ea S S2 ow fr O;go_wp2_with fail;rw [EA.out];go_wp2_with fail;go_roundw
   case rel=>exact ⟨5+1,by omega,by first | rfl | simp,SX.out,OX.out,FX⟩
   case measure=>first | decide | simp [intOf]
  ·have hx:Value.int .u8 ((N:Int) / 256 % 256)=bv (UInt8.ofNat (N / 256)):=nL N 256;obtain ⟨v',w2,ea,S2,ow,fr⟩:=cd (P:=Tryz.prog) S 150 150 (.int .u8 0) 1 Tryz.underlying150 gx.dg rfl (.int .u8 ((N:Int) / 256 % 256)) rfl (by unfold maxLen; omega) (by omega);obtain ⟨V2,fu,rfl⟩:=aq S2;have EA:=xh ea;have SX:=xh (show aG w2 5 1 (.slice V2 (6+1) fu) (6+1) (cI (Cl N (6+1))) from by
    rw [hx] at S2;rw [iN,bU];exact S2)
   have OX:=xh (O.trans (ow.ay O.size F.out));have FX:=xh (show ∀x∈ah (.slice V2 (6+1) fu),w.heap.size≤x from fun x hx=>(fr x hx).elim (F.out x) (fun h=>Nat.le_trans O.size h));clear hx ea S S2 ow fr O;go_wp2_with fail;rw [EA.out];go_wp2_with fail;go_roundw
   case rel=>exact ⟨6+1,by omega,by first | rfl | simp,SX.out,OX.out,FX⟩
   case measure=>first | decide | simp [intOf]
  ·have hx:Value.int .u8 ((N:Int) % 256)=bv (UInt8.ofNat N):=I6 N;obtain ⟨v',w2,ea,S2,ow,fr⟩:=cd (P:=Tryz.prog) S 150 150 (.int .u8 0) 1 Tryz.underlying150 gx.dg rfl (.int .u8 ((N:Int) % 256)) rfl (by unfold maxLen; omega) (by omega);obtain ⟨V2,fu,rfl⟩:=aq S2;have EA:=xh ea;have SX:=xh (show aG w2 5 1 (.slice V2 (7+1) fu) (7+1) (cI (Cl N (7+1))) from by
    rw [hx] at S2;rw [iN,bU];exact (by rw [Nat.sub_self,Nat.pow_zero,Nat.div_one]; exact S2))
   have OX:=xh (O.trans (ow.ay O.size F.out));have FX:=xh (show ∀x∈ah (.slice V2 (7+1) fu),w.heap.size≤x from fun x hx=>(fr x hx).elim (F.out x) (fun h=>Nat.le_trans O.size h));clear hx ea S S2 ow fr O;go_wp2_with fail;rw [EA.out];go_wp2_with fail;go_roundw
   case rel=>exact ⟨7+1,by omega,by first | rfl | simp,SX.out,OX.out,FX⟩
   case measure=>first | decide | simp [intOf]
  ·have SX:=xh S;have OX:=xh O;clear S O;go_wp2_with fail;go_ret;exact ⟨⟨_,rfl,SX.out⟩,OX.out⟩
def dR (n:Int):List UInt8:=p7 ((n+9223372036854775808) % 18446744073709551616).toNat
theorem I_any (n:Int) (h0:0≤n) (h1:n≤1099511627776) (w:World):
  Calls Tryz.prog 88 #[.int .i64 n] w fun e w'=>e= .returned (.string ⟨(dR n).toArray⟩)∧Below w.heap.size w w':=by
 obtain ⟨m,rfl⟩:=Int.eq_ofNat_of_zero_le h0;have hN:(((m:Int)+9223372036854775808) % 18446744073709551616).toNat=m+9223372036854775808:=by omega
 have hNI:((m+9223372036854775808:Nat):Int)=(m:Int)+9223372036854775808:=by omega
 have K:=xh (fX (m+9223372036854775808) (by omega) w);rw [hNI] at K;unfold dR;rw [hN];have e1:IntKind.u64.wrap (m:Int)=(m:Int):=IntWalk.u64_in _ (by omega);have e2:IntKind.u64.wrap ((m:Int)+9223372036854775808)=(m:Int)+9223372036854775808:=IntWalk.u64_in _ (by omega);clear hN hNI;go_enter Tryz.func88,Tryz.ntmps88;go_wp2_with fail;refine K.out.mono ?_;rintro e w1 ⟨⟨v,rfl,S⟩,hb⟩;obtain ⟨g,cap,rest,rfl,B,hc,_⟩:=S.form (by omega) (by omega)
 have ST:=xh (bs (P:=Tryz.prog) w1 150 9 5 Tryz.underlying150 Tryz.underlying5 Tryz.underlying9 ⟨g,0,none⟩ 8 cap (p7 (m+9223372036854775808)) rfl (aV B 0 _ (by intro j u hu; rw [Nat.zero_add]; exact List.getElem?_append_left (List.getElem?_eq_some_iff.1 hu).1▸hu)));have HB:=xh hb;clear hb S B;go_wp2_with fail;rw [ST.out];go_wp2_with fail;go_ret;exact ⟨rfl,HB.out⟩
end Go.Proofs.YtmonobkginiajaaGreat.Pk
namespace Go.Proofs.YtmonobkginiajaaGreat.Pk
open Go.RowKit
def lH (l:List UInt8):Nat:=l.foldl (fun n b=>n*256+b.toNat) 0
theorem I8 (l:List UInt8) (b:UInt8):lH (l++[b])=lH l*256+b.toNat:=by simp [lH]
theorem beN_lt' (l:List UInt8): ∀n:Nat,l.foldl (fun n b=>n*256+b.toNat) n<(n+1)*256 ^ l.length:=by
 induction l with
 | nil=>intro n; simp
 | cons b l ih=>
  intro n;have h1:=ih (n*256+b.toNat);have h2:=b.toNat_lt;rw [List.foldl_cons,List.length_cons,Nat.pow_succ];refine Nat.lt_of_lt_of_le h1 ?_;rw [show (n+1)*(256 ^ l.length*256)=((n+1)*256)*256 ^ l.length by rw [Nat.mul_assoc,Nat.mul_comm (256 ^ l.length) 256]];exact Nat.mul_le_mul_right _ (by omega)
theorem xU (l:List UInt8):lH l<256 ^ l.length:=by
 have:=beN_lt' l 0;rw [Nat.zero_add,Nat.one_mul] at this;exact this
theorem or_join (n b:Nat) (hn:n<72057594037927936) (hb:b<256):bits .or .u64 ((n:Int)*256) (b:Int)=((n*256+b:Nat):Int):=by
 have h:=bits_or_u64_nat (n*256) b (by omega) (by omega);rw [show ((n*256:Nat):Int)=(n:Int)*256 by omega] at h;rw [h];have:=Nat.two_pow_add_eq_or_of_lt (i:=8) hb n;rw [show 2 ^ 8*n=n*256 by omega] at this;rw [←this]
theorem get_any (s:ByteArray) (hs:s.size=8) (w:World):
  Calls Tryz.prog 187 #[.string s] w fun e w'=>e= .returned (.int .u64 (lH s.data.toList:Nat))∧Below w.heap.size w w':=by
 have HL:=xh (show s.data.toList.length=8 from by simpa using hs);go_enter Tryz.func187,Tryz.ntmps187;go_wp2_with fail
 go_loopw [3,7] (fun nv iv wr=> ∃(i:Nat),i≤8∧nv= .int .u64 (lH (s.data.toList.take i):Nat)∧iv= .int .i64 i∧Below w.heap.size w wr) (fun _ iv _=>8-(intOf iv).toNat)
 case atStart=>exact ⟨0,by omega,by simp [lH],rfl,Below.refl _ _⟩
 case round=>
  obtain ⟨i,hi,rfl,rfl,O⟩:=hrel
  by_cases h:i<8
  ·have hsi:i<s.size:=by omega
   have hlen:=HL.out;have hT:s.data.toList.take (i+1)=s.data.toList.take i++[s[i]]:=by
    rw [List.take_succ_eq_append_getElem (by omega)]; rfl
   have dL:=xU (s.data.toList.take i);rw [List.length_take] at dL;have hlt2:lH (s.data.toList.take i)<72057594037927936:=Nat.lt_of_lt_of_le dL (Nat.le_trans (Nat.pow_le_pow_right (by omega) (show min i s.data.toList.length≤7 by omega)) (by decide));have hN:lH (s.data.toList.take (i+1))=lH (s.data.toList.take i)*256+s[i].toNat:=by rw [hT,I8]
   obtain ⟨n,hn⟩: ∃n,lH (s.data.toList.take i)=n:=⟨_,rfl⟩;rw [hn] at hlt2 hN ⊢;have hb:=s[i].toNat_lt;have HV:=xh (or_join n s[i].toNat hlt2 hb);have HN:=xh hN;have hiI:(i:Int)<8:=by omega
   have hiS:(i:Int)<(s.size:Int):=by omega
   have v1:IntKind.u64.wrap (s[i].toNat:Int)=(s[i].toNat:Int):=IntWalk.u64_in _ (by omega);have v2:IntKind.u64.wrap ((n:Int)*256)=(n:Int)*256:=IntWalk.u64_in _ (by omega);have OX:=xh O;clear hT dL hN hn O;go_wp2_with fail;rw [HV.out];exact ⟨⟨i+1,by omega,by rw [HN.out],by go_num,OX.out⟩,by simp [intOf]; omega⟩
  ·obtain rfl:i=8:=by omega
   have hlen:=HL.out;have OX:=xh O;rw [List.take_of_length_le (by omega)];clear O;go_wp2_with fail;go_ret;exact ⟨rfl,OX.out⟩
theorem I9 (s:ByteArray) (at_ n:Int) (w:World) (h0:0≤at_) (h1:at_+n≤s.size) (hn:0≤n) (hs:s.size≤1000000):
  Calls Tryz.prog 186 #[.string s,.int .i64 at_,.int .i64 n] w fun e w'=>e= .returned (.int .i64 0)∧Below w.heap.size w w':=by
 have a1: ¬at_<0:=by omega
 have a2: ¬(s.size:Int)<at_:=by omega
 have a3:IntKind.i64.wrap ((s.size:Int)-at_)=(s.size:Int)-at_:=IntWalk.i64_in _ (by omega);have a4: ¬(s.size:Int)-at_<n:=by omega
 go_enter Tryz.func186,Tryz.ntmps186;go_wp2_with fail;go_ret;exact ⟨rfl,Below.refl _ _⟩
theorem wk (s:ByteArray) (k:Nat) (w:World) (h1:k+8≤s.size) (hs:s.size≤1000000):
  Calls Tryz.prog 142 #[.string s,.int .i64 (k:Nat)] w fun e w'=>e= .returned (.tuple #[.int .u64 (lH ((s.extract k (k+8)).data.toList):Nat),.int .i64 ((k:Int)+8),.int .i64 0])∧Below w.heap.size w w':=by
 have lK:(s.extract k (k+8)).size=8:=by rw [ByteArray.size_extract]; omega
 have KL:=xh (I9 s (k:Nat) 8 w (by omega) (by omega) (by omega) hs);have KG:=xh (fun w=>get_any (s.extract k (k+8)) lK w);obtain ⟨N,hN⟩: ∃N,lH ((s.extract k (k+8)).data.toList)=N:=⟨_,rfl⟩;rw [hN] at KG ⊢;clear hN;have e1:IntKind.i64.wrap ((k:Int)+8)=(k:Int)+8:=IntWalk.i64_in _ (by omega);have e2:(0:Int)≤(k:Int)+8:=by omega
 have e3:((k:Int)+8).toNat=k+8:=by omega
 have e4:(k:Int)≤(k:Int)+8:=by omega
 have e5:(k:Int)+8≤(s.size:Int):=by omega
 go_enter Tryz.func142,Tryz.ntmps142;go_wp2_with fail;refine KL.out.mono ?_;rintro e w1 ⟨rfl,aM⟩;have O1:=xh aM;clear aM;go_wp2_with fail;refine (KG.out _).mono ?_;rintro e w2 ⟨rfl,bT⟩;have O2:=xh (ao O1.out bT);clear bT;go_wp2_with fail
 go_ret3
 exact ⟨rfl,O2.out⟩
theorem wm (s:ByteArray) (k:Nat) (w:World) (h1:k+8≤s.size) (hs:s.size≤1000000):
  Calls Tryz.prog 89 #[.string s,.int .i64 (k:Nat)] w fun e w'=>e= .returned (.tuple #[.int .i64 ((lH ((s.extract k (k+8)).data.toList):Int)-9223372036854775808),.int .i64 ((k:Int)+8),.int .i64 0])∧Below w.heap.size w w':=by
 have lK:(s.extract k (k+8)).size=8:=by rw [ByteArray.size_extract]; omega
 have dL:=xU (s.extract k (k+8)).data.toList;rw [show (s.extract k (k+8)).data.toList.length=8 from lK] at dL;have KU:=xh (wk s k w h1 hs);obtain ⟨N,hN⟩: ∃N,lH ((s.extract k (k+8)).data.toList)=N:=⟨_,rfl⟩;rw [hN] at KU dL ⊢;have HV:=xh (show wrap64 (IntKind.u64.wrap ((N:Int)+9223372036854775808))=(N:Int)-9223372036854775808 from by
  rw [IntKind.wrap_u64]; unfold wrap64; omega)
 clear hN dL lK;go_enter Tryz.func89,Tryz.ntmps89;go_wp2_with fail;refine KU.out.mono ?_;rintro e w1 ⟨rfl,aM⟩;have O1:=xh aM;clear aM;go_wp2_with fail
 go_ret3
 refine ⟨?_,O1.out⟩;have hv:=HV.out;simp only [Array.getD_eq_getD_getElem?,List.getElem?_toArray,List.getElem?_cons_succ,List.getElem?_cons_zero,Option.getD_some,hv]
end Go.Proofs.YtmonobkginiajaaGreat.Pk
namespace Go.Proofs.YtmonobkginiajaaGreat.Pg
open Go.RowKit Pk
noncomputable def lM (P:Program) (T U ty:TypeId) (w:World) (s x:Value):Result Value:=(Builtin.append_ #[T,U] ty #[s,x]).run P w
theorem p9 (P:Program) (ρ:Operand→Value) (dst:Option Tmp) (s x:Operand) (T U t:TypeId) (p:String) (af:Array Edge) (g:Option (Nat×Bool)) (w:World):
  (execOp ρ {dst:=dst,op:= .call {callee:= .builtin .append,args:= #[s,x],argTypes:= #[T,U]},type:=t,pos:=p,after:=af,guard:=g}).run P w=(lM P T U t w (ρ s) (ρ x)).andThen fun v w'=> .ok (.value v) w':=by
 simp [execOp,resolve,invoke,builtin,lM]
theorem xV (n:Nat):(Builtin.zeroCells (Value.int .u8 0).cells n).toList=List.replicate n (Value.int .u8 0):=by
 apply List.ext_getElem
 ·simp [Builtin.zeroCells,Value.cells]
 ·intro i h1 h2;simp [Builtin.zeroCells,Value.cells,Nat.mod_one]
theorem fK {P:Program} {w:World} {e:TypeId} {v:Value} {n:Nat} {l:List Value} (h:aG w e 1 v n l)
  (T U ty:TypeId) (ht:P.underlying T=some (.slice e)) (hu:P.underlying U=some .string) (kn:(P.info? e).map (fun i=>(i.zero,i.size,i.bytes))=some (some (.int .u8 0),1,1))
  (s:ByteArray) (zg:n+s.size≤140737488355328):
  ∃v' w',lM P T U ty w v (.string s)= .ok v' w'∧aG w' e 1 v' (n+s.size) (l++cI s.data.toList)∧ag (ah v) w w'∧(∀g∈ah v',g∈ah v∨w.heap.size≤g):=by
 obtain ⟨i,hi,hz,sL,hby⟩:=info_parts kn;have hcs:Lib.strCells s=cI s.data.toList:=rfl;have hlen:(cI s.data.toList).length=s.size:=by simp
 have oN:=h.1
 rcases h.2 with ⟨rfl,rfl⟩ | ⟨g,cap,rest,rfl,B,hc,hm⟩
 ·have vH:l=[]:=List.eq_nil_of_length_eq_zero (by simpa using h.1);subst vH;obtain ⟨v',w',hr,h2,h3,_⟩:=Lib.run_append_own_string (P:=P) w w.heap.size T U ty e i ht hu hi hz sL hby (.slice none 0 0) 0 [] (World.ownsRow_nil _ _ _ _) s (by unfold maxLen; omega) (by omega) (Nat.le_refl _);refine ⟨v',w',hr,.sK h2,(ag.refl _ _).grown h3 (by simp [Value.ownBlock]),?_⟩;intro g hg
  rcases h2.2 with ⟨rfl,_⟩ | ⟨g',cap,cur,rfl,hb,_⟩
  ·simp [ah] at hg
  ·simp [ah] at hg; subst hg; exact .inr hb
 ·by_cases hr:n+s.size≤cap
  ·have hf:=Lib.run_firstCells_string (P:=P) w 1 s;have pV:=run_storeCells_cells (P:=P) g n (cI s.data.toList) 0 w (fun j hj=>by rw [B.cell]; simp at hj ⊢; omega) (fun j hj=>B.frozen _ (by simp at hj ⊢; omega)) (oK _);refine ⟨.slice (some ⟨g,0,none⟩) (n+s.size) cap,w.setCells g n (cI s.data.toList),?_,⟨by simp; omega,.inr ⟨g,cap,rest.drop s.size,rfl,?_,by simp; omega,hm⟩⟩,(ag.refl _ _).setCells _ _ (by simp [ah]),by simp [ah]⟩
   ·simp only [Nat.add_zero] at pV;rw [hcs] at hf;simp [lM,Builtin.append_,run_underlying ht,run_underlying hu,sizeOf,typeInfo,hi,sL,Builtin.lenOf,hr,hf,Addr.add_lit,pV]
   ·have B2:=B.setCells (cI s.data.toList) n (by simp; omega);have e2:putAt (l++rest) n (cI s.data.toList)=l++cI s.data.toList++rest.drop s.size:=by
     unfold putAt;have:l.length=n:=by omega
     rw [hlen,←this,List.take_left,←List.drop_drop,List.drop_left]
    rwa [e2] at B2
  ·have sM:=Lib.run_append_grow_string (P:=P) w T U ty e i (.int .u8 0) ht hu hi hz ⟨g,0,none⟩ n cap l (by rw [sL]; exact h.1) (aV B 0 l (by intro j u hu; rw [Nat.zero_add]; exact List.getElem?_append_left (List.getElem?_eq_some_iff.1 hu).1▸hu)) s (by omega) (by omega) (by rw [hby]; exact growslice_fits (by omega) (by omega));have BR:=grownCap_ge w (n+s.size) cap e;have rl:=grownCap_le_maxLen w (n+s.size) cap e (by unfold maxLen; omega)
   refine ⟨_,_,sM,⟨by simp; omega,.inr ⟨w.heap.size,_,List.replicate (grownCap w (n+s.size) cap e-(n+s.size)) (Value.int .u8 0),rfl,?_,by simp; omega,rl⟩⟩,(ag.refl _ _).drew.alloc _,by simp [ah]⟩;have B3:=ax.new w.drew e (l.toArray++(Lib.strCells s).toArray++Builtin.zeroCells (Value.int .u8 0).cells (grownCap w (n+s.size) cap e-(n+s.size)))
   have e3:l.toArray++(Lib.strCells s).toArray++Builtin.zeroCells (Value.int .u8 0).cells (grownCap w (n+s.size) cap e-(n+s.size))=(l++cI s.data.toList++List.replicate (grownCap w (n+s.size) cap e-(n+s.size)) (Value.int .u8 0)).toArray:=by
    apply Array.toList_inj.1;simp only [Array.toList_append,hcs]
    congr 1
    exact xV _
   rw [←e3];exact B3
theorem I_all (m:Nat) (h1:m<9223372036854775808) (w:World):
  Calls Tryz.prog 88 #[.int .i64 (m:Nat)] w fun e w'=>e= .returned (.string ⟨(dR m).toArray⟩)∧Below w.heap.size w w':=by
 have hN:(((m:Int)+9223372036854775808) % 18446744073709551616).toNat=m+9223372036854775808:=by omega
 have hNI:((m+9223372036854775808:Nat):Int)=(m:Int)+9223372036854775808:=by omega
 have K:=xh (fX (m+9223372036854775808) (by omega) w);rw [hNI] at K;unfold dR;rw [hN];have e1:IntKind.u64.wrap (m:Int)=(m:Int):=IntWalk.u64_in _ (by omega);have e2:IntKind.u64.wrap ((m:Int)+9223372036854775808)=(m:Int)+9223372036854775808:=IntWalk.u64_in _ (by omega);clear hN hNI;go_enter Tryz.func88,Tryz.ntmps88;go_wp2_with fail;refine K.out.mono ?_;rintro e w1 ⟨⟨v,rfl,S⟩,hb⟩;obtain ⟨g,cap,rest,rfl,B,hc,_⟩:=S.form (by omega) (by omega)
 have ST:=xh (bs (P:=Tryz.prog) w1 150 9 5 Tryz.underlying150 Tryz.underlying5 Tryz.underlying9 ⟨g,0,none⟩ 8 cap (p7 (m+9223372036854775808)) rfl (aV B 0 _ (by intro j u hu; rw [Nat.zero_add]; exact List.getElem?_append_left (List.getElem?_eq_some_iff.1 hu).1▸hu)));have HB:=xh hb;clear hb S B;go_wp2_with fail;rw [ST.out];go_wp2_with fail;go_ret;exact ⟨rfl,HB.out⟩
theorem U_any (m:Nat) (h1:m<18446744073709551616) (w:World):
  Calls Tryz.prog 253 #[.int .u64 (m:Nat)] w fun e w'=>e= .returned (.string ⟨(p7 m).toArray⟩)∧Below w.heap.size w w':=by
 have K:=xh (fX m h1 w);go_enter Tryz.func253,Tryz.ntmps253;go_wp2_with fail;refine K.out.mono ?_;rintro e w1 ⟨⟨v,rfl,S⟩,hb⟩;obtain ⟨g,cap,rest,rfl,B,hc,_⟩:=S.form (by omega) (by omega);have ST:=xh (bs (P:=Tryz.prog) w1 150 9 5 Tryz.underlying150 Tryz.underlying5 Tryz.underlying9 ⟨g,0,none⟩ 8 cap (p7 m) rfl (aV B 0 _ (by intro j u hu; rw [Nat.zero_add]; exact List.getElem?_append_left (List.getElem?_eq_some_iff.1 hu).1▸hu)));have HB:=xh hb;clear hb S B
 go_wp2_with fail;rw [ST.out];go_wp2_with fail;go_ret;exact ⟨rfl,HB.out⟩
def gl (id ep kd:Int) (s:ByteArray):Value:= .agg #[.int .i64 id,.int .i64 ep,.int .i64 kd,.string s]
def Ja (id ep kd:Int) (s:ByteArray):Array Value:= #[.int .i64 id,.int .i64 ep,.int .i64 kd,.string s]
def Cm (id ep kd:Int):Bool:=decide (0≤id) && decide (0≤ep) && decide (ep≤1099511627776) && decide (0≤kd) && decide (kd≤2147483647)
theorem kR (id ep kd:Int):Cm id ep kd=true↔0≤id∧0≤ep∧ep≤1099511627776∧0≤kd∧kd≤2147483647:=by
 unfold Cm;simp only [Bool.and_eq_true,decide_eq_true_eq];omega
theorem ae {W w1:World} (h:Below W.heap.size W w1) (o:Obj):Below W.heap.size W (w1.alloc o):=h.alloc h.size o
theorem kS {w:World} (id ep kd:Int) (s:ByteArray) (b:Bool) (hb:Cm id ep kd=b):
  Calls Tryz.prog 222 #[gl id ep kd s] w fun e w'=>e= .returned (.bool b)∧Below w.heap.size w w':=by
 have B0:=ax.new w 162 (Ja id ep kd s);have O0:=xh (ae (Below.refl w.heap.size w) (.cells (Ja id ep kd s) 162));unfold Ja at B0 O0;have c0:(w.alloc (.cells #[.int .i64 id,.int .i64 ep,.int .i64 kd,.string s] 162)).cell? ⟨w.heap.size,0,none⟩=some (.int .i64 id):=B0.ab (i:=0) rfl;have c1:(w.alloc (.cells #[.int .i64 id,.int .i64 ep,.int .i64 kd,.string s] 162)).cell? ⟨w.heap.size,1,none⟩=some (.int .i64 ep):=B0.ab (i:=1) rfl
 have c2:(w.alloc (.cells #[.int .i64 id,.int .i64 ep,.int .i64 kd,.string s] 162)).cell? ⟨w.heap.size,2,none⟩=some (.int .i64 kd):=B0.ab (i:=2) rfl;clear B0;unfold Cm at hb;have HB:=xh hb;clear hb;unfold gl
 by_cases h1:0≤id
 ·by_cases h2:0≤ep
  ·by_cases h3:ep≤1099511627776
   ·by_cases h4:0≤kd
    ·by_cases h5:kd≤2147483647
     all_goals
      go_enter Tryz.func222,Tryz.ntmps222;go_wp2_with fail;go_ret;exact ⟨by rw [←HB.out]; first | (simp [h1,h2,h3,h4,h5]; done) | (simp [h1,h2,h3,h4,h5]; omega),O0.out⟩
    ·go_enter Tryz.func222,Tryz.ntmps222;go_wp2_with fail;go_ret;exact ⟨by rw [←HB.out]; first | (simp [h1,h2,h3,h4]; done) | (simp [h1,h2,h3,h4]; omega),O0.out⟩
   ·go_enter Tryz.func222,Tryz.ntmps222;go_wp2_with fail;go_ret;exact ⟨by rw [←HB.out]; first | (simp [h1,h2,h3]; done) | (simp [h1,h2,h3]; omega),O0.out⟩
  ·go_enter Tryz.func222,Tryz.ntmps222;go_wp2_with fail;go_ret;exact ⟨by rw [←HB.out]; first | (simp [h1,h2]; done) | (simp [h1,h2]; omega),O0.out⟩
 ·go_enter Tryz.func222,Tryz.ntmps222;go_wp2_with fail;go_ret;exact ⟨by rw [←HB.out]; first | (simp [h1]; done) | (simp [h1]; omega),O0.out⟩
end Go.Proofs.YtmonobkginiajaaGreat.Pg
namespace Go.Proofs.YtmonobkginiajaaGreat.Pg
open Go.RowKit Pk
attribute [local go_sem ↓] Go.wp_at_zero Go.wp_at_succ
structure j5 (w0:Nat) (w:World) (gb:Nat) (v:Value) (l:List UInt8):Prop where
 oM:ax w gb 150 #[v]
 FZ:aG w 5 1 v l.length (cI l)
 own: ∀g∈ah v,w0≤g
 low:w0≤gb
theorem cv {w:World} {e t:TypeId} {size n b:Nat} {v:Value} {l:List Value} {cs:Array Value} (h:aG w e size v n l) (B:ax w b t cs) (eg:t≠e):b∉ah v:=by
 rcases h.2 with ⟨rfl,_⟩ | ⟨g,cap,rest,rfl,B2,_⟩
 ·simp [ah]
 ·intro hb;simp [ah] at hb;subst hb;exact B.jF B2 eg rfl
theorem j5.below {w0:Nat} {w w':World} {gb:Nat} {v:Value} {l:List UInt8} (h:j5 w0 w gb v l) (hb:Below w.heap.size w w'):j5 w0 w' gb v l:=⟨h.oM.below hb h.oM.lt,h.FZ.below hb,h.own,h.low⟩
theorem j5.grow {w0:Nat} {w w1:World} {gb:Nat} {v v':Value} {l m:List UInt8} (h:j5 w0 w gb v l) (hw:w0≤w.heap.size) (S:aG w1 5 1 v' (l.length+m.length) (cI (l++m))) (o:ag (ah v) w w1) (fr: ∀g∈ah v',g∈ah v∨w.heap.size≤g):
  w1.cell? ⟨gb,0,none⟩=some v∧w1.frozen? ⟨gb,0,none⟩=false∧j5 w0 (w1.setCell ⟨gb,0,none⟩ v') gb v' (l++m)∧Below w0 w (w1.setCell ⟨gb,0,none⟩ v'):=by
 have hn:gb∉ah v:=cv h.FZ h.oM (by decide);have B1:=h.oM.only o hn;have B2:=B1.bq 0 v';have hn':gb∉ah v':=cv S B1 (by decide);have o2:=(ag.refl [gb] w1).setCell (p:=⟨gb,0,none⟩) (by simp) v';refine ⟨B1.ab rfl,B1.frozen 0 (by simp),⟨B2,?_,fun g hg=>(fr g hg).elim (h.own g) (fun h=>Nat.le_trans hw h),h.low⟩,?_⟩
 ·rw [List.length_append];exact S.only o2 (fun g hg=>by
   intro h1
   rcases List.mem_singleton.1 h1 with rfl
   exact hn' hg)
 ·have ow:ag (ah v++[gb]) w (w1.setCell ⟨gb,0,none⟩ v'):=(o.mono (fun x hx _=>List.mem_append_left _ hx)).trans (o2.mono (fun x hx _=>List.mem_append_right _ hx));exact ow.ay hw (fun x hx=>(List.mem_append.1 hx).elim (h.own x) (fun h1=>by rcases List.mem_singleton.1 h1 with rfl; exact h.low))
section
attribute [local go_sem ↓] p9
theorem sj {w0:Nat} {w:World} {gb:Nat} {v:Value} {l:List UInt8} (h:j5 w0 w gb v l) (hw:w0≤w.heap.size) (s:ByteArray) (hs:l.length+s.size≤1000000):
  Calls Tryz.prog 252 #[.string s,.pointer (some ⟨gb,0,none⟩)] w fun e w'=>e= .returned (.tuple #[])∧(∃v',j5 w0 w' gb v' (l++s.data.toList))∧Below w0 w w':=by
 have c0:w.cell? ⟨gb,0,none⟩=some v:=h.oM.ab rfl;obtain ⟨v',w1,ea,S1,ow,fr⟩:=fK (P:=Tryz.prog) h.FZ 150 9 150 Tryz.underlying150 Tryz.underlying9 gx.dg s (by omega);have lK:s.data.toList.length=s.size:=by simp
 rw [←bU,←lK] at S1;obtain ⟨V2,fu,rfl⟩:=aq S1;obtain ⟨c1,z1,B2,O2⟩:=h.grow hw S1 ow fr;obtain ⟨V1,oF,rfl⟩:=aq h.FZ;have EA:=xh ea;have BX:=xh B2;have OX:=xh O2;clear ea S1 ow fr B2 O2 h lK;go_enter Tryz.func252,Tryz.ntmps252;go_wp2_with fail;rw [EA.out];go_wp2_with fail
 go_end0
 exact ⟨rfl,⟨_,BX.out⟩,OX.out⟩
end
def iO (id ep kd:Int) (s:List UInt8):List UInt8:=dR id++dR ep++(p7 kd.toNat).drop 4++s
def dA (l:List UInt8) (n:Nat):List UInt8:=l++List.replicate (n-l.length) 0
def iq (id ep kd:Int) (s:List UInt8):List UInt8:=gx.aY (dA (iO id ep kd s) 252)
def cL (id ep kd:Int) (s:List UInt8):List UInt8×Int:=if Cm id ep kd=true then (if 232<s.length then ([],4) else (iq id ep kd s,0)) else ([],2)
theorem pput_no {w:World} (id ep kd:Int) (s:ByteArray) (h:Cm id ep kd=false):
  Calls Tryz.prog 242 #[gl id ep kd s] w fun e w'=>e= .returned (.tuple #[.string ⟨#[]⟩,.int .i64 2])∧Below w.heap.size w w':=by
 have O0:=xh (ae (Below.refl w.heap.size w) (.cells #[.int .i64 id,.int .i64 ep,.int .i64 kd,.string s] 162));have B0:=ax.new w 162 #[.int .i64 id,.int .i64 ep,.int .i64 kd,.string s];have c0:=B0.ab (i:=0) rfl;have c1:=B0.ab (i:=1) rfl;have c2:=B0.ab (i:=2) rfl;have c3:=B0.ab (i:=3) rfl;have K:=xh (fun w=>kS (w:=w) id ep kd s false h);clear h B0;unfold gl at *;go_enter Tryz.func242,Tryz.ntmps242;go_wp2_with fail;refine (K.out _).mono ?_
 rintro e w1 ⟨rfl,aM⟩;have O1:=xh (ao O0.out aM);clear aM;go_wp2_with fail;go_ret2;exact ⟨rfl,O1.out⟩
end Go.Proofs.YtmonobkginiajaaGreat.Pg
namespace Go.Proofs.YtmonobkginiajaaGreat.Pg
open Go.RowKit Pk
attribute [local go_sem ↓] Go.wp_at_zero Go.wp_at_succ aX
theorem ev (n:Int):(dR n).length=8:=by unfold dR p7; rw [kQ]
theorem exl (u:ByteArray) (a b:Nat):(u.extract a b).data.toList=(u.data.toList.drop a).take (b-a):=by
 rw [ByteArray.data_extract,Array.toList_extract,List.extract_eq_take_drop]
theorem kT (n:Nat):(p7 n).length=8:=by unfold p7; rw [kQ]
theorem fL (l:List UInt8):(⟨l.toArray⟩:ByteArray).size=l.length:=by show l.toArray.size=_; simp
theorem Jb {w:World} (id ep kd:Nat) (s:ByteArray) (hid:id<9223372036854775808) (y9:ep≤1099511627776) (hkd:kd≤2147483647) (hs:s.size≤232):
  Calls Tryz.prog 242 #[gl id ep kd s] w fun e w'=>e= .returned (.tuple #[.string ⟨(iq id ep kd s.data.toList).toArray⟩,.int .i64 0])∧Below w.heap.size w w':=by
 have dS:Cm id ep kd=true:=by rw [kR]; omega
 have B0:=ax.new w 162 #[.int .i64 (id:Nat),.int .i64 (ep:Nat),.int .i64 (kd:Nat),.string s];have O0:=xh (ae (Below.refl w.heap.size w) (.cells #[.int .i64 (id:Nat),.int .i64 (ep:Nat),.int .i64 (kd:Nat),.string s] 162));have KR:=xh (fun w=>kS (w:=w) id ep kd s true dS);have c0:=B0.ab (i:=0) rfl;have c1:=B0.ab (i:=1) rfl;have c2:=B0.ab (i:=2) rfl;have c3:=B0.ab (i:=3) rfl;have B0:=xh B0;have hsI: ¬(232:Int)<(s.size:Int):=by omega
 unfold gl at *;go_enter Tryz.func242,Tryz.ntmps242;go_wp2_with fail;refine (KR.out _).mono ?_;rintro e w1 ⟨rfl,aM⟩;have O1:=xh (ao O0.out aM);have B1:=xh (B0.out.below aM B0.out.lt);have a1:=O1.out.size;have a2:w.heap.size<w1.heap.size:=B1.out.lt;clear c0 c1 c2 c3 aM B0 O0;have c3:=B1.out.ab (i:=3) rfl;have B2:=xh (B1.out.alloc (.cells #[.slice none 0 0] 150));have O2:=xh (ae O1.out (.cells #[.slice none 0 0] 150))
 have F2:Hid (j5 w1.heap.size (w1.alloc (.cells #[.slice none 0 0] 150)) w1.heap.size (.slice none 0 0) []):=xh ⟨ax.new _ _ _,aG.nil _ _ _,by simp [ah],Nat.le_refl _⟩;have z2:w1.heap.size≤(w1.alloc (.cells #[.slice none 0 0] 150)).heap.size:=by simp
 have d0:=B2.out.ab (i:=0) rfl;have KI:=xh (I_all id hid);have KE:=xh (I_all ep (by omega));have KU:=xh (U_any kd (by omega));have HS:=xh hs;go_wp2_with fail;refine (KI.out _).mono ?_;rintro e w3 ⟨rfl,eG⟩;have O3:=xh (ao O2.out eG);have B3:=xh (B2.out.below eG B2.out.lt);have F3:=xh (F2.out.below eG);have z3:=Nat.le_trans z2 eG.size;clear d0 eG B2 O2 F2 z2 c3;go_wp2_with fail
 refine (sj F3.out z3 _ (by rw [fL,ev]; simp)).mono ?_;rintro e w4 ⟨rfl,⟨v4,f4⟩,fM⟩;have O4:=xh (O3.out.trans (fM.mono a1));have B4:=xh (B3.out.below fM a2);have F4:=xh f4;have z4:=Nat.le_trans z3 fM.size;clear f4 fM O3 B3 F3 z3;have d1:=B4.out.ab (i:=1) rfl;go_wp2_with fail;refine (KE.out _).mono ?_;rintro e w5 ⟨rfl,ko⟩;have O5:=xh (ao O4.out ko);have B5:=xh (B4.out.below ko B4.out.lt);have F5:=xh (F4.out.below ko)
 have z5:=Nat.le_trans z4 ko.size;clear ko O4 B4 F4 z4;clear d1;go_wp2_with fail;refine (sj F5.out z5 _ (by simp [ev,fL])).mono ?_;rintro e w6 ⟨rfl,⟨v6,f6⟩,vI⟩;have O6:=xh (O5.out.trans (vI.mono a1));have B6:=xh (B5.out.below vI a2);have F6:=xh f6;have z6:=Nat.le_trans z5 vI.size;clear f6 vI O5 B5 F5 z5;have d2:=B6.out.ab (i:=2) rfl;have q1:IntKind.u64.wrap (kd:Int)=(kd:Int):=IntWalk.u64_in _ (by omega)
 obtain ⟨U,hU⟩: ∃U:ByteArray,(⟨(p7 kd).toArray⟩:ByteArray)=U:=⟨_,rfl⟩;have hU8:U.size=8:=by rw [←hU,fL,kT]
 have zm:(U.extract 4 8).data.toList=(p7 kd).drop 4:=by
  rw [←hU,exl];exact List.take_of_length_le (by rw [List.length_drop]; have:=kT kd; simp [this])
 rw [hU] at KU;have HU:=xh hU;have HUL:=xh zm;clear hU zm;go_wp2_with fail;refine (KU.out _).mono ?_;rintro e w7 ⟨rfl,fY⟩;have O7:=xh (ao O6.out fY);have B7:=xh (B6.out.below fY B6.out.lt);have F7:=xh (F6.out.below fY);have z7:=Nat.le_trans z6 fY.size;clear fY O6 B6 F6 z6;clear d2;go_wp2_with fail;refine (sj F7.out z7 _ (by simp [ev,fL,ByteArray.size_extract]; omega)).mono ?_;rintro e w8 ⟨rfl,⟨v8,f8⟩,za⟩
 have O8:=xh (O7.out.trans (za.mono a1));have B8:=xh (B7.out.below za a2);have F8:=xh f8;have z8:=Nat.le_trans z7 za.size;clear f8 za O7 B7 F7 z7;have d3:=B8.out.ab (i:=3) rfl;go_wp2_with fail;refine (sj F8.out z8 _ (by simp [ev,fL,ByteArray.size_extract]; omega)).mono ?_;rintro e w9 ⟨rfl,⟨v9,f9⟩,hb9⟩;have O9:=xh (O8.out.trans (hb9.mono a1));have B9:=xh (B8.out.below hb9 a2);have F9:=xh f9;have z9:=Nat.le_trans z8 hb9.size
 clear f9 hb9 O8 B8 F8 z8;clear d3;have L9:=xh (show ([]++dR (id:Int)++dR (ep:Int)++(U.extract 4 8).data.toList++s.data.toList)=iO id ep kd s.data.toList from by rw [HUL.out,List.nil_append]; rfl);have F9:=xh (show j5 w1.heap.size w9 w1.heap.size v9 (iO id ep kd s.data.toList) from by have h:=F9.out; rw [←L9.out]; exact h);have HB:=xh (show (iO id ep kd s.data.toList).length=20+s.size from by unfold iO; simp [ev,kT]; omega)
 obtain ⟨L,hL⟩: ∃L,iO (id:Int) ep kd s.data.toList=L:=⟨_,rfl⟩;rw [hL] at F9 HB;have HL:=xh hL;clear hL;clear L9 HU HUL hU8 KI KE KU KR;go_wp2_with fail
 go_loopg [37] 253 (fun k lv wr=> ∃v j,20+s.size+j≤252∧253-(20+s.size+j)≤k∧Hid (j5 w1.heap.size wr w1.heap.size v (L++List.replicate j 0))∧Hid (Below w.heap.size w wr)∧w1.heap.size≤wr.heap.size)
 case atStart=>exact ⟨v9,0,by omega,by omega,xh (by rw [List.replicate_zero,List.append_nil]; exact F9.out),xh O9.out,z9⟩
 case round=>
  obtain ⟨v,j,hj,hk,F,O,z⟩:=hrel;have hlen:(L++List.replicate j 0).length=20+s.size+j:=by rw [List.length_append,HB.out,List.length_replicate]
  have e0:=F.out.oM.ab (i:=0) rfl;have hsv:=F.out.FZ;rw [hlen] at hsv;obtain ⟨VA,vc,rfl⟩:=aq hsv
  by_cases h':20+s.size+j<252
  ·have hI:((20+s.size+j:Nat):Int)<252:=by omega
   obtain ⟨v',w2,ea,S2,ow,fr⟩:=cd (P:=Tryz.prog) hsv 150 150 (.int .u8 0) 1 Tryz.underlying150 gx.dg rfl (.int .u8 0) rfl (by unfold maxLen; omega) (by omega);obtain ⟨V2,fu,rfl⟩:=aq S2;have S3:aG w2 5 1 (.slice V2 (20+s.size+j+1) fu) ((L++List.replicate j 0).length+[(0:UInt8)].length) (cI (L++List.replicate j 0++[0])):=by
    rw [hlen,bU]; exact S2
   obtain ⟨c1,z1,B2,O2⟩:=F.out.grow z S3 ow fr;have z2:w1.heap.size≤(w2.setCell ⟨w1.heap.size,0,none⟩ (.slice V2 (20+s.size+j+1) fu)).heap.size:=by
    have:=ow.size; simp [World.setCell]; omega
   have EA:=xh ea;have BX:=xh (show j5 w1.heap.size (w2.setCell ⟨w1.heap.size,0,none⟩ (.slice V2 (20+s.size+j+1) fu)) w1.heap.size (.slice V2 (20+s.size+j+1) fu) (L++List.replicate (j+1) 0) from by
    rw [List.replicate_succ',←List.append_assoc]; exact B2)
   have OX:=xh (O.out.trans (O2.mono a1));clear ea S2 S3 ow fr B2 O2 hsv hlen;go_wp2_with fail;rw [EA.out];go_wp2_with fail
   go_roundg (253-(20+s.size+(j+1)))
   case measure=>omega
   case rel=>exact ⟨_,j+1,by omega,Nat.le_refl _,BX,OX,z2⟩
  ·have hje:20+s.size+j=252:=by omega
   have hpad:L++List.replicate j 0=dA L 252:=by unfold dA; rw [HB.out]; congr 2; omega
   rw [hpad] at F;have rW:(dA L 252).length=252:=by rw [←hpad,hlen,hje]
   rw [hje] at e0 hsv;rw [hpad] at hsv;clear hpad hlen;obtain ⟨g,cap,rest,hv,B,_⟩:=hsv.form (by omega) (by omega);injection hv with lz nz hv3
   subst lz hv3;have ST:=xh (bs (P:=Tryz.prog) wr 150 9 5 Tryz.underlying150 Tryz.underlying5 Tryz.underlying9 ⟨g,0,none⟩ 252 vc (dA L 252) rW (aV B 0 _ (by intro j u hu; rw [Nat.zero_add]; exact List.getElem?_append_left (List.getElem?_eq_some_iff.1 hu).1▸hu)));have KL:=xh (gx.sg ⟨(dA L 252).toArray⟩ wr (by rw [fL,rW]; omega));have HF:=xh (show gx.aY (dA L 252)=iq id ep kd s.data.toList from by unfold iq; rw [HL.out])
   clear F B hsv rW;go_wp2_with fail;rw [ST.out];go_wp2_with fail;refine KL.out.mono ?_;rintro e wz ⟨rfl,hbz⟩;have OZ:=xh (ao O.out hbz);clear hbz;go_wp2_with fail;go_ret2;exact ⟨by rw [←HF.out]; rfl,OZ.out⟩
end Go.Proofs.YtmonobkginiajaaGreat.Pg
namespace Go.Proofs.YtmonobkginiajaaGreat.Pg
open Go.RowKit Pk
attribute [local go_sem ↓] Go.wp_at_zero Go.wp_at_succ
structure PG where
 id:Int
 ep:Int
 kd:Int
 s:List UInt8
def PG.zero:PG:=⟨0,0,0,[]⟩
def PG.val (p:PG):Value:=gl p.id p.ep p.kd ⟨p.s.toArray⟩
def jb (l:List UInt8):PG:=⟨(lH ((l.drop 4).take 8):Int)-9223372036854775808,(lH ((l.drop 12).take 8):Int)-9223372036854775808,(lH ((l.drop 20).take 4):Nat),l.drop 24⟩
def gH (l:List UInt8):PG×Int:=
 if l.length≠256 then (.zero,6)
 else if gx.gi (gx.iM (l.drop 4))≠l.take 4 then (.zero,14)
 else if Cm (jb l).id (jb l).ep (jb l).kd=true then (jb l,0) else (.zero,14)
theorem F0 (l:List UInt8):lH ([0,0,0,0]++l)=lH l:=by simp [lH]
theorem cU {fn:Func} {p u:Tmp} {w:World} {g:Nat} {id ep kd:Int} {s:ByteArray} {tmps:Array Value} (h:fn.results= #[.cell p 162,.tmp u]) (hp:tmps.getD p undef= .pointer (some ⟨g,0,none⟩)) (B:ax w g 162 #[.int .i64 id,.int .i64 ep,.int .i64 kd,.string s]):
  (results fn tmps).run Tryz.prog w= .ok (.tuple #[gl id ep kd s,tmps.getD u undef]) w:=by
 have c0:=B.ab (i:=0) rfl;have c1:=B.ab (i:=1) rfl;have c2:=B.ab (i:=2) rfl;have c3:=B.ab (i:=3) rfl;rw [results_cell_tmp h,hp];clear h hp B;unfold gl;go_simp
abbrev fw:Array Value:= #[.int .i64 0,.int .i64 0,.int .i64 0,.string ⟨#[]⟩]
theorem jG {w:World} {g:Nat} {cs:Array Value} (B:ax w g 162 cs) (hc:cs.size=4) (id ep kd:Int) (s:ByteArray):
  ax ((((w.setCell ⟨g,0,none⟩ (.int .i64 id)).setCell ⟨g,1,none⟩ (.int .i64 ep)).setCell ⟨g,2,none⟩ (.int .i64 kd)).setCell ⟨g,3,none⟩ (.string s)) g 162 #[.int .i64 id,.int .i64 ep,.int .i64 kd,.string s]:=by
 obtain ⟨a,b,c,d,rfl⟩: ∃a b c d,cs= #[a,b,c,d]:=by
  obtain ⟨l⟩:=cs
  match l,hc with
  | [a,b,c,d],_=>exact ⟨a,b,c,d,rfl⟩
 exact (((B.bq 0 (.int .i64 id)).bq 1 (.int .i64 ep)).bq 2 (.int .i64 kd)).bq 3 (.string s)
theorem dO {W w:World} {g:Nat} (h:Below W.heap.size W w) (hg:W.heap.size≤g) (id ep kd:Int) (s:ByteArray):
  Below W.heap.size W ((((w.setCell ⟨g,0,none⟩ (.int .i64 id)).setCell ⟨g,1,none⟩ (.int .i64 ep)).setCell ⟨g,2,none⟩ (.int .i64 kd)).setCell ⟨g,3,none⟩ (.string s)):=
 (((h.setCell (p:=⟨g,0,none⟩) hg _).setCell (p:=⟨g,1,none⟩) hg _).setCell (p:=⟨g,2,none⟩) hg _).setCell (p:=⟨g,3,none⟩) hg _
theorem Jc {w:World} (s:ByteArray) (h:s.size≠256):
  Calls Tryz.prog 185 #[.string s] w fun e w'=>e= .returned (.tuple #[PG.zero.val,.int .i64 6])∧Below w.heap.size w w':=by
 have B0:=xh (ax.new w 162 fw);have O0:=xh (ae (Below.refl w.heap.size w) (.cells fw 162));have hI:((s.size:Int) != 256)=true:=by rw [bne_iff_ne]; omega
 go_enter Tryz.func185,Tryz.ntmps185;go_wp2_with fail;exact bodyPost_ret (cU rfl rfl B0.out) rfl ⟨rfl,O0.out⟩
theorem xW {w:World} (s:ByteArray) (h:s.size=256) (hc:gx.gi (gx.iM (s.data.toList.drop 4))≠s.data.toList.take 4):
  Calls Tryz.prog 185 #[.string s] w fun e w'=>e= .returned (.tuple #[PG.zero.val,.int .i64 14])∧Below w.heap.size w w':=by
 have B0:=xh (ax.new w 162 fw);have O0:=xh (ae (Below.refl w.heap.size w) (.cells fw 162));have hI:((s.size:Int) != 256)=false:=by rw [bne_eq_false_iff_eq]; omega
 have K:=xh (fun w=>gx.zk s w (by omega) (by unfold maxLen; omega) hc);clear hc;go_enter Tryz.func185,Tryz.ntmps185;go_wp2_with fail;refine (K.out _).mono ?_;rintro e w1 ⟨rfl,aM⟩;have O1:=xh (ao O0.out aM);have B1:=xh (B0.out.below aM B0.out.lt);clear aM;have z0:=B1.out.frozen 0 (by simp);have z1:=B1.out.frozen 1 (by simp);have z2:=B1.out.frozen 2 (by simp);have z3:=B1.out.frozen 3 (by simp);have c0:=B1.out.ab (i:=0) rfl;have c1:=B1.out.ab (i:=1) rfl
 have c2:=B1.out.ab (i:=2) rfl;have c3:=B1.out.ab (i:=3) rfl;have ZB:=xh (jG B1.out rfl 0 0 0 ⟨#[]⟩);have ZO:=xh (dO O1.out (Nat.le_refl _) 0 0 0 ⟨#[]⟩);go_wp2_with fail;exact bodyPost_ret (cU rfl rfl ZB.out) rfl ⟨rfl,ZO.out⟩
theorem sP {w:World} (s:ByteArray) (h:s.size=256) (hc:gx.gi (gx.iM (s.data.toList.drop 4))=s.data.toList.take 4) (b:Bool) (hb:Cm (jb s.data.toList).id (jb s.data.toList).ep (jb s.data.toList).kd=b):
  Calls Tryz.prog 185 #[.string s] w fun e w'=>e= .returned (.tuple #[if b then (jb s.data.toList).val else PG.zero.val,.int .i64 (if b then 0 else 14)])∧Below w.heap.size w w':=by
 have B0:=xh (ax.new w 162 fw);have O0:=xh (ae (Below.refl w.heap.size w) (.cells fw 162));have hI:((s.size:Int) != 256)=false:=by rw [bne_eq_false_iff_eq]; omega
 have K:=fun w=>gx.cut_ok s w (by omega) (by unfold maxLen; omega) hc;obtain ⟨T,hT⟩: ∃T,s.extract 4 s.size=T:=⟨_,rfl⟩;rw [hT] at K;have hTs:T.size=252:=by rw [←hT,ByteArray.size_extract]; omega
 have BU:T.data.toList=s.data.toList.drop 4:=by rw [←hT,exl]; exact List.take_of_length_le (by simp)
 have K:=xh K;have KI:=xh (wm T 0 (h1:=by omega) (hs:=by omega));have KJ:=xh (wm T 8 (h1:=by omega) (hs:=by omega));obtain ⟨U,hU⟩: ∃U,(⟨#[0,0,0,0]⟩:ByteArray)++T.extract 16 20=U:=⟨_,rfl⟩;have IB:U.size=8:=by rw [←hU,ByteArray.size_append,ByteArray.size_extract]; show 4+_=8; omega
 have KU:=xh (wk U 0 (h1:=by omega) (hs:=by omega));have zm:U.data.toList=[0,0,0,0]++(s.data.toList.drop 20).take 4:=by
  rw [←hU,ByteArray.data_append,Array.toList_append,exl,BU,List.drop_drop]
 obtain ⟨P,hP⟩: ∃P,T.extract 20 252=P:=⟨_,rfl⟩;have hPl:P.data.toList=s.data.toList.drop 24:=by
  rw [←hP,exl,BU,List.drop_drop]; exact List.take_of_length_le (by simp; omega)
 obtain ⟨N,hN⟩: ∃N,lH ((s.data.toList.drop 20).take 4)=N:=⟨_,rfl⟩;have hNlt:N<4294967296:=by
  have h1:=xU ((s.data.toList.drop 20).take 4);have h2:((s.data.toList.drop 20).take 4).length=4:=by simp; omega
  rw [h2,hN] at h1;omega
 have e1:((lH (T.extract 0 (0+8)).data.toList:Nat):Int)-9223372036854775808=(jb s.data.toList).id:=by rw [exl,BU]; rfl
 have e2:((lH (T.extract 8 (8+8)).data.toList:Nat):Int)-9223372036854775808=(jb s.data.toList).ep:=by rw [exl,BU,List.drop_drop]; rfl
 have e3:lH (U.extract 0 (0+8)).data.toList=N:=by
  rw [exl,List.drop_zero,List.take_of_length_le (by simp; omega),zm,F0,hN]
 rw [e1] at KI;rw [e2] at KJ;rw [e3] at KU;have hkd:(jb s.data.toList).kd=(N:Int):=by rw [←hN]; rfl
 have HV:=xh (show (jb s.data.toList).val=gl (jb s.data.toList).id (jb s.data.toList).ep N P from by
  have:P=⟨(jb s.data.toList).s.toArray⟩:=by
   have:P.data=(s.data.toList.drop 24).toArray:=by rw [←hPl]
   cases P; simp only at this; subst this; rfl
  rw [this,←hkd]; rfl)
 have i1: -9223372036854775808≤(jb s.data.toList).id∧(jb s.data.toList).id≤9223372036854775807:=by
  have h1:=xU ((s.data.toList.drop 4).take 8);have h2:((s.data.toList.drop 4).take 8).length=8:=by simp; omega
  rw [h2] at h1;show -9223372036854775808≤((lH _:Nat):Int)-9223372036854775808∧((lH _:Nat):Int)-9223372036854775808≤9223372036854775807;omega
 rw [hkd] at hb;generalize (jb s.data.toList).id=id at *;generalize (jb s.data.toList).ep=ep at *;generalize (jb s.data.toList).val=V at *;have q1:IntKind.i64.wrap (N:Int)=(N:Int):=IntWalk.i64_in _ (by omega);have KR:=xh (fun w=>kS (w:=w) id ep N P b hb);unfold gl at KR;clear hc hT hb e1 e2 e3 hkd hN zm BU hPl;go_enter Tryz.func185,Tryz.ntmps185;go_wp2_with fail;refine (K.out _).mono ?_;rintro e w1 ⟨rfl,aM⟩;have O1:=xh (ao O0.out aM)
 have B1:=xh (B0.out.below aM B0.out.lt);clear aM O0 B0;go_wp2_with fail;refine (KI.out _).mono ?_;rintro e w2 ⟨rfl,bT⟩;have O2:=xh (ao O1.out bT);have B2:=xh (B1.out.below bT B1.out.lt);clear bT O1 B1;go_wp2_with fail;refine (KJ.out _).mono ?_;rintro e w3 ⟨rfl,eG⟩;have O3:=xh (ao O2.out eG);have B3:=xh (B2.out.below eG B2.out.lt);clear eG O2 B2;go_wp2_with fail;refine (KU.out _).mono ?_;rintro e w4 ⟨rfl,fM⟩
 have O4:=xh (ae (ao O3.out fM) (.cells #[.int .i64 id,.int .i64 ep,.int .i64 (N:Int),.string P] 162));have B4:=xh ((B3.out.below fM B3.out.lt).alloc (.cells #[.int .i64 id,.int .i64 ep,.int .i64 (N:Int),.string P] 162));have P4:=xh (ax.new w4 162 #[.int .i64 id,.int .i64 ep,.int .i64 (N:Int),.string P]);clear fM O3 B3;go_wp2_with fail;generalize hw5:w4.alloc (.cells #[.int .i64 id,.int .i64 ep,.int .i64 (N:Int),.string P] 162)=w5 at *;clear hw5
 refine (KR.out _).mono ?_;rintro e w6 ⟨rfl,vI⟩;have O6:=xh (ao O4.out vI);have B6:=xh (B4.out.below vI B4.out.lt);have P6:=xh (P4.out.below vI P4.out.lt);have z0:=B6.out.frozen 0 (by simp);have z1:=B6.out.frozen 1 (by simp);have z2:=B6.out.frozen 2 (by simp);have z3:=B6.out.frozen 3 (by simp);have c0:=B6.out.ab (i:=0) rfl;have c1:=B6.out.ab (i:=1) rfl;have c2:=B6.out.ab (i:=2) rfl;have c3:=B6.out.ab (i:=3) rfl
 have p0:=P6.out.ab (i:=0) rfl;have p1:=P6.out.ab (i:=1) rfl;have p2:=P6.out.ab (i:=2) rfl;have p3:=P6.out.ab (i:=3) rfl;clear vI O4 B4 P4
 cases b
 ·have ZB:=xh (jG B6.out rfl 0 0 0 ⟨#[]⟩);have ZO:=xh (dO O6.out (Nat.le_refl _) 0 0 0 ⟨#[]⟩);go_wp2_with fail;exact bodyPost_ret (cU rfl rfl ZB.out) rfl ⟨rfl,ZO.out⟩
 ·have ZB:=xh (jG B6.out rfl id ep N P);have ZO:=xh (dO O6.out (Nat.le_refl _) id ep N P);go_wp2_with fail;exact bodyPost_ret (cU rfl rfl ZB.out) rfl ⟨by rw [HV.out]; rfl,ZO.out⟩
end Go.Proofs.YtmonobkginiajaaGreat.Pg
namespace Go.Proofs.YtmonobkginiajaaGreat.Pg
open Go.RowKit Pk
attribute [local go_sem ↓] Go.wp_at_zero Go.wp_at_succ aX
end Go.Proofs.YtmonobkginiajaaGreat.Pg
namespace Go.Proofs.YtmonobkginiajaaGreat.Pg
open Go.RowKit Pk
attribute [local go_sem ↓] Go.wp_at_zero Go.wp_at_succ
theorem Jd {w:World} (id ep kd:Int) (s:ByteArray) (h:Cm id ep kd=true) (hs:232<s.size):
  Calls Tryz.prog 242 #[gl id ep kd s] w fun e w'=>e= .returned (.tuple #[.string ⟨#[]⟩,.int .i64 4])∧Below w.heap.size w w':=by
 have O0:=xh (ae (Below.refl w.heap.size w) (.cells #[.int .i64 id,.int .i64 ep,.int .i64 kd,.string s] 162));have B0:=xh (ax.new w 162 #[.int .i64 id,.int .i64 ep,.int .i64 kd,.string s]);have c0:=B0.out.ab (i:=0) rfl;have c1:=B0.out.ab (i:=1) rfl;have c2:=B0.out.ab (i:=2) rfl;have c3:=B0.out.ab (i:=3) rfl;have K:=xh (fun w=>kS (w:=w) id ep kd s true h);have hI:(232:Int)<(s.size:Int):=by omega
 clear h;unfold gl at *;go_enter Tryz.func242,Tryz.ntmps242;go_wp2_with fail;refine (K.out _).mono ?_;rintro e w1 ⟨rfl,aM⟩;have O1:=xh (ao O0.out aM);have B1:=xh (B0.out.below aM B0.out.lt);clear aM c0 c1 c2 c3;have c3:=B1.out.ab (i:=3) rfl;go_wp2_with fail;go_ret2;exact ⟨rfl,O1.out⟩
theorem Je (N:Nat):(p7 N).drop 4=[UInt8.ofNat (N / 16777216),UInt8.ofNat (N / 65536),UInt8.ofNat (N / 256),UInt8.ofNat N]:=by
 have e:p7 N=[UInt8.ofNat (N / 72057594037927936),UInt8.ofNat (N / 281474976710656),UInt8.ofNat (N / 1099511627776),UInt8.ofNat (N / 4294967296),UInt8.ofNat (N / 16777216),UInt8.ofNat (N / 65536),UInt8.ofNat (N / 256),UInt8.ofNat (N / 1)]:=rfl;rw [e,Nat.div_one]; rfl
theorem Jf (id ep kd:Int) (s:List UInt8) (h:s.length≤232):dR id++dR ep++(p7 kd.toNat).drop 4++dA s 232=dA (iO id ep kd s) 252:=by
 unfold dA iO;have h1:(dR id++dR ep++(p7 kd.toNat).drop 4++s).length=20+s.length:=by simp [ev,kT]; omega
 rw [h1,←List.append_assoc]
 congr 2; omega
theorem zo {w:World} (id ep kd:Int) (s:ByteArray) (hid:id≤9223372036854775807):
  Calls Tryz.prog 242 #[gl id ep kd s] w fun e w'=>e= .returned (.tuple #[.string ⟨(cL id ep kd s.data.toList).1.toArray⟩,.int .i64 (cL id ep kd s.data.toList).2])∧Below w.heap.size w w':=by
 have hl:s.data.toList.length=s.size:=by simp
 unfold cL;rw [hl]
 by_cases h:Cm id ep kd=true
 ·rw [if_pos h]
  by_cases hs:232<s.size
  ·rw [if_pos hs]; exact Jd id ep kd s h hs
  ·rw [if_neg hs];have hb:=(kR id ep kd).1 h;obtain ⟨a,rfl⟩:=Int.eq_ofNat_of_zero_le hb.1;obtain ⟨b,rfl⟩:=Int.eq_ofNat_of_zero_le hb.2.1;obtain ⟨c,rfl⟩:=Int.eq_ofNat_of_zero_le hb.2.2.2.1;exact Jb a b c s (by omega) (by omega) (by omega) (by omega)
 ·rw [if_neg h];exact pput_no id ep kd s (by simpa using h)
end Go.Proofs.YtmonobkginiajaaGreat.Pg
namespace Go.Proofs.YtmonobkginiajaaGreat.Pg
open Go.RowKit Pk
attribute [local go_sem ↓] Go.wp_at_zero Go.wp_at_succ
end Go.Proofs.YtmonobkginiajaaGreat.Pg
namespace Go.Proofs.YtmonobkginiajaaGreat.Pg
open Go.RowKit Pk
attribute [local go_sem ↓] Go.wp_at_zero Go.wp_at_succ
theorem Jg {w:World} (s:ByteArray):
  Calls Tryz.prog 185 #[.string s] w fun e w'=>e= .returned (.tuple #[(gH s.data.toList).1.val,.int .i64 (gH s.data.toList).2])∧Below w.heap.size w w':=by
 have hl:s.data.toList.length=s.size:=by simp
 unfold gH;rw [hl]
 by_cases h:s.size=256
 ·rw [if_neg (by omega)]
  by_cases hc:gx.gi (gx.iM (s.data.toList.drop 4))=s.data.toList.take 4
  ·rw [if_neg (by simpa using hc)]
   by_cases hb:Cm (jb s.data.toList).id (jb s.data.toList).ep (jb s.data.toList).kd=true
   ·rw [if_pos hb]; simpa using sP (w:=w) s h hc true hb
   ·rw [if_neg hb]; simpa using sP (w:=w) s h hc false (by simpa using hb)
  ·rw [if_pos hc]; exact xW s h hc
 ·rw [if_pos h]; exact Jc s h
end Go.Proofs.YtmonobkginiajaaGreat.Pg
