/- packed. -/
import Derived.Test.YtmonobkginiajaaGreatC1
import Derived.Deep.QuietTactic
import Derived.BigQuiet
import Derived.Laws.Bits64b
set_option linter.all false
set_option maxRecDepth 100000
set_option maxHeartbeats 8000000
namespace Go.Proofs.YtmonobkginiajaaGreat.gD
variable{r c:Nat}
def Dq:Nat:=2197175160
def tab:List Nat:=[0x00000000,0x105ec76f,0x20bd8ede,0x30e349b1,0x417b1dbc,0x5125dad3,0x61c69362,0x7198540d,
 0x82f63b78,0x92a8fc17,0xa24bb5a6,0xb21572c9,0xc38d26c4,0xd3d3e1ab,0xe330a81a,0xf36e6f75]
def nib(r:Nat):Nat:=r / 16 ^^^ tab.getD (r % 16) 0
def cr(r c:Nat):Nat:=nib (nib (r ^^^ c))
def ly(r:Nat)(l:List UInt8):Nat:=l.foldl (λr c=>cr r c.toNat) r
def iI(l:List UInt8):Nat:=4294967295-ly 4294967295 l
def z(r:Nat):Nat:=r / 2 ^^^ if r % 2=1 then Dq else 0
theorem xor_div_two(a b:Nat):(a ^^^ b) / 2=a / 2 ^^^ b / 2:=Nat.xor_div_two
theorem xF(a b:Nat):(a ^^^ b) % 2=(a+b) % 2:=by
 have h:(a ^^^ b) % 2 ^ 1=(a % 2 ^ 1) ^^^ (b % 2 ^ 1):=Nat.xor_mod_two_pow;simp only[Nat.pow_one]at h;rw[h]
 rcases qW a with ha|ha<;>rcases qW b with hb|hb<;>rw[ha,hb]<;>simp<;>omega
theorem z_xor(a b:Nat):z (a ^^^ b)=z a ^^^ z b:=by
 unfold z;rw[xor_div_two,xF]
 rcases qW a with ha|ha<;>rcases qW b with hb|hb
 .rw[if_neg (by omega),if_neg (by omega),if_neg (by omega)];simp
 .rw[if_pos (by omega),if_neg (by omega),if_pos (by omega)];simp[Nat.xor_assoc]
 .rw[if_pos (by omega),if_pos (by omega),if_neg (by omega),Nat.xor_zero];ac_rfl
 .rw[if_neg (by omega),if_pos (by omega),if_pos (by omega)];simp only[Nat.xor_zero];have:a / 2 ^^^ Dq ^^^ (b / 2 ^^^ Dq)=a / 2 ^^^ b / 2 ^^^ (Dq ^^^ Dq):=by ac_rfl
  rw[this];simp
theorem FN(q:Nat):z (2*q)=q:=by
 unfold z;rw[if_neg (by omega)];simp
theorem split16(r:Nat):r=(2*(2*(2*(2*(r / 16))))) ^^^ (r % 16):=by
 have h:(2*(2*(2*(2*(r / 16)))))=2 ^ 4*(r / 16):=by omega
 rw[h];have:r % 16<2 ^ 4:=by omega
 rw[Nat.xor_comm];have e:r % 16 ^^^ 2 ^ 4*(r / 16)=2 ^ 4*(r / 16)+r % 16:=by
  apply Nat.eq_of_testBit_eq;intro i;rw[Nat.testBit_xor,Nat.testBit_two_pow_mul,Nat.testBit_two_pow_mul_add _ this]
  by_cases h4:i<4
  .simp[h4,Nat.not_le.2 h4]
  .have:(r % 16).testBit i=false:=Nat.testBit_lt_two_pow (nI this (vS (by decide) (by omega)));simp[h4,this,qZ.1 h4]
 rw[e];omega
theorem FO:∀n,n<16->z (z (z (z n)))=tab.getD n 0:=by decide
theorem z4_nib(r:Nat):z (z (z (z r)))=nib r:=by
 conv=>lhs;rw[split16 r]
 simp only[z_xor,FN];rw[FO _ (lX _ (by decide))];rfl
theorem poly_lt:Dq<2 ^ 32:=by decide
theorem z_lt(h:r<4294967296):z r<4294967296:=by
 unfold z;have h1:r / 2<2 ^ 32:=by omega
 split
 .exact Nat.xor_lt_two_pow h1 poly_lt
 .simpa using h1
theorem Ai(h:r<4294967296):nib r<4294967296:=by
 rw[<-z4_nib];exact z_lt (z_lt (z_lt (z_lt h)))
theorem qb(h:r<4294967296)(hc:c<256):r ^^^ c<4294967296:=
 Nat.xor_lt_two_pow (n:=32) h (by omega)
theorem xG(h:r<4294967296)(hc:c<256):cr r c<4294967296:=Ai (Ai (qb h hc))
theorem FP(l:List UInt8):∀{r:Nat},r<4294967296->ly r l<4294967296:=by
 induction l with
 |nil=>intro r h;exact h
 |cons c l ih=>intro r h;exact ih (xG h (by have:=c.toNat_lt;omega))
theorem vU(l:List UInt8):iI l<4294967296:=by unfold iI;omega
theorem Dr(r:Nat):ly r []=r:=rfl
theorem Aj(r:Nat)(l:List UInt8)(c:UInt8):ly r (l++[c])=cr (ly r l) c.toNat:=by simp[ly]
def gk(n:Nat):List UInt8:=[UInt8.ofNat (n % 256),UInt8.ofNat (n / 256 % 256),UInt8.ofNat (n / 65536 % 256),UInt8.ofNat (n / 16777216 % 256)]
def bA(l:List UInt8):List UInt8:=gk (iI l)++l
end Go.Proofs.YtmonobkginiajaaGreat.gD
namespace Go.Proofs.YtmonobkginiajaaGreat.gD
open Go.RowKit
def oY:Obj:= .cells #[Value.int IntKind.u32 0,Value.int IntKind.u32 274646895,Value.int IntKind.u32 549293790,
     Value.int IntKind.u32 820201905,Value.int IntKind.u32 1098587580,Value.int IntKind.u32 1361435347,
     Value.int IntKind.u32 1640403810,Value.int IntKind.u32 1905808397,Value.int IntKind.u32 2197175160,
     Value.int IntKind.u32 2460548119,Value.int IntKind.u32 2722870694,Value.int IntKind.u32 2987750089,
     Value.int IntKind.u32 3280807620,Value.int IntKind.u32 3553878443,Value.int IntKind.u32 3811616794,
     Value.int IntKind.u32 4084100981] 304 (0,0)
theorem Ds:∀n,n<16->(#[Value.int IntKind.u32 0,Value.int IntKind.u32 274646895,Value.int IntKind.u32 549293790,
     Value.int IntKind.u32 820201905,Value.int IntKind.u32 1098587580,Value.int IntKind.u32 1361435347,
     Value.int IntKind.u32 1640403810,Value.int IntKind.u32 1905808397,Value.int IntKind.u32 2197175160,
     Value.int IntKind.u32 2460548119,Value.int IntKind.u32 2722870694,Value.int IntKind.u32 2987750089,
     Value.int IntKind.u32 3280807620,Value.int IntKind.u32 3553878443,Value.int IntKind.u32 3811616794,
     Value.int IntKind.u32 4084100981]:Array Value)[n]?=some (.int .u32 (tab.getD n 0:Nat)):=by
 intro n hn;have h:n=0\/n=1\/n=2\/n=3\/n=4\/n=5\/n=6\/n=7\/n=8\/n=9\/n=10\/n=11\/n=12\/n=13\/n=14\/n=15:=by omega
 rcases h with rfl|rfl|rfl|rfl|rfl|rfl|rfl|rfl|rfl|rfl|rfl|rfl|rfl|rfl|rfl|rfl<;>rfl
theorem FQ(w:World)(n:Nat)(hn:n<16):(w.alloc oY).cell? ⟨w.heap.size,n,none⟩=some (.int .u32 (tab.getD n 0:Nat)):=by
 have h:(w.alloc oY).heap[w.heap.size]?=some oY:=heap_alloc_new w _;exact(cell_of_row _ _ _ _ _ _ h).trans (Ds n hn)
def mT(r c:Nat)(k:Nat):Nat:=if k=0 then r ^^^ c else if k=1 then nib (r ^^^ c)else cr r c
theorem Dt{r c:Nat}(hr:r<4294967296)(hc:c<256)(k:Nat):mT r c k<4294967296:=by
 unfold mT;have:=qb hr hc
 split
 .exact this
 .split
  .exact Ai this
  .exact xG hr hc
theorem xH(r c k:Nat)(hk:k<2):mT r c (k+1)=nib (mT r c k):=by
 unfold mT;have h:k=0\/k=1:=by omega
 rcases h with rfl|rfl<;>simp[cr]
theorem and15(r:Nat)(h:r<4294967296):bits .and .u32 (r:Int) 15=((r % 16:Nat):Int):=by
 have:=u32_and_nat r 15 h (by omega);rw[show((15:Nat):Int)=15 from rfl]at this;rw[this]
 congr 1
 exact Nat.and_two_pow_sub_one_eq_mod r 4
theorem rK(r c:Nat)(w:World)(hr:r<4294967296)(hc:c<256):
  Calls Tryz.prog 243 #[.int .u32 r,.int .u8 c] w λe w'=>e=.returned (.int .u32 (cr r c))/\Below w.heap.size w w':=by
 have hx:=u32_xor_nat r c hr (by omega);go_enter Tryz.func243,Tryz.ntmps243
 go_wp2
 clear hx;have HB:Below w.heap.size w (w.alloc oY):=(Below.refl _ _).alloc (ak _) _;have hc':=FQ w
 change Code.wp _ _ _ _ (w.alloc oY)
 generalize w.alloc oY=wr at HB hc' ⊢
 go_loop [0,11] (λreg i=> ∃k:Nat,k<=2/\i=.int .i64 k/\reg=.int .u32 (mT r c k:Nat)) (λ_ i=>2-(intOf i).toNat)
 case atStart=>exact⟨0,by omega,rfl,rfl⟩
 case round=>
  obtain⟨k,hk,rfl,rfl⟩:=hrel;have eT:=Dt hr hc k
  by_cases h:k<2
  .have HS:=xh (xH r c k h);generalize mT r c k=R at *;have e1:=and15 R eT;have e2:=hc' (R % 16) (by omega);have e3:bits .xor .u32 ((R / 16:Nat):Int) ((tab.getD (R % 16) 0:Nat):Int)=((nib R:Nat):Int):=by
    have:tab.getD (R % 16) 0<4294967296:=by
     have:∀n,n<16->tab.getD n 0<4294967296:=by decide
     exact this _ (by omega)
    rw[u32_xor_nat _ _ (by omega) this];rfl
   clear hc'
   go_wp2
   go_round
   case rel=>exact⟨k+1,by omega,by go_num,by rw[HS.o,<-e3];simp⟩
   case measure=>simp[intOf];omega
  .go_wp2
   go_ret;have:k=2:=by omega
   subst this;exact⟨rfl,HB⟩
theorem Cu(r:Nat)(hr:r<4294967296):bits BinOp.xor IntKind.u32 IntKind.u32.max (r:Int)=((4294967295-r:Nat):Int):=by
 have h:IntKind.u32.max=((4294967295:Nat):Int):=by rfl
 rw[h,u32_xor_nat _ _ (by omega) hr]
 congr 1
 have h2:=Nat.xor_comm 4294967295 r;rw[h2];have:r ^^^ (2 ^ 32-1)=2 ^ 32-1-r:=by
  apply Nat.eq_of_testBit_eq;intro i;rw[Nat.testBit_xor,Nat.testBit_two_pow_sub_one];have h3:=Nat.testBit_two_pow_sub_succ (x:=r) (n:=32) (by omega) i;rw[show 2 ^ 32-1-r=2 ^ 32-(r+1)from by omega,h3]
  by_cases hi:i<32
  .simp[hi]
  .simp[hi];exact Nat.testBit_lt_two_pow (nI (show r<2 ^ 32 by omega) (vS (by decide) (by omega)))
 exact this
theorem Du(s:ByteArray)(k:Nat)(h:k<s.size):s.data.toList.take (k+1)=s.data.toList.take k++[s[k]]:=by
 rw[iD (by simpa using h)];rfl
theorem FU(r:Nat)(s:ByteArray)(w:World)(hr:r<4294967296)(hs:s.size<=maxLen):
  Calls Tryz.prog 226 #[.int .u32 r,.string s] w λe w'=>e=.returned (.int .u32 ((4294967295-ly (4294967295-r) s.data.toList:Nat):Int))/\Below w.heap.size w w':=by
 have hx:=Cu r hr;have zD:ly (4294967295-r) []<4294967296:=by show 4294967295-r<_;omega
 unfold maxLen at hs;go_enter Tryz.func226,Tryz.ntmps226
 go_wp2
 clear hx
 go_loopw [5,6,11] (λreg _ i wr=> ∃k:Nat,k<=s.size/\i=.int .i64 k/\reg=.int .u32 ((ly (4294967295-r) (s.data.toList.take k):Nat):Int)/\Below w.heap.size w wr) (λ_ _ i _=>s.size-(intOf i).toNat)
 case atStart=>exact⟨0,bm _,rfl,rfl,Below.refl _ _⟩
 case round=>
  obtain⟨k,hk,rfl,rfl,hb⟩:=hrel;have eT:=FP (s.data.toList.take k) zD;simp only[Dr]at eT
  by_cases h:k<s.size
  .have HS:=xh (show ly (4294967295-r) (s.data.toList.take (k+1))=cr (ly (4294967295-r) (s.data.toList.take k)) s[k].toNat from by rw[Du s k h,Aj]);go_wp2_with (go_at_call 243;refine(rK _ _ _ eT (by have:=s[k].toNat_lt;omega)).mono ?_;rintro e w1 ⟨rfl,aL⟩);go_roundw
   case rel=>exact⟨k+1,by omega,by go_num,by rw[HS.o],hb.trans (aL.mono hb.size)⟩
   case measure=>simp[intOf];omega
  .have hx2:=Cu _ eT;have ht:s.data.toList.take k=s.data.toList:=bJ (by simp;omega);rw[ht]at hx2;rw[ht]
   go_wp2
   go_ret;exact⟨rfl,hb⟩
theorem rL(n:Nat)(w:World)(hn:n<4294967296):
  Calls Tryz.prog 202 #[.int .u32 n] w λe w'=>e=.returned (.agg #[.int .u8 (n % 256:Nat),.int .u8 (n / 256 % 256:Nat),.int .u8 (n / 65536 % 256:Nat),.int .u8 (n / 16777216 % 256:Nat)])/\Below w.heap.size w w':=by
 go_enter Tryz.func202,Tryz.ntmps202
 go_wp2
 refine wp_loop_rounds 5 ?_;rw[rounds_succ]
 go_wp2
 rw[rounds_succ]
 go_wp2
 rw[rounds_succ]
 go_wp2
 rw[rounds_succ]
 go_wp2
 rw[rounds_succ]
 go_wp2
 refine bodyPost_ret (v:= .agg #[.int .u8 (n % 256:Nat),.int .u8 (n / 256 % 256:Nat),.int .u8 (n / 65536 % 256:Nat),.int .u8 (n / 16777216 % 256:Nat)]) ?_ rfl ⟨rfl,?_⟩
 .simp[results,Tryz.results202,go_sem];omega
 .exact((Below.refl _ _).alloc (ak _) _).alloc (by simp) _
theorem vV(s:ByteArray)(w:World)(hs:s.size<=maxLen):
  Calls Tryz.prog 203 #[.string s] w λe w'=>e=.returned (.int .u32 (iI s.data.toList:Nat))/\Below w.heap.size w w':=by
 go_enter Tryz.func203,Tryz.ntmps203;go_wp2_with (go_at_call 226;refine(FU 0 _ _ (by omega) hs).mono ?_;rintro e w1 ⟨rfl,aL⟩);go_ret;exact⟨rfl,aL⟩
theorem cM:(Tryz.prog.info? 5).map (λi=>(i.zero,i.size,i.bytes))=some (some (.int .u8 0),1,1):=by kernel_rfl
theorem kG:(Tryz.prog.info? 5).map (·.size)=some 1:=by kernel_rfl
theorem kH(n:Int)(h0:0<=n)(h1:n<=140737488355328)(w:World):
  (Instr.makeSlice 150 (.int .i64 n) (.int .i64 n)).run Tryz.prog w=.ok (.slice (some ⟨w.heap.size,0,none⟩) n.toNat n.toNat) (w.alloc (.cells (madeCells #[.int .u8 0] n.toNat) 5)):=by
 obtain⟨i0,hi,jb,gW,iS⟩:=info_parts cM;have h:=run_make (P:=Tryz.prog) w 150 5 i0 (.int .u8 0) Tryz.underlying150 hi jb .i64 .i64 n n h0 (gE _) (by rw[iS];omega) (by omega);simpa [gW,Value.cells]using h
def fK(n:Nat):List Value:=[.int .u8 ((n:Int) % 256),.int .u8 ((n:Int) / 256 % 256),.int .u8 ((n:Int) / 65536 % 256),.int .u8 ((n:Int) / 16777216 % 256)]
theorem nN(n:Nat):fK n=cf (gk n):=by
 have t:∀n:Nat,(UInt8.ofNat (n % 256)).toNat=n % 256:=λn=>by simp
 simp only[fK,cf,gk,List.map,bv,t];rfl
theorem Dv(n:Nat):∀v∈fK n,v.oneCell'=true:=by rw[nN];exact nL _
theorem ur(l:List UInt8)(n:Nat)(hn:n=l.length)(z:Value):putAt (putAt (List.replicate (4+n) z) 0 (fK (iI l))) 4 (cf (l.take n))=cf (bA l):=by
 subst hn;have h4:(fK (iI l)).length=4:=rfl;have e1:putAt (List.replicate (4+l.length) z) 0 (fK (iI l))=fK (iI l)++List.replicate l.length z:=by
  simp[putAt,h4]
 rw[e1,bA,bD,<-nN];unfold putAt;rw[lU (by simp[h4]),bJ (by simp[h4]),jY (by simp[h4])];simp
theorem Cv(s:ByteArray)(w:World)(hs:s.size<=100000000):
  Calls Tryz.prog 158 #[.string s] w λe w'=>e=.returned (.string ⟨(bA s.data.toList).toArray⟩)/\Below w.heap.size w w':=by
 have hmk:=λw'=>kH (4+s.size) (by omega) (by omega) w';go_enter Tryz.func158,Tryz.ntmps158;go_wp2_with (first|(go_at_call 203;refine(vV _ _ (by unfold maxLen;omega)).mono ?_;rintro e w1 ⟨rfl,aL⟩)|(go_at_call 202;refine(rL _ _ (vU _)).mono ?_;rintro e w2 ⟨rfl,bK⟩));clear hmk;rw[eU]at aL;have gW:w.heap.size<w1.heap.size:=by have:=aL.size;simp at this;omega
 have iS:w.heap.size<w2.heap.size:=by have:=bK.size;omega
 have B1:aD w2 w.heap.size 5 (List.replicate (4+s.size) (.int .u8 0)).toArray:=((aD.new _ _ _).below aL (by simp)).below bK gW;have B2:=B1.alloc (.cells (fK (iI s.data.toList)).toArray 257);have B3:=aD.new w2 257 (fK (iI s.data.toList)).toArray;have O3:Below w.heap.size w (w2.alloc (.cells (fK (iI s.data.toList)).toArray 257)):=
  ((((Below.refl _ _).alloc (ak _) _).trans (aL.mono (by simp))).trans (bK.mono (by omega))).alloc (by omega) _
 change Oper.upon _ _ _ _ _ ((Sem.run _ _ (w2.alloc (.cells (fK (iI s.data.toList)).toArray 257))).andThen _)
 generalize (w2.alloc (.cells (fK (iI s.data.toList)).toArray 257))=W at B2 B3 O3 ⊢;obtain⟨W4,e4,B4,O4⟩:=rF (P:=Tryz.prog) B2 150 150 3 5 0 (4+s.size) (4+s.size) ⟨w2.heap.size,0,none⟩ 4 4 (fK (iI s.data.toList)) Tryz.underlying150 kG
  (by show 4=min 4 (4+s.size);omega) (aZ B3 0 _ (by simp)) (by show 0+4<=_;simp) (Dv _)
 rw[e4];clear e4 B1 B2 B3;have O5:=O3.trans (O4.aE O3.size (by simp))
 go_wp2
 .have hs0:s=ByteArray.empty:=by assumption
  obtain⟨W5,e5,B5,O6⟩:=jQ (P:=Tryz.prog) B4 150 9 3 5 0 0 0 ByteArray.empty 0 Tryz.underlying150 kG (by rfl) (by simp);have eb:putAt (putAt (List.replicate (4+s.size) (.int .u8 0)) 0 (fK (iI s.data.toList))) 0 (cf (ByteArray.empty.data.toList.take 0))=cf (bA s.data.toList):=by
   subst hs0;have:=ur ByteArray.empty.data.toList 0 rfl (.int .u8 0);rw[<-this,gJ];exact(oW _ _).trans (oW _ _).symm
  rw[eb]at B5;have oN:=bs (P:=Tryz.prog) W5 150 9 5 Tryz.underlying150 Tryz.underlying5 Tryz.underlying9 ⟨w.heap.size,0,none⟩ 4 4 (bA s.data.toList) (by subst hs0;rfl) (aZ B5 0 _ (by simp));rw[e5];have O7:=O5.trans (O6.aE O5.size (by simp));clear e5 B4 B5 eb
  go_wp2
  go_ret;exact⟨by subst hs0;rfl,O7⟩
 .obtain⟨W5,e5,B5,O6⟩:=jQ (P:=Tryz.prog) B4 150 9 3 5 4 s.size s.size s s.size Tryz.underlying150 kG (by simp) (by rw[gK (by show 0+4<=_;simp)];simp);rw[ur _ _ (by simp)]at B5;have oN:=bs (P:=Tryz.prog) W5 150 9 5 Tryz.underlying150 Tryz.underlying5 Tryz.underlying9 ⟨w.heap.size,0,none⟩ (4+s.size) (4+s.size) (bA s.data.toList) (by simp[bA,gk];omega) (aZ B5 0 _ (by simp));rw[e5];have O7:=O5.trans (O6.aE O5.size (by simp))
  clear e5 B4 B5
  go_wp2
  go_ret;exact⟨rfl,O7⟩
theorem nO(s:ByteArray):(s.extract 0 4).data.toList=s.data.toList.take 4:=by
 rw[FK,FI,zO];simp
theorem cut_ok(s:ByteArray)(w:World)(h4:4<=s.size)(hs:s.size<=maxLen)(hc:gk (iI (s.data.toList.drop 4))=s.data.toList.take 4):
  Calls Tryz.prog 180 #[.string s] w λe w'=>e=.returned (.tuple #[.string (s.extract 4 s.size),.int .i64 0])/\Below w.heap.size w w':=by
 unfold maxLen at hs;have hN:iI (List.take (s.size-4) (List.drop 4 s.data.toList))<4294967296:=vU _;obtain⟨N,eN⟩:∃N,iI (List.take (s.size-4) (List.drop 4 s.data.toList))=N:=⟨_,rfl⟩;have HC:=xh (show gk N=s.data.toList.take 4 from by
  rw[<-hc,<-eN,bJ (by simp)])
 clear hc;rw[eN]at hN;go_enter Tryz.func180,Tryz.ntmps180;go_wp2_with (first|(go_at_call 203;refine(vV _ _ (by simp;unfold maxLen;omega)).mono ?_;rintro e w1 ⟨rfl,aL⟩)|(go_at_call 202;refine(rL _ _ hN).mono ?_;rintro e w2 ⟨rfl,bK⟩));clear eN;have B3:aD (w2.alloc (.cells (fK N).toArray 257)) w2.heap.size 257 (cf (s.data.toList.take 4)).toArray:=by
  rw[nN,HC.o];exact aD.new _ _ _
 have O3:Below w.heap.size w (w2.alloc (.cells (fK N).toArray 257)):=
  (aL.trans (bK.mono aL.size)).alloc (au aL.size bK.size) _
 change Code.wp _ _ _ _ (w2.alloc (.cells (fK N).toArray 257))
 generalize (w2.alloc (.cells (fK N).toArray 257))=W at B3 O3 ⊢;have oN:=λn=>bs (P:=Tryz.prog) (W.drewN n) 150 9 5 Tryz.underlying150 Tryz.underlying5 Tryz.underlying9 ⟨w2.heap.size,0,none⟩ 4 4 (s.data.toList.take 4) (by simp;omega) (aZ (B3.drewN n) 0 (cf (s.data.toList.take 4)) (by simp));go_quiet (fail);have hq:(!List.take 4 s.data.toList==(s.extract 0 4).toList)=false:=by rw[dk,nO];simp
 rw[hq]
 go_wp2
 go_ret2;exact⟨rfl,cB O3 _⟩
theorem xI(s:ByteArray)(w:World)(h4:4<=s.size)(hs:s.size<=maxLen)(hc:gk (iI (s.data.toList.drop 4))≠s.data.toList.take 4):
  Calls Tryz.prog 180 #[.string s] w λe w'=>e=.returned (.tuple #[.string ⟨#[]⟩,.int .i64 14])/\Below w.heap.size w w':=by
 unfold maxLen at hs;have hN:iI (List.take (s.size-4) (List.drop 4 s.data.toList))<4294967296:=vU _;obtain⟨N,eN⟩:∃N,iI (List.take (s.size-4) (List.drop 4 s.data.toList))=N:=⟨_,rfl⟩;have HC:=xh (show gk N≠s.data.toList.take 4 from by
  intro e;apply hc;rw[<-e,<-eN,bJ (by simp)])
 clear hc;rw[eN]at hN;go_enter Tryz.func180,Tryz.ntmps180;go_wp2_with (first|(go_at_call 203;refine(vV _ _ (by simp;unfold maxLen;omega)).mono ?_;rintro e w1 ⟨rfl,aL⟩)|(go_at_call 202;refine(rL _ _ hN).mono ?_;rintro e w2 ⟨rfl,bK⟩));clear eN;have B3:aD (w2.alloc (.cells (fK N).toArray 257)) w2.heap.size 257 (cf (gk N)).toArray:=by
  rw[nN];exact aD.new _ _ _
 have O3:Below w.heap.size w (w2.alloc (.cells (fK N).toArray 257)):=
  (aL.trans (bK.mono aL.size)).alloc (au aL.size bK.size) _
 change Code.wp _ _ _ _ (w2.alloc (.cells (fK N).toArray 257))
 generalize (w2.alloc (.cells (fK N).toArray 257))=W at B3 O3 ⊢;have oN:=λn=>bs (P:=Tryz.prog) (W.drewN n) 150 9 5 Tryz.underlying150 Tryz.underlying5 Tryz.underlying9 ⟨w2.heap.size,0,none⟩ 4 4 (gk N) rfl (aZ (B3.drewN n) 0 (cf (gk N)) (by simp));go_quiet (fail);have hq:(!gk N==(s.extract 0 4).toList)=true:=by rw[dk,nO];simpa using HC.o
 rw[hq]
 go_wp2
 go_ret2;exact⟨rfl,cB O3 _⟩
end Go.Proofs.YtmonobkginiajaaGreat.gD
namespace Go.Proofs.YtmonobkginiajaaGreat.Pk
open Go.RowKit
attribute [local go_sem ↓] aW
def Ak(N k:Nat):List UInt8:=(List.range k).map λj=>UInt8.ofNat (N / 256 ^ (7-j))
def qF(N:Nat):List UInt8:=Ak N 8
theorem iJ(N k:Nat):Ak N (k+1)=Ak N k++[UInt8.ofNat (N / 256 ^ (7-k))]:=by
 unfold Ak;rw[List.range_succ,eh];rfl
theorem kI(N k:Nat):(Ak N k).length=k:=by simp[Ak]
theorem FV(n:Nat):Value.int .u8 ((n:Int) % 256)=bv (UInt8.ofNat n):=by
 unfold bv
 congr 1
theorem mU(N p:Nat):Value.int .u8 ((N:Int) / (p:Int) % 256)=bv (UInt8.ofNat (N / p)):=by
 rw[<-Int.natCast_ediv];exact FV _
theorem fW(N:Nat)(hN:N<18446744073709551616)(w:World):
  Calls Tryz.prog 141 #[.slice none 0 0,.int .u64 (N:Int),.int .i64 8] w λe w'=>(∃v,e=.returned v/\aQ w' 5 1 v 8 (cf (qF N)))/\Below w.heap.size w w':=by
 go_enter Tryz.func141,Tryz.ntmps141;go_wp2_with fail
 go_loopw [0,7] (λsv iv wr=> ∃(k:Nat),k<=8/\iv=.int .i64 (7-(k:Int))/\aQ wr 5 1 sv k (cf (Ak N k))/\Below w.heap.size w wr/\Hid (∀x∈ah sv,w.heap.size<=x)) (λ_ iv _=>(intOf iv+1).toNat)
 case atStart=>exact⟨0,by omega,rfl,aQ.nil _ _ _,Below.refl _ _,xh (by simp[ah])⟩
 case round=>
  obtain⟨k,hk,rfl,S,O,F⟩:=hrel;obtain⟨VA,vc,rfl⟩:=aq S;have hkk:k=0\/k=1\/k=2\/k=3\/k=4\/k=5\/k=6\/k=7\/k=8:=by omega
  rcases hkk with rfl|rfl|rfl|rfl|rfl|rfl|rfl|rfl|rfl
  .have hx:Value.int .u8 ((N:Int) / 72057594037927936)=bv (UInt8.ofNat (N / 72057594037927936)):=by rw[<-mU N 72057594037927936];congr 1;omega
   obtain⟨v',w2,ea,S2,ow,fr⟩:=bZ (P:=Tryz.prog) S 150 150 (.int .u8 0) 1 Tryz.underlying150 gD.cM rfl (.int .u8 ((N:Int) / 72057594037927936)) rfl (by unfold maxLen;omega) (by omega);obtain⟨V2,fs,rfl⟩:=aq S2;have EA:=xh ea;have SX:=xh (show aQ w2 5 1 (.slice V2 (0+1) fs) (0+1) (cf (Ak N (0+1)))from by
    rw[hx]at S2;rw[iJ,bD];exact S2)
   have OX:=xh (O.trans (ow.aE O.size F.o));have FX:=xh (show ∀x∈ah (.slice V2 (0+1) fs),w.heap.size<=x from λx hx=>(fr x hx).elim (F.o x) (λh=>au O.size h));clear hx ea S S2 ow fr O;go_wp2_with fail;rw[EA.o];go_wp2_with fail;go_roundw
   case rel=>exact⟨0+1,by omega,by first|rfl|simp,SX.o,OX.o,FX⟩
   case measure=>first|decide|simp[intOf]
  .have hx:Value.int .u8 ((N:Int) / 281474976710656 % 256)=bv (UInt8.ofNat (N / 281474976710656)):=mU N 281474976710656;obtain⟨v',w2,ea,S2,ow,fr⟩:=bZ (P:=Tryz.prog) S 150 150 (.int .u8 0) 1 Tryz.underlying150 gD.cM rfl (.int .u8 ((N:Int) / 281474976710656 % 256)) rfl (by unfold maxLen;omega) (by omega);obtain⟨V2,fs,rfl⟩:=aq S2;have EA:=xh ea;have SX:=xh (show aQ w2 5 1 (.slice V2 (1+1) fs) (1+1) (cf (Ak N (1+1)))from by
    rw[hx]at S2;rw[iJ,bD];exact S2)
   have OX:=xh (O.trans (ow.aE O.size F.o));have FX:=xh (show ∀x∈ah (.slice V2 (1+1) fs),w.heap.size<=x from λx hx=>(fr x hx).elim (F.o x) (λh=>au O.size h));clear hx ea S S2 ow fr O;go_wp2_with fail;rw[EA.o];go_wp2_with fail;go_roundw
   case rel=>exact⟨1+1,by omega,by first|rfl|simp,SX.o,OX.o,FX⟩
   case measure=>first|decide|simp[intOf]
  .have hx:Value.int .u8 ((N:Int) / 1099511627776 % 256)=bv (UInt8.ofNat (N / 1099511627776)):=mU N 1099511627776;obtain⟨v',w2,ea,S2,ow,fr⟩:=bZ (P:=Tryz.prog) S 150 150 (.int .u8 0) 1 Tryz.underlying150 gD.cM rfl (.int .u8 ((N:Int) / 1099511627776 % 256)) rfl (by unfold maxLen;omega) (by omega);obtain⟨V2,fs,rfl⟩:=aq S2;have EA:=xh ea;have SX:=xh (show aQ w2 5 1 (.slice V2 (2+1) fs) (2+1) (cf (Ak N (2+1)))from by
    rw[hx]at S2;rw[iJ,bD];exact S2)
   have OX:=xh (O.trans (ow.aE O.size F.o));have FX:=xh (show ∀x∈ah (.slice V2 (2+1) fs),w.heap.size<=x from λx hx=>(fr x hx).elim (F.o x) (λh=>au O.size h));clear hx ea S S2 ow fr O;go_wp2_with fail;rw[EA.o];go_wp2_with fail;go_roundw
   case rel=>exact⟨2+1,by omega,by first|rfl|simp,SX.o,OX.o,FX⟩
   case measure=>first|decide|simp[intOf]
  .have hx:Value.int .u8 ((N:Int) / 4294967296 % 256)=bv (UInt8.ofNat (N / 4294967296)):=mU N 4294967296;obtain⟨v',w2,ea,S2,ow,fr⟩:=bZ (P:=Tryz.prog) S 150 150 (.int .u8 0) 1 Tryz.underlying150 gD.cM rfl (.int .u8 ((N:Int) / 4294967296 % 256)) rfl (by unfold maxLen;omega) (by omega);obtain⟨V2,fs,rfl⟩:=aq S2;have EA:=xh ea;have SX:=xh (show aQ w2 5 1 (.slice V2 (3+1) fs) (3+1) (cf (Ak N (3+1)))from by
    rw[hx]at S2;rw[iJ,bD];exact S2)
   have OX:=xh (O.trans (ow.aE O.size F.o));have FX:=xh (show ∀x∈ah (.slice V2 (3+1) fs),w.heap.size<=x from λx hx=>(fr x hx).elim (F.o x) (λh=>au O.size h));clear hx ea S S2 ow fr O;go_wp2_with fail;rw[EA.o];go_wp2_with fail;go_roundw
   case rel=>exact⟨3+1,by omega,by first|rfl|simp,SX.o,OX.o,FX⟩
   case measure=>first|decide|simp[intOf]
  .have hx:Value.int .u8 ((N:Int) / 16777216 % 256)=bv (UInt8.ofNat (N / 16777216)):=mU N 16777216;obtain⟨v',w2,ea,S2,ow,fr⟩:=bZ (P:=Tryz.prog) S 150 150 (.int .u8 0) 1 Tryz.underlying150 gD.cM rfl (.int .u8 ((N:Int) / 16777216 % 256)) rfl (by unfold maxLen;omega) (by omega);obtain⟨V2,fs,rfl⟩:=aq S2;have EA:=xh ea;have SX:=xh (show aQ w2 5 1 (.slice V2 (4+1) fs) (4+1) (cf (Ak N (4+1)))from by
    rw[hx]at S2;rw[iJ,bD];exact S2)
   have OX:=xh (O.trans (ow.aE O.size F.o));have FX:=xh (show ∀x∈ah (.slice V2 (4+1) fs),w.heap.size<=x from λx hx=>(fr x hx).elim (F.o x) (λh=>au O.size h));clear hx ea S S2 ow fr O;go_wp2_with fail;rw[EA.o];go_wp2_with fail;go_roundw
   case rel=>exact⟨4+1,by omega,by first|rfl|simp,SX.o,OX.o,FX⟩
   case measure=>first|decide|simp[intOf]
  .have hx:Value.int .u8 ((N:Int) / 65536 % 256)=bv (UInt8.ofNat (N / 65536)):=mU N 65536;obtain⟨v',w2,ea,S2,ow,fr⟩:=bZ (P:=Tryz.prog) S 150 150 (.int .u8 0) 1 Tryz.underlying150 gD.cM rfl (.int .u8 ((N:Int) / 65536 % 256)) rfl (by unfold maxLen;omega) (by omega);obtain⟨V2,fs,rfl⟩:=aq S2;have EA:=xh ea;have SX:=xh (show aQ w2 5 1 (.slice V2 (5+1) fs) (5+1) (cf (Ak N (5+1)))from by
    rw[hx]at S2;rw[iJ,bD];exact S2)
   have OX:=xh (O.trans (ow.aE O.size F.o));have FX:=xh (show ∀x∈ah (.slice V2 (5+1) fs),w.heap.size<=x from λx hx=>(fr x hx).elim (F.o x) (λh=>au O.size h));clear hx ea S S2 ow fr O;go_wp2_with fail;rw[EA.o];go_wp2_with fail;go_roundw
   case rel=>exact⟨5+1,by omega,by first|rfl|simp,SX.o,OX.o,FX⟩
   case measure=>first|decide|simp[intOf]
  .have hx:Value.int .u8 ((N:Int) / 256 % 256)=bv (UInt8.ofNat (N / 256)):=mU N 256;obtain⟨v',w2,ea,S2,ow,fr⟩:=bZ (P:=Tryz.prog) S 150 150 (.int .u8 0) 1 Tryz.underlying150 gD.cM rfl (.int .u8 ((N:Int) / 256 % 256)) rfl (by unfold maxLen;omega) (by omega);obtain⟨V2,fs,rfl⟩:=aq S2;have EA:=xh ea;have SX:=xh (show aQ w2 5 1 (.slice V2 (6+1) fs) (6+1) (cf (Ak N (6+1)))from by
    rw[hx]at S2;rw[iJ,bD];exact S2)
   have OX:=xh (O.trans (ow.aE O.size F.o));have FX:=xh (show ∀x∈ah (.slice V2 (6+1) fs),w.heap.size<=x from λx hx=>(fr x hx).elim (F.o x) (λh=>au O.size h));clear hx ea S S2 ow fr O;go_wp2_with fail;rw[EA.o];go_wp2_with fail;go_roundw
   case rel=>exact⟨6+1,by omega,by first|rfl|simp,SX.o,OX.o,FX⟩
   case measure=>first|decide|simp[intOf]
  .have hx:Value.int .u8 ((N:Int) % 256)=bv (UInt8.ofNat N):=FV N;obtain⟨v',w2,ea,S2,ow,fr⟩:=bZ (P:=Tryz.prog) S 150 150 (.int .u8 0) 1 Tryz.underlying150 gD.cM rfl (.int .u8 ((N:Int) % 256)) rfl (by unfold maxLen;omega) (by omega);obtain⟨V2,fs,rfl⟩:=aq S2;have EA:=xh ea;have SX:=xh (show aQ w2 5 1 (.slice V2 (7+1) fs) (7+1) (cf (Ak N (7+1)))from by
    rw[hx]at S2;rw[iJ,bD];exact(by rw[eB,Nat.pow_zero,Nat.div_one];exact S2))
   have OX:=xh (O.trans (ow.aE O.size F.o));have FX:=xh (show ∀x∈ah (.slice V2 (7+1) fs),w.heap.size<=x from λx hx=>(fr x hx).elim (F.o x) (λh=>au O.size h));clear hx ea S S2 ow fr O;go_wp2_with fail;rw[EA.o];go_wp2_with fail;go_roundw
   case rel=>exact⟨7+1,by omega,by first|rfl|simp,SX.o,OX.o,FX⟩
   case measure=>first|decide|simp[intOf]
  .have SX:=xh S;have OX:=xh O;clear S O;go_wp2_with fail;go_ret;exact⟨⟨_,rfl,SX.o⟩,OX.o⟩
def cF(n:Int):List UInt8:=qF ((n+9223372036854775808) % 18446744073709551616).toNat
theorem I_any(n:Int)(h0:0<=n)(h1:n<=1099511627776)(w:World):
  Calls Tryz.prog 88 #[.int .i64 n] w λe w'=>e=.returned (.string ⟨(cF n).toArray⟩)/\Below w.heap.size w w':=by
 obtain⟨m,rfl⟩:=dn h0;have hN:(((m:Int)+9223372036854775808) % 18446744073709551616).toNat=m+9223372036854775808:=by omega
 have hNI:((m+9223372036854775808:Nat):Int)=(m:Int)+9223372036854775808:=by omega
 have K:=xh (fW (m+9223372036854775808) (by omega) w);rw[hNI]at K;unfold cF;rw[hN];have e1:IntKind.u64.wrap (m:Int)=(m:Int):=IntWalk.u64_in _ (by omega);have e2:IntKind.u64.wrap ((m:Int)+9223372036854775808)=(m:Int)+9223372036854775808:=IntWalk.u64_in _ (by omega);clear hN hNI;go_enter Tryz.func88,Tryz.ntmps88;go_wp2_with fail;refine K.o.mono ?_;rintro e w1 ⟨⟨v,rfl,S⟩,hb⟩;obtain⟨g,cap,rest,rfl,B,hc,_⟩:=S.form (by omega) (by omega)
 have ST:=xh (bs (P:=Tryz.prog) w1 150 9 5 Tryz.underlying150 Tryz.underlying5 Tryz.underlying9 ⟨g,0,none⟩ 8 cap (qF (m+9223372036854775808)) rfl (aZ B 0 _ (by intro j u hu;rw[bt];exact bx (aR.1 hu).1▸hu)));have HB:=xh hb;clear hb S B;go_wp2_with fail;rw[ST.o];go_wp2_with fail;go_ret;exact⟨rfl,HB.o⟩
end Go.Proofs.YtmonobkginiajaaGreat.Pk
namespace Go.Proofs.YtmonobkginiajaaGreat.Pk
open Go.RowKit
def k7(l:List UInt8):Nat:=l.foldl (λn b=>n*256+b.toNat) 0
theorem FW(l:List UInt8)(b:UInt8):k7 (l++[b])=k7 l*256+b.toNat:=by simp[k7]
theorem beN_lt'(l:List UInt8):∀n:Nat,l.foldl (λn b=>n*256+b.toNat) n<(n+1)*256 ^ l.length:=by
 induction l with
 |nil=>intro n;simp
 |cons b l ih=>
  intro n;have h1:=ih (n*256+b.toNat);have h2:=b.toNat_lt;rw[zT,il,Nat.pow_succ];refine nI h1 ?_;rw[show(n+1)*(256 ^ l.length*256)=((n+1)*256)*256 ^ l.length by rw[Nat.mul_assoc,Nat.mul_comm (256 ^ l.length) 256]];exact Nat.mul_le_mul_right _ (by omega)
theorem vW(l:List UInt8):k7 l<256 ^ l.length:=by
 have:=beN_lt' l 0;rw[bt,Nat.one_mul]at this;exact this
theorem or_join(n b:Nat)(hn:n<72057594037927936)(hb:b<256):bits .or .u64 ((n:Int)*256) (b:Int)=((n*256+b:Nat):Int):=by
 have h:=bits_or_u64_nat (n*256) b (by omega) (by omega);rw[show((n*256:Nat):Int)=(n:Int)*256 by omega]at h;rw[h];have:=Nat.two_pow_add_eq_or_of_lt (i:=8) hb n;rw[show 2 ^ 8*n=n*256 by omega]at this;rw[<-this]
theorem get_any(s:ByteArray)(hs:s.size=8)(w:World):
  Calls Tryz.prog 187 #[.string s] w λe w'=>e=.returned (.int .u64 (k7 s.data.toList:Nat))/\Below w.heap.size w w':=by
 have HL:=xh (show s.data.toList.length=8 from by simpa using hs);go_enter Tryz.func187,Tryz.ntmps187;go_wp2_with fail
 go_loopw [3,7] (λnv iv wr=> ∃(i:Nat),i<=8/\nv=.int .u64 (k7 (s.data.toList.take i):Nat)/\iv=.int .i64 i/\Below w.heap.size w wr) (λ_ iv _=>8-(intOf iv).toNat)
 case atStart=>exact⟨0,by omega,by simp[k7],rfl,Below.refl _ _⟩
 case round=>
  obtain⟨i,hi,rfl,rfl,O⟩:=hrel
  by_cases h:i<8
  .have hsi:i<s.size:=by omega
   have hlen:=HL.o;have hT:s.data.toList.take (i+1)=s.data.toList.take i++[s[i]]:=by
    rw[iD (by omega)];rfl
   have eT:=vW (s.data.toList.take i);rw[cE]at eT;have hlt2:k7 (s.data.toList.take i)<72057594037927936:=nI eT (au (vS (by omega) (show min i s.data.toList.length<=7 by omega)) (by decide));have hN:k7 (s.data.toList.take (i+1))=k7 (s.data.toList.take i)*256+s[i].toNat:=by rw[hT,FW]
   obtain⟨n,hn⟩:∃n,k7 (s.data.toList.take i)=n:=⟨_,rfl⟩;rw[hn]at hlt2 hN ⊢;have hb:=s[i].toNat_lt;have HV:=xh (or_join n s[i].toNat hlt2 hb);have HN:=xh hN;have hiI:(i:Int)<8:=by omega
   have hiS:(i:Int)<(s.size:Int):=by omega
   have v1:IntKind.u64.wrap (s[i].toNat:Int)=(s[i].toNat:Int):=IntWalk.u64_in _ (by omega);have v2:IntKind.u64.wrap ((n:Int)*256)=(n:Int)*256:=IntWalk.u64_in _ (by omega);have OX:=xh O;clear hT eT hN hn O;go_wp2_with fail;rw[HV.o];exact⟨⟨i+1,by omega,by rw[HN.o],by go_num,OX.o⟩,by simp[intOf];omega⟩
  .obtain rfl:i=8:=by omega
   have hlen:=HL.o;have OX:=xh O;rw[bJ (by omega)];clear O;go_wp2_with fail;go_ret;exact⟨rfl,OX.o⟩
theorem FY(s:ByteArray)(at_ n:Int)(w:World)(h0:0<=at_)(h1:at_+n<=s.size)(hn:0<=n)(hs:s.size<=1000000):
  Calls Tryz.prog 186 #[.string s,.int .i64 at_,.int .i64 n] w λe w'=>e=.returned (.int .i64 0)/\Below w.heap.size w w':=by
 have a1:¬at_<0:=by omega
 have a2:¬(s.size:Int)<at_:=by omega
 have a3:IntKind.i64.wrap ((s.size:Int)-at_)=(s.size:Int)-at_:=IntWalk.i64_in _ (by omega);have a4:¬(s.size:Int)-at_<n:=by omega
 go_enter Tryz.func186,Tryz.ntmps186;go_wp2_with fail;go_ret;exact⟨rfl,Below.refl _ _⟩
theorem uu(s:ByteArray)(k:Nat)(w:World)(h1:k+8<=s.size)(hs:s.size<=1000000):
  Calls Tryz.prog 142 #[.string s,.int .i64 (k:Nat)] w λe w'=>e=.returned (.tuple #[.int .u64 (k7 ((s.extract k (k+8)).data.toList):Nat),.int .i64 ((k:Int)+8),.int .i64 0])/\Below w.heap.size w w':=by
 have mS:(s.extract k (k+8)).size=8:=by rw[oP];omega
 have KL:=xh (FY s (k:Nat) 8 w (by omega) (by omega) (by omega) hs);have KG:=xh (λw=>get_any (s.extract k (k+8)) mS w);obtain⟨N,hN⟩:∃N,k7 ((s.extract k (k+8)).data.toList)=N:=⟨_,rfl⟩;rw[hN]at KG ⊢;clear hN;have e1:IntKind.i64.wrap ((k:Int)+8)=(k:Int)+8:=IntWalk.i64_in _ (by omega);have e2:(0:Int)<=(k:Int)+8:=by omega
 have e3:((k:Int)+8).toNat=k+8:=by omega
 have e4:(k:Int)<=(k:Int)+8:=by omega
 have e5:(k:Int)+8<=(s.size:Int):=by omega
 go_enter Tryz.func142,Tryz.ntmps142;go_wp2_with fail;refine KL.o.mono ?_;rintro e w1 ⟨rfl,aL⟩;have O1:=xh aL;clear aL;go_wp2_with fail;refine(KG.o _).mono ?_;rintro e w2 ⟨rfl,bK⟩;have O2:=xh (ao O1.o bK);clear bK;go_wp2_with fail
 go_ret3
 exact⟨rfl,O2.o⟩
theorem oZ(s:ByteArray)(k:Nat)(w:World)(h1:k+8<=s.size)(hs:s.size<=1000000):
  Calls Tryz.prog 89 #[.string s,.int .i64 (k:Nat)] w λe w'=>e=.returned (.tuple #[.int .i64 ((k7 ((s.extract k (k+8)).data.toList):Int)-9223372036854775808),.int .i64 ((k:Int)+8),.int .i64 0])/\Below w.heap.size w w':=by
 have mS:(s.extract k (k+8)).size=8:=by rw[oP];omega
 have eT:=vW (s.extract k (k+8)).data.toList;rw[show(s.extract k (k+8)).data.toList.length=8 from mS]at eT;have KU:=xh (uu s k w h1 hs);obtain⟨N,hN⟩:∃N,k7 ((s.extract k (k+8)).data.toList)=N:=⟨_,rfl⟩;rw[hN]at KU eT ⊢;have HV:=xh (show wrap64 (IntKind.u64.wrap ((N:Int)+9223372036854775808))=(N:Int)-9223372036854775808 from by
  rw[IntKind.wrap_u64];unfold wrap64;omega)
 clear hN eT mS;go_enter Tryz.func89,Tryz.ntmps89;go_wp2_with fail;refine KU.o.mono ?_;rintro e w1 ⟨rfl,aL⟩;have O1:=xh aL;clear aL;go_wp2_with fail
 go_ret3
 refine⟨?_,O1.o⟩;have hv:=HV.o;simp only[Array.getD_eq_getD_getElem?,cW,zU,vG,kE,hv]
end Go.Proofs.YtmonobkginiajaaGreat.Pk
